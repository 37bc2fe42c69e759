/- Texts of this proof, put together. -/
import Derived.Test.YtfamkbofdamkkaaKSb
import Derived.Test.YtfamkbofdamkkaaKSc
import Derived.Test.YtfamkbofdamkkaaKSd
import Derived.Shelf.SlIterI.Sorted
import Derived.Shelf.SlIterI.Nil
import Derived.Shelf.SortM.Plain
import Derived.Shelf.SortM.SortNone
import Derived.Ground.GgzProg
import Derived.Ground.SlgmProg
import Derived.Test.YtfamkbofdamkkaaProg
import Derived.Test.YtfamkbofdamkkaaChecked
namespace Go.Proofs.Ytfamkbofdamkkaa
open Go.RowKit
set_option linter.unusedVariables false
set_option linter.unusedSimpArgs false
set_option maxRecDepth 100000
attribute [local go_sem] Nat.zero_add Nat.add_zero Nat.mul_one eq_self ne_eq not_true_eq_false not_false_eq_true decide_true decide_false decide_not Bool.false_eq_true List.filter_cons List.filter_nil true_and and_true beq_false beq_true Bool.not_true Bool.not_false Bool.and_true Bool.true_and Option.getD_some Option.getD_none imp_self implies_true Int.toNat_natCast List.cons_append List.nil_append List.map_cons List.map_nil List.length_cons List.length_nil List.getD_cons_zero List.getD_cons_succ List.drop_zero List.drop_succ_cons List.take_succ_cons List.take_zero
attribute [local go_sem] lowN lowQ lowM isAl appOwn unw appF isE isO stpO notIn St.bare evO evDO isEff stp St.get St.slot St.put List.lookup un unL ofVal gof nth pickV pkB_false pkB_true binV unV loadV idxV fldV partV buildV fillV lenV sliV appV appR rowsV winV V.parts V.okp V.sc Mem.look_cons Mem.look_nil V.cl V.clL AObj.clo fzAll exps St.fz Mem.fz V.fz V.fzL AObj.fz Option.isSome_some Option.isSome_none Bool.or_true Bool.true_or Bool.or_false Bool.false_or false_and and_false false_or or_false arT_104 arT_121 arT_160 arT_161 arT_22 arT_23 arT_24 arT_25 arT_28 arT_29 arT_30 arT_40 arT_42 arT_52 arT_60 arT_65 arT_72 arT_73 arT_76 arT_9 arT_90 boolT_182 boolT_25 boolT_3 boolT_35 boolT_4 boolT_76 flatT_182 flatT_25 flatT_3 flatT_35 flatT_4 flatT_76 intT_133 intT_169 intT_171 intT_188 intT_3 intT_5 lay_104 lay_112 lay_138 lay_141 lay_153 lay_160 lay_161 lay_164 lay_188 lay_23 lay_24 lay_25 lay_27 lay_28 lay_3 lay_30 lay_34 lay_4 lay_49 lay_52 lay_54 lay_56 lay_65 lay_67 lay_73 lay_76 lay_90 lay_99 mapT_112 okF_10 okF_100 okF_101 okF_102 okF_103 okF_104 okF_105 okF_106 okF_107 okF_108 okF_109 okF_11 okF_110 okF_111 okF_112 okF_113 okF_114 okF_115 okF_116 okF_117 okF_118 okF_119 okF_12 okF_120 okF_121 okF_122 okF_123 okF_124 okF_125 okF_126 okF_127 okF_128 okF_129 okF_13 okF_130 okF_131 okF_132 okF_133 okF_134 okF_135 okF_136 okF_137 okF_138 okF_139 okF_14 okF_140 okF_141 okF_142 okF_143 okF_144 okF_145 okF_146 okF_147 okF_148 okF_149 okF_15 okF_150 okF_151 okF_152 okF_153 okF_154 okF_155 okF_156 okF_157 okF_158 okF_159 okF_16 okF_160 okF_161 okF_162 okF_163 okF_164 okF_165 okF_166 okF_167 okF_168 okF_169 okF_17 okF_170 okF_171 okF_172 okF_173 okF_174 okF_175 okF_176 okF_177 okF_18 okF_19 okF_20 okF_21 okF_22 okF_23 okF_24 okF_25 okF_26 okF_27 okF_28 okF_29 okF_3 okF_30 okF_31 okF_32 okF_33 okF_34 okF_35 okF_36 okF_37 okF_38 okF_39 okF_4 okF_40 okF_41 okF_42 okF_43 okF_44 okF_45 okF_46 okF_47 okF_48 okF_49 okF_5 okF_50 okF_51 okF_52 okF_53 okF_54 okF_55 okF_56 okF_57 okF_58 okF_59 okF_6 okF_60 okF_61 okF_62 okF_63 okF_64 okF_65 okF_66 okF_67 okF_68 okF_69 okF_7 okF_70 okF_71 okF_72 okF_73 okF_74 okF_75 okF_76 okF_77 okF_78 okF_79 okF_8 okF_80 okF_81 okF_82 okF_83 okF_84 okF_85 okF_86 okF_87 okF_88 okF_89 okF_9 okF_90 okF_91 okF_92 okF_93 okF_94 okF_95 okF_96 okF_97 okF_98 okF_99 plT_138 plT_153 plT_157 plT_161 plT_27 plT_34 plT_54 plT_56 plT_67 plT_76 plT_90 plT_99 slT_104 slT_121 slT_160 slT_161 slT_22 slT_23 slT_24 slT_25 slT_28 slT_29 slT_30 slT_40 slT_42 slT_52 slT_60 slT_65 slT_72 slT_73 slT_76 slT_90 stT_138_0 stT_138_1 stT_153_0 stT_157_0 stT_157_1 stT_157_2 stT_157_3 stT_27_0 stT_27_1 stT_27_2 stT_34_0 stT_34_1 stT_34_2 stT_34_3 stT_54_0 stT_54_1 stT_54_2 stT_54_3 stT_56_0 stT_56_1 stT_67_1 stT_67_4 stT_67_5 stT_99_0 stT_99_1 strT_160 strT_76 strT_9 zeroT_112 zeroT_138 zeroT_153 zeroT_157 zeroT_160 zeroT_161 zeroT_188 zeroT_27 zeroT_3 zeroT_30 zeroT_34 zeroT_4 zeroT_49 zeroT_54 zeroT_56 zeroT_65 zeroT_67 zeroT_76 zeroT_90 zeroT_99
attribute [local go_sem] List.getElem?_cons_zero List.getElem?_cons_succ List.zip_cons_cons List.zip_nil_left List.zip_nil_right Bool.false_and Bool.and_false List.length_append List.length_set List.length_replicate List.all_cons List.all_nil encI_length encI_getD encR_length encR_getD encRw encPg spl shp AObj.shp rowM isSt isRpS isRd csh AObj.csh forall_const imp_self
attribute [local go_sem] encSg encW encSgs_length encWs_length encSgs_getD encWs_getD lookV lkM putM
attribute [local simp] encI_length encR_length cellsI_length encSgs_length encWs_length
theorem k24 (p : Pg) (hr0 : p.rows.length ≤ maxLen) (hg : p.gain.length ≤ maxLen) (hc : ∀ r ∈ p.rows, r.coef.length ≤ maxLen) (l : List Sg) (hlm : l.length ≤ maxLen) (hwl : ∀ k, k < l.length → ∀ s, l.getD k sg0 = s → s.ws.length ≤ maxLen) : CallsA Try.prog 24 [.agg (encPg p), .sl 4 (encSgs l)] (.bool (refutesW p l)) := by
  have hq : True := trivial
  refine callsA_of_tr Try.func24 rfl (Nat.le_of_ble_eq_true rfl) ?_
  simp only [Try.results24, envOf, Nat.reduceAdd]
  refine tr_seq fun K1 hK1 => ?_
  refine tr_region [1, 2] rfl rfl fun K hK => ?_
  iterate 2 refine evR_p ?_
  refine evR_e hK ?_; clear hK K
  refine hK1 _ ?_
  refine tr_seq fun K2 hK2 => ?_
  refine tr_region [4] rfl rfl fun K hK => ?_
  iterate 2 refine evR_p ?_
  refine evR_c (hc := (k26 p hr0 hg hc l hlm hwl)) (k := ?_)
  iterate 2 refine evR_p ?_
  refine evR_e hK ?_; clear hK K
  refine hK2 _ ?_
  refine tr_ret ?_
  (try simp only [thenE, inBlkE])
  simp (maxSteps := 4000000) (disch := first | assumption | omega | (simp only [go_sem, *]; done) | (simp only [go_sem, *]; omega)) only [postA, postO, resV1, fzAll, go_sem, hq, Int.reduceToNat, Nat.reduceBEq, Nat.reduceEqDiff, Nat.reduceAdd, Nat.reduceMul, Nat.reduceLeDiff, Nat.reduceLT, Nat.reduceSub, ↓reduceIte, reduceCtorEq]
  all_goals (rfl)

theorem k22 (l : List Sg) (hlm : l.length ≤ maxLen) : CallsA Try.prog 22 [.sl 4 (encSgs l)] (.tup [.int .i64 (l.length - leavesN l l.length), .int .i64 (leavesN l l.length)]) := by
  unfold maxLen at hlm
  have hlb := leavesN_bnd l
  have hq : True := trivial
  refine callsA_of_tr Try.func22 rfl (Nat.le_of_ble_eq_true rfl) ?_
  simp only [Try.results22, envOf, Nat.reduceAdd]
  refine tr_seq fun K1 hK1 => ?_
  refine tr_region [0] rfl rfl fun K hK => ?_
  iterate 2 refine evR_p ?_
  refine evR_e hK ?_; clear hK K
  refine hK1 _ ?_
  refine tr_seq fun K2 hK2 => ?_
  refine tr_region [0, 4] rfl rfl fun K hK => ?_
  refine evR_p ?_
  refine evR_e hK ?_; clear hK K
  refine hK2 _ ?_
  refine tr_seq fun K3 hK3 => ?_
  refine tr_seq fun K4 hK4 => ?_
  refine tr_region [0, 4, 7, 8, 9] rfl rfl fun K hK => ?_
  iterate 3 refine evR_p ?_
  refine evR_e hK ?_; clear hK K
  refine hK4 _ ?_
  refine tr_block ?_
  -- loop 1: live [0, 4, 7, 8, 9]
  refine tr_loopW (fun m σ => ∃ i : Nat, i + m = l.length ∧ σ = ⟨[(0, .sl 4 (encSgs l)), (4, .int .i64 (leavesN l i)), (7, .sl 4 (encSgs l)), (8, .int .i64 l.length), (9, .int .i64 (i : Nat))], [], 0⟩) (l.length) ?_ ?_
  · exact ⟨_, Wk.refl _, 0, by omega, rfl⟩
  · rintro m σ ⟨i, hi, rfl⟩ KL1 hKL1
    refine tr_seq fun K5 hK5 => ?_
    refine tr_region [0, 4, 7, 8, 9, 10] rfl rfl fun K hK => ?_
    refine evR_p ?_
    refine evR_e hK ?_; clear hK K
    refine hK5 _ ?_
    refine tr_seq fun K6 hK6 => ?_
    refine tr_condB (fun ht1 => ?_) (fun ht1 => ?_)
    · skip
      have hil : i < l.length := by omega
      have hb := hlb i
      have hw1 : IntKind.i64.wrap (leavesN l i + 1) = leavesN l i + 1 := w64 (by omega)
      replace hq := And.intro hq (And.intro hil (hw1))
      refine tr_skip ?_
      (try simp only [thenE, inBlkE])
      refine hK6 _ ?_
      refine tr_seq fun K7 hK7 => ?_
      refine tr_block ?_
      refine tr_seq fun K8 hK8 => ?_
      refine tr_region [0, 4, 6, 7, 8, 9] rfl rfl fun K hK => ?_
      iterate 4 refine evR_p ?_
      refine evR_e hK ?_; clear hK K
      refine hK8 _ ?_
      refine tr_seq fun K9 hK9 => ?_
      refine tr_region [0, 4, 7, 8, 9, 15] rfl rfl fun K hK => ?_
      iterate 3 refine evR_p ?_
      refine evR_e hK ?_; clear hK K
      refine hK9 _ ?_
      refine tr_condB (fun ht2 => ?_) (fun ht2 => ?_)
      · skip
        refine tr_region [0, 4, 7, 8, 9] rfl rfl fun K hK => ?_
        iterate 3 refine evR_p ?_
        refine evR_e hK ?_; clear hK K
        refine hK7 _ ?_
        refine tr_region [0, 4, 7, 8, 9] rfl rfl fun K hK => ?_
        iterate 2 refine evR_p ?_
        refine evR_e hK ?_; clear hK K
        refine hKL1 _ ?_
        first | exact ⟨m - 1, _, by omega, Wk.cut 0 (by simp [St.cutOK, AObj.upto, V.upto, V.uptoL, cellsI_uptoL, List.all_cons, List.all_nil, List.filter_cons, List.filter_nil, Nat.blt_eq, Nat.reduceLT, Nat.lt_irrefl, decide_true, decide_false, Bool.and_self, Bool.and_true, Bool.true_and, if_true, if_false, ↓reduceIte, Bool.false_eq_true, encSg, encW]), i + 1, by omega, by (rw [w64 (x := (i : Int) + 1) (by omega), leavesN_t ht2]; rfl)⟩ | exact ⟨m - 1, _, by omega, Wk.cut 0 (by simp [St.cutOK, AObj.upto, V.upto, V.uptoL, cellsI_uptoL, List.all_cons, List.all_nil, List.filter_cons, List.filter_nil, Nat.blt_eq, Nat.reduceLT, Nat.lt_irrefl, decide_true, decide_false, Bool.and_self, Bool.and_true, Bool.true_and, if_true, if_false, ↓reduceIte, Bool.false_eq_true, encSg, encW]), i + 1, by omega, by (rw [w64 (x := (i : Int) + 1) (by omega), leavesN_f ht2]; rfl)⟩
      · skip
        refine tr_skip ?_
        (try simp only [thenE, inBlkE])
        refine hK7 _ ?_
        refine tr_region [0, 4, 7, 8, 9] rfl rfl fun K hK => ?_
        iterate 2 refine evR_p ?_
        refine evR_e hK ?_; clear hK K
        refine hKL1 _ ?_
        first | exact ⟨m - 1, _, by omega, Wk.cut 0 (by simp [St.cutOK, AObj.upto, V.upto, V.uptoL, cellsI_uptoL, List.all_cons, List.all_nil, List.filter_cons, List.filter_nil, Nat.blt_eq, Nat.reduceLT, Nat.lt_irrefl, decide_true, decide_false, Bool.and_self, Bool.and_true, Bool.true_and, if_true, if_false, ↓reduceIte, Bool.false_eq_true, encSg, encW]), i + 1, by omega, by (rw [w64 (x := (i : Int) + 1) (by omega), leavesN_t ht2]; rfl)⟩ | exact ⟨m - 1, _, by omega, Wk.cut 0 (by simp [St.cutOK, AObj.upto, V.upto, V.uptoL, cellsI_uptoL, List.all_cons, List.all_nil, List.filter_cons, List.filter_nil, Nat.blt_eq, Nat.reduceLT, Nat.lt_irrefl, decide_true, decide_false, Bool.and_self, Bool.and_true, Bool.true_and, if_true, if_false, ↓reduceIte, Bool.false_eq_true, encSg, encW]), i + 1, by omega, by (rw [w64 (x := (i : Int) + 1) (by omega), leavesN_f ht2]; rfl)⟩
    · skip
      have hil : i = l.length := by omega
      subst hil
      have hb := hlb l.length
      have hw2 : IntKind.i64.wrap ((l.length : Int) - leavesN l l.length) = (l.length : Int) - leavesN l l.length := w64 (by omega)
      replace hq := And.intro hq hw2
      refine tr_exit ?_
      simp only [thenE, inBlkE, Nat.reduceEqDiff, ↓reduceIte]
      refine hK3 _ ?_
      refine tr_seq fun K10 hK10 => ?_
      refine tr_region [2, 3] rfl rfl fun K hK => ?_
      iterate 7 refine evR_p ?_
      refine evR_e hK ?_; clear hK K
      refine hK10 _ ?_
      refine tr_ret ?_
      (try simp only [thenE, inBlkE])
      simp (maxSteps := 4000000) (disch := first | assumption | omega | (simp only [go_sem, *]; done) | (simp only [go_sem, *]; omega)) only [postA, postO, resV1, fzAll, go_sem, hq, Int.reduceToNat, Nat.reduceBEq, Nat.reduceEqDiff, Nat.reduceAdd, Nat.reduceMul, Nat.reduceLeDiff, Nat.reduceLT, Nat.reduceSub, ↓reduceIte, reduceCtorEq]
      all_goals (rfl)

section
attribute [local go_sem] List.replicate_succ List.replicate_zero List.set_cons_zero
set_option maxHeartbeats 16000000 in
theorem k32a (p : Pg) (hr0 : p.rows.length ≤ maxLen) (hg : p.gain.length ≤ maxLen) (hc : ∀ r ∈ p.rows, r.coef.length ≤ maxLen) (l : List Sg) (hlm : l.length ≤ maxLen) (hwl : ∀ k, k < l.length → ∀ s, l.getD k sg0 = s → s.ws.length ≤ maxLen) (hgs : p.gain.length ≤ 1000) (hrs : p.rows.length ≤ 100000) (gain : Int) (hU : usedV p (p.rows ++ [goalW p gain]) l = .nm) : CallsA Try.prog 32 [.agg (encPg p), .sl 4 (encSgs l), .int .i64 gain] (.bool (boundsW p l gain)) := by
  have hk680 := fun hv => k68 p hr0 hg hc (p.rows ++ [goalW p gain]) l hlm hwl hv
  rw [hU] at hk680
  unfold maxLen at hg hr0
  have hq : True := trivial
  refine callsA_of_tr Try.func32 rfl (Nat.le_of_ble_eq_true rfl) ?_
  simp only [Try.results32, envOf, Nat.reduceAdd]
  refine tr_seq fun K1 hK1 => ?_
  refine tr_region [1, 2, 3] rfl rfl fun K hK => ?_
  iterate 2 refine evR_p ?_
  refine evR_e hK ?_; clear hK K
  refine hK1 _ ?_
  refine tr_seq fun K2 hK2 => ?_
  refine tr_seq fun K3 hK3 => ?_
  refine tr_region [1, 2, 3, 14] rfl rfl fun K hK => ?_
  refine evR_p ?_
  refine evR_c (hc := (k75 _ _ _)) (k := ?_)
  refine evR_p ?_
  refine evR_e hK ?_; clear hK K
  refine hK3 _ ?_
  refine tr_condB (fun ht1 => ?_) (fun ht1 => ?_)
  · skip
    refine tr_seq fun K4 hK4 => ?_
    refine tr_region [6] rfl rfl fun K hK => ?_
    refine evR_p ?_
    refine evR_e hK ?_; clear hK K
    refine hK4 _ ?_
    refine tr_ret ?_
    (try simp only [thenE, inBlkE])
    simp (maxSteps := 4000000) (disch := first | assumption | omega | (simp only [go_sem, *]; done) | (simp only [go_sem, *]; omega)) only [postA, postO, resV1, fzAll, go_sem, hq, Int.reduceToNat, Nat.reduceBEq, Nat.reduceEqDiff, Nat.reduceAdd, Nat.reduceMul, Nat.reduceLeDiff, Nat.reduceLT, Nat.reduceSub, ↓reduceIte, reduceCtorEq]
    all_goals (first | (rw [wrongX_bounds ht1]; done) | (rw [bounds_out ht1]; done))
  · skip
    refine tr_skip ?_
    (try simp only [thenE, inBlkE])
    refine hK2 _ ?_
    refine tr_seq fun K5 hK5 => ?_
    refine tr_region [1, 3, 7] rfl rfl fun K hK => ?_
    iterate 6 refine evR_p ?_
    refine evR_e hK ?_; clear hK K
    refine hK5 _ ?_
    refine tr_seq fun K6 hK6 => ?_
    refine tr_seq fun K7 hK7 => ?_
    refine tr_region [1, 3, 7, 20, 21, 22] rfl rfl fun K hK => ?_
    iterate 4 refine evR_p ?_
    refine evR_e hK ?_; clear hK K
    refine hK7 _ ?_
    refine tr_block ?_
    -- loop 1: live [1, 3, 7, 20, 21, 22]
    refine tr_loopW (fun m σ => ∃ i : Nat, i + m = p.gain.length ∧ σ = ⟨[(1, .sl 4 (encSgs l)), (3, .ptr 0 0), (7, .ptr 1 0), (20, .sl 1 (encI p.gain)), (21, .int .i64 p.gain.length), (22, .int .i64 (i : Nat))], [(2, .row 3 1 (encI (negG p.gain i))), (1, .cells [.int .i64 0, .int .i64 0, .int .i64 0, .int .i64 0, .own 2, .int .i64 (IntKind.i64.wrap (0 - IntKind.i64.wrap (gain + 1)))]), (0, .cells (encPg p))], 3⟩) (p.gain.length) ?_ ?_
    · exact ⟨_, Wk.nilown 3 1 1 4 rfl (Nat.le_of_ble_eq_true rfl) rfl, 0, by omega, rfl⟩
    · rintro m σ ⟨i, hi, rfl⟩ KL1 hKL1
      refine tr_seq fun K8 hK8 => ?_
      refine tr_region [1, 3, 7, 20, 21, 22, 23] rfl rfl fun K hK => ?_
      refine evR_p ?_
      refine evR_e hK ?_; clear hK K
      refine hK8 _ ?_
      refine tr_seq fun K9 hK9 => ?_
      refine tr_condB (fun ht2 => ?_) (fun ht2 => ?_)
      · skip
        have hil : i < p.gain.length := by omega
        have hnl := negG_length p.gain i
        replace hq := And.intro hq (And.intro hil (hnl))
        refine tr_skip ?_
        (try simp only [thenE, inBlkE])
        refine hK9 _ ?_
        refine tr_seq fun K10 hK10 => ?_
        refine tr_block ?_
        refine tr_seq fun K11 hK11 => ?_
        refine tr_region [1, 3, 7, 9, 20, 21, 22] rfl rfl fun K hK => ?_
        iterate 3 refine evR_p ?_
        refine evR_e hK ?_; clear hK K
        refine hK11 _ ?_
        refine tr_region [1, 3, 7, 20, 21, 22] rfl rfl fun K hK => ?_
        iterate 4 refine evR_p ?_
        refine evR_bs ?_
        iterate 3 refine evR_p ?_
        refine evR_e hK ?_; clear hK K
        refine hK10 _ ?_
        refine tr_region [1, 3, 7, 20, 21, 22] rfl rfl fun K hK => ?_
        iterate 2 refine evR_p ?_
        refine evR_e hK ?_; clear hK K
        refine hKL1 _ ?_
        exact ⟨m - 1, _, by omega, (Wk.trans (Wk.ren 3 2 (Nat.le_of_ble_eq_true rfl) (Nat.le_of_ble_eq_true rfl) rfl) (Wk.cut 3 rfl)), i + 1, by omega, by rw [w64 (x := (i : Int) + 1) (by omega), negG_succ hil, encI_snoc]; rfl⟩
      · skip
        have hil : i = p.gain.length := by omega
        subst hil
        have hk68 := hk680 (fun hv => goal_okRws hv ht1)
        rw [show encR (p.rows ++ [goalW p gain]) = encR p.rows ++ [[.int .i64 0, .int .i64 0, .int .i64 0, .int .i64 0, .sl 1 (encI (negG p.gain p.gain.length)), .int .i64 (IntKind.i64.wrap (0 - IntKind.i64.wrap (gain + 1)))]] from by simp [encR, encRw, goalW]] at hk68
        have hT : List.take p.rows.length (encR p.rows) = encR p.rows := List.take_of_length_le (by rw [encR_length]; omega)
        replace hq := And.intro hq hT
        refine tr_exit ?_
        simp only [thenE, inBlkE, Nat.reduceEqDiff, ↓reduceIte]
        refine hK6 _ ?_
        refine tr_seq fun K12 hK12 => ?_
        refine tr_fz [.own 2] (by simp (maxSteps := 4000000) (disch := first | assumption | omega | (simp only [go_sem, *]; done) | (simp only [go_sem, *]; omega)) only [go_sem, hq, Int.reduceToNat, Nat.reduceBEq, Nat.reduceEqDiff, Nat.reduceAdd, Nat.reduceMul, Nat.reduceLeDiff, Nat.reduceLT, Nat.reduceSub, ↓reduceIte, reduceCtorEq]; (try rfl)) ?_
        refine tr_draw [46, 47] [10] mixed rfl (by kernel_rfl) rfl fun K hK => ?_
        iterate 11 refine evD_p ?_
        refine evD_step fun Kq hKq => ?_
        simp (maxSteps := 4000000) (disch := first | assumption | omega | (simp only [go_sem, *]; done) | (simp only [go_sem, *]; omega)) only [isE, isO, stpO, notIn, St.bare, go_sem, hq, Int.reduceToNat, Nat.reduceBEq, Nat.reduceEqDiff, Nat.reduceAdd, Nat.reduceMul, Nat.reduceLeDiff, Nat.reduceLT, Nat.reduceSub, ↓reduceIte, reduceCtorEq]
        (repeat (refine And.intro (by first | assumption | omega | decide | (simp; done) | (simp; omega) | (have hq := hvv hgt; omega) | (have hq := hvv hgt.1; omega) | (simp_all; done)) ?_))
        refine Or.inl (hKq _ ?_); clear hKq Kq
        iterate 2 refine evD_p ?_
        refine evD_c (hc := hk68) (k := ?_)
        iterate 5 refine evD_p ?_
        refine evD_e hK ?_; clear hK K
        refine hK12 _ ?_
        refine tr_seq fun K13 hK13 => ?_
        refine tr_region [6] rfl rfl fun K hK => ?_
        iterate 3 refine evR_p ?_
        refine evR_e hK ?_; clear hK K
        refine hK13 _ ?_
        refine tr_ret ?_
        (try simp only [thenE, inBlkE])
        simp (maxSteps := 4000000) (disch := first | assumption | omega | (simp only [go_sem, *]; done) | (simp only [go_sem, *]; omega)) only [postA, postO, resV1, fzAll, go_sem, hq, Int.reduceToNat, Nat.reduceBEq, Nat.reduceEqDiff, Nat.reduceAdd, Nat.reduceMul, Nat.reduceLeDiff, Nat.reduceLT, Nat.reduceSub, ↓reduceIte, reduceCtorEq]
        all_goals (first | (rw [wrongX_bounds ht1]; done) | (rw [bounds_out ht1]; done))
end

section
attribute [local go_sem] List.replicate_succ List.replicate_zero List.set_cons_zero
set_option maxHeartbeats 16000000 in
theorem k32b (p : Pg) (hr0 : p.rows.length ≤ maxLen) (hg : p.gain.length ≤ maxLen) (hc : ∀ r ∈ p.rows, r.coef.length ≤ maxLen) (l : List Sg) (hlm : l.length ≤ maxLen) (hwl : ∀ k, k < l.length → ∀ s, l.getD k sg0 = s → s.ws.length ≤ maxLen) (hgs : p.gain.length ≤ 1000) (hrs : p.rows.length ≤ 100000) (gain : Int) (es : List (Int × Bool)) (hU : usedV p (p.rows ++ [goalW p gain]) l = .fm es) : CallsA Try.prog 32 [.agg (encPg p), .sl 4 (encSgs l), .int .i64 gain] (.bool (boundsW p l gain)) := by
  have hk680 := fun hv => k68 p hr0 hg hc (p.rows ++ [goalW p gain]) l hlm hwl hv
  rw [hU] at hk680
  unfold maxLen at hg hr0
  have hq : True := trivial
  refine callsA_of_tr Try.func32 rfl (Nat.le_of_ble_eq_true rfl) ?_
  simp only [Try.results32, envOf, Nat.reduceAdd]
  refine tr_seq fun K1 hK1 => ?_
  refine tr_region [1, 2, 3] rfl rfl fun K hK => ?_
  iterate 2 refine evR_p ?_
  refine evR_e hK ?_; clear hK K
  refine hK1 _ ?_
  refine tr_seq fun K2 hK2 => ?_
  refine tr_seq fun K3 hK3 => ?_
  refine tr_region [1, 2, 3, 14] rfl rfl fun K hK => ?_
  refine evR_p ?_
  refine evR_c (hc := (k75 _ _ _)) (k := ?_)
  refine evR_p ?_
  refine evR_e hK ?_; clear hK K
  refine hK3 _ ?_
  refine tr_condB (fun ht1 => ?_) (fun ht1 => ?_)
  · skip
    refine tr_seq fun K4 hK4 => ?_
    refine tr_region [6] rfl rfl fun K hK => ?_
    refine evR_p ?_
    refine evR_e hK ?_; clear hK K
    refine hK4 _ ?_
    refine tr_ret ?_
    (try simp only [thenE, inBlkE])
    simp (maxSteps := 4000000) (disch := first | assumption | omega | (simp only [go_sem, *]; done) | (simp only [go_sem, *]; omega)) only [postA, postO, resV1, fzAll, go_sem, hq, Int.reduceToNat, Nat.reduceBEq, Nat.reduceEqDiff, Nat.reduceAdd, Nat.reduceMul, Nat.reduceLeDiff, Nat.reduceLT, Nat.reduceSub, ↓reduceIte, reduceCtorEq]
    all_goals (first | (rw [wrongX_bounds ht1]; done) | (rw [bounds_out ht1]; done))
  · skip
    refine tr_skip ?_
    (try simp only [thenE, inBlkE])
    refine hK2 _ ?_
    refine tr_seq fun K5 hK5 => ?_
    refine tr_region [1, 3, 7] rfl rfl fun K hK => ?_
    iterate 6 refine evR_p ?_
    refine evR_e hK ?_; clear hK K
    refine hK5 _ ?_
    refine tr_seq fun K6 hK6 => ?_
    refine tr_seq fun K7 hK7 => ?_
    refine tr_region [1, 3, 7, 20, 21, 22] rfl rfl fun K hK => ?_
    iterate 4 refine evR_p ?_
    refine evR_e hK ?_; clear hK K
    refine hK7 _ ?_
    refine tr_block ?_
    -- loop 1: live [1, 3, 7, 20, 21, 22]
    refine tr_loopW (fun m σ => ∃ i : Nat, i + m = p.gain.length ∧ σ = ⟨[(1, .sl 4 (encSgs l)), (3, .ptr 0 0), (7, .ptr 1 0), (20, .sl 1 (encI p.gain)), (21, .int .i64 p.gain.length), (22, .int .i64 (i : Nat))], [(2, .row 3 1 (encI (negG p.gain i))), (1, .cells [.int .i64 0, .int .i64 0, .int .i64 0, .int .i64 0, .own 2, .int .i64 (IntKind.i64.wrap (0 - IntKind.i64.wrap (gain + 1)))]), (0, .cells (encPg p))], 3⟩) (p.gain.length) ?_ ?_
    · exact ⟨_, Wk.nilown 3 1 1 4 rfl (Nat.le_of_ble_eq_true rfl) rfl, 0, by omega, rfl⟩
    · rintro m σ ⟨i, hi, rfl⟩ KL1 hKL1
      refine tr_seq fun K8 hK8 => ?_
      refine tr_region [1, 3, 7, 20, 21, 22, 23] rfl rfl fun K hK => ?_
      refine evR_p ?_
      refine evR_e hK ?_; clear hK K
      refine hK8 _ ?_
      refine tr_seq fun K9 hK9 => ?_
      refine tr_condB (fun ht2 => ?_) (fun ht2 => ?_)
      · skip
        have hil : i < p.gain.length := by omega
        have hnl := negG_length p.gain i
        replace hq := And.intro hq (And.intro hil (hnl))
        refine tr_skip ?_
        (try simp only [thenE, inBlkE])
        refine hK9 _ ?_
        refine tr_seq fun K10 hK10 => ?_
        refine tr_block ?_
        refine tr_seq fun K11 hK11 => ?_
        refine tr_region [1, 3, 7, 9, 20, 21, 22] rfl rfl fun K hK => ?_
        iterate 3 refine evR_p ?_
        refine evR_e hK ?_; clear hK K
        refine hK11 _ ?_
        refine tr_region [1, 3, 7, 20, 21, 22] rfl rfl fun K hK => ?_
        iterate 4 refine evR_p ?_
        refine evR_bs ?_
        iterate 3 refine evR_p ?_
        refine evR_e hK ?_; clear hK K
        refine hK10 _ ?_
        refine tr_region [1, 3, 7, 20, 21, 22] rfl rfl fun K hK => ?_
        iterate 2 refine evR_p ?_
        refine evR_e hK ?_; clear hK K
        refine hKL1 _ ?_
        exact ⟨m - 1, _, by omega, (Wk.trans (Wk.ren 3 2 (Nat.le_of_ble_eq_true rfl) (Nat.le_of_ble_eq_true rfl) rfl) (Wk.cut 3 rfl)), i + 1, by omega, by rw [w64 (x := (i : Int) + 1) (by omega), negG_succ hil, encI_snoc]; rfl⟩
      · skip
        have hil : i = p.gain.length := by omega
        subst hil
        have hk68 := hk680 (fun hv => goal_okRws hv ht1)
        rw [show encR (p.rows ++ [goalW p gain]) = encR p.rows ++ [[.int .i64 0, .int .i64 0, .int .i64 0, .int .i64 0, .sl 1 (encI (negG p.gain p.gain.length)), .int .i64 (IntKind.i64.wrap (0 - IntKind.i64.wrap (gain + 1)))]] from by simp [encR, encRw, goalW]] at hk68
        have hT : List.take p.rows.length (encR p.rows) = encR p.rows := List.take_of_length_le (by rw [encR_length]; omega)
        replace hq := And.intro hq hT
        refine tr_exit ?_
        simp only [thenE, inBlkE, Nat.reduceEqDiff, ↓reduceIte]
        refine hK6 _ ?_
        refine tr_seq fun K12 hK12 => ?_
        refine tr_fz [.own 2] (by simp (maxSteps := 4000000) (disch := first | assumption | omega | (simp only [go_sem, *]; done) | (simp only [go_sem, *]; omega)) only [go_sem, hq, Int.reduceToNat, Nat.reduceBEq, Nat.reduceEqDiff, Nat.reduceAdd, Nat.reduceMul, Nat.reduceLeDiff, Nat.reduceLT, Nat.reduceSub, ↓reduceIte, reduceCtorEq]; (try rfl)) ?_
        refine tr_draw [46, 47] [10] mixed rfl (by kernel_rfl) rfl fun K hK => ?_
        iterate 11 refine evD_p ?_
        refine evD_step fun Kq hKq => ?_
        simp (maxSteps := 4000000) (disch := first | assumption | omega | (simp only [go_sem, *]; done) | (simp only [go_sem, *]; omega)) only [isE, isO, stpO, notIn, St.bare, go_sem, hq, Int.reduceToNat, Nat.reduceBEq, Nat.reduceEqDiff, Nat.reduceAdd, Nat.reduceMul, Nat.reduceLeDiff, Nat.reduceLT, Nat.reduceSub, ↓reduceIte, reduceCtorEq]
        (repeat (refine And.intro (by first | assumption | omega | decide | (simp; done) | (simp; omega) | (have hq := hvv hgt; omega) | (have hq := hvv hgt.1; omega) | (simp_all; done)) ?_))
        refine Or.inl (hKq _ ?_); clear hKq Kq
        iterate 2 refine evD_p ?_
        refine evD_c (hc := hk68) (k := ?_)
        iterate 5 refine evD_p ?_
        refine evD_e hK ?_; clear hK K
        refine hK12 _ ?_
        refine tr_seq fun K13 hK13 => ?_
        refine tr_region [6] rfl rfl fun K hK => ?_
        iterate 3 refine evR_p ?_
        refine evR_e hK ?_; clear hK K
        refine hK13 _ ?_
        refine tr_ret ?_
        (try simp only [thenE, inBlkE])
        simp (maxSteps := 4000000) (disch := first | assumption | omega | (simp only [go_sem, *]; done) | (simp only [go_sem, *]; omega)) only [postA, postO, resV1, fzAll, go_sem, hq, Int.reduceToNat, Nat.reduceBEq, Nat.reduceEqDiff, Nat.reduceAdd, Nat.reduceMul, Nat.reduceLeDiff, Nat.reduceLT, Nat.reduceSub, ↓reduceIte, reduceCtorEq]
        all_goals (first | (rw [wrongX_bounds ht1]; done) | (rw [bounds_out ht1]; done))
end
theorem k32 (p : Pg) (hr0 : p.rows.length ≤ maxLen) (hg : p.gain.length ≤ maxLen) (hc : ∀ r ∈ p.rows, r.coef.length ≤ maxLen) (l : List Sg) (hlm : l.length ≤ maxLen) (hwl : ∀ k, k < l.length → ∀ s, l.getD k sg0 = s → s.ws.length ≤ maxLen) (hgs : p.gain.length ≤ 1000) (hrs : p.rows.length ≤ 100000) (gain : Int) : CallsA Try.prog 32 [.agg (encPg p), .sl 4 (encSgs l), .int .i64 gain] (.bool (boundsW p l gain)) := by
  rcases usedV_cases p (p.rows ++ [goalW p gain]) l with h | ⟨es, h⟩
  · exact k32a p hr0 hg hc l hlm hwl hgs hrs gain h
  · exact k32b p hr0 hg hc l hlm hwl hgs hrs gain es h

end Go.Proofs.Ytfamkbofdamkkaa


namespace Go.Proofs.Ytfamkbofdamkkaa
open Go.RowKit Go.Maps Go.MapKept
open Go.WideElems (Fit rd rg)
set_option linter.unusedVariables false
set_option linter.unusedSimpArgs false
def RB : Value → Option (DataW Unit × List MemPlace)
  | .bool b => some (.lit (.bool b), [])
  | _ => none
theorem insert_perm {H : Type} (x : Lit × DataW H) : ∀ l, (DataW.insert x l).Perm (x :: l)
  | [] => List.Perm.refl _
  | y :: r => by
    simp only [DataW.insert]
    split
    · exact List.Perm.refl _
    · exact ((insert_perm x r).cons y).trans (List.Perm.swap x y r)
theorem inserts_perm {H : Type} : ∀ l : List (Lit × DataW H), (l.foldr DataW.insert []).Perm l
  | [] => List.Perm.refl _
  | x :: l => (insert_perm x _).trans ((inserts_perm l).cons x)
theorem rd_at {P : Program} {T : TypeId} (hT : P.underlying T = some (.int .i64)) {arr : Array MapEntry} {clk : Nat} {es : List (Int × Bool)} (h : MapOK arr clk es) (hwf : ∀ k ∈ keyU es, (Lit.int .i64 k).wf = true) {j : Nat} {x : MapEntry} (hx : arr.toList[j]? = some x) :
    ∃ p : Int × Bool, es[j]? = some p ∧ rd P T RB x = some (.int .i64 p.1, .lit (.bool p.2)) := by
  obtain ⟨p, h1, h2, h3⟩ := h.at hx
  refine ⟨p, h1, ?_⟩
  have hk : (Lit.int .i64 p.1).wf = true := hwf _ (List.mem_map.2 ⟨p, List.mem_of_getElem? h1, rfl⟩)
  unfold rd
  rw [h2, h3]
  simp [keyOf, hT, mapKey, hk, RB]
theorem map_owns {P : Program} {T : TypeId} (hT : P.underlying T = some (.int .i64)) {w : World} {b : Nat} {arr : Array MapEntry} {clk : Nat} {es : List (Int × Bool)} (hb : w.heap[b]? = some (.map arr clk)) (h : MapOK arr clk es) (hwf : ∀ k ∈ keyU es, (Lit.int .i64 k).wf = true) :
    ∃ D0 : DataW Unit, w.ownsMap P T RB b es.length D0 ∧ (intKeys D0).Perm (keyU es) ∧ Maps.size D0 = es.length := by
  have hs : arr.toList.length = es.length := h.size
  have hr : arr.toList.map (rg P T RB) = es.map fun p => (Lit.int .i64 p.1, DataW.lit (.bool p.2)) := by
    refine List.ext_getElem (by simp [hs]) fun j h1 h2 => ?_
    have hj : j < arr.toList.length := by simpa using h1
    obtain ⟨p, e1, e2⟩ := rd_at (P := P) (T := T) hT h hwf (List.getElem?_eq_getElem hj)
    rw [List.getElem_map, List.getElem_map]
    have e3 : es[j]'(by omega) = p := by have := List.getElem?_eq_getElem (show j < es.length by omega); rw [this] at e1; simpa using e1
    rw [e3]
    unfold rg; rw [e2]; rfl
  have hkeys : (arr.toList.map (·.key)).Nodup := by
    have e1 : arr.toList.map (·.key) = (es.map (·.1)).map (Value.int .i64) := by
      have := congrArg (List.map Prod.fst) h.1
      simpa [List.map_map, Function.comp_def] using this
    rw [e1]
    refine List.pairwise_map.2 (h.2.2.2.1.imp fun hne e => hne ?_)
    simpa using e
  refine ⟨_, ⟨arr, clk, hb, ⟨?_, ⟨h.2.1, List.pairwise_map.2 h.2.2.1, hkeys⟩, fun x hx => ?_⟩, ?_, rfl⟩, ?_, ?_⟩
  · rw [show arr.size = es.length from hs]; exact h.2.2.2.2
  · obtain ⟨j, hj⟩ := List.mem_iff_getElem?.1 hx
    obtain ⟨p, -, e⟩ := rd_at (P := P) (T := T) hT h hwf hj
    exact ⟨_, e⟩
  · rw [show arr.size = es.length from hs]; exact Nat.le_refl _
  · rw [hr]
    have := (inserts_perm (es.map fun p => (Lit.int .i64 p.1, (DataW.lit (.bool p.2) : DataW Unit)))).map fun q => Go.intOf q.1
    refine this.trans ?_
    rw [List.map_map]; exact List.Perm.refl _
  · rw [hr]
    rw [Maps.size_eq, (inserts_perm _).length_eq]; simp
end Go.Proofs.Ytfamkbofdamkkaa

namespace Go.Proofs
open Go.Shelf
def Try.keysA_ren : Go.Shelf.Ren := ⟨fun | 7 => 73 | 10 => 123 | n => n, fun | 23 => 112 | 26 => 3 | 3 => 4 | 28 => 119 | 0 => 0 | 27 => 118 | 33 => 164 | 4 => 4 | n => n, fun | n => n⟩
theorem Try.keysA : Go.Proofs.SlLaysZI.n7 Try.prog Try.keysA_ren := {
  mixed := by kernel_rfl
  f7 := ⟨Try.f73.name, by decide, Try.func73.trans (congrArg some (by kernel_rfl))⟩
  f10 := ⟨Try.f123.name, by decide, Try.func123.trans (congrArg some (by kernel_rfl))⟩
  t0 := Try.underlying0
  a0 := Try.isAgg0
  z0 := Try.sizeOf0
  v0 := Try.zeroValue0
  t4 := Try.underlying4
  a4 := Try.isAgg4
  z4 := Try.sizeOf4
  v4 := Try.zeroValue4
  t23 := Try.underlying112
  a23 := Try.isAgg112
  z23 := Try.sizeOf112
  v23 := Try.zeroValue112
  t26 := Try.underlying3
  a26 := Try.isAgg3
  z26 := Try.sizeOf3
  v26 := Try.zeroValue3
  t27 := Try.underlying118
  a27 := Try.isAgg118
  z27 := Try.sizeOf118
  v27 := Try.zeroValue118
  t28 := Try.underlying119
  a28 := Try.isAgg119
  z28 := Try.sizeOf119
  v28 := Try.zeroValue119
  t33 := Try.underlying164
  a33 := Try.isAgg164
  z33 := Try.sizeOf164
  v33 := Try.zeroValue164 }
def Try.sortedA_ren : Go.Shelf.Ren := ⟨fun | 6 => 72 | 8 => 76 | 9 => 122 | 11 => 124 | 13 => 154 | 12 => 153 | 23 => 170 | 24 => 171 | 14 => 162 | 15 => 163 | 16 => 164 | 17 => 165 | 18 => 166 | 19 => 167 | 20 => 131 | 21 => 168 | 22 => 169 | 25 => 172 | 26 => 173 | 27 => 174 | 28 => 175 | 29 => 176 | 30 => 155 | 31 => 177 | n => n, fun | 26 => 3 | 28 => 119 | 24 => 25 | 0 => 0 | 3 => 3 | 37 => 133 | 48 => 169 | 50 => 171 | 4 => 4 | 40 => 183 | 39 => 182 | 45 => 127 | 5 => 5 | 9 => 9 | 51 => 188 | 55 => 192 | 57 => 194 | 58 => 43 | 33 => 164 | n => n, fun | n => n⟩
theorem Try.sortedA : Go.Proofs.SlLaysZI.n6 Try.prog Try.sortedA_ren := {
  mixed := by kernel_rfl
  f6 := ⟨Try.f72.name, by decide, Try.func72.trans (congrArg some (by kernel_rfl))⟩
  f8 := ⟨Try.f76.name, by decide, Try.func76.trans (congrArg some (by kernel_rfl))⟩
  f11 := ⟨Try.f124.name, by decide, Try.func124.trans (congrArg some (by kernel_rfl))⟩
  t0 := Try.underlying0
  a0 := Try.isAgg0
  z0 := Try.sizeOf0
  v0 := Try.zeroValue0
  t24 := Try.underlying25
  a24 := Try.isAgg25
  z24 := Try.sizeOf25
  v24 := Try.zeroValue25
  t26 := Try.underlying3
  a26 := Try.isAgg3
  z26 := Try.sizeOf3
  v26 := Try.zeroValue3
  t28 := Try.underlying119
  a28 := Try.isAgg119
  z28 := Try.sizeOf119
  v28 := Try.zeroValue119
  i26 := by kernel_rfl }
def Try.sortA_ren : Go.Shelf.Ren := ⟨fun | 5 => 122 | 8 => 154 | 7 => 153 | 19 => 170 | 20 => 171 | 10 => 162 | 11 => 163 | 12 => 164 | 13 => 165 | 14 => 166 | 15 => 167 | 16 => 131 | 17 => 168 | 18 => 169 | 30 => 172 | 31 => 173 | 32 => 174 | 33 => 175 | 34 => 176 | 35 => 155 | 40 => 177 | n => n, fun | 23 => 25 | 25 => 3 | 3 => 3 | 32 => 133 | 22 => 25 | 0 => 0 | 44 => 169 | 46 => 171 | 4 => 4 | 36 => 183 | 35 => 182 | 41 => 127 | 5 => 5 | 9 => 9 | 53 => 188 | 57 => 192 | 63 => 194 | 64 => 43 | n => n, fun | n => n⟩
theorem Try.sortA : Go.Proofs.SlLaysM.n5 Try.prog Try.sortA_ren := {
  mixed := by kernel_rfl
  f5 := ⟨Try.f122.name, by decide, Try.func122.trans (congrArg some (by kernel_rfl))⟩
  f7 := ⟨Try.f153.name, by decide, Try.func153.trans (congrArg some (by kernel_rfl))⟩
  f8 := Try.func154.trans (congrArg some (by kernel_rfl))
  f10 := ⟨Try.f162.name, by decide, Try.func162.trans (congrArg some (by kernel_rfl))⟩
  f11 := ⟨Try.f163.name, by decide, Try.func163.trans (congrArg some (by kernel_rfl))⟩
  f12 := ⟨Try.f164.name, by decide, Try.func164.trans (congrArg some (by kernel_rfl))⟩
  f13 := ⟨Try.f165.name, by decide, Try.func165.trans (congrArg some (by kernel_rfl))⟩
  f14 := ⟨Try.f166.name, by decide, Try.func166.trans (congrArg some (by kernel_rfl))⟩
  f15 := ⟨Try.f167.name, by decide, Try.func167.trans (congrArg some (by kernel_rfl))⟩
  f16 := ⟨Try.f131.name, by decide, Try.func131.trans (congrArg some (by kernel_rfl))⟩
  f17 := ⟨Try.f168.name, by decide, Try.func168.trans (congrArg some (by kernel_rfl))⟩
  f18 := ⟨Try.f169.name, by decide, Try.func169.trans (congrArg some (by kernel_rfl))⟩
  f19 := Try.func170.trans (congrArg some (by kernel_rfl))
  f20 := Try.func171.trans (congrArg some (by kernel_rfl))
  f30 := ⟨Try.f172.name, by decide, Try.func172.trans (congrArg some (by kernel_rfl))⟩
  f31 := Try.func173.trans (congrArg some (by kernel_rfl))
  f32 := Try.func174.trans (congrArg some (by kernel_rfl))
  f33 := ⟨Try.f175.name, by decide, Try.func175.trans (congrArg some (by kernel_rfl))⟩
  f34 := ⟨Try.f176.name, by decide, Try.func176.trans (congrArg some (by kernel_rfl))⟩
  f35 := ⟨Try.f155.name, by decide, Try.func155.trans (congrArg some (by kernel_rfl))⟩
  f40 := ⟨Try.f177.name, by decide, Try.func177.trans (congrArg some (by kernel_rfl))⟩
  t0 := Try.underlying0
  a0 := Try.isAgg0
  z0 := Try.sizeOf0
  v0 := Try.zeroValue0
  t3 := Try.underlying3
  a3 := Try.isAgg3
  z3 := Try.sizeOf3
  v3 := Try.zeroValue3
  t4 := Try.underlying4
  a4 := Try.isAgg4
  z4 := Try.sizeOf4
  v4 := Try.zeroValue4
  t5 := Try.underlying5
  a5 := Try.isAgg5
  z5 := Try.sizeOf5
  v5 := Try.zeroValue5
  t9 := Try.underlying9
  a9 := Try.isAgg9
  z9 := Try.sizeOf9
  v9 := Try.zeroValue9
  t22 := Try.underlying25
  a22 := Try.isAgg25
  z22 := Try.sizeOf25
  v22 := Try.zeroValue25
  t23 := Try.underlying25
  a23 := Try.isAgg25
  z23 := Try.sizeOf25
  v23 := Try.zeroValue25
  t25 := Try.underlying3
  a25 := Try.isAgg3
  z25 := Try.sizeOf3
  v25 := Try.zeroValue3
  t32 := Try.underlying133
  a32 := Try.isAgg133
  z32 := Try.sizeOf133
  v32 := Try.zeroValue133
  t35 := Try.underlying182
  a35 := Try.isAgg182
  z35 := Try.sizeOf182
  v35 := Try.zeroValue182
  t36 := Try.underlying183
  a36 := Try.isAgg183
  z36 := Try.sizeOf183
  v36 := Try.zeroValue183
  t41 := Try.underlying127
  a41 := Try.isAgg127
  z41 := Try.sizeOf127
  v41 := Try.zeroValue127
  t44 := Try.underlying169
  a44 := Try.isAgg169
  z44 := Try.sizeOf169
  v44 := Try.zeroValue169
  t46 := Try.underlying171
  a46 := Try.isAgg171
  z46 := Try.sizeOf171
  v46 := Try.zeroValue171
  t53 := Try.underlying188
  a53 := Try.isAgg188
  z53 := Try.sizeOf188
  v53 := Try.zeroValue188
  t57 := Try.underlying192
  a57 := Try.isAgg192
  z57 := Try.sizeOf192
  v57 := Try.zeroValue192
  t63 := Try.underlying194
  a63 := Try.isAgg194
  z63 := Try.sizeOf194
  v63 := Try.zeroValue194
  t64 := Try.underlying43
  a64 := Try.isAgg43
  z64 := Try.sizeOf43
  v64 := Try.zeroValue43 }
end Go.Proofs

namespace Go.Proofs.Ytfamkbofdamkkaa
open Go.RowKit Go.Maps Go.Sort Go.Shelf
set_option linter.unusedVariables false
set_option linter.unusedSimpArgs false
def sortU (es : List (Int × Bool)) : List Int := (keyU es).mergeSort leI
theorem sortsA (m : Nat) : AnyZI.SortsIn Try.prog Try.sortedA_ren Fence.wide m :=
  ⟨fun blk off cap ss W hH hblk hsz => callsIn_wide.2 (AnyM.slices_Sort_int Try.sortA blk off cap ss W hH hblk hsz),
   fun p cap W => callsIn_wide.2 (AnyM.slices_Sort_int_none Try.sortA p cap W)⟩
theorem row_rel {w : World} {B : Nat} {e : TypeId} {v : Value} {l : List Int} (h : w.ownsRow B e 1 v l.length (l.map (Value.int .i64))) {O : Nat → Prop} (hO : ∀ b, O b → b < B) {ι : Nat → Nat} {ρ : Nat → Value} {nx : Nat} {c : Bool} : Rel w O ι ρ nx c (.sl 1 (encI l)) v := by
  rcases h.2 with ⟨rfl, hn⟩ | ⟨g, cap, cur, rfl, h2, h3, h4, h5, h6, h7⟩
  · have : l = [] := List.eq_nil_of_length_eq_zero hn
    subst this
    exact .slnil _ _ _
  · refine .sl _ _ _ g 0 _ cap (fun i j => .int .i64 (l.getD i 0)) (by rw [encI_length]) h4 h5 (fun i hi => ?_) (fun i j hi hj => ?_) (fun i j hi hj => ?_) (fun i j hi hj => ?_) <;> rw [encI_length] at hi
    · rw [encI_getD _ _ hi]; rfl
    · obtain rfl : j = 0 := by omega
      rw [encI_getD _ _ hi]; rfl
    · obtain rfl : j = 0 := by omega
      refine ⟨?_, fun hb => by have := hO _ hb; omega⟩
      have e1 : (cur.toList.take l.length)[i]? = some (.int .i64 l[i]) := by
        have : cur.toList.take l.length = l.map (Value.int .i64) := by simpa using h7
        rw [this]; simp [hi]
      rw [List.getElem?_take, if_pos hi] at e1
      simp only [World.cell?, h3, Nat.mul_one, Nat.add_zero, Nat.zero_add]
      simpa [List.getD, hi] using e1
    · obtain rfl : j = 0 := by omega
      rw [encI_getD _ _ hi]; exact .int ..
theorem k72 (es : List (Int × Bool)) (hes : es.length ≤ 100000) (hwf : ∀ k ∈ keyU es, (Lit.int .i64 k).wf = true) : CallsM Try.prog 72 [.fn 123 [.ptr 0 0]] [(0, .cells [.fm es])] 1 (.sl 1 (encI (sortU es))) [(0, .cells [.fm es])] 1 := by
  intro w X ι ρ vs hml hvl hvr
  obtain ⟨x, rfl⟩ : ∃ x, vs = #[x] := by
    have : vs.size = 1 := hvl
    exact ⟨vs[0], by apply Array.ext (by simpa using this); intro i h1 h2; simp at h2; subst h2; rfl⟩
  have hx := hvr 0 (by simp)
  simp only [List.getD_cons_zero] at hx
  have ex : (#[x] : Array Value).getD 0 undef = x := rfl
  rw [ex] at hx
  obtain ⟨cvs, rfl, hc1, hc2⟩ : ∃ cvs, x = .func (.func 123) #[] cvs ∧ cvs.size = 1 ∧ Rel w (OO X [(0, .cells [.fm es])] ι ρ) ι ρ 1 false (V.ptr 0 0) (cvs.getD 0 undef) := by
    cases hx with
    | fn _ _ _ cvs k1 k2 => exact ⟨cvs, rfl, k1, k2 0 (by simp)⟩
  obtain ⟨y, rfl⟩ : ∃ y, cvs = #[y] := ⟨cvs[0], by apply Array.ext (by simpa using hc1); intro i h1 h2; simp at h2; subst h2; rfl⟩
  have ey : (#[y] : Array Value).getD 0 undef = y := rfl
  rw [ey] at hc2
  have hy : y = .pointer (some ⟨ι 0, 0, none⟩) := by cases hc2; rfl
  subst hy
  obtain ⟨vals, e, hb0, hsz, -, hrel⟩ := hml.obj _ List.mem_cons_self
  have hr0 := hrel 0 (by simp)
  simp only [List.getD_cons_zero] at hr0
  obtain ⟨z, rfl⟩ : ∃ z, vals = #[z] := ⟨vals[0]'(by simp at hsz; omega), by apply Array.ext (by simpa using hsz); intro i h1 h2; simp at h2; subst h2; rfl⟩
  have ez : (#[z] : Array Value).getD 0 undef = z := rfl
  rw [ez] at hr0
  obtain ⟨b, arr, clk, rfl, hb, hok⟩ : ∃ b arr clk, z = .map (some b) ∧ w.heap[b]? = some (.map arr clk) ∧ MapOK arr clk es := by
    cases hr0 with
    | fm _ _ b arr clk hx h => exact ⟨b, arr, clk, rfl, hx.1, h⟩
  obtain ⟨D0, hown, hperm, hsize⟩ := map_owns (P := Try.prog) (T := 3) (by kernel_rfl) hb hok hwf
  have hBm := lt_of_block hb0
  have hm := cell_of_one hb0
  have hseq : SeqGives Fence.wide 2 Try.prog 123 #[.pointer (some ⟨ι 0, 0, none⟩)] encZ (fun ss => ss.Perm (intKeys D0)) (Maps.size D0) w :=
    AnyZI.keys_gives (ρ := Try.keysA_ren) { Try.keysA with } Fence.wide _ trivial rfl (by omega) (ι 0) b es.length D0 w hBm hm hown
  have cS := AnyZI.sorted_in Try.sortedA Fence.wide 5 trivial trivial trivial trivial rfl (by omega) (sortsA _) (enters_of Try.func122 (by kernel_rfl) rfl) 123 #[.pointer (some ⟨ι 0, 0, none⟩)] trivial (enters_of Try.func123 (by kernel_rfl) rfl) _ _ (by rw [hsize]; exact hok.2.2.2.2) (by rw [hsize]; omega) _ hseq
  change CallsIn _ _ Try.prog 72 _ _ _ at cS
  refine (callsIn_wide.1 cS).mono ?_
  rintro en w' ⟨v, ss, rfl, hS, hrow, hnil, hbel⟩
  obtain ⟨m1, m2⟩ := hml.below hbel
  have hss : ss.mergeSort (fun x y => decide (x ≤ y)) = sortU es := mergeSort_of_perm_i (hS.trans hperm)
  have hlen : ss.length = (sortU es).length := by rw [← hss]; simp
  rw [hss, hlen] at hrow
  refine ⟨v, ι, ρ, rfl, m1, row_rel hrow fun c hc => ?_, Nat.le_refl _, fun p _ => ⟨fun _ => rfl, fun _ => rfl⟩⟩
  rcases hc with hX | ⟨p, hp, hpb⟩
  · exact hml.xlt.lt _ hX
  · exact (hml.own _ hp _ hpb).1
theorem k72n : CallsM Try.prog 72 [.fn 123 [.ptr 0 0]] [(0, .cells [.nm])] 1 (.sl 1 (encI [])) [(0, .cells [.nm])] 1 := by
  intro w X ι ρ vs hml hvl hvr
  obtain ⟨x, rfl⟩ : ∃ x, vs = #[x] := by
    have : vs.size = 1 := hvl
    exact ⟨vs[0], by apply Array.ext (by simpa using this); intro i h1 h2; simp at h2; subst h2; rfl⟩
  have hx := hvr 0 (by simp)
  simp only [List.getD_cons_zero] at hx
  have ex : (#[x] : Array Value).getD 0 undef = x := rfl
  rw [ex] at hx
  obtain ⟨cvs, rfl, hc1, hc2⟩ : ∃ cvs, x = .func (.func 123) #[] cvs ∧ cvs.size = 1 ∧ Rel w (OO X [(0, .cells [.nm])] ι ρ) ι ρ 1 false (V.ptr 0 0) (cvs.getD 0 undef) := by
    cases hx with
    | fn _ _ _ cvs k1 k2 => exact ⟨cvs, rfl, k1, k2 0 (by simp)⟩
  obtain ⟨y, rfl⟩ : ∃ y, cvs = #[y] := ⟨cvs[0], by apply Array.ext (by simpa using hc1); intro i h1 h2; simp at h2; subst h2; rfl⟩
  have ey : (#[y] : Array Value).getD 0 undef = y := rfl
  rw [ey] at hc2
  have hy : y = .pointer (some ⟨ι 0, 0, none⟩) := by cases hc2; rfl
  subst hy
  obtain ⟨vals, e, hb0, hsz, -, hrel⟩ := hml.obj _ List.mem_cons_self
  have hr0 := hrel 0 (by simp)
  simp only [List.getD_cons_zero] at hr0
  obtain ⟨z, rfl⟩ : ∃ z, vals = #[z] := ⟨vals[0]'(by simp at hsz; omega), by apply Array.ext (by simpa using hsz); intro i h1 h2; simp at h2; subst h2; rfl⟩
  have ez : (#[z] : Array Value).getD 0 undef = z := rfl
  rw [ez] at hr0
  obtain rfl : z = .map none := by cases hr0; rfl
  have hBm := lt_of_block hb0
  have hm := cell_of_one hb0
  have hseq : SeqGives Fence.wide 2 Try.prog 123 #[.pointer (some ⟨ι 0, 0, none⟩)] encZ (fun ss : List Int => ss = []) 0 w :=
    AnyZI.keys_gives_nil (ρ := Try.keysA_ren) { Try.keysA with } Fence.wide _ trivial rfl (ι 0) w hBm hm
  have cS := AnyZI.sorted_in Try.sortedA Fence.wide 5 trivial trivial trivial trivial rfl (by omega) (sortsA _) (enters_of Try.func122 (by kernel_rfl) rfl) 123 #[.pointer (some ⟨ι 0, 0, none⟩)] trivial (enters_of Try.func123 (by kernel_rfl) rfl) _ _ (Nat.zero_le _) (Nat.zero_le _) _ hseq
  change CallsIn _ _ Try.prog 72 _ _ _ at cS
  refine (callsIn_wide.1 cS).mono ?_
  rintro en w' ⟨v, ss, rfl, hS, hrow, hnil, hbel⟩
  obtain ⟨m1, m2⟩ := hml.below hbel
  subst hS
  rw [show ([] : List Int).mergeSort (fun x y => decide (x ≤ y)) = [] from by simp] at hrow
  refine ⟨v, ι, ρ, rfl, m1, row_rel hrow fun c hc => ?_, Nat.le_refl _, fun p _ => ⟨fun _ => rfl, fun _ => rfl⟩⟩
  rcases hc with hX | ⟨p, hp, hpb⟩
  · exact hml.xlt.lt _ hX
  · exact (hml.own _ hp _ hpb).1
/-! #### the rows that are used -/
def usedI (p : Pg) (l : List Sg) : List Int :=
  if validB p = true ∧ l.length ≤ 8192 then (match wrkP p.vars p.rows l with | some _ => [] | none => sortU (usN l l.length 0 [])) else []
theorem wf_small {k : Int} (h : 0 ≤ k ∧ k < 1000) : (Lit.int .i64 k).wf = true := by
  have e1 : IntKind.i64.min = -9223372036854775808 := by decide
  have e2 : IntKind.i64.max = 9223372036854775807 := by decide
  simp only [Lit.wf, e1, e2, Bool.and_eq_true, decide_eq_true_eq]
  omega
theorem usedI_nm {p : Pg} {l : List Sg} (h : usedV p p.rows l = .nm) : usedI p l = [] := by
  unfold usedV at h; unfold usedI
  split at h
  · rename_i e
    rw [if_pos e]
    cases e2 : wrkP p.vars p.rows l with
    | none => rw [e2] at h; cases h
    | some k => rfl
  · rename_i e; rw [if_neg e]
theorem usedI_fm {p : Pg} {l : List Sg} {es : List (Int × Bool)} (h : usedV p p.rows l = .fm es) : usedI p l = sortU es ∧ okU p.rows.length es ∧ p.rows.length ≤ 300 := by
  unfold usedV at h; unfold usedI
  split at h
  · rename_i e
    rw [if_pos e]
    cases e2 : wrkP p.vars p.rows l with
    | some k => rw [e2] at h; cases h
    | none =>
      rw [e2] at h
      have h3 : usN l l.length 0 [] = es := by cases h; rfl
      subst h3
      have h5 : (p.rows.length : Int) ≤ 300 := by
        have := e.1
        simp only [validB, Bool.and_eq_true, decide_eq_true_eq] at this; exact this.2.1
      refine ⟨rfl, ?_, by omega⟩
      unfold wrkP at e2
      split at e2
      · cases e2
      · exact usN_ok _ _ _ _ (okU.nil _) e2
  · cases h
end Go.Proofs.Ytfamkbofdamkkaa

namespace Go.Proofs.Ytfamkbofdamkkaa
open Go.RowKit
set_option linter.unusedVariables false
set_option linter.unusedSimpArgs false
set_option maxRecDepth 100000
attribute [local go_sem] Nat.zero_add Nat.add_zero Nat.mul_one eq_self ne_eq not_true_eq_false not_false_eq_true decide_true decide_false decide_not Bool.false_eq_true List.filter_cons List.filter_nil true_and and_true beq_false beq_true Bool.not_true Bool.not_false Bool.and_true Bool.true_and Option.getD_some Option.getD_none imp_self implies_true Int.toNat_natCast List.cons_append List.nil_append List.map_cons List.map_nil List.length_cons List.length_nil List.getD_cons_zero List.getD_cons_succ List.drop_zero List.drop_succ_cons List.take_succ_cons List.take_zero
attribute [local go_sem] lowN lowQ lowM isAl appOwn unw appF isE isO stpO notIn St.bare evO evDO isEff stp St.get St.slot St.put List.lookup un unL ofVal gof nth pickV pkB_false pkB_true binV unV loadV idxV fldV partV buildV fillV lenV sliV appV appR rowsV winV V.parts V.okp V.sc Mem.look_cons Mem.look_nil V.cl V.clL AObj.clo fzAll exps St.fz Mem.fz V.fz V.fzL AObj.fz Option.isSome_some Option.isSome_none Bool.or_true Bool.true_or Bool.or_false Bool.false_or false_and and_false false_or or_false arT_104 arT_121 arT_160 arT_161 arT_22 arT_23 arT_24 arT_25 arT_28 arT_29 arT_30 arT_40 arT_42 arT_52 arT_60 arT_65 arT_72 arT_73 arT_76 arT_9 arT_90 boolT_182 boolT_25 boolT_3 boolT_35 boolT_4 boolT_76 flatT_182 flatT_25 flatT_3 flatT_35 flatT_4 flatT_76 intT_133 intT_169 intT_171 intT_188 intT_3 intT_5 lay_104 lay_112 lay_138 lay_141 lay_153 lay_160 lay_161 lay_164 lay_188 lay_23 lay_24 lay_25 lay_27 lay_28 lay_3 lay_30 lay_34 lay_4 lay_49 lay_52 lay_54 lay_56 lay_65 lay_67 lay_73 lay_76 lay_90 lay_99 mapT_112 okF_10 okF_100 okF_101 okF_102 okF_103 okF_104 okF_105 okF_106 okF_107 okF_108 okF_109 okF_11 okF_110 okF_111 okF_112 okF_113 okF_114 okF_115 okF_116 okF_117 okF_118 okF_119 okF_12 okF_120 okF_121 okF_122 okF_123 okF_124 okF_125 okF_126 okF_127 okF_128 okF_129 okF_13 okF_130 okF_131 okF_132 okF_133 okF_134 okF_135 okF_136 okF_137 okF_138 okF_139 okF_14 okF_140 okF_141 okF_142 okF_143 okF_144 okF_145 okF_146 okF_147 okF_148 okF_149 okF_15 okF_150 okF_151 okF_152 okF_153 okF_154 okF_155 okF_156 okF_157 okF_158 okF_159 okF_16 okF_160 okF_161 okF_162 okF_163 okF_164 okF_165 okF_166 okF_167 okF_168 okF_169 okF_17 okF_170 okF_171 okF_172 okF_173 okF_174 okF_175 okF_176 okF_177 okF_18 okF_19 okF_20 okF_21 okF_22 okF_23 okF_24 okF_25 okF_26 okF_27 okF_28 okF_29 okF_3 okF_30 okF_31 okF_32 okF_33 okF_34 okF_35 okF_36 okF_37 okF_38 okF_39 okF_4 okF_40 okF_41 okF_42 okF_43 okF_44 okF_45 okF_46 okF_47 okF_48 okF_49 okF_5 okF_50 okF_51 okF_52 okF_53 okF_54 okF_55 okF_56 okF_57 okF_58 okF_59 okF_6 okF_60 okF_61 okF_62 okF_63 okF_64 okF_65 okF_66 okF_67 okF_68 okF_69 okF_7 okF_70 okF_71 okF_72 okF_73 okF_74 okF_75 okF_76 okF_77 okF_78 okF_79 okF_8 okF_80 okF_81 okF_82 okF_83 okF_84 okF_85 okF_86 okF_87 okF_88 okF_89 okF_9 okF_90 okF_91 okF_92 okF_93 okF_94 okF_95 okF_96 okF_97 okF_98 okF_99 plT_138 plT_153 plT_157 plT_161 plT_27 plT_34 plT_54 plT_56 plT_67 plT_76 plT_90 plT_99 slT_104 slT_121 slT_160 slT_161 slT_22 slT_23 slT_24 slT_25 slT_28 slT_29 slT_30 slT_40 slT_42 slT_52 slT_60 slT_65 slT_72 slT_73 slT_76 slT_90 stT_138_0 stT_138_1 stT_153_0 stT_157_0 stT_157_1 stT_157_2 stT_157_3 stT_27_0 stT_27_1 stT_27_2 stT_34_0 stT_34_1 stT_34_2 stT_34_3 stT_54_0 stT_54_1 stT_54_2 stT_54_3 stT_56_0 stT_56_1 stT_67_1 stT_67_4 stT_67_5 stT_99_0 stT_99_1 strT_160 strT_76 strT_9 zeroT_112 zeroT_138 zeroT_153 zeroT_157 zeroT_160 zeroT_161 zeroT_188 zeroT_27 zeroT_3 zeroT_30 zeroT_34 zeroT_4 zeroT_49 zeroT_54 zeroT_56 zeroT_65 zeroT_67 zeroT_76 zeroT_90 zeroT_99
attribute [local go_sem] List.getElem?_cons_zero List.getElem?_cons_succ List.zip_cons_cons List.zip_nil_left List.zip_nil_right Bool.false_and Bool.and_false List.length_append List.length_set List.length_replicate List.all_cons List.all_nil encI_length encI_getD encR_length encR_getD encRw encPg spl shp AObj.shp rowM isSt isRpS isRd csh AObj.csh forall_const imp_self
attribute [local go_sem] encSg encW encSgs_length encWs_length encSgs_getD encWs_getD lookV lkM putM
attribute [local simp] encI_length encR_length cellsI_length encSgs_length encWs_length
theorem k73a (es : List (Int × Bool)) : CallsM Try.prog 73 [.fm es] ([]) (0) (.fn 123 [.ptr 0 0]) ([(0, .cells [.fm es])]) (1) := by
  have hq : True := trivial
  refine callsM_of_tr Try.func73 rfl (Nat.le_of_ble_eq_true rfl) (Nat.le_of_ble_eq_true rfl) (Nat.le_of_ble_eq_true rfl) ?_
  simp only [Try.results73, envOf, gh, gv, List.cons_append, List.nil_append, Nat.reduceAdd]
  refine tr_seq fun K1 hK1 => ?_
  refine tr_region [1] rfl rfl fun K hK => ?_
  iterate 2 refine evR_p ?_
  refine evR_e hK ?_; clear hK K
  refine hK1 _ ?_
  refine tr_seq fun K2 hK2 => ?_
  refine tr_region [2] rfl rfl fun K hK => ?_
  iterate 2 refine evR_p ?_
  refine evR_e hK ?_; clear hK K
  refine hK2 _ ?_
  refine tr_ret ?_
  (try simp only [thenE, inBlkE])
  all_goals first | refine ⟨_, Wk.refl _, ?_⟩
  simp (maxSteps := 4000000) (disch := first | assumption | omega | (simp only [go_sem, *]; done) | (simp only [go_sem, *]; omega)) only [postM, ghOK, gv, St.ren, St.cut, V.ren, V.renL, AObj.ren, Nat.blt_eq, resV1, go_sem, hq, Int.reduceToNat, Nat.reduceBEq, Nat.reduceEqDiff, Nat.reduceAdd, Nat.reduceMul, Nat.reduceLeDiff, Nat.reduceLT, Nat.reduceSub, ↓reduceIte, reduceCtorEq]
  all_goals (rfl)

theorem k73b  : CallsM Try.prog 73 [.nm] ([]) (0) (.fn 123 [.ptr 0 0]) ([(0, .cells [.nm])]) (1) := by
  have hq : True := trivial
  refine callsM_of_tr Try.func73 rfl (Nat.le_of_ble_eq_true rfl) (Nat.le_of_ble_eq_true rfl) (Nat.le_of_ble_eq_true rfl) ?_
  simp only [Try.results73, envOf, gh, gv, List.cons_append, List.nil_append, Nat.reduceAdd]
  refine tr_seq fun K1 hK1 => ?_
  refine tr_region [1] rfl rfl fun K hK => ?_
  iterate 2 refine evR_p ?_
  refine evR_e hK ?_; clear hK K
  refine hK1 _ ?_
  refine tr_seq fun K2 hK2 => ?_
  refine tr_region [2] rfl rfl fun K hK => ?_
  iterate 2 refine evR_p ?_
  refine evR_e hK ?_; clear hK K
  refine hK2 _ ?_
  refine tr_ret ?_
  (try simp only [thenE, inBlkE])
  all_goals first | refine ⟨_, Wk.refl _, ?_⟩
  simp (maxSteps := 4000000) (disch := first | assumption | omega | (simp only [go_sem, *]; done) | (simp only [go_sem, *]; omega)) only [postM, ghOK, gv, St.ren, St.cut, V.ren, V.renL, AObj.ren, Nat.blt_eq, resV1, go_sem, hq, Int.reduceToNat, Nat.reduceBEq, Nat.reduceEqDiff, Nat.reduceAdd, Nat.reduceMul, Nat.reduceLeDiff, Nat.reduceLT, Nat.reduceSub, ↓reduceIte, reduceCtorEq]
  all_goals (rfl)

theorem k29a (p : Pg) (hr0 : p.rows.length ≤ maxLen) (hg : p.gain.length ≤ maxLen) (hc : ∀ r ∈ p.rows, r.coef.length ≤ maxLen) (l : List Sg) (hlm : l.length ≤ maxLen) (hwl : ∀ k, k < l.length → ∀ s, l.getD k sg0 = s → s.ws.length ≤ maxLen) (es : List (Int × Bool)) (hU : usedV p p.rows l = .fm es) (hes : es.length ≤ 100000) (hwf : ∀ k ∈ keyU es, (Lit.int .i64 k).wf = true) : CallsA Try.prog 29 [.agg (encPg p), .sl 4 (encSgs l)] (.sl 1 (encI (sortU es))) := by
  have hk68 := k68 p hr0 hg hc p.rows l hlm hwl valid_okRw
  rw [hU] at hk68
  have hq : True := trivial
  refine callsA_of_tr Try.func29 rfl (Nat.le_of_ble_eq_true rfl) ?_
  simp only [Try.results29, envOf, Nat.reduceAdd]
  refine tr_seq fun K1 hK1 => ?_
  refine tr_region [1, 2] rfl rfl fun K hK => ?_
  iterate 2 refine evR_p ?_
  refine evR_e hK ?_; clear hK K
  refine hK1 _ ?_
  refine tr_seq fun K2 hK2 => ?_
  refine tr_region [6] rfl rfl fun K hK => ?_
  iterate 4 refine evR_p ?_
  refine evR_c (hc := hk68) (k := ?_)
  iterate 5 refine evR_p ?_
  refine evR_e hK ?_; clear hK K
  refine hK2 _ ?_
  refine tr_seq fun K3 hK3 => ?_
  refine tr_region [4] rfl rfl fun K hK => ?_
  refine evR_p ?_
  refine evR_stepX fun Kq hKq => Or.inr ?_
  simp (maxSteps := 4000000) (disch := first | assumption | omega | (simp only [go_sem, *]; done) | (simp only [go_sem, *]; omega)) only [stpM, go_sem, hq, Int.reduceToNat, Nat.reduceBEq, Nat.reduceEqDiff, Nat.reduceAdd, Nat.reduceMul, Nat.reduceLeDiff, Nat.reduceLT, Nat.reduceSub, ↓reduceIte, reduceCtorEq]
  refine ⟨[], ?_⟩
  simp (maxSteps := 4000000) (disch := first | assumption | omega | (simp only [go_sem, *]; done) | (simp only [go_sem, *]; omega)) only [V.mapL, V.map, gJ, footJ, inJ, AObj.map, ndJ, ltJ, V.domL, V.dom, AObj.dom, kC, kR, AObj.isC, hJ, backJ, List.any_cons, List.any_nil, Nat.ble_eq, Nat.blt_eq, Nat.reduceLT, Nat.reduceLeDiff, Bool.or_true, Bool.true_or, Bool.or_false, Bool.false_or, Bool.and_self, go_sem, hq, Int.reduceToNat, Nat.reduceBEq, Nat.reduceEqDiff, Nat.reduceAdd, Nat.reduceMul, Nat.reduceLeDiff, Nat.reduceLT, Nat.reduceSub, ↓reduceIte, reduceCtorEq]
  refine ⟨_, _, _, k73a es, ?_⟩
  simp (maxSteps := 4000000) (disch := first | assumption | omega | (simp only [go_sem, *]; done) | (simp only [go_sem, *]; omega)) only [V.mapL, V.map, gJ, footJ, inJ, AObj.map, ndJ, ltJ, V.domL, V.dom, AObj.dom, kC, kR, AObj.isC, hJ, backJ, List.any_cons, List.any_nil, Nat.ble_eq, Nat.blt_eq, Nat.reduceLT, Nat.reduceLeDiff, Bool.or_true, Bool.true_or, Bool.or_false, Bool.false_or, Bool.and_self, go_sem, hq, Int.reduceToNat, Nat.reduceBEq, Nat.reduceEqDiff, Nat.reduceAdd, Nat.reduceMul, Nat.reduceLeDiff, Nat.reduceLT, Nat.reduceSub, ↓reduceIte, reduceCtorEq]
  (repeat (refine And.intro (by first | assumption | omega | decide | (simp; done) | (simp; omega) | (have hq := hvv hgt; omega) | (have hq := hvv hgt.1; omega) | (simp_all; done)) ?_))
  refine hKq _ ?_; clear hKq Kq
  refine evR_stepX fun Kq hKq => Or.inr ?_
  simp (maxSteps := 4000000) (disch := first | assumption | omega | (simp only [go_sem, *]; done) | (simp only [go_sem, *]; omega)) only [stpM, go_sem, hq, Int.reduceToNat, Nat.reduceBEq, Nat.reduceEqDiff, Nat.reduceAdd, Nat.reduceMul, Nat.reduceLeDiff, Nat.reduceLT, Nat.reduceSub, ↓reduceIte, reduceCtorEq]
  refine ⟨[1], ?_⟩
  simp (maxSteps := 4000000) (disch := first | assumption | omega | (simp only [go_sem, *]; done) | (simp only [go_sem, *]; omega)) only [V.mapL, V.map, gJ, footJ, inJ, AObj.map, ndJ, ltJ, V.domL, V.dom, AObj.dom, kC, kR, AObj.isC, hJ, backJ, List.any_cons, List.any_nil, Nat.ble_eq, Nat.blt_eq, Nat.reduceLT, Nat.reduceLeDiff, Bool.or_true, Bool.true_or, Bool.or_false, Bool.false_or, Bool.and_self, go_sem, hq, Int.reduceToNat, Nat.reduceBEq, Nat.reduceEqDiff, Nat.reduceAdd, Nat.reduceMul, Nat.reduceLeDiff, Nat.reduceLT, Nat.reduceSub, ↓reduceIte, reduceCtorEq]
  refine ⟨_, _, _, k72 es hes hwf, ?_⟩
  simp (maxSteps := 4000000) (disch := first | assumption | omega | (simp only [go_sem, *]; done) | (simp only [go_sem, *]; omega)) only [V.mapL, V.map, gJ, footJ, inJ, AObj.map, ndJ, ltJ, V.domL, V.dom, AObj.dom, kC, kR, AObj.isC, hJ, backJ, List.any_cons, List.any_nil, Nat.ble_eq, Nat.blt_eq, Nat.reduceLT, Nat.reduceLeDiff, Bool.or_true, Bool.true_or, Bool.or_false, Bool.false_or, Bool.and_self, go_sem, hq, Int.reduceToNat, Nat.reduceBEq, Nat.reduceEqDiff, Nat.reduceAdd, Nat.reduceMul, Nat.reduceLeDiff, Nat.reduceLT, Nat.reduceSub, ↓reduceIte, reduceCtorEq]
  (repeat (refine And.intro (by first | assumption | omega | decide | (simp; done) | (simp; omega) | (have hq := hvv hgt; omega) | (have hq := hvv hgt.1; omega) | (simp_all; done)) ?_))
  refine hKq _ ?_; clear hKq Kq
  refine evR_p ?_
  refine evR_e hK ?_; clear hK K
  refine hK3 _ ?_
  refine tr_ret ?_
  (try simp only [thenE, inBlkE])
  simp (maxSteps := 4000000) (disch := first | assumption | omega | (simp only [go_sem, *]; done) | (simp only [go_sem, *]; omega)) only [postA, postO, resV1, fzAll, go_sem, hq, Int.reduceToNat, Nat.reduceBEq, Nat.reduceEqDiff, Nat.reduceAdd, Nat.reduceMul, Nat.reduceLeDiff, Nat.reduceLT, Nat.reduceSub, ↓reduceIte, reduceCtorEq]
  all_goals (rfl)

theorem k29b (p : Pg) (hr0 : p.rows.length ≤ maxLen) (hg : p.gain.length ≤ maxLen) (hc : ∀ r ∈ p.rows, r.coef.length ≤ maxLen) (l : List Sg) (hlm : l.length ≤ maxLen) (hwl : ∀ k, k < l.length → ∀ s, l.getD k sg0 = s → s.ws.length ≤ maxLen) (hU : usedV p p.rows l = .nm) : CallsA Try.prog 29 [.agg (encPg p), .sl 4 (encSgs l)] (.sl 1 (encI [])) := by
  have hk68 := k68 p hr0 hg hc p.rows l hlm hwl valid_okRw
  rw [hU] at hk68
  have hq : True := trivial
  refine callsA_of_tr Try.func29 rfl (Nat.le_of_ble_eq_true rfl) ?_
  simp only [Try.results29, envOf, Nat.reduceAdd]
  refine tr_seq fun K1 hK1 => ?_
  refine tr_region [1, 2] rfl rfl fun K hK => ?_
  iterate 2 refine evR_p ?_
  refine evR_e hK ?_; clear hK K
  refine hK1 _ ?_
  refine tr_seq fun K2 hK2 => ?_
  refine tr_region [6] rfl rfl fun K hK => ?_
  iterate 4 refine evR_p ?_
  refine evR_c (hc := hk68) (k := ?_)
  iterate 5 refine evR_p ?_
  refine evR_e hK ?_; clear hK K
  refine hK2 _ ?_
  refine tr_seq fun K3 hK3 => ?_
  refine tr_region [4] rfl rfl fun K hK => ?_
  refine evR_p ?_
  refine evR_stepX fun Kq hKq => Or.inr ?_
  simp (maxSteps := 4000000) (disch := first | assumption | omega | (simp only [go_sem, *]; done) | (simp only [go_sem, *]; omega)) only [stpM, go_sem, hq, Int.reduceToNat, Nat.reduceBEq, Nat.reduceEqDiff, Nat.reduceAdd, Nat.reduceMul, Nat.reduceLeDiff, Nat.reduceLT, Nat.reduceSub, ↓reduceIte, reduceCtorEq]
  refine ⟨[], ?_⟩
  simp (maxSteps := 4000000) (disch := first | assumption | omega | (simp only [go_sem, *]; done) | (simp only [go_sem, *]; omega)) only [V.mapL, V.map, gJ, footJ, inJ, AObj.map, ndJ, ltJ, V.domL, V.dom, AObj.dom, kC, kR, AObj.isC, hJ, backJ, List.any_cons, List.any_nil, Nat.ble_eq, Nat.blt_eq, Nat.reduceLT, Nat.reduceLeDiff, Bool.or_true, Bool.true_or, Bool.or_false, Bool.false_or, Bool.and_self, go_sem, hq, Int.reduceToNat, Nat.reduceBEq, Nat.reduceEqDiff, Nat.reduceAdd, Nat.reduceMul, Nat.reduceLeDiff, Nat.reduceLT, Nat.reduceSub, ↓reduceIte, reduceCtorEq]
  refine ⟨_, _, _, k73b, ?_⟩
  simp (maxSteps := 4000000) (disch := first | assumption | omega | (simp only [go_sem, *]; done) | (simp only [go_sem, *]; omega)) only [V.mapL, V.map, gJ, footJ, inJ, AObj.map, ndJ, ltJ, V.domL, V.dom, AObj.dom, kC, kR, AObj.isC, hJ, backJ, List.any_cons, List.any_nil, Nat.ble_eq, Nat.blt_eq, Nat.reduceLT, Nat.reduceLeDiff, Bool.or_true, Bool.true_or, Bool.or_false, Bool.false_or, Bool.and_self, go_sem, hq, Int.reduceToNat, Nat.reduceBEq, Nat.reduceEqDiff, Nat.reduceAdd, Nat.reduceMul, Nat.reduceLeDiff, Nat.reduceLT, Nat.reduceSub, ↓reduceIte, reduceCtorEq]
  (repeat (refine And.intro (by first | assumption | omega | decide | (simp; done) | (simp; omega) | (have hq := hvv hgt; omega) | (have hq := hvv hgt.1; omega) | (simp_all; done)) ?_))
  refine hKq _ ?_; clear hKq Kq
  refine evR_stepX fun Kq hKq => Or.inr ?_
  simp (maxSteps := 4000000) (disch := first | assumption | omega | (simp only [go_sem, *]; done) | (simp only [go_sem, *]; omega)) only [stpM, go_sem, hq, Int.reduceToNat, Nat.reduceBEq, Nat.reduceEqDiff, Nat.reduceAdd, Nat.reduceMul, Nat.reduceLeDiff, Nat.reduceLT, Nat.reduceSub, ↓reduceIte, reduceCtorEq]
  refine ⟨[1], ?_⟩
  simp (maxSteps := 4000000) (disch := first | assumption | omega | (simp only [go_sem, *]; done) | (simp only [go_sem, *]; omega)) only [V.mapL, V.map, gJ, footJ, inJ, AObj.map, ndJ, ltJ, V.domL, V.dom, AObj.dom, kC, kR, AObj.isC, hJ, backJ, List.any_cons, List.any_nil, Nat.ble_eq, Nat.blt_eq, Nat.reduceLT, Nat.reduceLeDiff, Bool.or_true, Bool.true_or, Bool.or_false, Bool.false_or, Bool.and_self, go_sem, hq, Int.reduceToNat, Nat.reduceBEq, Nat.reduceEqDiff, Nat.reduceAdd, Nat.reduceMul, Nat.reduceLeDiff, Nat.reduceLT, Nat.reduceSub, ↓reduceIte, reduceCtorEq]
  refine ⟨_, _, _, k72n, ?_⟩
  simp (maxSteps := 4000000) (disch := first | assumption | omega | (simp only [go_sem, *]; done) | (simp only [go_sem, *]; omega)) only [V.mapL, V.map, gJ, footJ, inJ, AObj.map, ndJ, ltJ, V.domL, V.dom, AObj.dom, kC, kR, AObj.isC, hJ, backJ, List.any_cons, List.any_nil, Nat.ble_eq, Nat.blt_eq, Nat.reduceLT, Nat.reduceLeDiff, Bool.or_true, Bool.true_or, Bool.or_false, Bool.false_or, Bool.and_self, go_sem, hq, Int.reduceToNat, Nat.reduceBEq, Nat.reduceEqDiff, Nat.reduceAdd, Nat.reduceMul, Nat.reduceLeDiff, Nat.reduceLT, Nat.reduceSub, ↓reduceIte, reduceCtorEq]
  (repeat (refine And.intro (by first | assumption | omega | decide | (simp; done) | (simp; omega) | (have hq := hvv hgt; omega) | (have hq := hvv hgt.1; omega) | (simp_all; done)) ?_))
  refine hKq _ ?_; clear hKq Kq
  refine evR_p ?_
  refine evR_e hK ?_; clear hK K
  refine hK3 _ ?_
  refine tr_ret ?_
  (try simp only [thenE, inBlkE])
  simp (maxSteps := 4000000) (disch := first | assumption | omega | (simp only [go_sem, *]; done) | (simp only [go_sem, *]; omega)) only [postA, postO, resV1, fzAll, go_sem, hq, Int.reduceToNat, Nat.reduceBEq, Nat.reduceEqDiff, Nat.reduceAdd, Nat.reduceMul, Nat.reduceLeDiff, Nat.reduceLT, Nat.reduceSub, ↓reduceIte, reduceCtorEq]
  all_goals (rfl)
theorem k29 (p : Pg) (hr0 : p.rows.length ≤ maxLen) (hg : p.gain.length ≤ maxLen) (hc : ∀ r ∈ p.rows, r.coef.length ≤ maxLen) (l : List Sg) (hlm : l.length ≤ maxLen) (hwl : ∀ k, k < l.length → ∀ s, l.getD k sg0 = s → s.ws.length ≤ maxLen) : CallsA Try.prog 29 [.agg (encPg p), .sl 4 (encSgs l)] (.sl 1 (encI (usedI p l))) := by
  rcases usedV_cases p p.rows l with h | ⟨es, h⟩
  · rw [usedI_nm h]; exact k29b p hr0 hg hc l hlm hwl h
  · obtain ⟨h1, h2, h3⟩ := usedI_fm h
    rw [h1]
    exact k29a p hr0 hg hc l hlm hwl es h (by have := h2.len; omega) (fun k hk => wf_small (by have := h2.rg k hk; omega))

end Go.Proofs.Ytfamkbofdamkkaa


namespace Go.Proofs.Ytfamkbofdamkkaa
open Go.RowKit
set_option linter.unusedVariables false
set_option linter.unusedSimpArgs false
def lf (ws : List Wt) : Sg := ⟨-1, 0, 0, ws⟩
def spP : Pg := ⟨2, [⟨0, 0, 0, 0, [2, 2], 3⟩, ⟨0, 0, 0, 0, [-1, -1], -2⟩], [3, 4]⟩
def spQ : Pg := ⟨2, [⟨0, 0, 0, 0, [2, 2], 3⟩], [3, 4]⟩
def spN : Pg := ⟨-1, [], []⟩
def pf1 : List Sg := [lf [⟨0, 1⟩, ⟨1, 2⟩]]
def pf2 : List Sg := [lf [⟨0, 1⟩]]
def pf3 : List Sg := [⟨0, 1, 2, []⟩, lf [⟨1, 1⟩], ⟨1, 3, 4, []⟩, lf [⟨1, 1⟩], lf [⟨0, 1⟩]]
def pfG : List Sg := [lf [⟨0, 2⟩, ⟨1, 1⟩]]
theorem hwl_of {l : List Sg} (h : ∀ s ∈ l, s.ws.length ≤ 1000) : ∀ k, k < l.length → ∀ s, l.getD k sg0 = s → s.ws.length ≤ maxLen := fun k hk s hs => by
  have := h _ (hs ▸ getD_mem hk); unfold maxLen; omega
theorem spw1 : ∀ k, k < pf1.length → ∀ s, pf1.getD k sg0 = s → s.ws.length ≤ maxLen := hwl_of (by simp [pf1, lf])
theorem spw2 : ∀ k, k < pf2.length → ∀ s, pf2.getD k sg0 = s → s.ws.length ≤ maxLen := hwl_of (by simp [pf2, lf])
theorem spw3 : ∀ k, k < pf3.length → ∀ s, pf3.getD k sg0 = s → s.ws.length ≤ maxLen := hwl_of (by simp [pf3, lf])
theorem spwG : ∀ k, k < pfG.length → ∀ s, pfG.getD k sg0 = s → s.ws.length ≤ maxLen := hwl_of (by simp [pfG, lf])
theorem spwn : ∀ k, k < ([] : List Sg).length → ∀ s, ([] : List Sg).getD k sg0 = s → s.ws.length ≤ maxLen := hwl_of (by simp)
theorem r1 : refutesW spP pf1 = true := by decide
theorem r2 : refutesW spP pf2 = false := by decide
theorem r3 : refutesW spP pf3 = true := by decide
theorem rG : refutesW spQ pfG = false := by decide
theorem q1 : wrongW spP pf1 = -1 := by decide
theorem q2 : wrongW spP pf2 = 0 := by decide
theorem qN : wrongW spN pf1 = -2 := by decide
theorem qE : wrongW spP [] = 0 := by decide
theorem b6 : boundsW spQ pfG 6 = true := by decide
theorem b5 : boundsW spQ pfG 5 = false := by decide
theorem u1 : usedI spP pf1 = [0, 1] := by
  have h1 : validB spP = true := by decide
  have h2 : wrkP spP.vars spP.rows pf1 = none := by decide
  have h3 : keyU (usN pf1 pf1.length 0 []) = [0, 1] := by decide
  unfold usedI sortU
  rw [if_pos ⟨h1, by decide⟩, h2, h3]
  exact List.mergeSort_of_pairwise (by decide)
theorem u2 : usedI spP pf2 = [] := by
  have h2 : wrkP spP.vars spP.rows pf2 = some 0 := by decide
  unfold usedI
  rw [h2]
  split <;> rfl
theorem l3 : leavesN pf3 pf3.length = 3 := by decide
def pv3 : V := .sl 4 [[.int .i64 0, .int .i64 1, .int .i64 2, .nsl], encSg (lf [⟨1, 1⟩]), [.int .i64 1, .int .i64 3, .int .i64 4, .nsl], encSg (lf [⟨1, 1⟩]), encSg (lf [⟨0, 1⟩])]
theorem pv3_le : V.Le pv3 (.sl 4 (encSgs pf3)) := by
  refine .sl 4 rfl (fun i hi => ?_) (fun i j hi => ?_)
  · have h : i = 0 ∨ i = 1 ∨ i = 2 ∨ i = 3 ∨ i = 4 := by simp at hi; omega
    rcases h with rfl | rfl | rfl | rfl | rfl <;> rfl
  · have h : i = 0 ∨ i = 1 ∨ i = 2 ∨ i = 3 ∨ i = 4 := by simp at hi; omega
    rcases h with rfl | rfl | rfl | rfl | rfl
    · match j with
      | 0 | 1 | 2 => exact .refl _
      | 3 => exact .nsl 2
      | j + 4 => exact .refl _
    · exact .refl _
    · match j with
      | 0 | 1 | 2 => exact .refl _
      | 3 => exact .nsl 2
      | j + 4 => exact .refl _
    · exact .refl _
    · exact .refl _
theorem s24_1 : CallsA Try.prog 24 [.agg (encPg spP), .sl 4 (encSgs pf1)] (.bool true) := r1 ▸ k24 spP (by simp [spP, maxLen]) (by simp [spP, maxLen]) (by simp [spP, maxLen]) pf1 (by simp [pf1, maxLen]) spw1
theorem s24_2 : CallsA Try.prog 24 [.agg (encPg spP), .sl 4 (encSgs pf2)] (.bool false) := r2 ▸ k24 spP (by simp [spP, maxLen]) (by simp [spP, maxLen]) (by simp [spP, maxLen]) pf2 (by simp [pf2, maxLen]) spw2
theorem s24_3 : CallsA Try.prog 24 [.agg (encPg spP), pv3] (.bool true) := (r3 ▸ k24 spP (by simp [spP, maxLen]) (by simp [spP, maxLen]) (by simp [spP, maxLen]) pf3 (by simp [pf3, maxLen]) spw3 : CallsA Try.prog 24 [.agg (encPg spP), .sl 4 (encSgs pf3)] (.bool true)).arg (.cons (.refl _) (.cons pv3_le .nil))
theorem s24_G : CallsA Try.prog 24 [.agg (encPg spQ), .sl 4 (encSgs pfG)] (.bool false) := rG ▸ k24 spQ (by simp [spQ, maxLen]) (by simp [spQ, maxLen]) (by simp [spQ, maxLen]) pfG (by simp [pfG, maxLen]) spwG
theorem s26_1 : CallsA Try.prog 26 [.agg (encPg spP), .sl 4 (encSgs pf1)] (.int .i64 (-1)) := q1 ▸ k26 spP (by simp [spP, maxLen]) (by simp [spP, maxLen]) (by simp [spP, maxLen]) pf1 (by simp [pf1, maxLen]) spw1
theorem s26_2 : CallsA Try.prog 26 [.agg (encPg spP), .sl 4 (encSgs pf2)] (.int .i64 0) := q2 ▸ k26 spP (by simp [spP, maxLen]) (by simp [spP, maxLen]) (by simp [spP, maxLen]) pf2 (by simp [pf2, maxLen]) spw2
theorem s26_N : CallsA Try.prog 26 [.agg [.int .i64 (-1), .nsl, .nsl], .sl 4 (encSgs pf1)] (.int .i64 (-2)) := (qN ▸ k26 spN (by simp [spN, maxLen]) (by simp [spN, maxLen]) (by simp [spN, maxLen]) pf1 (by simp [pf1, maxLen]) spw1 : CallsA Try.prog 26 [.agg (encPg spN), .sl 4 (encSgs pf1)] (.int .i64 (-2))).arg (.cons (.agg (.cons (.refl _) (.cons (.nsl 6) (.cons (.nsl 1) .nil)))) (.cons (.refl _) .nil))
theorem s26_E : CallsA Try.prog 26 [.agg (encPg spP), .nsl] (.int .i64 0) := (qE ▸ k26 spP (by simp [spP, maxLen]) (by simp [spP, maxLen]) (by simp [spP, maxLen]) [] (by simp [maxLen]) spwn : CallsA Try.prog 26 [.agg (encPg spP), .sl 4 (encSgs [])] (.int .i64 0)).arg (.cons (.refl _) (.cons (.nsl 4) .nil))
theorem s29_1 : CallsA Try.prog 29 [.agg (encPg spP), .sl 4 (encSgs pf1)] (.sl 1 (encI [0, 1])) := u1 ▸ k29 spP (by simp [spP, maxLen]) (by simp [spP, maxLen]) (by simp [spP, maxLen]) pf1 (by simp [pf1, maxLen]) spw1
theorem s29_2 : CallsA Try.prog 29 [.agg (encPg spP), .sl 4 (encSgs pf2)] (.sl 1 (encI [])) := u2 ▸ k29 spP (by simp [spP, maxLen]) (by simp [spP, maxLen]) (by simp [spP, maxLen]) pf2 (by simp [pf2, maxLen]) spw2
theorem s32_6 : CallsA Try.prog 32 [.agg (encPg spQ), .sl 4 (encSgs pfG), .int .i64 6] (.bool true) := b6 ▸ k32 spQ (by simp [spQ, maxLen]) (by simp [spQ, maxLen]) (by simp [spQ, maxLen]) pfG (by simp [pfG, maxLen]) spwG (by simp [spQ]) (by simp [spQ]) 6
theorem s32_5 : CallsA Try.prog 32 [.agg (encPg spQ), .sl 4 (encSgs pfG), .int .i64 5] (.bool false) := b5 ▸ k32 spQ (by simp [spQ, maxLen]) (by simp [spQ, maxLen]) (by simp [spQ, maxLen]) pfG (by simp [pfG, maxLen]) spwG (by simp [spQ]) (by simp [spQ]) 5
theorem s22 : CallsA Try.prog 22 [pv3] (.tup [.int .i64 2, .int .i64 3]) := by
  have h := k22 pf3 (by simp [pf3, maxLen])
  rw [l3] at h
  exact h.arg (.cons pv3_le .nil)
end Go.Proofs.Ytfamkbofdamkkaa

namespace Go.Proofs.Ytfamkbofdamkkaa
open Go.RowKit
set_option linter.unusedVariables false
set_option linter.unusedSimpArgs false
set_option maxRecDepth 100000
attribute [local go_sem] Nat.zero_add Nat.add_zero Nat.mul_one eq_self ne_eq not_true_eq_false not_false_eq_true decide_true decide_false decide_not Bool.false_eq_true List.filter_cons List.filter_nil true_and and_true beq_false beq_true Bool.not_true Bool.not_false Bool.and_true Bool.true_and Option.getD_some Option.getD_none imp_self implies_true Int.toNat_natCast List.cons_append List.nil_append List.map_cons List.map_nil List.length_cons List.length_nil List.getD_cons_zero List.getD_cons_succ List.drop_zero List.drop_succ_cons List.take_succ_cons List.take_zero
attribute [local go_sem] lowN lowQ lowM isAl appOwn unw appF isE isO stpO notIn St.bare evO evDO isEff stp St.get St.slot St.put List.lookup un unL ofVal gof nth pickV pkB_false pkB_true binV unV loadV idxV fldV partV buildV fillV lenV sliV appV appR rowsV winV V.parts V.okp V.sc Mem.look_cons Mem.look_nil V.cl V.clL AObj.clo fzAll exps St.fz Mem.fz V.fz V.fzL AObj.fz Option.isSome_some Option.isSome_none Bool.or_true Bool.true_or Bool.or_false Bool.false_or false_and and_false false_or or_false arT_22 arT_23 arT_25 arT_24 arT_40 arT_30  arT_65 arT_28 arT_90  arT_52 boolT_25 boolT_3 boolT_35 boolT_4  flatT_25 flatT_3 flatT_35 flatT_4  intT_3 intT_133 lay_23 lay_25 lay_67 lay_24 lay_27 lay_3 lay_49 lay_30 lay_34 lay_4 lay_65 lay_52 lay_54 lay_56 lay_141 lay_164  okF_17 okF_31  okF_36 okF_18 okF_34 okF_63  okF_28 okF_50 okF_69 okF_51  okF_35       okF_37   okF_71  okF_65  okF_62 okF_77 okF_79  okF_80 okF_81 okF_64 okF_66 okF_76 okF_113 okF_96 okF_97 okF_98 okF_82  okF_99 okF_119 okF_120 okF_78 okF_100 okF_101 okF_83 okF_84 okF_125 okF_126  okF_127 okF_128 okF_129 okF_130 okF_114 okF_124 okF_140 okF_141 okF_142 okF_143  okF_131 okF_132 okF_144 okF_158 okF_155 okF_159   plT_67 plT_27 plT_34 plT_54 plT_56 slT_22 slT_23 slT_25 slT_24 slT_40 slT_30  slT_65 slT_28 slT_90  slT_52  stT_67_1   stT_67_4 stT_67_5 stT_27_0 stT_27_1 stT_27_2 stT_34_0 stT_34_1 stT_34_2 stT_34_3 stT_54_0 stT_54_1 stT_54_2 stT_54_3 stT_56_0 stT_56_1  zeroT_67 zeroT_27 zeroT_3 zeroT_49 zeroT_30 zeroT_34 zeroT_65  zeroT_54 zeroT_56
attribute [local go_sem] List.getElem?_cons_zero List.getElem?_cons_succ List.zip_cons_cons List.zip_nil_left List.zip_nil_right Bool.false_and Bool.and_false List.length_append List.length_set List.length_replicate List.all_cons List.all_nil encI_length encI_getD encR_length encR_getD encRw encPg spl shp AObj.shp rowM isSt isRpS isRd csh AObj.csh forall_const imp_self
attribute [local simp] encI_length encR_length
theorem c53 (p : Pg) (hr : p.rows.length ≤ maxLen) (hg : p.gain.length ≤ maxLen) (hc : ∀ r ∈ p.rows, r.coef.length ≤ maxLen) (set : Int) : CallsA Try.prog 78 [.agg (encPg p), .int .i64 set] (.bool (choiceB p set)) := by
  have hvv := @validB_vars p
  have hq : True := trivial
  refine callsA_of_tr Try.func78 rfl (Nat.le_of_ble_eq_true rfl) ?_
  simp only [Try.results78, envOf, Nat.reduceAdd]
  refine tr_seq fun K1 hK1 => ?_
  refine tr_region [1, 2] rfl rfl fun K hK => ?_
  iterate 2 refine evR_p ?_
  refine evR_e hK ?_; clear hK K
  refine hK1 _ ?_
  refine tr_seq fun K2 hK2 => ?_
  refine tr_region [4] rfl rfl fun K hK => ?_
  refine evR_p ?_
  refine evR_c (hc := (c20 p hr hg hc)) (k := ?_)
  refine evR_p ?_
  iterate 5 refine evR_g ?_
  refine evR_gc (hc := (c49 _ _ _)) (k := ?_)
  iterate 2 refine evR_p ?_
  refine evR_e hK ?_; clear hK K
  refine hK2 _ ?_
  refine tr_ret ?_
  (try simp only [thenE, inBlkE])
  simp (maxSteps := 4000000) (disch := first | assumption | omega | (simp only [go_sem, *]; done) | (simp only [go_sem, *]; omega)) only [postA, postO, resV1, fzAll, go_sem, hq, Int.reduceToNat, Nat.reduceBEq, Nat.reduceEqDiff, Nat.reduceAdd, Nat.reduceMul, Nat.reduceLeDiff, Nat.reduceLT, Nat.reduceSub, ↓reduceIte, reduceCtorEq]
  all_goals (simp [choiceB])

theorem c54 (r : Rw) (hm : r.coef.length ≤ maxLen) (set : Int) : CallsA Try.prog 100 [.agg (encRw r), .ep [.int .i64 set]] (.bool (keptB r set)) := by
  have hq : True := trivial
  refine callsA_of_tr Try.func100 rfl (Nat.le_of_ble_eq_true rfl) ?_
  simp only [Try.results100, envOf, Nat.reduceAdd]
  refine tr_seq fun K1 hK1 => ?_
  refine tr_region [1, 2] rfl rfl fun K hK => ?_
  iterate 2 refine evR_p ?_
  refine evR_e hK ?_; clear hK K
  refine hK1 _ ?_
  refine tr_seq fun K2 hK2 => ?_
  refine tr_region [3] rfl rfl fun K hK => ?_
  iterate 2 refine evR_p ?_
  refine evR_c (hc := (c55 r hm set)) (k := ?_)
  refine evR_p ?_
  refine evR_e hK ?_; clear hK K
  refine hK2 _ ?_
  refine tr_ret ?_
  (try simp only [thenE, inBlkE])
  simp (maxSteps := 4000000) (disch := first | assumption | omega | (simp only [go_sem, *]; done) | (simp only [go_sem, *]; omega)) only [postA, postO, resV1, fzAll, go_sem, hq, Int.reduceToNat, Nat.reduceBEq, Nat.reduceEqDiff, Nat.reduceAdd, Nat.reduceMul, Nat.reduceLeDiff, Nat.reduceLT, Nat.reduceSub, ↓reduceIte, reduceCtorEq]
  all_goals (skip)

theorem c22 (p : Pg) (hr : p.rows.length ≤ maxLen) (hg : p.gain.length ≤ maxLen) (hc : ∀ r ∈ p.rows, r.coef.length ≤ maxLen) (set : Int) : CallsA Try.prog 51 [.agg (encPg p), .int .i64 set] (.bool (keepsB p set)) := by
  have hq : True := trivial
  refine callsA_of_tr Try.func51 rfl (Nat.le_of_ble_eq_true rfl) ?_
  simp only [Try.results51, envOf, Nat.reduceAdd]
  refine tr_seq fun K1 hK1 => ?_
  refine tr_region [2, 3] rfl rfl fun K hK => ?_
  iterate 3 refine evR_p ?_
  refine evR_e hK ?_; clear hK K
  refine hK1 _ ?_
  refine tr_seq fun K2 hK2 => ?_
  refine tr_fz [.ptr 1 0] (by simp (maxSteps := 4000000) (disch := first | assumption | omega | (simp only [go_sem, *]; done) | (simp only [go_sem, *]; omega)) only [go_sem, hq, Int.reduceToNat, Nat.reduceBEq, Nat.reduceEqDiff, Nat.reduceAdd, Nat.reduceMul, Nat.reduceLeDiff, Nat.reduceLT, Nat.reduceSub, ↓reduceIte, reduceCtorEq]; (try rfl)) ?_
  refine tr_region [4] rfl rfl fun K hK => ?_
  iterate 2 refine evR_p ?_
  refine evR_c (hc := (c53 p hr hg hc set)) (k := ?_)
  refine evR_p ?_
  iterate 3 refine evR_g ?_
  refine evR_gc (hc := (c46 p.rows 100 [.ep [.int .i64 set]] (fun r => keptB r set) okF_100 rfl (fun r h => c54 r (hc r h) set) hr)) (k := ?_)
  iterate 2 refine evR_p ?_
  refine evR_e hK ?_; clear hK K
  refine hK2 _ ?_
  refine tr_ret ?_
  (try simp only [thenE, inBlkE])
  simp (maxSteps := 4000000) (disch := first | assumption | omega | (simp only [go_sem, *]; done) | (simp only [go_sem, *]; omega)) only [postA, postO, resV1, fzAll, go_sem, hq, Int.reduceToNat, Nat.reduceBEq, Nat.reduceEqDiff, Nat.reduceAdd, Nat.reduceMul, Nat.reduceLeDiff, Nat.reduceLT, Nat.reduceSub, ↓reduceIte, reduceCtorEq]
  all_goals (simp [keepsB])

theorem c24 (p : Pg) (hr : p.rows.length ≤ maxLen) (hg : p.gain.length ≤ maxLen) (hc : ∀ r ∈ p.rows, r.coef.length ≤ maxLen) (set : Int) : CallsA Try.prog 35 [.agg (encPg p), .int .i64 set] (.int .i64 (gainW p set)) := by
  have hq : True := trivial
  refine callsA_of_tr Try.func35 rfl (Nat.le_of_ble_eq_true rfl) ?_
  simp only [Try.results35, envOf, Nat.reduceAdd]
  refine tr_seq fun K1 hK1 => ?_
  refine tr_region [1, 2] rfl rfl fun K hK => ?_
  iterate 2 refine evR_p ?_
  refine evR_e hK ?_; clear hK K
  refine hK1 _ ?_
  refine tr_seq fun K2 hK2 => ?_
  refine tr_seq fun K3 hK3 => ?_
  refine tr_region [1, 2, 8] rfl rfl fun K hK => ?_
  iterate 2 refine evR_p ?_
  refine evR_c (hc := (c53 p hr hg hc set)) (k := ?_)
  refine evR_p ?_
  refine evR_e hK ?_; clear hK K
  refine hK3 _ ?_
  refine tr_condB (fun ht1 => ?_) (fun ht1 => ?_)
  · skip
    refine tr_seq fun K4 hK4 => ?_
    refine tr_region [4] rfl rfl fun K hK => ?_
    refine evR_p ?_
    refine evR_e hK ?_; clear hK K
    refine hK4 _ ?_
    refine tr_ret ?_
    (try simp only [thenE, inBlkE])
    simp (maxSteps := 4000000) (disch := first | assumption | omega | (simp only [go_sem, *]; done) | (simp only [go_sem, *]; omega)) only [postA, postO, resV1, fzAll, go_sem, hq, Int.reduceToNat, Nat.reduceBEq, Nat.reduceEqDiff, Nat.reduceAdd, Nat.reduceMul, Nat.reduceLeDiff, Nat.reduceLT, Nat.reduceSub, ↓reduceIte, reduceCtorEq]
    all_goals (simp [gainW, *])
  · skip
    refine tr_skip ?_
    (try simp only [thenE, inBlkE])
    refine hK2 _ ?_
    refine tr_seq fun K5 hK5 => ?_
    refine tr_region [4] rfl rfl fun K hK => ?_
    iterate 3 refine evR_p ?_
    refine evR_c (hc := (c39 _ _ hg)) (k := ?_)
    refine evR_p ?_
    refine evR_e hK ?_; clear hK K
    refine hK5 _ ?_
    refine tr_ret ?_
    (try simp only [thenE, inBlkE])
    simp (maxSteps := 4000000) (disch := first | assumption | omega | (simp only [go_sem, *]; done) | (simp only [go_sem, *]; omega)) only [postA, postO, resV1, fzAll, go_sem, hq, Int.reduceToNat, Nat.reduceBEq, Nat.reduceEqDiff, Nat.reduceAdd, Nat.reduceMul, Nat.reduceLeDiff, Nat.reduceLT, Nat.reduceSub, ↓reduceIte, reduceCtorEq]
    all_goals (simp [gainW, *])

theorem c19 (a b : List Int) (ha : a.length ≤ maxLen) (hb : b.length ≤ maxLen) : CallsA Try.prog 28 [.sl 1 (encI a), .sl 1 (encI b)] (.bool (decide (a = b))) := by
  unfold maxLen at ha hb
  have hq : True := trivial
  refine callsA_of_tr Try.func28 rfl (Nat.le_of_ble_eq_true rfl) ?_
  simp only [Try.results28, envOf, Nat.reduceAdd]
  refine tr_seq fun K1 hK1 => ?_
  refine tr_region [0, 1] rfl rfl fun K hK => ?_
  refine evR_p ?_
  refine evR_e hK ?_; clear hK K
  refine hK1 _ ?_
  refine tr_seq fun K2 hK2 => ?_
  refine tr_seq fun K3 hK3 => ?_
  refine tr_region [0, 1, 10] rfl rfl fun K hK => ?_
  iterate 5 refine evR_p ?_
  refine evR_e hK ?_; clear hK K
  refine hK3 _ ?_
  refine tr_condB (fun ht1 => ?_) (fun ht1 => ?_)
  · skip
    refine tr_seq fun K4 hK4 => ?_
    refine tr_region [4] rfl rfl fun K hK => ?_
    refine evR_p ?_
    refine evR_e hK ?_; clear hK K
    refine hK4 _ ?_
    refine tr_ret ?_
    (try simp only [thenE, inBlkE])
    simp (maxSteps := 4000000) (disch := first | assumption | omega | (simp only [go_sem, *]; done) | (simp only [go_sem, *]; omega)) only [postA, postO, resV1, fzAll, go_sem, hq, Int.reduceToNat, Nat.reduceBEq, Nat.reduceEqDiff, Nat.reduceAdd, Nat.reduceMul, Nat.reduceLeDiff, Nat.reduceLT, Nat.reduceSub, ↓reduceIte, reduceCtorEq]
    all_goals ((first | (simp only [V.bool.injEq]; symm; rw [decide_eq_false_iff_not]; exact ne_of_getD (by assumption)) | (simp only [V.bool.injEq]; symm; rw [decide_eq_true_iff]; exact eq_of_take (by omega) he) | (simp only [V.bool.injEq]; symm; rw [decide_eq_false_iff_not]; intro e; subst e; omega)))
  · skip
    refine tr_skip ?_
    (try simp only [thenE, inBlkE])
    refine hK2 _ ?_
    refine tr_seq fun K5 hK5 => ?_
    refine tr_seq fun K6 hK6 => ?_
    refine tr_region [0, 1, 5] rfl rfl fun K hK => ?_
    refine evR_p ?_
    refine evR_e hK ?_; clear hK K
    refine hK6 _ ?_
    refine tr_block ?_
    -- loop 1: live [0, 1, 5]
    refine tr_loopW (fun m σ => ∃ i, i + m = a.length ∧ a.take i = b.take i ∧ σ = ⟨[(0, .sl 1 (encI a)), (1, .sl 1 (encI b)), (5, .int .i64 (i : Nat))], [], 0⟩) (a.length) ?_ ?_
    · exact ⟨_, Wk.refl _, 0, by omega, rfl, rfl⟩
    · rintro m σ ⟨i, hi, he, rfl⟩ KL1 hKL1
      refine tr_seq fun K7 hK7 => ?_
      refine tr_seq fun K8 hK8 => ?_
      refine tr_region [0, 1, 5, 14] rfl rfl fun K hK => ?_
      iterate 4 refine evR_p ?_
      refine evR_e hK ?_; clear hK K
      refine hK8 _ ?_
      refine tr_condB (fun ht2 => ?_) (fun ht2 => ?_)
      · skip
        have hil : i < a.length := by omega
        have hil2 : i < b.length := by omega
        replace hq := And.intro hq (And.intro hil (hil2))
        refine tr_skip ?_
        (try simp only [thenE, inBlkE])
        refine hK7 _ ?_
        refine tr_seq fun K9 hK9 => ?_
        refine tr_block ?_
        refine tr_seq fun K10 hK10 => ?_
        refine tr_draw [] [0, 1, 5, 25] mixed rfl (by kernel_rfl) rfl fun K hK => ?_
        iterate 9 refine evD_p ?_
        refine evD_e hK ?_; clear hK K
        refine hK10 _ ?_
        refine tr_condB (fun ht3 => ?_) (fun ht3 => ?_)
        · skip
          refine tr_seq fun K11 hK11 => ?_
          refine tr_region [4] rfl rfl fun K hK => ?_
          refine evR_p ?_
          refine evR_e hK ?_; clear hK K
          refine hK11 _ ?_
          refine tr_ret ?_
          (try simp only [thenE, inBlkE])
          simp (maxSteps := 4000000) (disch := first | assumption | omega | (simp only [go_sem, *]; done) | (simp only [go_sem, *]; omega)) only [postA, postO, resV1, fzAll, go_sem, hq, Int.reduceToNat, Nat.reduceBEq, Nat.reduceEqDiff, Nat.reduceAdd, Nat.reduceMul, Nat.reduceLeDiff, Nat.reduceLT, Nat.reduceSub, ↓reduceIte, reduceCtorEq]
          all_goals ((first | (simp only [V.bool.injEq]; symm; rw [decide_eq_false_iff_not]; exact ne_of_getD (by assumption)) | (simp only [V.bool.injEq]; symm; rw [decide_eq_true_iff]; exact eq_of_take (by omega) he) | (simp only [V.bool.injEq]; symm; rw [decide_eq_false_iff_not]; intro e; subst e; omega)))
        · skip
          refine tr_skip ?_
          (try simp only [thenE, inBlkE])
          refine hK9 _ ?_
          refine tr_region [0, 1, 5] rfl rfl fun K hK => ?_
          iterate 3 refine evR_p ?_
          refine evR_e hK ?_; clear hK K
          refine hKL1 _ ?_
          exact ⟨m - 1, _, by omega, Wk.refl _, i + 1, by omega, take_one_eq hil hil2 he (by assumption), by rw [w64 (x := (i : Int) + 1) (by omega)]; rfl⟩
      · skip
        have hil : i = a.length := by omega
        subst hil
        refine tr_exit ?_
        simp only [thenE, inBlkE, Nat.reduceEqDiff, ↓reduceIte]
        refine hK5 _ ?_
        refine tr_seq fun K12 hK12 => ?_
        refine tr_region [4] rfl rfl fun K hK => ?_
        refine evR_p ?_
        refine evR_e hK ?_; clear hK K
        refine hK12 _ ?_
        refine tr_ret ?_
        (try simp only [thenE, inBlkE])
        simp (maxSteps := 4000000) (disch := first | assumption | omega | (simp only [go_sem, *]; done) | (simp only [go_sem, *]; omega)) only [postA, postO, resV1, fzAll, go_sem, hq, Int.reduceToNat, Nat.reduceBEq, Nat.reduceEqDiff, Nat.reduceAdd, Nat.reduceMul, Nat.reduceLeDiff, Nat.reduceLT, Nat.reduceSub, ↓reduceIte, reduceCtorEq]
        all_goals ((first | (simp only [V.bool.injEq]; symm; rw [decide_eq_false_iff_not]; exact ne_of_getD (by assumption)) | (simp only [V.bool.injEq]; symm; rw [decide_eq_true_iff]; exact eq_of_take (by omega) he) | (simp only [V.bool.injEq]; symm; rw [decide_eq_false_iff_not]; intro e; subst e; omega)))

end Go.Proofs.Ytfamkbofdamkkaa


namespace Go.Proofs.Ytfamkbofdamkkaa
open Go.RowKit
set_option linter.unusedVariables false
set_option linter.unusedSimpArgs false
set_option maxRecDepth 100000
attribute [local go_sem] Nat.zero_add Nat.add_zero Nat.mul_one eq_self ne_eq not_true_eq_false not_false_eq_true decide_true decide_false decide_not Bool.false_eq_true List.filter_cons List.filter_nil true_and and_true beq_false beq_true Bool.not_true Bool.not_false Bool.and_true Bool.true_and Option.getD_some Option.getD_none imp_self implies_true Int.toNat_natCast List.cons_append List.nil_append List.map_cons List.map_nil List.length_cons List.length_nil List.getD_cons_zero List.getD_cons_succ List.drop_zero List.drop_succ_cons List.take_succ_cons List.take_zero
attribute [local go_sem] lowN lowQ lowM isAl appOwn unw appF isE isO stpO notIn St.bare evO evDO isEff stp St.get St.slot St.put List.lookup un unL ofVal gof nth pickV pkB_false pkB_true binV unV loadV idxV fldV partV buildV fillV lenV sliV appV appR rowsV winV V.parts V.okp V.sc Mem.look_cons Mem.look_nil V.cl V.clL AObj.clo fzAll exps St.fz Mem.fz V.fz V.fzL AObj.fz Option.isSome_some Option.isSome_none Bool.or_true Bool.true_or Bool.or_false Bool.false_or false_and and_false false_or or_false arT_104 arT_121 arT_160 arT_161 arT_22 arT_23 arT_24 arT_25 arT_28 arT_29 arT_30 arT_40 arT_42 arT_52 arT_60 arT_65 arT_72 arT_73 arT_76 arT_9 arT_90 boolT_182 boolT_25 boolT_3 boolT_35 boolT_4 boolT_76 flatT_182 flatT_25 flatT_3 flatT_35 flatT_4 flatT_76 intT_133 intT_169 intT_171 intT_188 intT_3 intT_5 lay_104 lay_112 lay_138 lay_141 lay_153 lay_160 lay_161 lay_164 lay_188 lay_23 lay_24 lay_25 lay_27 lay_28 lay_3 lay_30 lay_34 lay_4 lay_49 lay_52 lay_54 lay_56 lay_65 lay_67 lay_73 lay_76 lay_90 lay_99 mapT_112 okF_10 okF_100 okF_101 okF_102 okF_103 okF_104 okF_105 okF_106 okF_107 okF_108 okF_109 okF_11 okF_110 okF_111 okF_112 okF_113 okF_114 okF_115 okF_116 okF_117 okF_118 okF_119 okF_12 okF_120 okF_121 okF_122 okF_123 okF_124 okF_125 okF_126 okF_127 okF_128 okF_129 okF_13 okF_130 okF_131 okF_132 okF_133 okF_134 okF_135 okF_136 okF_137 okF_138 okF_139 okF_14 okF_140 okF_141 okF_142 okF_143 okF_144 okF_145 okF_146 okF_147 okF_148 okF_149 okF_15 okF_150 okF_151 okF_152 okF_153 okF_154 okF_155 okF_156 okF_157 okF_158 okF_159 okF_16 okF_160 okF_161 okF_162 okF_163 okF_164 okF_165 okF_166 okF_167 okF_168 okF_169 okF_17 okF_170 okF_171 okF_172 okF_173 okF_174 okF_175 okF_176 okF_177 okF_18 okF_19 okF_20 okF_21 okF_22 okF_23 okF_24 okF_25 okF_26 okF_27 okF_28 okF_29 okF_3 okF_30 okF_31 okF_32 okF_33 okF_34 okF_35 okF_36 okF_37 okF_38 okF_39 okF_4 okF_40 okF_41 okF_42 okF_43 okF_44 okF_45 okF_46 okF_47 okF_48 okF_49 okF_5 okF_50 okF_51 okF_52 okF_53 okF_54 okF_55 okF_56 okF_57 okF_58 okF_59 okF_6 okF_60 okF_61 okF_62 okF_63 okF_64 okF_65 okF_66 okF_67 okF_68 okF_69 okF_7 okF_70 okF_71 okF_72 okF_73 okF_74 okF_75 okF_76 okF_77 okF_78 okF_79 okF_8 okF_80 okF_81 okF_82 okF_83 okF_84 okF_85 okF_86 okF_87 okF_88 okF_89 okF_9 okF_90 okF_91 okF_92 okF_93 okF_94 okF_95 okF_96 okF_97 okF_98 okF_99 plT_138 plT_153 plT_157 plT_161 plT_27 plT_34 plT_54 plT_56 plT_67 plT_76 plT_90 plT_99 slT_104 slT_121 slT_160 slT_161 slT_22 slT_23 slT_24 slT_25 slT_28 slT_29 slT_30 slT_40 slT_42 slT_52 slT_60 slT_65 slT_72 slT_73 slT_76 slT_90 stT_138_0 stT_138_1 stT_153_0 stT_157_0 stT_157_1 stT_157_2 stT_157_3 stT_27_0 stT_27_1 stT_27_2 stT_34_0 stT_34_1 stT_34_2 stT_34_3 stT_54_0 stT_54_1 stT_54_2 stT_54_3 stT_56_0 stT_56_1 stT_67_1 stT_67_4 stT_67_5 stT_99_0 stT_99_1 strT_160 strT_76 strT_9 zeroT_112 zeroT_138 zeroT_153 zeroT_157 zeroT_160 zeroT_161 zeroT_188 zeroT_27 zeroT_3 zeroT_30 zeroT_34 zeroT_4 zeroT_49 zeroT_54 zeroT_56 zeroT_65 zeroT_67 zeroT_76 zeroT_90 zeroT_99
attribute [local go_sem] List.getElem?_cons_zero List.getElem?_cons_succ List.zip_cons_cons List.zip_nil_left List.zip_nil_right Bool.false_and Bool.and_false List.length_append List.length_set List.length_replicate List.all_cons List.all_nil encI_length encI_getD encR_length encR_getD encRw encPg spl shp AObj.shp rowM isSt isRpS isRd csh AObj.csh forall_const imp_self
attribute [local go_sem] encSg encW encSgs_length encWs_length encSgs_getD encWs_getD lookV lkM putM
attribute [local simp] encI_length encR_length cellsI_length encSgs_length encWs_length
theorem k38 (ws : List Wt) : CallsA Try.prog 38 [.sl 2 (encWs ws)] (.agg (encSg (lf ws))) := by
  have hq : True := trivial
  refine callsA_of_tr Try.func38 rfl (Nat.le_of_ble_eq_true rfl) ?_
  simp only [Try.results38, envOf, Nat.reduceAdd]
  refine tr_seq fun K1 hK1 => ?_
  refine tr_region [0, 2] rfl rfl fun K hK => ?_
  refine evR_p ?_
  refine evR_e hK ?_; clear hK K
  refine hK1 _ ?_
  refine tr_seq fun K2 hK2 => ?_
  refine tr_region [2] rfl rfl fun K hK => ?_
  iterate 3 refine evR_p ?_
  refine evR_e hK ?_; clear hK K
  refine hK2 _ ?_
  refine tr_ret ?_
  (try simp only [thenE, inBlkE])
  simp (maxSteps := 4000000) (disch := first | assumption | omega | (simp only [go_sem, *]; done) | (simp only [go_sem, *]; omega)) only [postA, postO, resV1, fzAll, go_sem, hq, Int.reduceToNat, Nat.reduceBEq, Nat.reduceEqDiff, Nat.reduceAdd, Nat.reduceMul, Nat.reduceLeDiff, Nat.reduceLT, Nat.reduceSub, ↓reduceIte, reduceCtorEq]
  all_goals (rfl)

section
attribute [local go_sem] lf
set_option maxHeartbeats 16000000 in
theorem k16  : CallsA Try.prog 16 [] (.bool true) := by
  have hq : True := trivial
  refine callsA_of_tr Try.func16 rfl (Nat.le_of_ble_eq_true rfl) ?_
  simp only [Try.results16, envOf, Nat.reduceAdd]
  refine tr_seq fun K1 hK1 => ?_
  refine tr_region [] rfl rfl fun K hK => ?_
  refine evR_p ?_
  refine evR_e hK ?_; clear hK K
  refine hK1 _ ?_
  refine tr_seq fun K2 hK2 => ?_
  refine tr_region [1] rfl rfl fun K hK => ?_
  refine evR_bs ?_
  refine evR_p ?_
  refine evR_bs ?_
  refine evR_p ?_
  iterate 2 refine evR_bs ?_
  iterate 3 refine evR_p ?_
  refine evR_e hK ?_; clear hK K
  refine hK2 _ ?_
  refine tr_seq fun K3 hK3 => ?_
  refine tr_region [1, 2] rfl rfl fun K hK => ?_
  iterate 2 refine evR_p ?_
  refine evR_bs ?_
  refine evR_c (hc := (k38 [⟨0, 1⟩, ⟨1, 2⟩])) (k := ?_)
  refine evR_bs ?_
  refine evR_p ?_
  refine evR_e hK ?_; clear hK K
  refine hK3 _ ?_
  refine tr_seq fun K4 hK4 => ?_
  refine tr_region [1, 2, 3] rfl rfl fun K hK => ?_
  refine evR_p ?_
  refine evR_bs ?_
  refine evR_c (hc := (k38 [⟨0, 1⟩])) (k := ?_)
  refine evR_bs ?_
  refine evR_p ?_
  refine evR_e hK ?_; clear hK K
  refine hK4 _ ?_
  refine tr_seq fun K5 hK5 => ?_
  refine tr_region [1, 2, 3, 4] rfl rfl fun K hK => ?_
  iterate 2 refine evR_p ?_
  refine evR_bs ?_
  refine evR_c (hc := (k38 [⟨1, 1⟩])) (k := ?_)
  iterate 2 refine evR_p ?_
  refine evR_bs ?_
  refine evR_c (hc := (k38 [⟨1, 1⟩])) (k := ?_)
  refine evR_p ?_
  refine evR_bs ?_
  refine evR_c (hc := (k38 [⟨0, 1⟩])) (k := ?_)
  refine evR_bs ?_
  refine evR_p ?_
  refine evR_e hK ?_; clear hK K
  refine hK5 _ ?_
  refine tr_seq fun K6 hK6 => ?_
  refine tr_region [1, 2, 3, 4, 5] rfl rfl fun K hK => ?_
  iterate 3 refine evR_p ?_
  refine evR_e hK ?_; clear hK K
  refine hK6 _ ?_
  refine tr_seq fun K7 hK7 => ?_
  refine tr_region [1, 2, 3, 4, 5] rfl rfl fun K hK => ?_
  iterate 5 refine evR_p ?_
  refine evR_e hK ?_; clear hK K
  refine hK7 _ ?_
  refine tr_seq fun K8 hK8 => ?_
  refine tr_region [1, 2, 3, 4, 5, 6] rfl rfl fun K hK => ?_
  iterate 2 refine evR_p ?_
  refine evR_bs ?_
  refine evR_c (hc := (k38 [⟨0, 2⟩, ⟨1, 1⟩])) (k := ?_)
  refine evR_bs ?_
  refine evR_p ?_
  refine evR_e hK ?_; clear hK K
  refine hK8 _ ?_
  refine tr_seq fun K9 hK9 => ?_
  refine tr_region [1, 2, 3, 4, 5, 6, 7, 8] rfl rfl fun K hK => ?_
  refine evR_p ?_
  refine evR_c (hc := s22) (k := ?_)
  iterate 5 refine evR_p ?_
  refine evR_e hK ?_; clear hK K
  refine hK9 _ ?_
  refine tr_seq fun K10 hK10 => ?_
  refine tr_region [1, 2, 3, 5, 6, 7, 8, 9] rfl rfl fun K hK => ?_
  iterate 2 refine evR_p ?_
  refine evR_c (hc := s24_1) (k := ?_)
  refine evR_p ?_
  iterate 2 refine evR_g ?_
  refine evR_gc (hc := s24_2) (k := ?_)
  refine evR_g ?_
  iterate 2 refine evR_p ?_
  iterate 2 refine evR_g ?_
  refine evR_gc (hc := s24_3) (k := ?_)
  iterate 2 refine evR_p ?_
  iterate 2 refine evR_g ?_
  refine evR_gc (hc := s26_1) (k := ?_)
  refine evR_g ?_
  iterate 2 refine evR_p ?_
  iterate 2 refine evR_g ?_
  refine evR_gc (hc := s26_2) (k := ?_)
  refine evR_g ?_
  iterate 2 refine evR_p ?_
  iterate 2 refine evR_g ?_
  refine evR_gc (hc := s26_N) (k := ?_)
  refine evR_g ?_
  iterate 2 refine evR_p ?_
  refine evR_g ?_
  refine evR_gc (hc := s26_E) (k := ?_)
  refine evR_g ?_
  iterate 2 refine evR_p ?_
  refine evR_e hK ?_; clear hK K
  refine hK10 _ ?_
  refine tr_seq fun K11 hK11 => ?_
  refine tr_region [0] rfl rfl fun K hK => ?_
  iterate 2 refine evR_p ?_
  iterate 2 refine evR_g ?_
  refine evR_gc (hc := s32_6) (k := ?_)
  iterate 2 refine evR_p ?_
  iterate 2 refine evR_g ?_
  refine evR_gc (hc := s32_5) (k := ?_)
  refine evR_g ?_
  iterate 2 refine evR_p ?_
  iterate 2 refine evR_g ?_
  refine evR_gc (hc := s24_G) (k := ?_)
  refine evR_g ?_
  iterate 2 refine evR_p ?_
  iterate 2 refine evR_g ?_
  refine evR_gc (hc := s29_1) (k := ?_)
  refine evR_g ?_
  refine evR_gc (hc := (c19 [0, 1] [0, 1] (by simp [maxLen]) (by simp [maxLen]))) (k := ?_)
  iterate 2 refine evR_p ?_
  iterate 2 refine evR_g ?_
  refine evR_gc (hc := s29_2) (k := ?_)
  iterate 2 refine evR_g ?_
  iterate 2 refine evR_p ?_
  iterate 2 refine evR_g ?_
  iterate 2 refine evR_p ?_
  iterate 2 refine evR_g ?_
  iterate 2 refine evR_p ?_
  refine evR_e hK ?_; clear hK K
  refine hK11 _ ?_
  refine tr_ret ?_
  (try simp only [thenE, inBlkE])
  simp (maxSteps := 4000000) (disch := first | assumption | omega | (simp only [go_sem, *]; done) | (simp only [go_sem, *]; omega)) only [postA, postO, resV1, fzAll, go_sem, hq, Int.reduceToNat, Nat.reduceBEq, Nat.reduceEqDiff, Nat.reduceAdd, Nat.reduceMul, Nat.reduceLeDiff, Nat.reduceLT, Nat.reduceSub, ↓reduceIte, reduceCtorEq]
  all_goals (rfl)
end

end Go.Proofs.Ytfamkbofdamkkaa


namespace Go.Proofs.Ytfamkbofdamkkaa
open Go.RowKit
set_option linter.unusedVariables false
set_option linter.unusedSimpArgs false
theorem encSt_le (s : Stp) (j : Nat) : V.Le0 ((encSt s).getD j .any) ((encSg (toSg s)).getD j .any) := by
  match j with
  | 0 | 1 | 2 => exact .refl _
  | 3 =>
    show V.Le0 (match s.leaf with | some i => V.sl 2 [[.int .i64 i, .int .i64 1]] | none => .nsl) (.sl 2 (encWs (toSg s).ws))
    cases h : s.leaf with
    | none => simp only [toSg, h]; exact .nsl 2
    | some i => simp only [toSg, h]; exact .refl _
  | j + 4 => exact .refl _
theorem encS_le (l : List Stp) : V.Le (.sl 4 (encS l)) (.sl 4 (encSgs (l.map toSg))) := by
  refine .sl 4 (by simp [encS, encSgs]) (fun i hi => ?_) (fun i j hi => ?_) <;> rw [encS_length] at hi
  · rw [encS_getD _ _ hi, encSgs_getD _ _ (by simpa using hi)]; rfl
  · rw [encS_getD _ _ hi, encSgs_getD _ _ (by simpa using hi), toSg_getD]; exact encSt_le _ j
theorem prf_sg (p : Pg) : (solveW p).proof.map toSg = prfS p := rfl
theorem prf_ws (p : Pg) : ∀ s ∈ prfS p, s.ws.length ≤ 1000 := by
  intro s hs
  obtain ⟨t, -, rfl⟩ := List.mem_map.1 hs
  simp only [toSg]
  cases t.leaf <;> simp
section
variable {p : Pg} (hv : validB p = true)
include hv
theorem cmp_bound (hf : (solveB p).1 = true) : boundsW p (prfS p) (solveB p).2.2 = true := by
  obtain ⟨s, -, -, -, h1, h2⟩ := solveB_gain hv hf
  exact prf_bounds hv hf ⟨h1, h2⟩
theorem cmp_less (hf : (solveB p).1 = true) {g : Int} (hg : g < (solveB p).2.2) : boundsW p (prfS p) g = false := by
  obtain ⟨v, hv1⟩ := Int.eq_ofNat_of_zero_le (validB_vars hv).1
  obtain ⟨s, e1, h1, h2⟩ := solveB_mem hf
  have hv2 : p.vars.toNat = v := by omega
  rw [hv2] at h1
  have h3 := best_no hv hv1 h1 h2
  rw [Bool.eq_false_iff]
  intro hb
  have h4 := bounds_true hb hv1 h1 h2
  have e2 : (solveW p).gain = (solveB p).2.2 := rfl
  have e3 : (solveW p).set = (solveB p).2.1 := rfl
  have h5 := h3.2.2.2
  rw [e2, e3, e1] at h5
  exact h5 ⟨rfl, by omega⟩
theorem cmp_ref (hf : (solveB p).1 = true) : refutesW p (prfS p) = false := by
  obtain ⟨v, hv1⟩ := Int.eq_ofNat_of_zero_le (validB_vars hv).1
  obtain ⟨s, e1, h1, h2⟩ := solveB_mem hf
  have hv2 : p.vars.toNat = v := by omega
  rw [hv2] at h1
  rw [Bool.eq_false_iff]
  intro hb
  rw [refutes_true hb hv1 h1] at h2
  cases h2
theorem cmp_wrong (hf : (solveB p).1 = false) : wrongW p (prfS p) = -1 := by
  have := prf_refutes hv hf
  unfold refutesW at this
  simpa using this
end
end Go.Proofs.Ytfamkbofdamkkaa

namespace Go.Proofs.Ytfamkbofdamkkaa
open Go.RowKit
set_option linter.unusedVariables false
set_option linter.unusedSimpArgs false
set_option maxRecDepth 100000
attribute [local go_sem] Nat.zero_add Nat.add_zero Nat.mul_one eq_self ne_eq not_true_eq_false not_false_eq_true decide_true decide_false decide_not Bool.false_eq_true List.filter_cons List.filter_nil true_and and_true beq_false beq_true Bool.not_true Bool.not_false Bool.and_true Bool.true_and Option.getD_some Option.getD_none imp_self implies_true Int.toNat_natCast List.cons_append List.nil_append List.map_cons List.map_nil List.length_cons List.length_nil List.getD_cons_zero List.getD_cons_succ List.drop_zero List.drop_succ_cons List.take_succ_cons List.take_zero
attribute [local go_sem] lowN lowQ lowM isAl appOwn unw appF isE isO stpO notIn St.bare evO evDO isEff stp St.get St.slot St.put List.lookup un unL ofVal gof nth pickV pkB_false pkB_true binV unV loadV idxV fldV partV buildV fillV lenV sliV appV appR rowsV winV V.parts V.okp V.sc Mem.look_cons Mem.look_nil V.cl V.clL AObj.clo fzAll exps St.fz Mem.fz V.fz V.fzL AObj.fz Option.isSome_some Option.isSome_none Bool.or_true Bool.true_or Bool.or_false Bool.false_or false_and and_false false_or or_false arT_22 arT_23 arT_25 arT_24 arT_40 arT_30  arT_65 arT_28 arT_90  arT_52 boolT_25 boolT_3 boolT_35 boolT_4  flatT_25 flatT_3 flatT_35 flatT_4  intT_3 intT_133 lay_23 lay_25 lay_67 lay_24 lay_27 lay_3 lay_49 lay_30 lay_34 lay_4 lay_65 lay_52 lay_54 lay_56 lay_141 lay_164  okF_17 okF_31  okF_36 okF_18 okF_34 okF_63  okF_28 okF_50 okF_69 okF_51  okF_35       okF_37   okF_71  okF_65  okF_62 okF_77 okF_79  okF_80 okF_81 okF_64 okF_66 okF_76 okF_113 okF_96 okF_97 okF_98 okF_82  okF_99 okF_119 okF_120 okF_78 okF_100 okF_101 okF_83 okF_84 okF_125 okF_126  okF_127 okF_128 okF_129 okF_130 okF_114 okF_124 okF_140 okF_141 okF_142 okF_143  okF_131 okF_132 okF_144 okF_158 okF_155 okF_159   plT_67 plT_27 plT_34 plT_54 plT_56 slT_22 slT_23 slT_25 slT_24 slT_40 slT_30  slT_65 slT_28 slT_90  slT_52  stT_67_1   stT_67_4 stT_67_5 stT_27_0 stT_27_1 stT_27_2 stT_34_0 stT_34_1 stT_34_2 stT_34_3 stT_54_0 stT_54_1 stT_54_2 stT_54_3 stT_56_0 stT_56_1  zeroT_67 zeroT_27 zeroT_3 zeroT_49 zeroT_30 zeroT_34 zeroT_65  zeroT_54 zeroT_56
attribute [local go_sem] List.getElem?_cons_zero List.getElem?_cons_succ List.zip_cons_cons List.zip_nil_left List.zip_nil_right Bool.false_and Bool.and_false List.length_append List.length_set List.length_replicate List.all_cons List.all_nil encI_length encI_getD encR_length encR_getD encRw encPg spl shp AObj.shp rowM isSt isRpS isRd csh AObj.csh forall_const imp_self
attribute [local simp] encI_length encR_length
section
attribute [local go_sem] encT_length encT_getD cellsI_length cellsI_getD cellsI_sc cellsI_cl cellsI_dropD encR_one List.length_drop
set_option maxHeartbeats 8000000 in
theorem c11 (v : Int) (x : List T3) (g : List Int) (hv : okI v) (hx : x.length ≤ maxLen) (hg : g.length = 8) : CallsA Try.prog 17 [.int .i64 v, .sl 3 (encT x), .agg (cellsI g)] (.agg (encPg (madeW v x g))) := by
  have r1 := pickW_range v (n := 9) (by omega) (by omega) hv
  have hx0 := hx
  unfold maxLen at hx0
  obtain ⟨n, hn⟩ := Int.eq_ofNat_of_zero_le r1.1
  have hn9 : n < 9 := by omega
  have hq := And.intro hn (hg)
  refine callsA_of_tr Try.func17 rfl (Nat.le_of_ble_eq_true rfl) ?_
  simp only [Try.results17, envOf, Nat.reduceAdd]
  refine tr_seq fun K1 hK1 => ?_
  refine tr_region [0, 1, 5, 6] rfl rfl fun K hK => ?_
  iterate 2 refine evR_p ?_
  refine evR_e hK ?_; clear hK K
  refine hK1 _ ?_
  refine tr_seq fun K2 hK2 => ?_
  refine tr_fz [.ptr 0 0] (by simp (maxSteps := 4000000) (disch := first | assumption | omega | (simp only [go_sem, *]; done) | (simp only [go_sem, *]; omega)) only [go_sem, hq, Int.reduceToNat, Nat.reduceBEq, Nat.reduceEqDiff, Nat.reduceAdd, Nat.reduceMul, Nat.reduceLeDiff, Nat.reduceLT, Nat.reduceSub, ↓reduceIte, reduceCtorEq]; (try rfl)) ?_
  refine tr_region [1, 5, 6, 7] rfl rfl fun K hK => ?_
  refine evR_p ?_
  refine evR_c (hc := (c37 _ _ (by decide))) (k := ?_)
  iterate 3 refine evR_p ?_
  refine evR_e hK ?_; clear hK K
  refine hK2 _ ?_
  refine tr_seq fun K3 hK3 => ?_
  refine tr_seq fun K4 hK4 => ?_
  refine tr_region [1, 5, 6, 7, 8] rfl rfl fun K hK => ?_
  refine evR_p ?_
  refine evR_e hK ?_; clear hK K
  refine hK4 _ ?_
  refine tr_block ?_
  -- loop 1: live [1, 5, 6, 7, 8]
  refine tr_loopW (fun m σ => ∃ i : Nat, i + m = n ∧ σ = ⟨[(1, .sl 3 (encT x)), (5, .ep (cellsI g)), (6, .ptr 1 0), (7, .ptr 2 0), (8, .int .i64 (i : Nat))], [(4, .row 3 1 (encI (gainM g i))), (3, .row 67 6 (encR [])), (2, .cells [.int .i64 (n : Nat), .own 3, .own 4]), (1, .cells [.int .i64 0, .nsl, .nsl])], 5⟩) (n) ?_ ?_
  · exact ⟨_, Wk.trans (Wk.nilown 67 6 2 1 rfl (Nat.le_of_ble_eq_true rfl) rfl) (Wk.nilown 3 1 2 2 rfl (Nat.le_of_ble_eq_true rfl) rfl), 0, by omega, rfl⟩
  · rintro m σ ⟨i, hi, rfl⟩ KL1 hKL1
    refine tr_seq fun K5 hK5 => ?_
    refine tr_seq fun K6 hK6 => ?_
    refine tr_region [1, 5, 6, 7, 8, 18] rfl rfl fun K hK => ?_
    iterate 4 refine evR_p ?_
    refine evR_e hK ?_; clear hK K
    refine hK6 _ ?_
    refine tr_condB (fun ht1 => ?_) (fun ht1 => ?_)
    · skip
      have hil : i < n := by omega
      have hi8 : i < 8 := by omega
      have hgl := gainM_length g i
      replace hq := And.intro hq (And.intro hil (And.intro hi8 (hgl)))
      refine tr_skip ?_
      (try simp only [thenE, inBlkE])
      refine hK5 _ ?_
      refine tr_seq fun K7 hK7 => ?_
      refine tr_block ?_
      refine tr_draw [28] [1, 5, 6, 7, 8] mixed rfl (by kernel_rfl) rfl fun K hK => ?_
      iterate 5 refine evD_p ?_
      refine evD_c (hc := (c37 _ _ (by decide))) (k := ?_)
      refine evD_p ?_
      refine evD_bs ?_
      iterate 3 refine evD_p ?_
      refine evD_e hK ?_; clear hK K
      refine hK7 _ ?_
      refine tr_region [1, 5, 6, 7, 8] rfl rfl fun K hK => ?_
      iterate 3 refine evR_p ?_
      refine evR_e hK ?_; clear hK K
      refine hKL1 _ ?_
      exact ⟨m - 1, _, by omega, (Wk.trans (Wk.ren 5 4 (Nat.le_of_ble_eq_true rfl) (Nat.le_of_ble_eq_true rfl) rfl) (Wk.cut 5 rfl)), i + 1, by omega, by rw [w64 (x := (i : Int) + 1) (by omega), gainM_succ, encI_snoc]; rfl⟩
    · skip
      have hil : i = n := by omega
      subst hil
      refine tr_exit ?_
      simp only [thenE, inBlkE, Nat.reduceEqDiff, ↓reduceIte]
      refine hK3 _ ?_
      refine tr_seq fun K8 hK8 => ?_
      refine tr_seq fun K9 hK9 => ?_
      refine tr_region [1, 6, 7, 9] rfl rfl fun K hK => ?_
      refine evR_p ?_
      refine evR_e hK ?_; clear hK K
      refine hK9 _ ?_
      refine tr_block ?_
      -- loop 2: live [1, 6, 7, 9]
      refine tr_loopW (fun m σ => ∃ j : Nat, j + m = min x.length 8 ∧ σ = ⟨[(1, .sl 3 (encT x)), (6, .ptr 1 0), (7, .ptr 2 0), (9, .int .i64 (j : Nat))], [(3, .row 67 6 (encR (rowsM i x j))), (4, .row 3 1 (encI (gainM g i))), (2, .cells [.int .i64 (i : Nat), .own 3, .own 4]), (1, .cells [.int .i64 0, .nsl, .nsl])], 5⟩) (min x.length 8) ?_ ?_
      · exact ⟨_, Wk.swap, 0, by omega, rfl⟩
      · rintro m2 σ ⟨j, hj, rfl⟩ KL2 hKL2
        refine tr_seq fun K10 hK10 => ?_
        refine tr_seq fun K11 hK11 => ?_
        refine tr_region [1, 6, 7, 9, 38] rfl rfl fun K hK => ?_
        iterate 5 refine evR_p ?_
        iterate 2 refine evR_g ?_
        refine evR_p ?_
        refine evR_e hK ?_; clear hK K
        refine hK11 _ ?_
        refine tr_condB (fun ht2 => ?_) (fun ht2 => ?_)
        · skip
          have hjl : j < x.length := by omega
          have hj8 : j < 8 := by omega
          have hrl := rowsM_length i x j
          have hw1 : IntKind.i64.wrap (1 + (j : Int)) = 1 + (j : Int) := w64 (by omega)
          replace hq := And.intro hq (And.intro hjl (And.intro hj8 (And.intro hrl (hw1))))
          refine tr_skip ?_
          (try simp only [thenE, inBlkE])
          refine hK10 _ ?_
          refine tr_seq fun K12 hK12 => ?_
          refine tr_block ?_
          refine tr_seq fun K13 hK13 => ?_
          refine tr_draw [45, 46, 47, 51, 52, 53] [1, 6, 7, 9, 10] mixed rfl (by kernel_rfl) rfl fun K hK => ?_
          iterate 7 refine evD_p ?_
          refine evD_c (hc := (c37 _ _ (by decide))) (k := ?_)
          iterate 5 refine evD_p ?_
          refine evD_c (hc := (c37 _ _ (by decide))) (k := ?_)
          iterate 4 refine evD_p ?_
          refine evD_e hK ?_; clear hK K
          refine hK13 _ ?_
          refine tr_seq fun K14 hK14 => ?_
          refine tr_seq fun K15 hK15 => ?_
          refine tr_region [1, 6, 7, 9, 10, 11] rfl rfl fun K hK => ?_
          refine evR_p ?_
          refine evR_e hK ?_; clear hK K
          refine hK15 _ ?_
          refine tr_block ?_
          -- loop 3: live [1, 6, 7, 9, 10, 11]
          refine tr_loopW (fun m σ => ∃ k : Nat, k + m = i ∧ σ = ⟨[(1, .sl 3 (encT x)), (6, .ptr 1 0), (7, .ptr 2 0), (9, .int .i64 (j : Nat)), (10, .ptr 5 0), (11, .int .i64 (k : Nat))], [(6, .row 3 1 (encI (coefM (x.getD j t30) k))), (5, .cells [.int .i64 (1 + (j : Int)), .int .i64 (pickW (x.getD j t30).p 9), .int .i64 0, .int .i64 0, .own 6, .int .i64 (IntKind.i64.wrap (pickW (x.getD j t30).r 30 - 4))]), (3, .row 67 6 (encR (rowsM i x j))), (4, .row 3 1 (encI (gainM g i))), (2, .cells [.int .i64 (i : Nat), .own 3, .own 4]), (1, .cells [.int .i64 0, .nsl, .nsl])], 7⟩) (i) ?_ ?_
          · exact ⟨_, (Wk.nilown 3 1 5 4 rfl (Nat.le_of_ble_eq_true rfl) rfl), 0, by omega, rfl⟩
          · rintro m3 σ ⟨k, hk, rfl⟩ KL3 hKL3
            refine tr_seq fun K16 hK16 => ?_
            refine tr_seq fun K17 hK17 => ?_
            refine tr_region [1, 6, 7, 9, 10, 11, 60] rfl rfl fun K hK => ?_
            iterate 4 refine evR_p ?_
            refine evR_e hK ?_; clear hK K
            refine hK17 _ ?_
            refine tr_condB (fun ht3 => ?_) (fun ht3 => ?_)
            · skip
              have hkl : k < i := by omega
              have hcl := coefM_length (x.getD j t30) k
              have hw2 : IntKind.i64.wrap (3 * (k : Int)) = 3 * (k : Int) := w64 (by omega)
              have hw3 : IntKind.i64.wrap (1 + 3 * (k : Int)) = 1 + 3 * (k : Int) := w64 (by omega)
              have hw4 : IntKind.i64.wrap (5 * (k : Int)) = 5 * (k : Int) := w64 (by omega)
              have hw5 : IntKind.i64.wrap (1 + 5 * (k : Int)) = 1 + 5 * (k : Int) := w64 (by omega)
              replace hq := And.intro hq (And.intro hkl (And.intro hcl (And.intro hw2 (And.intro hw3 (And.intro hw4 (hw5))))))
              refine tr_skip ?_
              (try simp only [thenE, inBlkE])
              refine hK16 _ ?_
              refine tr_seq fun K18 hK18 => ?_
              refine tr_block ?_
              refine tr_draw [67, 68, 69, 77, 78, 79, 86] [1, 6, 7, 9, 10, 11] mixed rfl (by kernel_rfl) rfl fun K hK => ?_
              iterate 11 refine evD_p ?_
              refine evD_c (hc := (c37 _ _ (by decide))) (k := ?_)
              iterate 9 refine evD_p ?_
              refine evD_c (hc := (c37 _ _ (by decide))) (k := ?_)
              refine evD_p ?_
              refine evD_bs ?_
              iterate 3 refine evD_p ?_
              refine evD_e hK ?_; clear hK K
              refine hK18 _ ?_
              refine tr_region [1, 6, 7, 9, 10, 11] rfl rfl fun K hK => ?_
              iterate 3 refine evR_p ?_
              refine evR_e hK ?_; clear hK K
              refine hKL3 _ ?_
              exact ⟨m3 - 1, _, by omega, (Wk.trans (Wk.ren 7 6 (Nat.le_of_ble_eq_true rfl) (Nat.le_of_ble_eq_true rfl) rfl) (Wk.cut 7 rfl)), k + 1, by omega, by rw [w64 (x := (k : Int) + 1) (by omega), coefM_succ, encI_snoc]; rfl⟩
            · skip
              have hkl : k = i := by omega
              subst hkl
              refine tr_exit ?_
              simp only [thenE, inBlkE, Nat.reduceEqDiff, ↓reduceIte]
              refine hK14 _ ?_
              refine tr_fz [.own 6] (by simp (maxSteps := 4000000) (disch := first | assumption | omega | (simp only [go_sem, *]; done) | (simp only [go_sem, *]; omega)) only [go_sem, hq, Int.reduceToNat, Nat.reduceBEq, Nat.reduceEqDiff, Nat.reduceAdd, Nat.reduceMul, Nat.reduceLeDiff, Nat.reduceLT, Nat.reduceSub, ↓reduceIte, reduceCtorEq]; (try rfl)) ?_
              refine tr_region [1, 6, 7, 9] rfl rfl fun K hK => ?_
              iterate 3 refine evR_p ?_
              refine evR_bs ?_
              iterate 3 refine evR_p ?_
              refine evR_e hK ?_; clear hK K
              refine hK12 _ ?_
              refine tr_region [1, 6, 7, 9] rfl rfl fun K hK => ?_
              iterate 3 refine evR_p ?_
              refine evR_e hK ?_; clear hK K
              refine hKL2 _ ?_
              exact ⟨m2 - 1, _, by omega, Wk.trans (Wk.drop (fun k => k != 5)) (Wk.trans (Wk.ren 7 3 (Nat.le_of_ble_eq_true rfl) (Nat.le_of_ble_eq_true rfl) rfl) (Wk.cut 5 rfl)), j + 1, by omega, by rw [w64 (x := (j : Int) + 1) (by omega), rowsM_succ]; rfl⟩
        · skip
          have hjl : j = min x.length 8 := by omega
          refine tr_exit ?_
          simp only [thenE, inBlkE, Nat.reduceEqDiff, ↓reduceIte]
          refine hK8 _ ?_
          refine tr_seq fun K19 hK19 => ?_
          refine tr_region [6] rfl rfl fun K hK => ?_
          iterate 2 refine evR_p ?_
          refine evR_e hK ?_; clear hK K
          refine hK19 _ ?_
          refine tr_ret ?_
          (try simp only [thenE, inBlkE])
          simp (maxSteps := 4000000) (disch := first | assumption | omega | (simp only [go_sem, *]; done) | (simp only [go_sem, *]; omega)) only [postA, postO, resV1, fzAll, go_sem, hq, Int.reduceToNat, Nat.reduceBEq, Nat.reduceEqDiff, Nat.reduceAdd, Nat.reduceMul, Nat.reduceLeDiff, Nat.reduceLT, Nat.reduceSub, ↓reduceIte, reduceCtorEq]
          all_goals ((subst hjl; simp only [madeW, encPg, hn, Int.toNat_natCast]))
end

theorem c33 (p : Pg) (hv : p.vars ≤ 1000) : CallsA Try.prog 71 [.agg (encPg p)] (.sl 1 (encI (List.replicate p.vars.toNat (-1)))) := by
  have hq : True := trivial
  refine callsA_of_trL Try.func71 rfl (Nat.le_of_ble_eq_true rfl) ?_
  simp only [Try.results71, envOf, Nat.reduceAdd]
  refine tr_seq fun K1 hK1 => ?_
  refine tr_region [1] rfl rfl fun K hK => ?_
  iterate 2 refine evR_p ?_
  refine evR_e hK ?_; clear hK K
  refine hK1 _ ?_
  refine tr_seq fun K2 hK2 => ?_
  refine tr_region [1, 3] rfl rfl fun K hK => ?_
  refine evR_p ?_
  refine evR_e hK ?_; clear hK K
  refine hK2 _ ?_
  refine tr_seq fun K3 hK3 => ?_
  refine tr_seq fun K4 hK4 => ?_
  refine tr_region [1, 3, 4] rfl rfl fun K hK => ?_
  refine evR_p ?_
  refine evR_e hK ?_; clear hK K
  refine hK4 _ ?_
  refine tr_block ?_
  -- loop 1: live [1, 3, 4]
  refine tr_loopW (fun m σ => ∃ i : Nat, i + m = p.vars.toNat ∧ ((i = 0 ∧ σ = ⟨[(1, .ptr 0 0), (3, .nsl), (4, .int .i64 (i : Nat))], [(0, .cells (encPg p))], 1⟩) ∨ (0 < i ∧ σ = ⟨[(1, .ptr 0 0), (3, .own 1), (4, .int .i64 (i : Nat))], [(1, .row 3 1 (encI (List.replicate i (-1)))), (0, .cells (encPg p))], 2⟩))) (p.vars.toNat) ?_ ?_
  · exact ⟨_, Wk.refl _, 0, by omega, .inl ⟨rfl, rfl⟩⟩
  · rintro m σ ⟨i, hi, (⟨hi0, rfl⟩ | ⟨hi0, rfl⟩)⟩ KL1 hKL1
    all_goals
      refine tr_seq fun K5 hK5 => ?_
      refine tr_seq fun K6 hK6 => ?_
      refine tr_region [1, 3, 4, 8] rfl rfl fun K hK => ?_
      iterate 4 refine evR_p ?_
      refine evR_e hK ?_; clear hK K
      refine hK6 _ ?_
      refine tr_condB (fun ht1 => ?_) (fun ht1 => ?_)
      · skip
        have hil : i < p.vars.toNat := by omega
        replace hq := And.intro hq (hil)
        refine tr_skip ?_
        (try simp only [thenE, inBlkE])
        refine hK5 _ ?_
        refine tr_seq fun K7 hK7 => ?_
        refine tr_block ?_
        refine tr_region [1, 3, 4] rfl rfl fun K hK => ?_
        refine evR_p ?_
        refine evR_bs ?_
        iterate 2 refine evR_p ?_
        refine evR_e hK ?_; clear hK K
        refine hK7 _ ?_
        refine tr_region [1, 3, 4] rfl rfl fun K hK => ?_
        iterate 3 refine evR_p ?_
        refine evR_e hK ?_; clear hK K
        refine hKL1 _ ?_
        first
          | exact ⟨m - 1, _, by omega, (Wk.trans (Wk.ren 2 1 (Nat.le_of_ble_eq_true rfl) (Nat.le_of_ble_eq_true rfl) rfl) (Wk.cut 2 rfl)), i + 1, by omega, .inr ⟨by omega, by subst hi0; rw [w64 (x := ((0 : Nat) : Int) + 1) (by omega)]; rfl⟩⟩
          | exact ⟨m - 1, _, by omega, (Wk.trans (Wk.ren 2 1 (Nat.le_of_ble_eq_true rfl) (Nat.le_of_ble_eq_true rfl) rfl) (Wk.cut 2 rfl)), i + 1, by omega, .inr ⟨by omega, by rw [w64 (x := (i : Int) + 1) (by omega), (show List.replicate (i + 1) (-1 : Int) = List.replicate i (-1) ++ [-1] from List.replicate_succ'), encI_snoc]; rfl⟩⟩
      · skip
        have hil : i = p.vars.toNat := by omega
        refine tr_exit ?_
        simp only [thenE, inBlkE, Nat.reduceEqDiff, ↓reduceIte]
        refine hK3 _ ?_
        refine tr_seq fun K8 hK8 => ?_
        refine tr_region [2] rfl rfl fun K hK => ?_
        iterate 2 refine evR_p ?_
        refine evR_e hK ?_; clear hK K
        refine hK8 _ ?_
        refine tr_ret ?_
        (try simp only [thenE, inBlkE])
        simp (maxSteps := 4000000) (disch := first | assumption | omega | (simp only [go_sem, *]; done) | (simp only [go_sem, *]; omega)) only [postA, postO, resV1, fzAll, go_sem, hq, Int.reduceToNat, Nat.reduceBEq, Nat.reduceEqDiff, Nat.reduceAdd, Nat.reduceMul, Nat.reduceLeDiff, Nat.reduceLT, Nat.reduceSub, ↓reduceIte, reduceCtorEq]
        all_goals ((first | (subst hi0; rw [show p.vars.toNat = 0 by omega]; exact .nsl _) | (rw [← hil]; exact .refl _)))

end Go.Proofs.Ytfamkbofdamkkaa


namespace Go.Proofs.Ytfamkbofdamkkaa
open Go.RowKit
set_option linter.unusedVariables false
set_option linter.unusedSimpArgs false
set_option maxRecDepth 100000
attribute [local go_sem] Nat.zero_add Nat.add_zero Nat.mul_one eq_self ne_eq not_true_eq_false not_false_eq_true decide_true decide_false decide_not Bool.false_eq_true List.filter_cons List.filter_nil true_and and_true beq_false beq_true Bool.not_true Bool.not_false Bool.and_true Bool.true_and Option.getD_some Option.getD_none imp_self implies_true Int.toNat_natCast List.cons_append List.nil_append List.map_cons List.map_nil List.length_cons List.length_nil List.getD_cons_zero List.getD_cons_succ List.drop_zero List.drop_succ_cons List.take_succ_cons List.take_zero
attribute [local go_sem] lowN lowQ lowM isAl appOwn unw appF isE isO stpO notIn St.bare evO evDO isEff stp St.get St.slot St.put List.lookup un unL ofVal gof nth pickV pkB_false pkB_true binV unV loadV idxV fldV partV buildV fillV lenV sliV appV appR rowsV winV V.parts V.okp V.sc Mem.look_cons Mem.look_nil V.cl V.clL AObj.clo fzAll exps St.fz Mem.fz V.fz V.fzL AObj.fz Option.isSome_some Option.isSome_none Bool.or_true Bool.true_or Bool.or_false Bool.false_or false_and and_false false_or or_false arT_22 arT_23 arT_25 arT_24 arT_40 arT_30  arT_65 arT_28 arT_90  arT_52 boolT_25 boolT_3 boolT_35 boolT_4  flatT_25 flatT_3 flatT_35 flatT_4  intT_3 intT_133 lay_23 lay_25 lay_67 lay_24 lay_27 lay_3 lay_49 lay_30 lay_34 lay_4 lay_65 lay_52 lay_54 lay_56 lay_141 lay_164  okF_17 okF_31  okF_36 okF_18 okF_34 okF_63  okF_28 okF_50 okF_69 okF_51  okF_35       okF_37   okF_71  okF_65  okF_62 okF_77 okF_79  okF_80 okF_81 okF_64 okF_66 okF_76 okF_113 okF_96 okF_97 okF_98 okF_82  okF_99 okF_119 okF_120 okF_78 okF_100 okF_101 okF_83 okF_84 okF_125 okF_126  okF_127 okF_128 okF_129 okF_130 okF_114 okF_124 okF_140 okF_141 okF_142 okF_143  okF_131 okF_132 okF_144 okF_158 okF_155 okF_159   plT_67 plT_27 plT_34 plT_54 plT_56 slT_22 slT_23 slT_25 slT_24 slT_40 slT_30  slT_65 slT_28 slT_90  slT_52  stT_67_1   stT_67_4 stT_67_5 stT_27_0 stT_27_1 stT_27_2 stT_34_0 stT_34_1 stT_34_2 stT_34_3 stT_54_0 stT_54_1 stT_54_2 stT_54_3 stT_56_0 stT_56_1  zeroT_67 zeroT_27 zeroT_3 zeroT_49 zeroT_30 zeroT_34 zeroT_65  zeroT_54 zeroT_56
attribute [local go_sem] List.getElem?_cons_zero List.getElem?_cons_succ List.zip_cons_cons List.zip_nil_left List.zip_nil_right Bool.false_and Bool.and_false List.length_append List.length_set List.length_replicate List.all_cons List.all_nil encI_length encI_getD encR_length encR_getD encRw encPg spl shp AObj.shp rowM isSt isRpS isRd csh AObj.csh forall_const imp_self
attribute [local simp] encI_length encR_length
theorem c40 (p : Pg) (hg : p.gain.length ≤ 1000) (gain : Int) : CallsA Try.prog 80 [.agg (encPg p), .int .i64 gain] (.agg (encRw (goalW p gain))) := by
  have hq : True := trivial
  refine callsA_of_tr Try.func80 rfl (Nat.le_of_ble_eq_true rfl) ?_
  simp only [Try.results80, envOf, Nat.reduceAdd]
  refine tr_seq fun K1 hK1 => ?_
  refine tr_region [1, 2, 4] rfl rfl fun K hK => ?_
  iterate 2 refine evR_p ?_
  refine evR_e hK ?_; clear hK K
  refine hK1 _ ?_
  refine tr_seq fun K2 hK2 => ?_
  refine tr_region [2, 4, 5] rfl rfl fun K hK => ?_
  iterate 6 refine evR_p ?_
  refine evR_e hK ?_; clear hK K
  refine hK2 _ ?_
  refine tr_seq fun K3 hK3 => ?_
  refine tr_seq fun K4 hK4 => ?_
  refine tr_region [4, 5, 13, 14, 15] rfl rfl fun K hK => ?_
  iterate 4 refine evR_p ?_
  refine evR_e hK ?_; clear hK K
  refine hK4 _ ?_
  refine tr_block ?_
  -- loop 1: live [4, 5, 13, 14, 15]
  refine tr_loopW (fun m σ => ∃ i, i + m = p.gain.length ∧ σ = ⟨[(4, .ptr 1 0), (5, .ptr 2 0), (13, .sl 1 (encI p.gain)), (14, .int .i64 p.gain.length), (15, .int .i64 (i : Nat))], [(3, .row 3 1 (encI (negG p.gain i))), (2, .cells [.int .i64 0, .int .i64 0, .int .i64 0, .int .i64 0, .own 3, .int .i64 (IntKind.i64.wrap (0 - IntKind.i64.wrap (gain + 1)))]), (1, .cells [.int .i64 0, .int .i64 0, .int .i64 0, .int .i64 0, .nsl, .int .i64 0]), (0, .cells (encPg p))], 4⟩) (p.gain.length) ?_ ?_
  · exact ⟨_, Wk.nilown 3 1 2 4 rfl (Nat.le_of_ble_eq_true rfl) rfl, 0, by omega, rfl⟩
  · rintro m σ ⟨i, hi, rfl⟩ KL1 hKL1
    refine tr_seq fun K5 hK5 => ?_
    refine tr_region [4, 5, 13, 14, 15, 16] rfl rfl fun K hK => ?_
    refine evR_p ?_
    refine evR_e hK ?_; clear hK K
    refine hK5 _ ?_
    refine tr_seq fun K6 hK6 => ?_
    refine tr_condB (fun ht1 => ?_) (fun ht1 => ?_)
    · skip
      have hil : i < p.gain.length := by omega
      have hnl := negG_length p.gain i
      replace hq := And.intro hq (And.intro hil (hnl))
      refine tr_skip ?_
      (try simp only [thenE, inBlkE])
      refine hK6 _ ?_
      refine tr_seq fun K7 hK7 => ?_
      refine tr_block ?_
      refine tr_seq fun K8 hK8 => ?_
      refine tr_region [4, 5, 7, 13, 14, 15] rfl rfl fun K hK => ?_
      iterate 3 refine evR_p ?_
      refine evR_e hK ?_; clear hK K
      refine hK8 _ ?_
      refine tr_region [4, 5, 13, 14, 15] rfl rfl fun K hK => ?_
      iterate 4 refine evR_p ?_
      refine evR_bs ?_
      iterate 3 refine evR_p ?_
      refine evR_e hK ?_; clear hK K
      refine hK7 _ ?_
      refine tr_region [4, 5, 13, 14, 15] rfl rfl fun K hK => ?_
      iterate 2 refine evR_p ?_
      refine evR_e hK ?_; clear hK K
      refine hKL1 _ ?_
      exact ⟨m - 1, _, by omega, (Wk.trans (Wk.ren 4 3 (Nat.le_of_ble_eq_true rfl) (Nat.le_of_ble_eq_true rfl) rfl) (Wk.cut 4 rfl)), i + 1, by omega, by rw [w64 (x := (i : Int) + 1) (by omega), negG_succ hil, encI_snoc]; rfl⟩
    · skip
      have hil : i = p.gain.length := by omega
      subst hil
      refine tr_exit ?_
      simp only [thenE, inBlkE, Nat.reduceEqDiff, ↓reduceIte]
      refine hK3 _ ?_
      refine tr_seq fun K9 hK9 => ?_
      refine tr_region [4] rfl rfl fun K hK => ?_
      iterate 2 refine evR_p ?_
      refine evR_e hK ?_; clear hK K
      refine hK9 _ ?_
      refine tr_ret ?_
      (try simp only [thenE, inBlkE])
      simp (maxSteps := 4000000) (disch := first | assumption | omega | (simp only [go_sem, *]; done) | (simp only [go_sem, *]; omega)) only [postA, postO, resV1, fzAll, go_sem, hq, Int.reduceToNat, Nat.reduceBEq, Nat.reduceEqDiff, Nat.reduceAdd, Nat.reduceMul, Nat.reduceLeDiff, Nat.reduceLT, Nat.reduceSub, ↓reduceIte, reduceCtorEq]
      all_goals (rfl)

end Go.Proofs.Ytfamkbofdamkkaa


namespace Go.Proofs.Ytfamkbofdamkkaa
open Go.RowKit
set_option linter.unusedVariables false
set_option linter.unusedSimpArgs false
set_option maxRecDepth 100000
attribute [local go_sem] Nat.zero_add Nat.add_zero Nat.mul_one eq_self ne_eq not_true_eq_false not_false_eq_true decide_true decide_false decide_not Bool.false_eq_true List.filter_cons List.filter_nil true_and and_true beq_false beq_true Bool.not_true Bool.not_false Bool.and_true Bool.true_and Option.getD_some Option.getD_none imp_self implies_true Int.toNat_natCast List.cons_append List.nil_append List.map_cons List.map_nil List.length_cons List.length_nil List.getD_cons_zero List.getD_cons_succ List.drop_zero List.drop_succ_cons List.take_succ_cons List.take_zero
attribute [local go_sem] lowN lowQ lowM isAl appOwn unw appF isE isO stpO notIn St.bare evO evDO isEff stp St.get St.slot St.put List.lookup un unL ofVal gof nth pickV pkB_false pkB_true binV unV loadV idxV fldV partV buildV fillV lenV sliV appV appR rowsV winV V.parts V.okp V.sc Mem.look_cons Mem.look_nil V.cl V.clL AObj.clo fzAll exps St.fz Mem.fz V.fz V.fzL AObj.fz Option.isSome_some Option.isSome_none Bool.or_true Bool.true_or Bool.or_false Bool.false_or false_and and_false false_or or_false arT_22 arT_23 arT_25 arT_24 arT_40 arT_30  arT_65 arT_28 arT_90  arT_52 boolT_25 boolT_3 boolT_35 boolT_4  flatT_25 flatT_3 flatT_35 flatT_4  intT_3 intT_133 lay_23 lay_25 lay_67 lay_24 lay_27 lay_3 lay_49 lay_30 lay_34 lay_4 lay_65 lay_52 lay_54 lay_56 lay_141 lay_164  okF_17 okF_31  okF_36 okF_18 okF_34 okF_63  okF_28 okF_50 okF_69 okF_51  okF_35       okF_37   okF_71  okF_65  okF_62 okF_77 okF_79  okF_80 okF_81 okF_64 okF_66 okF_76 okF_113 okF_96 okF_97 okF_98 okF_82  okF_99 okF_119 okF_120 okF_78 okF_100 okF_101 okF_83 okF_84 okF_125 okF_126  okF_127 okF_128 okF_129 okF_130 okF_114 okF_124 okF_140 okF_141 okF_142 okF_143  okF_131 okF_132 okF_144 okF_158 okF_155 okF_159   plT_67 plT_27 plT_34 plT_54 plT_56 slT_22 slT_23 slT_25 slT_24 slT_40 slT_30  slT_65 slT_28 slT_90  slT_52  stT_67_1   stT_67_4 stT_67_5 stT_27_0 stT_27_1 stT_27_2 stT_34_0 stT_34_1 stT_34_2 stT_34_3 stT_54_0 stT_54_1 stT_54_2 stT_54_3 stT_56_0 stT_56_1  zeroT_67 zeroT_27 zeroT_3 zeroT_49 zeroT_30 zeroT_34 zeroT_65  zeroT_54 zeroT_56
attribute [local go_sem] List.getElem?_cons_zero List.getElem?_cons_succ List.zip_cons_cons List.zip_nil_left List.zip_nil_right Bool.false_and Bool.and_false List.length_append List.length_set List.length_replicate List.all_cons List.all_nil encI_length encI_getD encR_length encR_getD encRw encPg spl shp AObj.shp rowM isSt isRpS isRd csh AObj.csh forall_const imp_self
attribute [local simp] encI_length encR_length
section
attribute [local go_sem] encI_take encI_drop
theorem c63 (r : Rw) (hm : r.coef.length ≤ maxLen) (d : Nat) (set : Int) (hd : d ≤ r.coef.length) : CallsA Try.prog 130 [.agg (encRw r), .int .i64 d, .int .i64 set] (.int .i64 (leastW r d set)) := by
  have hm0 := hm
  unfold maxLen at hm0
  have hq : True := trivial
  refine callsA_of_tr Try.func130 rfl (Nat.le_of_ble_eq_true rfl) ?_
  simp only [Try.results130, envOf, Nat.reduceAdd]
  refine tr_seq fun K1 hK1 => ?_
  refine tr_region [1, 2, 3] rfl rfl fun K hK => ?_
  iterate 2 refine evR_p ?_
  refine evR_e hK ?_; clear hK K
  refine hK1 _ ?_
  refine tr_seq fun K2 hK2 => ?_
  refine tr_region [1, 3, 7] rfl rfl fun K hK => ?_
  iterate 5 refine evR_p ?_
  refine evR_c (hc := (c39 _ _ (by simp only [List.length_take, maxLen]; omega))) (k := ?_)
  refine evR_p ?_
  refine evR_e hK ?_; clear hK K
  refine hK2 _ ?_
  refine tr_seq fun K3 hK3 => ?_
  refine tr_seq fun K4 hK4 => ?_
  refine tr_region [7, 19, 20, 21] rfl rfl fun K hK => ?_
  iterate 6 refine evR_p ?_
  refine evR_e hK ?_; clear hK K
  refine hK4 _ ?_
  refine tr_block ?_
  -- loop 1: live [7, 19, 20, 21]
  refine tr_loopW (fun m σ => ∃ i, i + m = (r.coef.drop d).length ∧ σ = ⟨[(7, .int .i64 (leastT (r.coef.drop d) (chosenW (r.coef.take d) set) i)), (19, .sl 1 (encI (r.coef.drop d))), (20, .int .i64 (r.coef.drop d).length), (21, .int .i64 (i : Nat))], [(0, .cells (encRw r))], 1⟩) ((r.coef.drop d).length) ?_ ?_
  · exact ⟨_, Wk.refl _, 0, by omega, rfl⟩
  · rintro m σ ⟨i, hi, rfl⟩ KL1 hKL1
    refine tr_seq fun K5 hK5 => ?_
    refine tr_region [7, 19, 20, 21, 22] rfl rfl fun K hK => ?_
    refine evR_p ?_
    refine evR_e hK ?_; clear hK K
    refine hK5 _ ?_
    refine tr_seq fun K6 hK6 => ?_
    refine tr_condB (fun ht1 => ?_) (fun ht1 => ?_)
    · skip
      have hil : i < (r.coef.drop d).length := by omega
      have hl2 : (r.coef.drop d).length ≤ r.coef.length := by simp
      replace hq := And.intro hq (hil)
      refine tr_skip ?_
      (try simp only [thenE, inBlkE])
      refine hK6 _ ?_
      refine tr_seq fun K7 hK7 => ?_
      refine tr_block ?_
      refine tr_seq fun K8 hK8 => ?_
      refine tr_region [7, 9, 19, 20, 21] rfl rfl fun K hK => ?_
      iterate 3 refine evR_p ?_
      refine evR_e hK ?_; clear hK K
      refine hK8 _ ?_
      refine tr_region [7, 19, 20, 21] rfl rfl fun K hK => ?_
      iterate 5 refine evR_p ?_
      refine evR_e hK ?_; clear hK K
      refine hK7 _ ?_
      refine tr_region [7, 19, 20, 21] rfl rfl fun K hK => ?_
      iterate 2 refine evR_p ?_
      refine evR_e hK ?_; clear hK K
      refine hKL1 _ ?_
      exact ⟨m - 1, _, by omega, Wk.refl _, i + 1, by omega, by rw [w64 (x := (i : Int) + 1) (by omega)]; rfl⟩
    · skip
      have hil : i = (r.coef.drop d).length := by omega
      subst hil
      refine tr_exit ?_
      simp only [thenE, inBlkE, Nat.reduceEqDiff, ↓reduceIte]
      refine hK3 _ ?_
      refine tr_seq fun K9 hK9 => ?_
      refine tr_region [6] rfl rfl fun K hK => ?_
      iterate 2 refine evR_p ?_
      refine evR_e hK ?_; clear hK K
      refine hK9 _ ?_
      refine tr_ret ?_
      (try simp only [thenE, inBlkE])
      simp (maxSteps := 4000000) (disch := first | assumption | omega | (simp only [go_sem, *]; done) | (simp only [go_sem, *]; omega)) only [postA, postO, resV1, fzAll, go_sem, hq, Int.reduceToNat, Nat.reduceBEq, Nat.reduceEqDiff, Nat.reduceAdd, Nat.reduceMul, Nat.reduceLeDiff, Nat.reduceLT, Nat.reduceSub, ↓reduceIte, reduceCtorEq]
      all_goals (rfl)
end

theorem c62 (r : Rw) (hm : r.coef.length ≤ maxLen) (d : Nat) (set : Int) (hd : d ≤ r.coef.length) : CallsA Try.prog 129 [.agg (encRw r), .ep [.int .i64 d], .ep [.int .i64 set]] (.bool (overB d set r)) := by
  have hq : True := trivial
  refine callsA_of_tr Try.func129 rfl (Nat.le_of_ble_eq_true rfl) ?_
  simp only [Try.results129, envOf, Nat.reduceAdd]
  refine tr_seq fun K1 hK1 => ?_
  refine tr_region [1, 2, 3] rfl rfl fun K hK => ?_
  iterate 2 refine evR_p ?_
  refine evR_e hK ?_; clear hK K
  refine hK1 _ ?_
  refine tr_seq fun K2 hK2 => ?_
  refine tr_draw [] [4] mixed rfl (by kernel_rfl) rfl fun K hK => ?_
  iterate 3 refine evD_p ?_
  refine evD_c (hc := (c63 r hm d set hd)) (k := ?_)
  iterate 4 refine evD_p ?_
  refine evD_e hK ?_; clear hK K
  refine hK2 _ ?_
  refine tr_ret ?_
  (try simp only [thenE, inBlkE])
  simp (maxSteps := 4000000) (disch := first | assumption | omega | (simp only [go_sem, *]; done) | (simp only [go_sem, *]; omega)) only [postA, postO, resV1, fzAll, go_sem, hq, Int.reduceToNat, Nat.reduceBEq, Nat.reduceEqDiff, Nat.reduceAdd, Nat.reduceMul, Nat.reduceLeDiff, Nat.reduceLT, Nat.reduceSub, ↓reduceIte, reduceCtorEq]
  all_goals (rfl)

end Go.Proofs.Ytfamkbofdamkkaa


namespace Go.Proofs.Ytfamkbofdamkkaa
open Go.RowKit
set_option linter.unusedVariables false
set_option linter.unusedSimpArgs false
set_option maxRecDepth 100000
attribute [local go_sem] Nat.zero_add Nat.add_zero Nat.mul_one eq_self ne_eq not_true_eq_false not_false_eq_true decide_true decide_false decide_not Bool.false_eq_true List.filter_cons List.filter_nil true_and and_true beq_false beq_true Bool.not_true Bool.not_false Bool.and_true Bool.true_and Option.getD_some Option.getD_none imp_self implies_true Int.toNat_natCast List.cons_append List.nil_append List.map_cons List.map_nil List.length_cons List.length_nil List.getD_cons_zero List.getD_cons_succ List.drop_zero List.drop_succ_cons List.take_succ_cons List.take_zero
attribute [local go_sem] lowN lowQ lowM isAl appOwn unw appF isE isO stpO notIn St.bare evO evDO isEff stp St.get St.slot St.put List.lookup un unL ofVal gof nth pickV pkB_false pkB_true binV unV loadV idxV fldV partV buildV fillV lenV sliV appV appR rowsV winV V.parts V.okp V.sc Mem.look_cons Mem.look_nil V.cl V.clL AObj.clo fzAll exps St.fz Mem.fz V.fz V.fzL AObj.fz Option.isSome_some Option.isSome_none Bool.or_true Bool.true_or Bool.or_false Bool.false_or false_and and_false false_or or_false arT_22 arT_23 arT_25 arT_24 arT_40 arT_30  arT_65 arT_28 arT_90  arT_52 boolT_25 boolT_3 boolT_35 boolT_4  flatT_25 flatT_3 flatT_35 flatT_4  intT_3 intT_133 lay_23 lay_25 lay_67 lay_24 lay_27 lay_3 lay_49 lay_30 lay_34 lay_4 lay_65 lay_52 lay_54 lay_56 lay_141 lay_164  okF_17 okF_31  okF_36 okF_18 okF_34 okF_63  okF_28 okF_50 okF_69 okF_51  okF_35       okF_37   okF_71  okF_65  okF_62 okF_77 okF_79  okF_80 okF_81 okF_64 okF_66 okF_76 okF_113 okF_96 okF_97 okF_98 okF_82  okF_99 okF_119 okF_120 okF_78 okF_100 okF_101 okF_83 okF_84 okF_125 okF_126  okF_127 okF_128 okF_129 okF_130 okF_114 okF_124 okF_140 okF_141 okF_142 okF_143  okF_131 okF_132 okF_144 okF_158 okF_155 okF_159   plT_67 plT_27 plT_34 plT_54 plT_56 slT_22 slT_23 slT_25 slT_24 slT_40 slT_30  slT_65 slT_28 slT_90  slT_52  stT_67_1   stT_67_4 stT_67_5 stT_27_0 stT_27_1 stT_27_2 stT_34_0 stT_34_1 stT_34_2 stT_34_3 stT_54_0 stT_54_1 stT_54_2 stT_54_3 stT_56_0 stT_56_1  zeroT_67 zeroT_27 zeroT_3 zeroT_49 zeroT_30 zeroT_34 zeroT_65  zeroT_54 zeroT_56
attribute [local go_sem] List.getElem?_cons_zero List.getElem?_cons_succ List.zip_cons_cons List.zip_nil_left List.zip_nil_right Bool.false_and Bool.and_false List.length_append List.length_set List.length_replicate List.all_cons List.all_nil encI_length encI_getD encR_length encR_getD encRw encPg spl shp AObj.shp rowM isSt isRpS isRd csh AObj.csh forall_const imp_self
attribute [local simp] encI_length encR_length
section
attribute [local go_sem] encS_one encS_leaf encS_length
theorem c60s (rows : List Rw) (hr : rows.length ≤ maxLen) (hm : ∀ r ∈ rows, r.coef.length ≤ maxLen) (n d : Nat) (set : Int) (out : List Stp) (hc : ∀ r ∈ rows, r.coef.length = d + n) (hd : d + n ≤ 12) (hinf : infN rows n d set) (ho : out.length + 2 ^ (n + 1) ≤ 100000)
    (ih : ∀ (m : Nat), m + 1 = n → ∀ (set : Int) (out : List Stp), infN rows m (d + 1) set → out.length + 2 ^ (m + 1) ≤ 100000 → CallsM Try.prog 127 [.int .i64 ((d + 1 : Nat) : Int), .int .i64 set, .ptr 1 0, .ptr 0 0, .ptr 2 0] [(3, .row 54 4 (encS out)), (2, .cells [.fn 127 [.ptr 1 0, .ptr 0 0, .ptr 2 0]]), (1, .cells [.own 3]), (0, .cells [.sl 6 (encR rows)])] 4 (.int .i64 ((out).length : Nat)) [(4, .row 54 4 (encS (growN rows m (d + 1) set out))), (2, .cells [.fn 127 [.ptr 1 0, .ptr 0 0, .ptr 2 0]]), (1, .cells [.own 4]), (0, .cells [.sl 6 (encR rows)])] 5) : CallsM Try.prog 127 [.int .i64 (d : Nat), .int .i64 set, .ptr 1 0, .ptr 0 0, .ptr 2 0] ([(3, .row 54 4 (encS out)), (2, .cells [.fn 127 [.ptr 1 0, .ptr 0 0, .ptr 2 0]]), (1, .cells [.own 3]), (0, .cells [.sl 6 (encR rows)])]) (4) (.int .i64 (out.length : Nat)) ([(4, .row 54 4 (encS (growN rows n d set out))), (2, .cells [.fn 127 [.ptr 1 0, .ptr 0 0, .ptr 2 0]]), (1, .cells [.own 4]), (0, .cells [.sl 6 (encR rows)])]) (5) := by
  have hw1 : IntKind.i64.wrap ((d : Int) + 1) = ((d + 1 : Nat) : Int) := w64 (by omega)
  have hp2 : 2 ≤ 2 ^ (n + 1) := (by have := Nat.one_le_two_pow (n := n); rw [Nat.pow_succ]; omega)
  have hq := hw1
  refine callsM_of_tr Try.func127 rfl (Nat.le_of_ble_eq_true rfl) (Nat.le_of_ble_eq_true rfl) (Nat.le_of_ble_eq_true rfl) ?_
  simp only [Try.results127, envOf, gh, gv, List.cons_append, List.nil_append, Nat.reduceAdd]
  refine tr_seq fun K1 hK1 => ?_
  refine tr_region [2, 3, 4, 5, 6, 1000000, 1000001, 1000002, 1000003] rfl rfl fun K hK => ?_
  iterate 3 refine evR_p ?_
  refine evR_e hK ?_; clear hK K
  refine hK1 _ ?_
  refine tr_seq fun K2 hK2 => ?_
  refine tr_region [2, 3, 4, 5, 6, 8, 1000000, 1000001, 1000002, 1000003] rfl rfl fun K hK => ?_
  iterate 3 refine evR_p ?_
  refine evR_e hK ?_; clear hK K
  refine hK2 _ ?_
  refine tr_seq fun K3 hK3 => ?_
  refine tr_region [2, 4, 5, 6, 8, 9, 1000000, 1000001, 1000002, 1000003] rfl rfl fun K hK => ?_
  iterate 2 refine evR_p ?_
  refine evR_c (hc := (c61 rows 129 [.ep [.int .i64 d], .ep [.int .i64 set]] (overB d set) okF_129 rfl (fun r h => c62 r (hm r h) d set (by rw [hc r h]; omega)) hr)) (k := ?_)
  refine evR_p ?_
  refine evR_e hK ?_; clear hK K
  refine hK3 _ ?_
  refine tr_seq fun K4 hK4 => ?_
  refine tr_seq fun K5 hK5 => ?_
  refine tr_region [2, 4, 5, 6, 8, 9, 18, 1000000, 1000001, 1000002, 1000003] rfl rfl fun K hK => ?_
  iterate 2 refine evR_p ?_
  refine evR_e hK ?_; clear hK K
  refine hK5 _ ?_
  refine tr_condB (fun ht1 => ?_) (fun ht1 => ?_)
  · skip
    (first | (have hneg : ¬ (0 ≤ idxOf (overB d set) rows) := ht1; obtain ⟨m, hnm, hi1, hi2⟩ := infN_step hinf hneg; have hg1 := growN_length rows m (d + 1) set (out ++ [⟨d, 0, 0, none⟩]); have hg2 := growN_length rows m (d + 1) (setBit set d) (growN rows m (d + 1) set (out ++ [⟨d, 0, 0, none⟩])); simp only [List.length_append, List.length_cons, List.length_nil] at hg1) | skip)
    refine tr_seq fun K6 hK6 => ?_
    refine tr_region [8, 1000000, 1000001, 1000002, 1000003] rfl rfl fun K hK => ?_
    iterate 3 refine evR_p ?_
    refine evR_bs ?_
    refine evR_p ?_
    refine evR_bs ?_
    iterate 2 refine evR_p ?_
    refine evR_e hK ?_; clear hK K
    refine hK6 _ ?_
    refine tr_seq fun K7 hK7 => ?_
    refine tr_region [7, 1000000, 1000001, 1000002, 1000003] rfl rfl fun K hK => ?_
    iterate 2 refine evR_p ?_
    refine evR_e hK ?_; clear hK K
    refine hK7 _ ?_
    refine tr_ret ?_
    (try simp only [thenE, inBlkE])
    all_goals first | refine ⟨_, (Wk.trans (Wk.ren 6 4 (Nat.le_of_ble_eq_true rfl) (Nat.le_of_ble_eq_true rfl) rfl) (Wk.cut 5 rfl)), ?_⟩ | refine ⟨_, (Wk.trans (Wk.ren 8 4 (Nat.le_of_ble_eq_true rfl) (Nat.le_of_ble_eq_true rfl) rfl) (Wk.cut 5 rfl)), ?_⟩
    simp (maxSteps := 4000000) (disch := first | assumption | omega | (simp only [go_sem, *]; done) | (simp only [go_sem, *]; omega)) only [postM, ghOK, gv, St.ren, St.cut, V.ren, V.renL, AObj.ren, Nat.blt_eq, resV1, go_sem, hq, Int.reduceToNat, Nat.reduceBEq, Nat.reduceEqDiff, Nat.reduceAdd, Nat.reduceMul, Nat.reduceLeDiff, Nat.reduceLT, Nat.reduceSub, ↓reduceIte, reduceCtorEq]
    all_goals ((first | (rw [growN_leaf ht1]; done) | (subst hnm; rw [grow_fin (by omega) growN_at]; simp only [growN, if_neg hneg]; rfl)))
  · skip
    (first | (have hneg : ¬ (0 ≤ idxOf (overB d set) rows) := ht1; obtain ⟨m, hnm, hi1, hi2⟩ := infN_step hinf hneg; have hg1 := growN_length rows m (d + 1) set (out ++ [⟨d, 0, 0, none⟩]); have hg2 := growN_length rows m (d + 1) (setBit set d) (growN rows m (d + 1) set (out ++ [⟨d, 0, 0, none⟩])); simp only [List.length_append, List.length_cons, List.length_nil] at hg1) | skip)
    refine tr_skip ?_
    (try simp only [thenE, inBlkE])
    refine hK4 _ ?_
    refine tr_seq fun K8 hK8 => ?_
    refine tr_region [2, 4, 5, 6, 8, 1000000, 1000001, 1000002, 1000003] rfl rfl fun K hK => ?_
    iterate 3 refine evR_p ?_
    refine evR_bs ?_
    iterate 2 refine evR_p ?_
    refine evR_e hK ?_; clear hK K
    refine hK8 _ ?_
    refine tr_seq fun K9 hK9 => ?_
    refine tr_region [2, 4, 5, 6, 8, 10, 1000000, 1000001, 1000002, 1000003] rfl rfl fun K hK => ?_
    iterate 4 refine evR_p ?_
    refine evR_stepX fun Kq hKq => Or.inr ?_
    simp (maxSteps := 4000000) (disch := first | assumption | omega | (simp only [go_sem, *]; done) | (simp only [go_sem, *]; omega)) only [stpM, go_sem, hq, Int.reduceToNat, Nat.reduceBEq, Nat.reduceEqDiff, Nat.reduceAdd, Nat.reduceMul, Nat.reduceLeDiff, Nat.reduceLT, Nat.reduceSub, ↓reduceIte, reduceCtorEq]
    refine ⟨[0, 1, 2, 6], ?_⟩
    simp (maxSteps := 4000000) (disch := first | assumption | omega | (simp only [go_sem, *]; done) | (simp only [go_sem, *]; omega)) only [V.mapL, V.map, gJ, footJ, inJ, AObj.map, ndJ, ltJ, V.domL, V.dom, AObj.dom, kC, kR, AObj.isC, hJ, backJ, List.any_cons, List.any_nil, Nat.ble_eq, Nat.blt_eq, Nat.reduceLT, Nat.reduceLeDiff, Bool.or_true, Bool.true_or, Bool.or_false, Bool.false_or, Bool.and_self, go_sem, hq, Int.reduceToNat, Nat.reduceBEq, Nat.reduceEqDiff, Nat.reduceAdd, Nat.reduceMul, Nat.reduceLeDiff, Nat.reduceLT, Nat.reduceSub, ↓reduceIte, reduceCtorEq]
    refine ⟨_, _, _, (ih m hnm set _ hi1 (by subst hnm; rw [Nat.pow_succ] at ho; simp only [List.length_append, List.length_cons, List.length_nil]; omega)), ?_⟩
    simp (maxSteps := 4000000) (disch := first | assumption | omega | (simp only [go_sem, *]; done) | (simp only [go_sem, *]; omega)) only [V.mapL, V.map, gJ, footJ, inJ, AObj.map, ndJ, ltJ, V.domL, V.dom, AObj.dom, kC, kR, AObj.isC, hJ, backJ, List.any_cons, List.any_nil, Nat.ble_eq, Nat.blt_eq, Nat.reduceLT, Nat.reduceLeDiff, Bool.or_true, Bool.true_or, Bool.or_false, Bool.false_or, Bool.and_self, go_sem, hq, Int.reduceToNat, Nat.reduceBEq, Nat.reduceEqDiff, Nat.reduceAdd, Nat.reduceMul, Nat.reduceLeDiff, Nat.reduceLT, Nat.reduceSub, ↓reduceIte, reduceCtorEq]
    (repeat (refine And.intro (by first | assumption | omega | decide | (simp; done) | (simp; omega) | (have hq := hvv hgt; omega) | (simp_all; done)) ?_))
    refine hKq _ ?_; clear hKq Kq
    refine evR_p ?_
    refine evR_e hK ?_; clear hK K
    refine hK9 _ ?_
    refine tr_seq fun K10 hK10 => ?_
    refine tr_draw [44] [2, 8, 10, 11, 1000000, 1000001, 1000002, 1000003] mixed rfl (by kernel_rfl) rfl fun K hK => ?_
    iterate 7 refine evD_p ?_
    refine evD_step fun Kq hKq => ?_
    simp (maxSteps := 4000000) (disch := first | assumption | omega | (simp only [go_sem, *]; done) | (simp only [go_sem, *]; omega)) only [go_sem, hq, Int.reduceToNat, Nat.reduceBEq, Nat.reduceEqDiff, Nat.reduceAdd, Nat.reduceMul, Nat.reduceLeDiff, Nat.reduceLT, Nat.reduceSub, ↓reduceIte, reduceCtorEq]
    refine Or.inr ?_
    simp (maxSteps := 4000000) (disch := first | assumption | omega | (simp only [go_sem, *]; done) | (simp only [go_sem, *]; omega)) only [stpM, go_sem, hq, Int.reduceToNat, Nat.reduceBEq, Nat.reduceEqDiff, Nat.reduceAdd, Nat.reduceMul, Nat.reduceLeDiff, Nat.reduceLT, Nat.reduceSub, ↓reduceIte, reduceCtorEq]
    refine ⟨[0, 1, 2, 7], ?_⟩
    simp (maxSteps := 4000000) (disch := first | assumption | omega | (simp only [go_sem, *]; done) | (simp only [go_sem, *]; omega)) only [V.mapL, V.map, gJ, footJ, inJ, AObj.map, ndJ, ltJ, V.domL, V.dom, AObj.dom, kC, kR, AObj.isC, hJ, backJ, List.any_cons, List.any_nil, Nat.ble_eq, Nat.blt_eq, Nat.reduceLT, Nat.reduceLeDiff, Bool.or_true, Bool.true_or, Bool.or_false, Bool.false_or, Bool.and_self, go_sem, hq, Int.reduceToNat, Nat.reduceBEq, Nat.reduceEqDiff, Nat.reduceAdd, Nat.reduceMul, Nat.reduceLeDiff, Nat.reduceLT, Nat.reduceSub, ↓reduceIte, reduceCtorEq]
    refine ⟨_, _, _, (ih m hnm (setBit set d) _ hi2 (by subst hnm; rw [Nat.pow_succ] at ho; omega)), ?_⟩
    simp (maxSteps := 4000000) (disch := first | assumption | omega | (simp only [go_sem, *]; done) | (simp only [go_sem, *]; omega)) only [V.mapL, V.map, gJ, footJ, inJ, AObj.map, ndJ, ltJ, V.domL, V.dom, AObj.dom, kC, kR, AObj.isC, hJ, backJ, List.any_cons, List.any_nil, Nat.ble_eq, Nat.blt_eq, Nat.reduceLT, Nat.reduceLeDiff, Bool.or_true, Bool.true_or, Bool.or_false, Bool.false_or, Bool.and_self, go_sem, hq, Int.reduceToNat, Nat.reduceBEq, Nat.reduceEqDiff, Nat.reduceAdd, Nat.reduceMul, Nat.reduceLeDiff, Nat.reduceLT, Nat.reduceSub, ↓reduceIte, reduceCtorEq]
    (repeat (refine And.intro (by first | assumption | omega | decide | (simp; done) | (simp; omega) | (have hq := hvv hgt; omega) | (simp_all; done)) ?_))
    refine hKq _ ?_; clear hKq Kq
    refine evD_p ?_
    refine evD_e hK ?_; clear hK K
    refine hK10 _ ?_
    refine tr_seq fun K11 hK11 => ?_
    refine tr_draw [999999] [8, 1000000, 1000001, 1000002, 1000003] mixed rfl (by kernel_rfl) rfl fun K hK => ?_
    iterate 12 refine evD_p ?_
    refine evD_e hK ?_; clear hK K
    refine hK11 _ ?_
    refine tr_seq fun K12 hK12 => ?_
    refine tr_region [7, 1000000, 1000001, 1000002, 1000003] rfl rfl fun K hK => ?_
    iterate 2 refine evR_p ?_
    refine evR_e hK ?_; clear hK K
    refine hK12 _ ?_
    refine tr_ret ?_
    (try simp only [thenE, inBlkE])
    all_goals first | refine ⟨_, (Wk.trans (Wk.ren 6 4 (Nat.le_of_ble_eq_true rfl) (Nat.le_of_ble_eq_true rfl) rfl) (Wk.cut 5 rfl)), ?_⟩ | refine ⟨_, (Wk.trans (Wk.ren 8 4 (Nat.le_of_ble_eq_true rfl) (Nat.le_of_ble_eq_true rfl) rfl) (Wk.cut 5 rfl)), ?_⟩
    simp (maxSteps := 4000000) (disch := first | assumption | omega | (simp only [go_sem, *]; done) | (simp only [go_sem, *]; omega)) only [postM, ghOK, gv, St.ren, St.cut, V.ren, V.renL, AObj.ren, Nat.blt_eq, resV1, go_sem, hq, Int.reduceToNat, Nat.reduceBEq, Nat.reduceEqDiff, Nat.reduceAdd, Nat.reduceMul, Nat.reduceLeDiff, Nat.reduceLT, Nat.reduceSub, ↓reduceIte, reduceCtorEq]
    all_goals ((first | (rw [growN_leaf ht1]; done) | (subst hnm; rw [grow_fin (by omega) growN_at]; simp only [growN, if_neg hneg]; rfl)))
end

end Go.Proofs.Ytfamkbofdamkkaa


namespace Go.Proofs.Ytfamkbofdamkkaa
open Go.RowKit
set_option linter.unusedVariables false
set_option linter.unusedSimpArgs false
set_option maxRecDepth 100000
attribute [local go_sem] Nat.zero_add Nat.add_zero Nat.mul_one eq_self ne_eq not_true_eq_false not_false_eq_true decide_true decide_false decide_not Bool.false_eq_true List.filter_cons List.filter_nil true_and and_true beq_false beq_true Bool.not_true Bool.not_false Bool.and_true Bool.true_and Option.getD_some Option.getD_none imp_self implies_true Int.toNat_natCast List.cons_append List.nil_append List.map_cons List.map_nil List.length_cons List.length_nil List.getD_cons_zero List.getD_cons_succ List.drop_zero List.drop_succ_cons List.take_succ_cons List.take_zero
attribute [local go_sem] lowN lowQ lowM isAl appOwn unw appF isE isO stpO notIn St.bare evO evDO isEff stp St.get St.slot St.put List.lookup un unL ofVal gof nth pickV pkB_false pkB_true binV unV loadV idxV fldV partV buildV fillV lenV sliV appV appR rowsV winV V.parts V.okp V.sc Mem.look_cons Mem.look_nil V.cl V.clL AObj.clo fzAll exps St.fz Mem.fz V.fz V.fzL AObj.fz Option.isSome_some Option.isSome_none Bool.or_true Bool.true_or Bool.or_false Bool.false_or false_and and_false false_or or_false arT_22 arT_23 arT_25 arT_24 arT_40 arT_30  arT_65 arT_28 arT_90  arT_52 boolT_25 boolT_3 boolT_35 boolT_4  flatT_25 flatT_3 flatT_35 flatT_4  intT_3 intT_133 lay_23 lay_25 lay_67 lay_24 lay_27 lay_3 lay_49 lay_30 lay_34 lay_4 lay_65 lay_52 lay_54 lay_56 lay_141 lay_164  okF_17 okF_31  okF_36 okF_18 okF_34 okF_63  okF_28 okF_50 okF_69 okF_51  okF_35       okF_37   okF_71  okF_65  okF_62 okF_77 okF_79  okF_80 okF_81 okF_64 okF_66 okF_76 okF_113 okF_96 okF_97 okF_98 okF_82  okF_99 okF_119 okF_120 okF_78 okF_100 okF_101 okF_83 okF_84 okF_125 okF_126  okF_127 okF_128 okF_129 okF_130 okF_114 okF_124 okF_140 okF_141 okF_142 okF_143  okF_131 okF_132 okF_144 okF_158 okF_155 okF_159   plT_67 plT_27 plT_34 plT_54 plT_56 slT_22 slT_23 slT_25 slT_24 slT_40 slT_30  slT_65 slT_28 slT_90  slT_52  stT_67_1   stT_67_4 stT_67_5 stT_27_0 stT_27_1 stT_27_2 stT_34_0 stT_34_1 stT_34_2 stT_34_3 stT_54_0 stT_54_1 stT_54_2 stT_54_3 stT_56_0 stT_56_1  zeroT_67 zeroT_27 zeroT_3 zeroT_49 zeroT_30 zeroT_34 zeroT_65  zeroT_54 zeroT_56
attribute [local go_sem] List.getElem?_cons_zero List.getElem?_cons_succ List.zip_cons_cons List.zip_nil_left List.zip_nil_right Bool.false_and Bool.and_false List.length_append List.length_set List.length_replicate List.all_cons List.all_nil encI_length encI_getD encR_length encR_getD encRw encPg spl shp AObj.shp rowM isSt isRpS isRd csh AObj.csh forall_const imp_self
attribute [local simp] encI_length encR_length
theorem c60 (rows : List Rw) (hr : rows.length ≤ maxLen) : ∀ (n d : Nat) (set : Int) (out : List Stp), (∀ r ∈ rows, r.coef.length = d + n) → d + n ≤ 12 → infN rows n d set → out.length + 2 ^ (n + 1) ≤ 100000 → CallsM Try.prog 127 [.int .i64 (d : Nat), .int .i64 set, .ptr 1 0, .ptr 0 0, .ptr 2 0] [(3, .row 54 4 (encS out)), (2, .cells [.fn 127 [.ptr 1 0, .ptr 0 0, .ptr 2 0]]), (1, .cells [.own 3]), (0, .cells [.sl 6 (encR rows)])] 4 (.int .i64 ((out).length : Nat)) [(4, .row 54 4 (encS (growN rows n d set out))), (2, .cells [.fn 127 [.ptr 1 0, .ptr 0 0, .ptr 2 0]]), (1, .cells [.own 4]), (0, .cells [.sl 6 (encR rows)])] 5
  | 0, d, set, out, hc, hd, hi, ho => c60s rows hr (fun r h => by have := hc r h; unfold maxLen; omega) 0 d set out hc hd hi ho fun m hm => by omega
  | n + 1, d, set, out, hc, hd, hi, ho => c60s rows hr (fun r h => by have := hc r h; unfold maxLen; omega) (n + 1) d set out hc hd hi ho fun m hm set out h1 h2 => by
    have : m = n := by omega
    subst this
    exact c60 rows hr m (d + 1) set out (fun r h => by have := hc r h; omega) (by omega) h1 h2
theorem c41 (rows : List Rw) (hr : rows.length ≤ maxLen) (n : Nat) (hn : n ≤ 12) (hc : ∀ r ∈ rows, r.coef.length = n) (hinf : infN rows n 0 0) : CallsA Try.prog 81 [.sl 6 (encR rows)] (.sl 4 (encS (growN rows n 0 0 []))) := by
  have hp : 2 ^ (n + 1) ≤ 2 ^ 13 := Nat.pow_le_pow_right (by omega) (by omega)
  have hq : True := trivial
  refine callsA_of_tr Try.func81 rfl (Nat.le_of_ble_eq_true rfl) ?_
  simp only [Try.results81, envOf, Nat.reduceAdd]
  refine tr_seq fun K1 hK1 => ?_
  refine tr_region [1] rfl rfl fun K hK => ?_
  iterate 2 refine evR_p ?_
  refine evR_e hK ?_; clear hK K
  refine hK1 _ ?_
  refine tr_seq fun K2 hK2 => ?_
  refine tr_region [1, 3] rfl rfl fun K hK => ?_
  refine evR_p ?_
  refine evR_e hK ?_; clear hK K
  refine hK2 _ ?_
  refine tr_seq fun K3 hK3 => ?_
  refine tr_region [1, 3, 4] rfl rfl fun K hK => ?_
  refine evR_p ?_
  refine evR_e hK ?_; clear hK K
  refine hK3 _ ?_
  refine tr_seq fun K4 hK4 => ?_
  refine tr_region [3, 4] rfl rfl fun K hK => ?_
  iterate 2 refine evR_p ?_
  refine evR_e hK ?_; clear hK K
  refine hK4 _ ?_
  refine tr_seq fun K5 hK5 => ?_
  refine tr_wk (Wk.nilown 54 4 1 0 rfl (by decide) rfl) ?_
  try simp only [List.map_cons, List.map_nil, Nat.reduceEqDiff, ↓reduceIte, List.set_cons_zero, List.set_cons_succ, Nat.reduceAdd]
  refine tr_region [3] rfl rfl fun K hK => ?_
  refine evR_p ?_
  refine evR_stepX fun Kq hKq => Or.inr ?_
  simp (maxSteps := 4000000) (disch := first | assumption | omega | (simp only [go_sem, *]; done) | (simp only [go_sem, *]; omega)) only [stpM, go_sem, hq, Int.reduceToNat, Nat.reduceBEq, Nat.reduceEqDiff, Nat.reduceAdd, Nat.reduceMul, Nat.reduceLeDiff, Nat.reduceLT, Nat.reduceSub, ↓reduceIte, reduceCtorEq]
  refine ⟨[0, 1, 2, 3], ?_⟩
  simp (maxSteps := 4000000) (disch := first | assumption | omega | (simp only [go_sem, *]; done) | (simp only [go_sem, *]; omega)) only [V.mapL, V.map, gJ, footJ, inJ, AObj.map, ndJ, ltJ, V.domL, V.dom, AObj.dom, kC, kR, AObj.isC, hJ, backJ, List.any_cons, List.any_nil, Nat.ble_eq, Nat.blt_eq, Nat.reduceLT, Nat.reduceLeDiff, Bool.or_true, Bool.true_or, Bool.or_false, Bool.false_or, Bool.and_self, go_sem, hq, Int.reduceToNat, Nat.reduceBEq, Nat.reduceEqDiff, Nat.reduceAdd, Nat.reduceMul, Nat.reduceLeDiff, Nat.reduceLT, Nat.reduceSub, ↓reduceIte, reduceCtorEq]
  refine ⟨_, _, _, (c60 rows hr n 0 0 [] (fun r h => by rw [hc r h]; omega) (by omega) hinf (by simp only [List.length_nil]; omega)), ?_⟩
  simp (maxSteps := 4000000) (disch := first | assumption | omega | (simp only [go_sem, *]; done) | (simp only [go_sem, *]; omega)) only [V.mapL, V.map, gJ, footJ, inJ, AObj.map, ndJ, ltJ, V.domL, V.dom, AObj.dom, kC, kR, AObj.isC, hJ, backJ, List.any_cons, List.any_nil, Nat.ble_eq, Nat.blt_eq, Nat.reduceLT, Nat.reduceLeDiff, Bool.or_true, Bool.true_or, Bool.or_false, Bool.false_or, Bool.and_self, go_sem, hq, Int.reduceToNat, Nat.reduceBEq, Nat.reduceEqDiff, Nat.reduceAdd, Nat.reduceMul, Nat.reduceLeDiff, Nat.reduceLT, Nat.reduceSub, ↓reduceIte, reduceCtorEq]
  (repeat (refine And.intro (by first | assumption | omega | decide | (simp; done) | (simp; omega) | (have hq := hvv hgt; omega) | (simp_all; done)) ?_))
  refine hKq _ ?_; clear hKq Kq
  refine evR_e hK ?_; clear hK K
  refine hK5 _ ?_
  refine tr_seq fun K6 hK6 => ?_
  refine tr_region [2] rfl rfl fun K hK => ?_
  iterate 2 refine evR_p ?_
  refine evR_e hK ?_; clear hK K
  refine hK6 _ ?_
  refine tr_ret ?_
  (try simp only [thenE, inBlkE])
  simp (maxSteps := 4000000) (disch := first | assumption | omega | (simp only [go_sem, *]; done) | (simp only [go_sem, *]; omega)) only [postA, postO, resV1, fzAll, go_sem, hq, Int.reduceToNat, Nat.reduceBEq, Nat.reduceEqDiff, Nat.reduceAdd, Nat.reduceMul, Nat.reduceLeDiff, Nat.reduceLT, Nat.reduceSub, ↓reduceIte, reduceCtorEq]
  all_goals (skip)

end Go.Proofs.Ytfamkbofdamkkaa


namespace Go.Proofs.Ytfamkbofdamkkaa
open Go.RowKit
set_option linter.unusedVariables false
set_option linter.unusedSimpArgs false
set_option maxRecDepth 100000
attribute [local go_sem] Nat.zero_add Nat.add_zero Nat.mul_one eq_self ne_eq not_true_eq_false not_false_eq_true decide_true decide_false decide_not Bool.false_eq_true List.filter_cons List.filter_nil true_and and_true beq_false beq_true Bool.not_true Bool.not_false Bool.and_true Bool.true_and Option.getD_some Option.getD_none imp_self implies_true Int.toNat_natCast List.cons_append List.nil_append List.map_cons List.map_nil List.length_cons List.length_nil List.getD_cons_zero List.getD_cons_succ List.drop_zero List.drop_succ_cons List.take_succ_cons List.take_zero
attribute [local go_sem] lowN lowQ lowM isAl appOwn unw appF isE isO stpO notIn St.bare evO evDO isEff stp St.get St.slot St.put List.lookup un unL ofVal gof nth pickV pkB_false pkB_true binV unV loadV idxV fldV partV buildV fillV lenV sliV appV appR rowsV winV V.parts V.okp V.sc Mem.look_cons Mem.look_nil V.cl V.clL AObj.clo fzAll exps St.fz Mem.fz V.fz V.fzL AObj.fz Option.isSome_some Option.isSome_none Bool.or_true Bool.true_or Bool.or_false Bool.false_or false_and and_false false_or or_false arT_22 arT_23 arT_25 arT_24 arT_40 arT_30  arT_65 arT_28 arT_90  arT_52 boolT_25 boolT_3 boolT_35 boolT_4  flatT_25 flatT_3 flatT_35 flatT_4  intT_3 intT_133 lay_23 lay_25 lay_67 lay_24 lay_27 lay_3 lay_49 lay_30 lay_34 lay_4 lay_65 lay_52 lay_54 lay_56 lay_141 lay_164  okF_17 okF_31  okF_36 okF_18 okF_34 okF_63  okF_28 okF_50 okF_69 okF_51  okF_35       okF_37   okF_71  okF_65  okF_62 okF_77 okF_79  okF_80 okF_81 okF_64 okF_66 okF_76 okF_113 okF_96 okF_97 okF_98 okF_82  okF_99 okF_119 okF_120 okF_78 okF_100 okF_101 okF_83 okF_84 okF_125 okF_126  okF_127 okF_128 okF_129 okF_130 okF_114 okF_124 okF_140 okF_141 okF_142 okF_143  okF_131 okF_132 okF_144 okF_158 okF_155 okF_159   plT_67 plT_27 plT_34 plT_54 plT_56 slT_22 slT_23 slT_25 slT_24 slT_40 slT_30  slT_65 slT_28 slT_90  slT_52  stT_67_1   stT_67_4 stT_67_5 stT_27_0 stT_27_1 stT_27_2 stT_34_0 stT_34_1 stT_34_2 stT_34_3 stT_54_0 stT_54_1 stT_54_2 stT_54_3 stT_56_0 stT_56_1  zeroT_67 zeroT_27 zeroT_3 zeroT_49 zeroT_30 zeroT_34 zeroT_65  zeroT_54 zeroT_56
attribute [local go_sem] List.getElem?_cons_zero List.getElem?_cons_succ List.zip_cons_cons List.zip_nil_left List.zip_nil_right Bool.false_and Bool.and_false List.length_append List.length_set List.length_replicate List.all_cons List.all_nil encI_length encI_getD encR_length encR_getD encRw encPg spl shp AObj.shp rowM isSt isRpS isRd csh AObj.csh forall_const imp_self
attribute [local simp] encI_length encR_length
theorem c38 (p : Pg) : CallsA Try.prog 77 [.agg (encPg p)] (.fn 125 [.ep (encPg p)]) := by
  have hq : True := trivial
  refine callsA_of_tr Try.func77 rfl (Nat.le_of_ble_eq_true rfl) ?_
  simp only [Try.results77, envOf, Nat.reduceAdd]
  refine tr_seq fun K1 hK1 => ?_
  refine tr_region [1] rfl rfl fun K hK => ?_
  iterate 2 refine evR_p ?_
  refine evR_e hK ?_; clear hK K
  refine hK1 _ ?_
  refine tr_seq fun K2 hK2 => ?_
  refine tr_fz [.ptr 0 0] (by simp (maxSteps := 4000000) (disch := first | assumption | omega | (simp only [go_sem, *]; done) | (simp only [go_sem, *]; omega)) only [go_sem, hq, Int.reduceToNat, Nat.reduceBEq, Nat.reduceEqDiff, Nat.reduceAdd, Nat.reduceMul, Nat.reduceLeDiff, Nat.reduceLT, Nat.reduceSub, ↓reduceIte, reduceCtorEq]; (try rfl)) ?_
  refine tr_region [2] rfl rfl fun K hK => ?_
  iterate 2 refine evR_p ?_
  refine evR_e hK ?_; clear hK K
  refine hK2 _ ?_
  refine tr_ret ?_
  (try simp only [thenE, inBlkE])
  simp (maxSteps := 4000000) (disch := first | assumption | omega | (simp only [go_sem, *]; done) | (simp only [go_sem, *]; omega)) only [postA, postO, resV1, fzAll, go_sem, hq, Int.reduceToNat, Nat.reduceBEq, Nat.reduceEqDiff, Nat.reduceAdd, Nat.reduceMul, Nat.reduceLeDiff, Nat.reduceLT, Nat.reduceSub, ↓reduceIte, reduceCtorEq]
  all_goals (rfl)

theorem c59 (r : Rw) (hm : r.coef.length ≤ maxLen) (set : Int) : CallsA Try.prog 126 [.agg (encRw r), .ep [.int .i64 set]] (.bool (keptB r set)) := by
  have hq : True := trivial
  refine callsA_of_tr Try.func126 rfl (Nat.le_of_ble_eq_true rfl) ?_
  simp only [Try.results126, envOf, Nat.reduceAdd]
  refine tr_seq fun K1 hK1 => ?_
  refine tr_region [1, 2] rfl rfl fun K hK => ?_
  iterate 2 refine evR_p ?_
  refine evR_e hK ?_; clear hK K
  refine hK1 _ ?_
  refine tr_seq fun K2 hK2 => ?_
  refine tr_region [3] rfl rfl fun K hK => ?_
  iterate 2 refine evR_p ?_
  refine evR_c (hc := (c55 r hm set)) (k := ?_)
  refine evR_p ?_
  refine evR_e hK ?_; clear hK K
  refine hK2 _ ?_
  refine tr_ret ?_
  (try simp only [thenE, inBlkE])
  simp (maxSteps := 4000000) (disch := first | assumption | omega | (simp only [go_sem, *]; done) | (simp only [go_sem, *]; omega)) only [postA, postO, resV1, fzAll, go_sem, hq, Int.reduceToNat, Nat.reduceBEq, Nat.reduceEqDiff, Nat.reduceAdd, Nat.reduceMul, Nat.reduceLeDiff, Nat.reduceLT, Nat.reduceSub, ↓reduceIte, reduceCtorEq]
  all_goals (skip)

section
attribute [local go_sem] fzL_mapI
theorem c58 (p : Pg) (hr : p.rows.length ≤ maxLen) (hg : p.gain.length ≤ maxLen) (hc : ∀ r ∈ p.rows, r.coef.length ≤ maxLen) (hv : validB p = true) : SeqA Try.prog (Value.int .i64) 125 [.ep (encPg p)] (fun xs => xs = choiceL p) 4096 := by
  obtain ⟨v, hv1, hv2, hv3, hv4⟩ := vars_pow hv
  have hq := And.intro hv1 (hv3)
  refine seqA_of_tr Try.func125 rfl (by rw [Try.results125]) enok_int (Nat.le_of_ble_eq_true rfl) (Nat.le_of_ble_eq_true rfl) fun l ys C hys hCY => ?_
  obtain ⟨y0, rfl⟩ : ∃ y0, ys = [y0] := by match ys, hys with | [y0], _ => exact ⟨y0, rfl⟩
  simp only [List.zipWith_cons_cons, List.zipWith_nil_left, List.zip_cons_cons, List.zip_nil_left, envOf, List.cons_append, List.nil_append, Nat.reduceAdd] at hCY ⊢
  refine tr_seq fun K1 hK1 => ?_
  refine tr_region [0, 1, 6, 7, 1000000, 1000001] rfl rfl fun K hK => ?_
  iterate 4 refine evR_p ?_
  refine evR_e hK ?_; clear hK K
  refine hK1 _ ?_
  refine tr_block ?_
  -- loop 1: live [0, 1, 6, 7]
  refine tr_loopW (fun m σ => ∃ i : Nat, i + m = 2 ^ v ∧ σ = ⟨[(0, .yl l), (1, .eq y0 (.ep [.int .i64 (v : Nat), .sl 6 (encR p.rows), .sl 1 (encI p.gain)])), (6, .int .i64 ((2 ^ v : Nat) : Int)), (7, .int .i64 (i : Nat)), (1000000, .tup ((chL p.rows i).map (V.int .i64))), (1000001, .bool false)], [], 0⟩) (2 ^ v) ?_ ?_
  · exact ⟨_, Wk.refl _, 0, by omega, rfl⟩
  · rintro m σ ⟨i, hi, rfl⟩ KL1 hKL1
    refine tr_seq fun K2 hK2 => ?_
    refine tr_region [0, 1, 6, 7, 8, 1000000, 1000001] rfl rfl fun K hK => ?_
    refine evR_p ?_
    refine evR_e hK ?_; clear hK K
    refine hK2 _ ?_
    refine tr_seq fun K3 hK3 => ?_
    refine tr_condB (fun ht1 => ?_) (fun ht1 => ?_)
    · skip
      (first | (exfalso; simp_all; done) | skip)
      all_goals
        have hil : i < 2 ^ v := by omega
        have hcl := chL_length p.rows i
        replace hq := And.intro hq (hil)
        refine tr_skip ?_
        (try simp only [thenE, inBlkE])
        refine hK3 _ ?_
        refine tr_seq fun K4 hK4 => ?_
        refine tr_block ?_
        refine tr_seq fun K5 hK5 => ?_
        refine tr_region [0, 1, 3, 6, 7, 1000000, 1000001] rfl rfl fun K hK => ?_
        iterate 3 refine evR_p ?_
        refine evR_e hK ?_; clear hK K
        refine hK5 _ ?_
        refine tr_seq fun K6 hK6 => ?_
        refine tr_region [0, 1, 6, 7, 19, 1000000, 1000001] rfl rfl fun K hK => ?_
        iterate 3 refine evR_p ?_
        refine evR_c (hc := (c46 p.rows 126 [.ep [.int .i64 (i : Nat)]] (fun r => keptB r (i : Nat)) okF_126 rfl (fun r h => c59 r (hc r h) (i : Nat)) hr)) (k := ?_)
        refine evR_p ?_
        iterate 2 refine evR_g ?_
        refine evR_stepY rfl rfl fun Kq hKq => ⟨fun hyt => hCY _ _ _ ?_, fun hyt => ⟨.bool false, hKq _ ?_⟩⟩
        (try simp only [decide_eq_true_eq, decide_eq_false_iff_not, Bool.not_eq_true', Bool.not_eq_false', Bool.and_eq_true, Bool.or_eq_true, Bool.and_eq_false_iff, Bool.or_eq_false_iff, beq_true, beq_false] at hyt)
        simp (maxSteps := 4000000) (disch := first | assumption | omega | (simp only [go_sem, *]; done) | (simp only [go_sem, *]; omega)) only [YI, go_sem, hq, Int.reduceToNat, Nat.reduceBEq, Nat.reduceEqDiff, Nat.reduceAdd, Nat.reduceMul, Nat.reduceLeDiff, Nat.reduceLT, Nat.reduceSub, ↓reduceIte, reduceCtorEq]
        (repeat (refine And.intro (by first | assumption | omega | decide | (simp; done) | (simp; omega) | (have hq := hvv hgt; omega) | (simp_all; done)) ?_))
        refine ⟨((i : Nat) : Int), chL p.rows i, [1], ?_⟩
        (repeat (refine And.intro (by first | rfl | exact (show (chL p.rows i).length < 4096 by omega) | (intro t ht; rw [List.mem_singleton] at ht; subst ht; exact ⟨_, List.mem_singleton.2 rfl, rfl⟩) | (rfl)) ?_))
        refine ⟨hKq _ ?_, hKq _ ?_⟩
        all_goals try simp only [goY, stY, keepE, simE, V.simpl, V.simp, List.cons_append, List.nil_append, St.put, St.slot, List.lookup, Option.getD_some, Nat.reduceBEq]
        all_goals (try clear hKq Kq)
        all_goals (try simp only [decide_eq_true_eq, decide_eq_false_iff_not, Bool.not_eq_true', Bool.not_eq_false', Bool.and_eq_true, Bool.or_eq_true, Bool.and_eq_false_iff, Bool.or_eq_false_iff, beq_true, beq_false] at hyt)
        all_goals
          refine evR_g ?_
          refine evR_p ?_
          refine evR_e hK ?_; clear hK K
          refine hK6 _ ?_
          refine tr_condB (fun ht2 => ?_) (fun ht2 => ?_)
          · skip
            (first | (exfalso; simp_all; done) | skip)
            all_goals
              refine tr_ret ?_
              (try simp only [thenE, inBlkE])
              simp (maxSteps := 4000000) (disch := first | assumption | omega | (simp only [go_sem, *]; done) | (simp only [go_sem, *]; omega)) only [postI, go_sem, hq, Int.reduceToNat, Nat.reduceBEq, Nat.reduceEqDiff, Nat.reduceAdd, Nat.reduceMul, Nat.reduceLeDiff, Nat.reduceLT, Nat.reduceSub, ↓reduceIte, reduceCtorEq]
              all_goals (first | exact Or.inl trivial | exact Or.inl rfl | exact Or.inr ⟨_, by unfold choiceL; rw [hv1]; rfl, rfl⟩)
          · skip
            (first | (exfalso; simp_all; done) | skip)
            all_goals
              refine tr_skip ?_
              (try simp only [thenE, inBlkE])
              refine hK4 _ ?_
              refine tr_region [0, 1, 6, 7, 1000000, 1000001] rfl rfl fun K hK => ?_
              iterate 2 refine evR_p ?_
              refine evR_e hK ?_; clear hK K
              refine hKL1 _ ?_
              first
                | exact ⟨m - 1, _, by omega, Wk.cut 0 (by simp only [St.cutOK, List.all_cons, List.all_nil, V.upto, uptoL_mapI, Bool.and_self, List.filter_nil]), i + 1, by omega, by rw [w64 (x := (i : Int) + 1) (by omega), chL_t hyt]; rfl⟩
                | exact ⟨m - 1, _, by omega, Wk.cut 0 (by simp only [St.cutOK, List.all_cons, List.all_nil, V.upto, uptoL_mapI, Bool.and_self, List.filter_nil]), i + 1, by omega, by rw [w64 (x := (i : Int) + 1) (by omega), chL_f hyt]; rfl⟩
    · skip
      (first | (exfalso; simp_all; done) | skip)
      all_goals
        have hil : i = 2 ^ v := by omega
        subst hil
        refine tr_exit ?_
        simp only [thenE, inBlkE, Nat.reduceEqDiff, ↓reduceIte]
        simp (maxSteps := 4000000) (disch := first | assumption | omega | (simp only [go_sem, *]; done) | (simp only [go_sem, *]; omega)) only [postI, go_sem, hq, Int.reduceToNat, Nat.reduceBEq, Nat.reduceEqDiff, Nat.reduceAdd, Nat.reduceMul, Nat.reduceLeDiff, Nat.reduceLT, Nat.reduceSub, ↓reduceIte, reduceCtorEq]
        all_goals (first | exact Or.inl trivial | exact Or.inl rfl | exact Or.inr ⟨_, by unfold choiceL; rw [hv1]; rfl, rfl⟩)
end

theorem c65 (f : FuncId) (caps : List V) (xs : List Int) (hit : SeqA Try.prog (Value.int .i64) f caps (fun ys => ys = xs) 4096) (hcl : V.clL caps = true) (hok : okF Try.prog f = true) : CallsA Try.prog 124 [.nsl, .fn f caps] (.sl 1 (encI xs)) := by
  have hq : True := trivial
  refine callsA_of_tr Try.func124 rfl (Nat.le_of_ble_eq_true rfl) ?_
  simp only [Try.results124, envOf, Nat.reduceAdd]
  refine tr_seq fun K1 hK1 => ?_
  refine tr_region [1, 2] rfl rfl fun K hK => ?_
  iterate 2 refine evR_p ?_
  refine evR_e hK ?_; clear hK K
  refine hK1 _ ?_
  refine tr_seq fun K2 hK2 => ?_
  refine tr_seq fun K3 hK3 => ?_
  refine tr_region [2, 6] rfl rfl fun K hK => ?_
  refine evR_p ?_
  refine evR_e hK ?_; clear hK K
  refine hK3 _ ?_
  refine tr_block ?_
  -- loop over a function 1: live [2]
  refine tr_wk (Wk.nilown 3 1 0 0 rfl (Nat.le_of_ble_eq_true rfl) rfl) ?_
  try simp only [List.map_cons, List.map_nil, Nat.reduceEqDiff, ↓reduceIte, List.set_cons_zero, List.set_cons_succ, Nat.reduceAdd]
  refine tr_rangeFunc (en := V.int .i64) hit enok_int.rel rfl hcl hok rfl (fun pre σ => σ = ⟨[(2, .ptr 0 0)], [(1, .row 3 1 (encI pre)), (0, .cells [.own 1])], 2⟩) [2] ?_ ?_ ?_
  · rfl
  · rintro pre x σ rfl hpre KL1 hKL1 KA1 hKA1
    simp only [St.rd, List.filter_cons, List.filter_nil, List.map_cons, List.map_nil, Nat.blt_eq, Nat.reduceLT, ↓reduceIte, List.cons_append, List.nil_append, Nat.reduceAdd]
    refine tr_region [2, 5, 2000002] rfl rfl fun K hK => ?_
    refine evR_p ?_
    refine evR_e hK ?_; clear hK K
    refine hKA1 _ ?_
    refine tr_block ?_
    refine tr_region [2000002] rfl rfl fun K hK => ?_
    iterate 2 refine evR_p ?_
    refine evR_bs ?_
    iterate 2 refine evR_p ?_
    refine evR_e hK ?_; clear hK K
    refine hKL1 _ ?_
    simp only [St.bk, List.filterMap_cons, List.filterMap_nil, Nat.ble_eq, Nat.reduceLeDiff, ↓reduceIte, Nat.reduceSub]
    exact ⟨_, Wk.trans (Wk.ren 2 1 (Nat.le_of_ble_eq_true rfl) (Nat.le_of_ble_eq_true rfl) rfl) (Wk.cut 2 rfl), by rw [encI_snoc]; rfl⟩
  · rintro pre σ hS rfl
    subst hS
    refine hK2 _ ?_
    refine tr_seq fun K4 hK4 => ?_
    refine tr_region [4] rfl rfl fun K hK => ?_
    iterate 2 refine evR_p ?_
    refine evR_e hK ?_; clear hK K
    refine hK4 _ ?_
    refine tr_ret ?_
    (try simp only [thenE, inBlkE])
    simp (maxSteps := 4000000) (disch := first | assumption | omega | (simp only [go_sem, *]; done) | (simp only [go_sem, *]; omega)) only [postA, postO, resV1, fzAll, go_sem, hq, Int.reduceToNat, Nat.reduceBEq, Nat.reduceEqDiff, Nat.reduceAdd, Nat.reduceMul, Nat.reduceLeDiff, Nat.reduceLT, Nat.reduceSub, ↓reduceIte, reduceCtorEq]
    all_goals (rfl)

end Go.Proofs.Ytfamkbofdamkkaa


namespace Go.Proofs.Ytfamkbofdamkkaa
open Go.RowKit
set_option linter.unusedVariables false
set_option linter.unusedSimpArgs false
set_option maxRecDepth 100000
attribute [local go_sem] Nat.zero_add Nat.add_zero Nat.mul_one eq_self ne_eq not_true_eq_false not_false_eq_true decide_true decide_false decide_not Bool.false_eq_true List.filter_cons List.filter_nil true_and and_true beq_false beq_true Bool.not_true Bool.not_false Bool.and_true Bool.true_and Option.getD_some Option.getD_none imp_self implies_true Int.toNat_natCast List.cons_append List.nil_append List.map_cons List.map_nil List.length_cons List.length_nil List.getD_cons_zero List.getD_cons_succ List.drop_zero List.drop_succ_cons List.take_succ_cons List.take_zero
attribute [local go_sem] lowN lowQ lowM isAl appOwn unw appF isE isO stpO notIn St.bare evO evDO isEff stp St.get St.slot St.put List.lookup un unL ofVal gof nth pickV pkB_false pkB_true binV unV loadV idxV fldV partV buildV fillV lenV sliV appV appR rowsV winV V.parts V.okp V.sc Mem.look_cons Mem.look_nil V.cl V.clL AObj.clo fzAll exps St.fz Mem.fz V.fz V.fzL AObj.fz Option.isSome_some Option.isSome_none Bool.or_true Bool.true_or Bool.or_false Bool.false_or false_and and_false false_or or_false arT_22 arT_23 arT_25 arT_24 arT_40 arT_30  arT_65 arT_28 arT_90  arT_52 boolT_25 boolT_3 boolT_35 boolT_4  flatT_25 flatT_3 flatT_35 flatT_4  intT_3 intT_133 lay_23 lay_25 lay_67 lay_24 lay_27 lay_3 lay_49 lay_30 lay_34 lay_4 lay_65 lay_52 lay_54 lay_56 lay_141 lay_164  okF_17 okF_31  okF_36 okF_18 okF_34 okF_63  okF_28 okF_50 okF_69 okF_51  okF_35       okF_37   okF_71  okF_65  okF_62 okF_77 okF_79  okF_80 okF_81 okF_64 okF_66 okF_76 okF_113 okF_96 okF_97 okF_98 okF_82  okF_99 okF_119 okF_120 okF_78 okF_100 okF_101 okF_83 okF_84 okF_125 okF_126  okF_127 okF_128 okF_129 okF_130 okF_114 okF_124 okF_140 okF_141 okF_142 okF_143  okF_131 okF_132 okF_144 okF_158 okF_155 okF_159   plT_67 plT_27 plT_34 plT_54 plT_56 slT_22 slT_23 slT_25 slT_24 slT_40 slT_30  slT_65 slT_28 slT_90  slT_52  stT_67_1   stT_67_4 stT_67_5 stT_27_0 stT_27_1 stT_27_2 stT_34_0 stT_34_1 stT_34_2 stT_34_3 stT_54_0 stT_54_1 stT_54_2 stT_54_3 stT_56_0 stT_56_1  zeroT_67 zeroT_27 zeroT_3 zeroT_49 zeroT_30 zeroT_34 zeroT_65  zeroT_54 zeroT_56
attribute [local go_sem] List.getElem?_cons_zero List.getElem?_cons_succ List.zip_cons_cons List.zip_nil_left List.zip_nil_right Bool.false_and Bool.and_false List.length_append List.length_set List.length_replicate List.all_cons List.all_nil encI_length encI_getD encR_length encR_getD encRw encPg spl shp AObj.shp rowM isSt isRpS isRd csh AObj.csh forall_const imp_self
attribute [local simp] encI_length encR_length
theorem c44 (f : FuncId) (caps : List V) (xs : List Int) (hit : SeqA Try.prog (Value.int .i64) f caps (fun ys => ys = xs) 4096) (hcl : V.clL caps = true) (hok : okF Try.prog f = true) : CallsA Try.prog 76 [.fn f caps] (.sl 1 (encI xs)) := by
  have hq := hcl
  refine callsA_of_tr Try.func76 rfl (Nat.le_of_ble_eq_true rfl) ?_
  simp only [Try.results76, envOf, Nat.reduceAdd]
  refine tr_seq fun K1 hK1 => ?_
  refine tr_region [0] rfl rfl fun K hK => ?_
  refine evR_p ?_
  refine evR_e hK ?_; clear hK K
  refine hK1 _ ?_
  refine tr_seq fun K2 hK2 => ?_
  refine tr_region [2] rfl rfl fun K hK => ?_
  refine evR_p ?_
  refine evR_c (hc := (c65 f caps xs hit hcl hok)) (k := ?_)
  refine evR_p ?_
  refine evR_e hK ?_; clear hK K
  refine hK2 _ ?_
  refine tr_ret ?_
  (try simp only [thenE, inBlkE])
  simp (maxSteps := 4000000) (disch := first | assumption | omega | (simp only [go_sem, *]; done) | (simp only [go_sem, *]; omega)) only [postA, postO, resV1, fzAll, go_sem, hq, Int.reduceToNat, Nat.reduceBEq, Nat.reduceEqDiff, Nat.reduceAdd, Nat.reduceMul, Nat.reduceLeDiff, Nat.reduceLT, Nat.reduceSub, ↓reduceIte, reduceCtorEq]
  all_goals (rfl)

theorem c16 (p : Pg) (hr : p.rows.length ≤ maxLen) (hg : p.gain.length ≤ maxLen) (hc : ∀ r ∈ p.rows, r.coef.length ≤ maxLen) (hv : validB p = true) : CallsA Try.prog 34 [.agg (encPg p)] (.tup [.sl 1 (encI (choiceL p)), .int .i64 0]) := by
  have hq := hv
  refine callsA_of_tr Try.func34 rfl (Nat.le_of_ble_eq_true rfl) ?_
  simp only [Try.results34, envOf, Nat.reduceAdd]
  refine tr_seq fun K1 hK1 => ?_
  refine tr_region [1] rfl rfl fun K hK => ?_
  iterate 3 refine evR_p ?_
  refine evR_e hK ?_; clear hK K
  refine hK1 _ ?_
  refine tr_seq fun K2 hK2 => ?_
  refine tr_seq fun K3 hK3 => ?_
  refine tr_region [1, 6] rfl rfl fun K hK => ?_
  refine evR_p ?_
  refine evR_c (hc := (c20 p hr hg hc)) (k := ?_)
  refine evR_p ?_
  refine evR_e hK ?_; clear hK K
  refine hK3 _ ?_
  refine tr_condB (fun ht1 => ?_) (fun ht1 => ?_)
  · skip
    (first | (exfalso; simp_all; done) | skip)
    all_goals
      refine tr_seq fun K4 hK4 => ?_
      refine tr_region [2, 3] rfl rfl fun K hK => ?_
      iterate 2 refine evR_p ?_
      refine evR_e hK ?_; clear hK K
      refine hK4 _ ?_
      refine tr_ret ?_
      (try simp only [thenE, inBlkE])
      simp (maxSteps := 4000000) (disch := first | assumption | omega | (simp only [go_sem, *]; done) | (simp only [go_sem, *]; omega)) only [postA, postO, resV1, fzAll, go_sem, hq, Int.reduceToNat, Nat.reduceBEq, Nat.reduceEqDiff, Nat.reduceAdd, Nat.reduceMul, Nat.reduceLeDiff, Nat.reduceLT, Nat.reduceSub, ↓reduceIte, reduceCtorEq]
      all_goals (rfl)
  · skip
    (first | (exfalso; simp_all; done) | skip)
    all_goals
      refine tr_skip ?_
      (try simp only [thenE, inBlkE])
      refine hK2 _ ?_
      refine tr_seq fun K5 hK5 => ?_
      refine tr_region [2, 3] rfl rfl fun K hK => ?_
      refine evR_p ?_
      refine evR_c (hc := (c38 p)) (k := ?_)
      refine evR_c (hc := (c44 125 [.ep (encPg p)] (choiceL p) (c58 p hr hg hc hv) rfl okF_125)) (k := ?_)
      iterate 2 refine evR_p ?_
      refine evR_e hK ?_; clear hK K
      refine hK5 _ ?_
      refine tr_ret ?_
      (try simp only [thenE, inBlkE])
      simp (maxSteps := 4000000) (disch := first | assumption | omega | (simp only [go_sem, *]; done) | (simp only [go_sem, *]; omega)) only [postA, postO, resV1, fzAll, go_sem, hq, Int.reduceToNat, Nat.reduceBEq, Nat.reduceEqDiff, Nat.reduceAdd, Nat.reduceMul, Nat.reduceLeDiff, Nat.reduceLT, Nat.reduceSub, ↓reduceIte, reduceCtorEq]
      all_goals (rfl)

theorem c16n (p : Pg) (hr : p.rows.length ≤ maxLen) (hg : p.gain.length ≤ maxLen) (hc : ∀ r ∈ p.rows, r.coef.length ≤ maxLen) (hv : validB p = false) : CallsA Try.prog 34 [.agg (encPg p)] (.tup [.nsl, .int .i64 230]) := by
  have hq := hv
  refine callsA_of_tr Try.func34 rfl (Nat.le_of_ble_eq_true rfl) ?_
  simp only [Try.results34, envOf, Nat.reduceAdd]
  refine tr_seq fun K1 hK1 => ?_
  refine tr_region [1] rfl rfl fun K hK => ?_
  iterate 3 refine evR_p ?_
  refine evR_e hK ?_; clear hK K
  refine hK1 _ ?_
  refine tr_seq fun K2 hK2 => ?_
  refine tr_seq fun K3 hK3 => ?_
  refine tr_region [1, 6] rfl rfl fun K hK => ?_
  refine evR_p ?_
  refine evR_c (hc := (c20 p hr hg hc)) (k := ?_)
  refine evR_p ?_
  refine evR_e hK ?_; clear hK K
  refine hK3 _ ?_
  refine tr_condB (fun ht1 => ?_) (fun ht1 => ?_)
  · skip
    (first | (exfalso; simp_all; done) | skip)
    all_goals
      refine tr_seq fun K4 hK4 => ?_
      refine tr_region [2, 3] rfl rfl fun K hK => ?_
      iterate 2 refine evR_p ?_
      refine evR_e hK ?_; clear hK K
      refine hK4 _ ?_
      refine tr_ret ?_
      (try simp only [thenE, inBlkE])
      simp (maxSteps := 4000000) (disch := first | assumption | omega | (simp only [go_sem, *]; done) | (simp only [go_sem, *]; omega)) only [postA, postO, resV1, fzAll, go_sem, hq, Int.reduceToNat, Nat.reduceBEq, Nat.reduceEqDiff, Nat.reduceAdd, Nat.reduceMul, Nat.reduceLeDiff, Nat.reduceLT, Nat.reduceSub, ↓reduceIte, reduceCtorEq]
      all_goals (rfl)
  · skip
    (first | (exfalso; simp_all; done) | skip)
    all_goals
      refine tr_skip ?_
      (try simp only [thenE, inBlkE])
      refine hK2 _ ?_
      refine tr_seq fun K5 hK5 => ?_
      refine tr_region [2, 3] rfl rfl fun K hK => ?_
      refine evR_p ?_
      refine evR_c (hc := (c38 p)) (k := ?_)
      refine evR_c (hc := (c44 125 [.ep (encPg p)] (choiceL p) (c58 p hr hg hc (by assumption)) rfl okF_125)) (k := ?_)
      iterate 2 refine evR_p ?_
      refine evR_e hK ?_; clear hK K
      refine hK5 _ ?_
      refine tr_ret ?_
      (try simp only [thenE, inBlkE])
      simp (maxSteps := 4000000) (disch := first | assumption | omega | (simp only [go_sem, *]; done) | (simp only [go_sem, *]; omega)) only [postA, postO, resV1, fzAll, go_sem, hq, Int.reduceToNat, Nat.reduceBEq, Nat.reduceEqDiff, Nat.reduceAdd, Nat.reduceMul, Nat.reduceLeDiff, Nat.reduceLT, Nat.reduceSub, ↓reduceIte, reduceCtorEq]
      all_goals (rfl)

end Go.Proofs.Ytfamkbofdamkkaa


namespace Go.Proofs.Ytfamkbofdamkkaa
open Go.RowKit
set_option linter.unusedVariables false
set_option linter.unusedSimpArgs false
set_option maxRecDepth 100000
attribute [local go_sem] Nat.zero_add Nat.add_zero Nat.mul_one eq_self ne_eq not_true_eq_false not_false_eq_true decide_true decide_false decide_not Bool.false_eq_true List.filter_cons List.filter_nil true_and and_true beq_false beq_true Bool.not_true Bool.not_false Bool.and_true Bool.true_and Option.getD_some Option.getD_none imp_self implies_true Int.toNat_natCast List.cons_append List.nil_append List.map_cons List.map_nil List.length_cons List.length_nil List.getD_cons_zero List.getD_cons_succ List.drop_zero List.drop_succ_cons List.take_succ_cons List.take_zero
attribute [local go_sem] lowN lowQ lowM isAl appOwn unw appF isE isO stpO notIn St.bare evO evDO isEff stp St.get St.slot St.put List.lookup un unL ofVal gof nth pickV pkB_false pkB_true binV unV loadV idxV fldV partV buildV fillV lenV sliV appV appR rowsV winV V.parts V.okp V.sc Mem.look_cons Mem.look_nil V.cl V.clL AObj.clo fzAll exps St.fz Mem.fz V.fz V.fzL AObj.fz Option.isSome_some Option.isSome_none Bool.or_true Bool.true_or Bool.or_false Bool.false_or false_and and_false false_or or_false arT_22 arT_23 arT_25 arT_24 arT_40 arT_30  arT_65 arT_28 arT_90  arT_52 boolT_25 boolT_3 boolT_35 boolT_4  flatT_25 flatT_3 flatT_35 flatT_4  intT_3 intT_133 lay_23 lay_25 lay_67 lay_24 lay_27 lay_3 lay_49 lay_30 lay_34 lay_4 lay_65 lay_52 lay_54 lay_56 lay_141 lay_164  okF_17 okF_31  okF_36 okF_18 okF_34 okF_63  okF_28 okF_50 okF_69 okF_51  okF_35       okF_37   okF_71  okF_65  okF_62 okF_77 okF_79  okF_80 okF_81 okF_64 okF_66 okF_76 okF_113 okF_96 okF_97 okF_98 okF_82  okF_99 okF_119 okF_120 okF_78 okF_100 okF_101 okF_83 okF_84 okF_125 okF_126  okF_127 okF_128 okF_129 okF_130 okF_114 okF_124 okF_140 okF_141 okF_142 okF_143  okF_131 okF_132 okF_144 okF_158 okF_155 okF_159   plT_67 plT_27 plT_34 plT_54 plT_56 slT_22 slT_23 slT_25 slT_24 slT_40 slT_30  slT_65 slT_28 slT_90  slT_52  stT_67_1   stT_67_4 stT_67_5 stT_27_0 stT_27_1 stT_27_2 stT_34_0 stT_34_1 stT_34_2 stT_34_3 stT_54_0 stT_54_1 stT_54_2 stT_54_3 stT_56_0 stT_56_1  zeroT_67 zeroT_27 zeroT_3 zeroT_49 zeroT_30 zeroT_34 zeroT_65  zeroT_54 zeroT_56
attribute [local go_sem] List.getElem?_cons_zero List.getElem?_cons_succ List.zip_cons_cons List.zip_nil_left List.zip_nil_right Bool.false_and Bool.and_false List.length_append List.length_set List.length_replicate List.all_cons List.all_nil encI_length encI_getD encR_length encR_getD encRw encPg spl shp AObj.shp rowM isSt isRpS isRd csh AObj.csh forall_const imp_self
attribute [local simp] encI_length encR_length
section
attribute [local go_sem] encR_takeA encR_one
set_option maxHeartbeats 2000000 in
theorem c14 (p : Pg) (hr : p.rows.length ≤ maxLen) (hg : p.gain.length ≤ maxLen) (hc : ∀ r ∈ p.rows, r.coef.length ≤ maxLen) (hv : validB p = true) : CallsA Try.prog 36 [.agg (encPg p)] (.tup [.agg (encSol (solveW p)), .int .i64 0]) := by
  obtain ⟨q0, q1, q2, q3, q4, q5⟩ := validB_all hv
  have hq := hv
  refine callsA_of_tr Try.func36 rfl (Nat.le_of_ble_eq_true rfl) ?_
  simp only [Try.results36, envOf, Nat.reduceAdd]
  refine tr_seq fun K1 hK1 => ?_
  refine tr_region [1, 2] rfl rfl fun K hK => ?_
  iterate 3 refine evR_p ?_
  refine evR_e hK ?_; clear hK K
  refine hK1 _ ?_
  refine tr_seq fun K2 hK2 => ?_
  refine tr_seq fun K3 hK3 => ?_
  refine tr_region [1, 2, 10] rfl rfl fun K hK => ?_
  refine evR_p ?_
  refine evR_c (hc := (c20 p hr hg hc)) (k := ?_)
  refine evR_p ?_
  refine evR_e hK ?_; clear hK K
  refine hK3 _ ?_
  refine tr_condB (fun ht1 => ?_) (fun ht1 => ?_)
  · skip
    (first | (exfalso; simp_all; done) | skip)
    all_goals
      refine tr_seq fun K4 hK4 => ?_
      refine tr_region [2, 3] rfl rfl fun K hK => ?_
      iterate 3 refine evR_p ?_
      refine evR_e hK ?_; clear hK K
      refine hK4 _ ?_
      refine tr_ret ?_
      (try simp only [thenE, inBlkE])
      simp (maxSteps := 4000000) (disch := first | assumption | omega | (simp only [go_sem, *]; done) | (simp only [go_sem, *]; omega)) only [postA, postO, resV1, fzAll, go_sem, hq, Int.reduceToNat, Nat.reduceBEq, Nat.reduceEqDiff, Nat.reduceAdd, Nat.reduceMul, Nat.reduceLeDiff, Nat.reduceLT, Nat.reduceSub, ↓reduceIte, reduceCtorEq]
      all_goals (simp only [encSol, solveW]; first | (rw [solRows_t (by assumption)]; done) | (rw [solRows_f (by assumption)]; done) | (rw [solRows_t (by assumption)]; rfl) | (rw [solRows_f (by assumption)]; rfl))
  · skip
    (first | (exfalso; simp_all; done) | skip)
    all_goals
      refine tr_skip ?_
      (try simp only [thenE, inBlkE])
      refine hK2 _ ?_
      refine tr_seq fun K5 hK5 => ?_
      refine tr_region [1, 2, 4] rfl rfl fun K hK => ?_
      refine evR_p ?_
      refine evR_e hK ?_; clear hK K
      refine hK5 _ ?_
      refine tr_seq fun K6 hK6 => ?_
      refine tr_seq fun K7 hK7 => ?_
      refine tr_region [1, 2, 4, 13] rfl rfl fun K hK => ?_
      refine evR_p ?_
      refine evR_c (hc := (c38 p)) (k := ?_)
      refine evR_e hK ?_; clear hK K
      refine hK7 _ ?_
      refine tr_block ?_
      -- loop over a function 1: live [1, 2, 4]
      refine tr_rangeFunc (en := V.int .i64) (c58 p hr hg hc hv) enok_int.rel rfl rfl okF_125 rfl (fun pre σ => σ = ⟨[(1, .ptr 0 0), (2, .ptr 1 0), (4, .ptr 2 0)], [(2, .cells [.bool (bestW p.gain pre).1, .int .i64 (bestW p.gain pre).2.1, .int .i64 (bestW p.gain pre).2.2, .nsl]), (1, .cells [.bool false, .int .i64 0, .int .i64 0, .nsl]), (0, .cells (encPg p))], 3⟩) [1, 2, 4] ?_ ?_ ?_
      · rfl
      · rintro pre x σ rfl hpre KL1 hKL1 KA1 hKA1
        simp only [St.rd, List.filter_cons, List.filter_nil, List.map_cons, List.map_nil, Nat.blt_eq, Nat.reduceLT, ↓reduceIte, List.cons_append, List.nil_append, Nat.reduceAdd]
        refine tr_region [1, 4, 5, 2000001, 2000002, 2000004] rfl rfl fun K hK => ?_
        refine evR_p ?_
        refine evR_e hK ?_; clear hK K
        refine hKA1 _ ?_
        refine tr_block ?_
        refine tr_seq fun K8 hK8 => ?_
        refine tr_region [4, 5, 6, 2000001, 2000002, 2000004] rfl rfl fun K hK => ?_
        iterate 3 refine evR_p ?_
        refine evR_c (hc := (c39 _ _ hg)) (k := ?_)
        refine evR_p ?_
        refine evR_e hK ?_; clear hK K
        refine hK8 _ ?_
        refine tr_seq fun K9 hK9 => ?_
        refine tr_region [4, 5, 6, 27, 2000001, 2000002, 2000004] rfl rfl fun K hK => ?_
        iterate 4 refine evR_p ?_
        iterate 4 refine evR_g ?_
        refine evR_p ?_
        refine evR_e hK ?_; clear hK K
        refine hK9 _ ?_
        refine tr_condB (fun ht2 => ?_) (fun ht2 => ?_)
        · skip
          (first | (exfalso; simp_all; done) | skip)
          all_goals
            refine tr_region [2000001, 2000002, 2000004] rfl rfl fun K hK => ?_
            iterate 4 refine evR_p ?_
            refine evR_e hK ?_; clear hK K
            refine hKL1 _ ?_
            simp only [St.bk, List.filterMap_cons, List.filterMap_nil, Nat.ble_eq, Nat.reduceLeDiff, ↓reduceIte, Nat.reduceSub]
            first
              | exact ⟨_, Wk.refl _, by rw [bestW_snoc, bestS_t (by first | (rcases ht2 with h | h <;> simp [h]; done) | (simp_all; done))]; rfl⟩
              | exact ⟨_, Wk.refl _, by rw [bestW_snoc, bestS_f (by first | (simp only [ht2, Bool.not_true, Bool.false_or]; done) | (simp_all; done))]; rfl⟩
        · skip
          (first | (exfalso; simp_all; done) | skip)
          all_goals
            refine tr_skip ?_
            (try simp only [thenE, inBlkE])
            refine hKL1 _ ?_
            simp only [St.bk, List.filterMap_cons, List.filterMap_nil, Nat.ble_eq, Nat.reduceLeDiff, ↓reduceIte, Nat.reduceSub]
            first
              | exact ⟨_, Wk.refl _, by rw [bestW_snoc, bestS_t (by first | (rcases ht2 with h | h <;> simp [h]; done) | (simp_all; done))]; rfl⟩
              | exact ⟨_, Wk.refl _, by rw [bestW_snoc, bestS_f (by first | (simp only [ht2, Bool.not_true, Bool.false_or]; done) | (simp_all; done))]; rfl⟩
      · rintro pre σ hS rfl
        subst hS
        have eb : bestW p.gain (choiceL p) = solveB p := rfl
        rw [eb]
        obtain ⟨vn, hvn⟩ := Int.eq_ofNat_of_zero_le q0
        refine hK6 _ ?_
        refine tr_seq fun K10 hK10 => ?_
        refine tr_region [1, 2, 4, 7] rfl rfl fun K hK => ?_
        iterate 3 refine evR_p ?_
        refine evR_e hK ?_; clear hK K
        refine hK10 _ ?_
        refine tr_seq fun K11 hK11 => ?_
        refine tr_seq fun K12 hK12 => ?_
        refine tr_region [1, 2, 4, 7, 34] rfl rfl fun K hK => ?_
        iterate 2 refine evR_p ?_
        refine evR_e hK ?_; clear hK K
        refine hK12 _ ?_
        refine tr_condB (fun ht3 => ?_) (fun ht3 => ?_)
        · skip
          (first | (exfalso; simp_all; done) | skip)
          all_goals
            refine tr_draw [45] [2, 4, 7] mixed rfl (by kernel_rfl) rfl fun K hK => ?_
            iterate 9 refine evD_p ?_
            refine evD_c (hc := (c40 p (by omega) _)) (k := ?_)
            refine evD_bs ?_
            iterate 2 refine evD_p ?_
            refine evD_e hK ?_; clear hK K
            refine hK11 _ ?_
            refine tr_seq fun K13 hK13 => ?_
            refine tr_region [2, 4] rfl rfl fun K hK => ?_
            refine evR_p ?_
            refine evR_c (hc := (solRows_t (p := p) (b := solveB p) (by assumption) ▸ (c41 (solRows p (solveB p)) (by rw [solRows_t (by assumption)]; simp only [List.length_append, List.length_cons, List.length_nil, maxLen]; omega) p.vars.toNat (by omega) (solRows_coef hv _) (solve_inf hv)))) (k := ?_)
            iterate 2 refine evR_p ?_
            refine evR_e hK ?_; clear hK K
            refine hK13 _ ?_
            refine tr_seq fun K14 hK14 => ?_
            refine tr_region [2, 3] rfl rfl fun K hK => ?_
            iterate 3 refine evR_p ?_
            refine evR_e hK ?_; clear hK K
            refine hK14 _ ?_
            refine tr_ret ?_
            (try simp only [thenE, inBlkE])
            simp (maxSteps := 4000000) (disch := first | assumption | omega | (simp only [go_sem, *]; done) | (simp only [go_sem, *]; omega)) only [postA, postO, resV1, fzAll, go_sem, hq, Int.reduceToNat, Nat.reduceBEq, Nat.reduceEqDiff, Nat.reduceAdd, Nat.reduceMul, Nat.reduceLeDiff, Nat.reduceLT, Nat.reduceSub, ↓reduceIte, reduceCtorEq]
            all_goals (simp only [encSol, solveW]; first | (rw [solRows_t (by assumption)]; done) | (rw [solRows_f (by assumption)]; done) | (rw [solRows_t (by assumption)]; rfl) | (rw [solRows_f (by assumption)]; rfl))
        · skip
          (first | (exfalso; simp_all; done) | skip)
          all_goals
            refine tr_skip ?_
            (try simp only [thenE, inBlkE])
            refine hK11 _ ?_
            refine tr_seq fun K15 hK15 => ?_
            refine tr_region [2, 4] rfl rfl fun K hK => ?_
            refine evR_p ?_
            refine evR_c (hc := (solRows_f (p := p) (b := solveB p) (by assumption) ▸ (c41 (solRows p (solveB p)) (by rw [solRows_f (by assumption)]; exact hr) p.vars.toNat (by omega) (solRows_coef hv _) (solve_inf hv)))) (k := ?_)
            iterate 2 refine evR_p ?_
            refine evR_e hK ?_; clear hK K
            refine hK15 _ ?_
            refine tr_seq fun K16 hK16 => ?_
            refine tr_region [2, 3] rfl rfl fun K hK => ?_
            iterate 3 refine evR_p ?_
            refine evR_e hK ?_; clear hK K
            refine hK16 _ ?_
            refine tr_ret ?_
            (try simp only [thenE, inBlkE])
            simp (maxSteps := 4000000) (disch := first | assumption | omega | (simp only [go_sem, *]; done) | (simp only [go_sem, *]; omega)) only [postA, postO, resV1, fzAll, go_sem, hq, Int.reduceToNat, Nat.reduceBEq, Nat.reduceEqDiff, Nat.reduceAdd, Nat.reduceMul, Nat.reduceLeDiff, Nat.reduceLT, Nat.reduceSub, ↓reduceIte, reduceCtorEq]
            all_goals (simp only [encSol, solveW]; first | (rw [solRows_t (by assumption)]; done) | (rw [solRows_f (by assumption)]; done) | (rw [solRows_t (by assumption)]; rfl) | (rw [solRows_f (by assumption)]; rfl))
end

section
attribute [local go_sem] encR_takeA encR_one
set_option maxHeartbeats 2000000 in
theorem c14n (p : Pg) (hr : p.rows.length ≤ maxLen) (hg : p.gain.length ≤ maxLen) (hc : ∀ r ∈ p.rows, r.coef.length ≤ maxLen) (hv : validB p = false) : CallsA Try.prog 36 [.agg (encPg p)] (.tup [.agg [.bool false, .int .i64 0, .int .i64 0, .nsl], .int .i64 230]) := by
  have hq := hv
  refine callsA_of_tr Try.func36 rfl (Nat.le_of_ble_eq_true rfl) ?_
  simp only [Try.results36, envOf, Nat.reduceAdd]
  refine tr_seq fun K1 hK1 => ?_
  refine tr_region [1, 2] rfl rfl fun K hK => ?_
  iterate 3 refine evR_p ?_
  refine evR_e hK ?_; clear hK K
  refine hK1 _ ?_
  refine tr_seq fun K2 hK2 => ?_
  refine tr_seq fun K3 hK3 => ?_
  refine tr_region [1, 2, 10] rfl rfl fun K hK => ?_
  refine evR_p ?_
  refine evR_c (hc := (c20 p hr hg hc)) (k := ?_)
  refine evR_p ?_
  refine evR_e hK ?_; clear hK K
  refine hK3 _ ?_
  refine tr_condB (fun ht1 => ?_) (fun ht1 => ?_)
  · skip
    (first | (exfalso; simp_all; done) | skip)
    all_goals
      refine tr_seq fun K4 hK4 => ?_
      refine tr_region [2, 3] rfl rfl fun K hK => ?_
      iterate 3 refine evR_p ?_
      refine evR_e hK ?_; clear hK K
      refine hK4 _ ?_
      refine tr_ret ?_
      (try simp only [thenE, inBlkE])
      simp (maxSteps := 4000000) (disch := first | assumption | omega | (simp only [go_sem, *]; done) | (simp only [go_sem, *]; omega)) only [postA, postO, resV1, fzAll, go_sem, hq, Int.reduceToNat, Nat.reduceBEq, Nat.reduceEqDiff, Nat.reduceAdd, Nat.reduceMul, Nat.reduceLeDiff, Nat.reduceLT, Nat.reduceSub, ↓reduceIte, reduceCtorEq]
      all_goals (rfl)
  · skip
    (first | (exfalso; simp_all; done) | skip)
    all_goals
      refine tr_skip ?_
      (try simp only [thenE, inBlkE])
      refine hK2 _ ?_
      refine tr_seq fun K5 hK5 => ?_
      refine tr_region [1, 2, 4] rfl rfl fun K hK => ?_
      refine evR_p ?_
      refine evR_e hK ?_; clear hK K
      refine hK5 _ ?_
      refine tr_seq fun K6 hK6 => ?_
      refine tr_seq fun K7 hK7 => ?_
      refine tr_region [1, 2, 4, 13] rfl rfl fun K hK => ?_
      refine evR_p ?_
      refine evR_c (hc := (c38 p)) (k := ?_)
      refine evR_e hK ?_; clear hK K
      refine hK7 _ ?_
      refine tr_block ?_
      -- loop over a function 1: live [1, 2, 4]
      refine tr_rangeFunc (en := V.int .i64) (c58 p hr hg hc hv) enok_int.rel rfl rfl okF_125 rfl (fun pre σ => σ = ⟨[(1, .ptr 0 0), (2, .ptr 1 0), (4, .ptr 2 0)], [(2, .cells [.bool (bestW p.gain pre).1, .int .i64 (bestW p.gain pre).2.1, .int .i64 (bestW p.gain pre).2.2, .nsl]), (1, .cells [.bool false, .int .i64 0, .int .i64 0, .nsl]), (0, .cells (encPg p))], 3⟩) [1, 2, 4] ?_ ?_ ?_
      · rfl
      · rintro pre x σ rfl hpre KL1 hKL1 KA1 hKA1
        simp only [St.rd, List.filter_cons, List.filter_nil, List.map_cons, List.map_nil, Nat.blt_eq, Nat.reduceLT, ↓reduceIte, List.cons_append, List.nil_append, Nat.reduceAdd]
        refine tr_region [1, 4, 5, 2000001, 2000002, 2000004] rfl rfl fun K hK => ?_
        refine evR_p ?_
        refine evR_e hK ?_; clear hK K
        refine hKA1 _ ?_
        refine tr_block ?_
        refine tr_seq fun K8 hK8 => ?_
        refine tr_region [4, 5, 6, 2000001, 2000002, 2000004] rfl rfl fun K hK => ?_
        iterate 3 refine evR_p ?_
        refine evR_c (hc := (c39 _ _ hg)) (k := ?_)
        refine evR_p ?_
        refine evR_e hK ?_; clear hK K
        refine hK8 _ ?_
        refine tr_seq fun K9 hK9 => ?_
        refine tr_region [4, 5, 6, 27, 2000001, 2000002, 2000004] rfl rfl fun K hK => ?_
        iterate 4 refine evR_p ?_
        iterate 4 refine evR_g ?_
        refine evR_p ?_
        refine evR_e hK ?_; clear hK K
        refine hK9 _ ?_
        refine tr_condB (fun ht2 => ?_) (fun ht2 => ?_)
        · skip
          (first | (exfalso; simp_all; done) | skip)
          all_goals
            refine tr_region [2000001, 2000002, 2000004] rfl rfl fun K hK => ?_
            iterate 4 refine evR_p ?_
            refine evR_e hK ?_; clear hK K
            refine hKL1 _ ?_
            simp only [St.bk, List.filterMap_cons, List.filterMap_nil, Nat.ble_eq, Nat.reduceLeDiff, ↓reduceIte, Nat.reduceSub]
            first
              | exact ⟨_, Wk.refl _, by rw [bestW_snoc, bestS_t (by first | (rcases ht2 with h | h <;> simp [h]; done) | (simp_all; done))]; rfl⟩
              | exact ⟨_, Wk.refl _, by rw [bestW_snoc, bestS_f (by first | (simp only [ht2, Bool.not_true, Bool.false_or]; done) | (simp_all; done))]; rfl⟩
        · skip
          (first | (exfalso; simp_all; done) | skip)
          all_goals
            refine tr_skip ?_
            (try simp only [thenE, inBlkE])
            refine hKL1 _ ?_
            simp only [St.bk, List.filterMap_cons, List.filterMap_nil, Nat.ble_eq, Nat.reduceLeDiff, ↓reduceIte, Nat.reduceSub]
            first
              | exact ⟨_, Wk.refl _, by rw [bestW_snoc, bestS_t (by first | (rcases ht2 with h | h <;> simp [h]; done) | (simp_all; done))]; rfl⟩
              | exact ⟨_, Wk.refl _, by rw [bestW_snoc, bestS_f (by first | (simp only [ht2, Bool.not_true, Bool.false_or]; done) | (simp_all; done))]; rfl⟩
      · rintro pre σ hS rfl
        subst hS
        have eb : bestW p.gain (choiceL p) = solveB p := rfl
        rw [eb]
        obtain ⟨vn, hvn⟩ := Int.eq_ofNat_of_zero_le q0
        refine hK6 _ ?_
        refine tr_seq fun K10 hK10 => ?_
        refine tr_region [1, 2, 4, 7] rfl rfl fun K hK => ?_
        iterate 3 refine evR_p ?_
        refine evR_e hK ?_; clear hK K
        refine hK10 _ ?_
        refine tr_seq fun K11 hK11 => ?_
        refine tr_seq fun K12 hK12 => ?_
        refine tr_region [1, 2, 4, 7, 34] rfl rfl fun K hK => ?_
        iterate 2 refine evR_p ?_
        refine evR_e hK ?_; clear hK K
        refine hK12 _ ?_
        refine tr_condB (fun ht3 => ?_) (fun ht3 => ?_)
        · skip
          (first | (exfalso; simp_all; done) | skip)
          all_goals
            refine tr_draw [45] [2, 4, 7] mixed rfl (by kernel_rfl) rfl fun K hK => ?_
            iterate 9 refine evD_p ?_
            refine evD_c (hc := (c40 p (by omega) _)) (k := ?_)
            refine evD_bs ?_
            iterate 2 refine evD_p ?_
            refine evD_e hK ?_; clear hK K
            refine hK11 _ ?_
            refine tr_seq fun K13 hK13 => ?_
            refine tr_region [2, 4] rfl rfl fun K hK => ?_
            refine evR_p ?_
            refine evR_c (hc := (solRows_t (p := p) (b := solveB p) (by assumption) ▸ (c41 (solRows p (solveB p)) (by rw [solRows_t (by assumption)]; simp only [List.length_append, List.length_cons, List.length_nil, maxLen]; omega) p.vars.toNat (by omega) (solRows_coef hv _) (solve_inf hv)))) (k := ?_)
            iterate 2 refine evR_p ?_
            refine evR_e hK ?_; clear hK K
            refine hK13 _ ?_
            refine tr_seq fun K14 hK14 => ?_
            refine tr_region [2, 3] rfl rfl fun K hK => ?_
            iterate 3 refine evR_p ?_
            refine evR_e hK ?_; clear hK K
            refine hK14 _ ?_
            refine tr_ret ?_
            (try simp only [thenE, inBlkE])
            simp (maxSteps := 4000000) (disch := first | assumption | omega | (simp only [go_sem, *]; done) | (simp only [go_sem, *]; omega)) only [postA, postO, resV1, fzAll, go_sem, hq, Int.reduceToNat, Nat.reduceBEq, Nat.reduceEqDiff, Nat.reduceAdd, Nat.reduceMul, Nat.reduceLeDiff, Nat.reduceLT, Nat.reduceSub, ↓reduceIte, reduceCtorEq]
            all_goals (rfl)
        · skip
          (first | (exfalso; simp_all; done) | skip)
          all_goals
            refine tr_skip ?_
            (try simp only [thenE, inBlkE])
            refine hK11 _ ?_
            refine tr_seq fun K15 hK15 => ?_
            refine tr_region [2, 4] rfl rfl fun K hK => ?_
            refine evR_p ?_
            refine evR_c (hc := (solRows_f (p := p) (b := solveB p) (by assumption) ▸ (c41 (solRows p (solveB p)) (by rw [solRows_f (by assumption)]; exact hr) p.vars.toNat (by omega) (solRows_coef hv _) (solve_inf hv)))) (k := ?_)
            iterate 2 refine evR_p ?_
            refine evR_e hK ?_; clear hK K
            refine hK15 _ ?_
            refine tr_seq fun K16 hK16 => ?_
            refine tr_region [2, 3] rfl rfl fun K hK => ?_
            iterate 3 refine evR_p ?_
            refine evR_e hK ?_; clear hK K
            refine hK16 _ ?_
            refine tr_ret ?_
            (try simp only [thenE, inBlkE])
            simp (maxSteps := 4000000) (disch := first | assumption | omega | (simp only [go_sem, *]; done) | (simp only [go_sem, *]; omega)) only [postA, postO, resV1, fzAll, go_sem, hq, Int.reduceToNat, Nat.reduceBEq, Nat.reduceEqDiff, Nat.reduceAdd, Nat.reduceMul, Nat.reduceLeDiff, Nat.reduceLT, Nat.reduceSub, ↓reduceIte, reduceCtorEq]
            all_goals (rfl)
end

end Go.Proofs.Ytfamkbofdamkkaa


namespace Go.Proofs.Ytfamkbofdamkkaa
open Go.RowKit
set_option linter.unusedVariables false
set_option linter.unusedSimpArgs false
set_option maxRecDepth 100000
attribute [local go_sem] Nat.zero_add Nat.add_zero Nat.mul_one eq_self ne_eq not_true_eq_false not_false_eq_true decide_true decide_false decide_not Bool.false_eq_true List.filter_cons List.filter_nil true_and and_true beq_false beq_true Bool.not_true Bool.not_false Bool.and_true Bool.true_and Option.getD_some Option.getD_none imp_self implies_true Int.toNat_natCast List.cons_append List.nil_append List.map_cons List.map_nil List.length_cons List.length_nil List.getD_cons_zero List.getD_cons_succ List.drop_zero List.drop_succ_cons List.take_succ_cons List.take_zero
attribute [local go_sem] lowN lowQ lowM isAl appOwn unw appF isE isO stpO notIn St.bare evO evDO isEff stp St.get St.slot St.put List.lookup un unL ofVal gof nth pickV pkB_false pkB_true binV unV loadV idxV fldV partV buildV fillV lenV sliV appV appR rowsV winV V.parts V.okp V.sc Mem.look_cons Mem.look_nil V.cl V.clL AObj.clo fzAll exps St.fz Mem.fz V.fz V.fzL AObj.fz Option.isSome_some Option.isSome_none Bool.or_true Bool.true_or Bool.or_false Bool.false_or false_and and_false false_or or_false arT_104 arT_121 arT_160 arT_161 arT_22 arT_23 arT_24 arT_25 arT_28 arT_29 arT_30 arT_40 arT_42 arT_52 arT_60 arT_65 arT_72 arT_73 arT_76 arT_9 arT_90 boolT_182 boolT_25 boolT_3 boolT_35 boolT_4 boolT_76 flatT_182 flatT_25 flatT_3 flatT_35 flatT_4 flatT_76 intT_133 intT_169 intT_171 intT_188 intT_3 intT_5 lay_104 lay_112 lay_138 lay_141 lay_153 lay_160 lay_161 lay_164 lay_188 lay_23 lay_24 lay_25 lay_27 lay_28 lay_3 lay_30 lay_34 lay_4 lay_49 lay_52 lay_54 lay_56 lay_65 lay_67 lay_73 lay_76 lay_90 lay_99 mapT_112 okF_10 okF_100 okF_101 okF_102 okF_103 okF_104 okF_105 okF_106 okF_107 okF_108 okF_109 okF_11 okF_110 okF_111 okF_112 okF_113 okF_114 okF_115 okF_116 okF_117 okF_118 okF_119 okF_12 okF_120 okF_121 okF_122 okF_123 okF_124 okF_125 okF_126 okF_127 okF_128 okF_129 okF_13 okF_130 okF_131 okF_132 okF_133 okF_134 okF_135 okF_136 okF_137 okF_138 okF_139 okF_14 okF_140 okF_141 okF_142 okF_143 okF_144 okF_145 okF_146 okF_147 okF_148 okF_149 okF_15 okF_150 okF_151 okF_152 okF_153 okF_154 okF_155 okF_156 okF_157 okF_158 okF_159 okF_16 okF_160 okF_161 okF_162 okF_163 okF_164 okF_165 okF_166 okF_167 okF_168 okF_169 okF_17 okF_170 okF_171 okF_172 okF_173 okF_174 okF_175 okF_176 okF_177 okF_18 okF_19 okF_20 okF_21 okF_22 okF_23 okF_24 okF_25 okF_26 okF_27 okF_28 okF_29 okF_3 okF_30 okF_31 okF_32 okF_33 okF_34 okF_35 okF_36 okF_37 okF_38 okF_39 okF_4 okF_40 okF_41 okF_42 okF_43 okF_44 okF_45 okF_46 okF_47 okF_48 okF_49 okF_5 okF_50 okF_51 okF_52 okF_53 okF_54 okF_55 okF_56 okF_57 okF_58 okF_59 okF_6 okF_60 okF_61 okF_62 okF_63 okF_64 okF_65 okF_66 okF_67 okF_68 okF_69 okF_7 okF_70 okF_71 okF_72 okF_73 okF_74 okF_75 okF_76 okF_77 okF_78 okF_79 okF_8 okF_80 okF_81 okF_82 okF_83 okF_84 okF_85 okF_86 okF_87 okF_88 okF_89 okF_9 okF_90 okF_91 okF_92 okF_93 okF_94 okF_95 okF_96 okF_97 okF_98 okF_99 plT_138 plT_153 plT_157 plT_161 plT_27 plT_34 plT_54 plT_56 plT_67 plT_76 plT_90 plT_99 slT_104 slT_121 slT_160 slT_161 slT_22 slT_23 slT_24 slT_25 slT_28 slT_29 slT_30 slT_40 slT_42 slT_52 slT_60 slT_65 slT_72 slT_73 slT_76 slT_90 stT_138_0 stT_138_1 stT_153_0 stT_157_0 stT_157_1 stT_157_2 stT_157_3 stT_27_0 stT_27_1 stT_27_2 stT_34_0 stT_34_1 stT_34_2 stT_34_3 stT_54_0 stT_54_1 stT_54_2 stT_54_3 stT_56_0 stT_56_1 stT_67_1 stT_67_4 stT_67_5 stT_99_0 stT_99_1 strT_160 strT_76 strT_9 zeroT_112 zeroT_138 zeroT_153 zeroT_157 zeroT_160 zeroT_161 zeroT_188 zeroT_27 zeroT_3 zeroT_30 zeroT_34 zeroT_4 zeroT_49 zeroT_54 zeroT_56 zeroT_65 zeroT_67 zeroT_76 zeroT_90 zeroT_99
attribute [local go_sem] List.getElem?_cons_zero List.getElem?_cons_succ List.zip_cons_cons List.zip_nil_left List.zip_nil_right Bool.false_and Bool.and_false List.length_append List.length_set List.length_replicate List.all_cons List.all_nil encI_length encI_getD encR_length encR_getD encRw encPg spl shp AObj.shp rowM isSt isRpS isRd csh AObj.csh forall_const imp_self
attribute [local go_sem] encSg encW encSgs_length encWs_length encSgs_getD encWs_getD lookV lkM putM
attribute [local simp] encI_length encR_length cellsI_length encSgs_length encWs_length
section
attribute [local go_sem] encSol cellsI_fzL List.replicate_zero encT_length cellsI_length cellsI_getD cellsI_sc cellsI_cl cellsI_winT cellsI_take
set_option maxHeartbeats 8000000 in
theorem k6 (a : Int) (x : List T3) (g : List Int) (ha : okI a) (hxl : x.length ≤ maxLen) (hx : ∀ t ∈ x, okT t) (hgl : g.length = 8) (hg : ∀ c ∈ g, okI c) (b : Int) (hb : okI b) : CallsA Try.prog 6 [.int .i64 a, .sl 3 (encT x), .agg (cellsI g), .int .i64 b] (.bool true) := by
  obtain ⟨M, hM⟩ : ∃ M, madeW a x g = M := ⟨_, rfl⟩
  have hv : validB M = true := hM ▸ made_valid ha hx hg
  have hr8 : M.rows.length ≤ 8 := hM ▸ made_rows a x g
  have hc11 := c11 a x g ha hxl hgl
  rw [hM] at hc11
  obtain ⟨ml1, ml2, ml3⟩ := valid_max hv
  obtain ⟨q0, q1, q2, q3, q4, q5⟩ := validB_all hv
  have hlP : (prfS M).length ≤ maxLen := by have := prf_len hv; unfold maxLen; omega
  have kR : CallsA Try.prog 24 [.agg (encPg M), .sl 4 (encS (solveW M).proof)] (.bool (refutesW M (prfS M))) := (k24 M ml1 ml2 ml3 (prfS M) hlP (hwl_of (prf_ws M))).arg (.cons (.refl _) (.cons (encS_le (solveW M).proof) .nil))
  have kW : CallsA Try.prog 26 [.agg (encPg M), .sl 4 (encS (solveW M).proof)] (.int .i64 (wrongW M (prfS M))) := (k26 M ml1 ml2 ml3 (prfS M) hlP (hwl_of (prf_ws M))).arg (.cons (.refl _) (.cons (encS_le (solveW M).proof) .nil))
  have kB : ∀ n : Int, CallsA Try.prog 32 [.agg (encPg M), .sl 4 (encS (solveW M).proof), .int .i64 n] (.bool (boundsW M (prfS M) n)) := fun n => (k32 M ml1 ml2 ml3 (prfS M) hlP (hwl_of (prf_ws M)) (by omega) (by omega) n).arg (.cons (.refl _) (.cons (encS_le (solveW M).proof) (.cons (.refl _) .nil)))
  have hpk := pickW_range b (n := 50) (by decide) (by decide) (by unfold okI at hb; omega)
  have hw1 : (solveW M).found = true → IntKind.i64.wrap ((solveW M).gain - 1) = (solveW M).gain - 1 ∧ IntKind.i64.wrap ((solveW M).gain - 1 - pickW b 50) = (solveW M).gain - 1 - pickW b 50 := fun hf => by
    obtain ⟨s, -, -, -, h1, h2⟩ := solveB_gain hv hf
    have e2 : (solveW M).gain = (solveB M).2.2 := rfl
    rw [e2]
    exact ⟨w64 (by omega), w64 (by omega)⟩
  have hT : (solveW M).found = true → boundsW M (prfS M) (solveW M).gain = true ∧ boundsW M (prfS M) ((solveW M).gain - 1 - pickW b 50) = false ∧ refutesW M (prfS M) = false := fun hf => ⟨cmp_bound hv hf, cmp_less hv hf (by show (solveB M).2.2 - 1 - pickW b 50 < _; omega), cmp_ref hv hf⟩
  have hF : (solveW M).found = false → refutesW M (prfS M) = true ∧ wrongW M (prfS M) = -1 := fun hf => ⟨prf_refutes hv hf, cmp_wrong hv hf⟩
  have hq := hgl
  refine callsA_of_tr Try.func6 rfl (Nat.le_of_ble_eq_true rfl) ?_
  simp only [Try.results6, envOf, Nat.reduceAdd]
  refine tr_seq fun K1 hK1 => ?_
  refine tr_region [0, 1, 3, 6] rfl rfl fun K hK => ?_
  iterate 2 refine evR_p ?_
  refine evR_e hK ?_; clear hK K
  refine hK1 _ ?_
  refine tr_seq fun K2 hK2 => ?_
  refine tr_region [0, 1, 3, 6, 9] rfl rfl fun K hK => ?_
  refine evR_c (hc := k16) (k := ?_)
  refine evR_p ?_
  refine evR_e hK ?_; clear hK K
  refine hK2 _ ?_
  refine tr_seq fun K3 hK3 => ?_
  refine tr_seq fun K4 hK4 => ?_
  refine tr_region [0, 1, 3, 6, 9, 15] rfl rfl fun K hK => ?_
  iterate 2 refine evR_p ?_
  refine evR_e hK ?_; clear hK K
  refine hK4 _ ?_
  refine tr_condB (fun ht1 => ?_) (fun ht1 => ?_)
  · skip
    (first | (exfalso; omega) | (exfalso; simp_all; done) | skip)
    all_goals
      refine tr_seq fun K5 hK5 => ?_
      refine tr_region [8] rfl rfl fun K hK => ?_
      refine evR_p ?_
      refine evR_e hK ?_; clear hK K
      refine hK5 _ ?_
      refine tr_ret ?_
      (try simp only [thenE, inBlkE])
      simp (maxSteps := 4000000) (disch := first | assumption | omega | (simp only [go_sem, *]; done) | (simp only [go_sem, *]; omega)) only [postA, postO, resV1, fzAll, go_sem, hq, Int.reduceToNat, Nat.reduceBEq, Nat.reduceEqDiff, Nat.reduceAdd, Nat.reduceMul, Nat.reduceLeDiff, Nat.reduceLT, Nat.reduceSub, ↓reduceIte, reduceCtorEq]
      all_goals (first | (obtain ⟨z1, z2⟩ := hF ht3; simp [z1, z2]; done) | (obtain ⟨z1, z2, z3⟩ := hT ht3; obtain ⟨y1, y2⟩ := hw1 ht3; simp [z1, z2, z3, y1, y2]; done))
  · skip
    (first | (exfalso; omega) | (exfalso; simp_all; done) | skip)
    all_goals
      refine tr_skip ?_
      (try simp only [thenE, inBlkE])
      refine hK3 _ ?_
      refine tr_seq fun K6 hK6 => ?_
      refine tr_region [3, 9, 10] rfl rfl fun K hK => ?_
      iterate 3 refine evR_p ?_
      refine evR_c (hc := hc11) (k := ?_)
      iterate 2 refine evR_p ?_
      refine evR_e hK ?_; clear hK K
      refine hK6 _ ?_
      refine tr_seq fun K7 hK7 => ?_
      refine tr_region [3, 9, 10, 11, 12] rfl rfl fun K hK => ?_
      refine evR_p ?_
      refine evR_c (hc := (c14 M ml1 ml2 ml3 hv)) (k := ?_)
      iterate 6 refine evR_p ?_
      refine evR_e hK ?_; clear hK K
      refine hK7 _ ?_
      refine tr_seq fun K8 hK8 => ?_
      refine tr_seq fun K9 hK9 => ?_
      refine tr_region [3, 9, 10, 11, 26] rfl rfl fun K hK => ?_
      iterate 2 refine evR_p ?_
      refine evR_e hK ?_; clear hK K
      refine hK9 _ ?_
      refine tr_condB (fun ht2 => ?_) (fun ht2 => ?_)
      · skip
        (first | (exfalso; omega) | (exfalso; simp_all; done) | skip)
        all_goals
          refine tr_seq fun K10 hK10 => ?_
          refine tr_region [8] rfl rfl fun K hK => ?_
          refine evR_p ?_
          refine evR_e hK ?_; clear hK K
          refine hK10 _ ?_
          refine tr_ret ?_
          (try simp only [thenE, inBlkE])
          simp (maxSteps := 4000000) (disch := first | assumption | omega | (simp only [go_sem, *]; done) | (simp only [go_sem, *]; omega)) only [postA, postO, resV1, fzAll, go_sem, hq, Int.reduceToNat, Nat.reduceBEq, Nat.reduceEqDiff, Nat.reduceAdd, Nat.reduceMul, Nat.reduceLeDiff, Nat.reduceLT, Nat.reduceSub, ↓reduceIte, reduceCtorEq]
          all_goals (first | (obtain ⟨z1, z2⟩ := hF ht3; simp [z1, z2]; done) | (obtain ⟨z1, z2, z3⟩ := hT ht3; obtain ⟨y1, y2⟩ := hw1 ht3; simp [z1, z2, z3, y1, y2]; done))
      · skip
        (first | (exfalso; omega) | (exfalso; simp_all; done) | skip)
        all_goals
          refine tr_skip ?_
          (try simp only [thenE, inBlkE])
          refine hK8 _ ?_
          refine tr_seq fun K11 hK11 => ?_
          refine tr_seq fun K12 hK12 => ?_
          refine tr_region [3, 9, 10, 11, 29] rfl rfl fun K hK => ?_
          iterate 3 refine evR_p ?_
          refine evR_e hK ?_; clear hK K
          refine hK12 _ ?_
          refine tr_condB (fun ht3 => ?_) (fun ht3 => ?_)
          · skip
            (first | (exfalso; omega) | (exfalso; simp_all; done) | skip)
            all_goals
              refine tr_seq fun K13 hK13 => ?_
              refine tr_region [8] rfl rfl fun K hK => ?_
              iterate 2 refine evR_p ?_
              iterate 3 refine evR_g ?_
              refine evR_gc (hc := kR) (k := ?_)
              iterate 2 refine evR_p ?_
              iterate 3 refine evR_g ?_
              refine evR_gc (hc := kW) (k := ?_)
              refine evR_g ?_
              iterate 2 refine evR_p ?_
              refine evR_e hK ?_; clear hK K
              refine hK13 _ ?_
              refine tr_ret ?_
              (try simp only [thenE, inBlkE])
              simp (maxSteps := 4000000) (disch := first | assumption | omega | (simp only [go_sem, *]; done) | (simp only [go_sem, *]; omega)) only [postA, postO, resV1, fzAll, go_sem, hq, Int.reduceToNat, Nat.reduceBEq, Nat.reduceEqDiff, Nat.reduceAdd, Nat.reduceMul, Nat.reduceLeDiff, Nat.reduceLT, Nat.reduceSub, ↓reduceIte, reduceCtorEq]
              all_goals (first | (obtain ⟨z1, z2⟩ := hF ht3; simp [z1, z2]; done) | (obtain ⟨z1, z2, z3⟩ := hT ht3; obtain ⟨y1, y2⟩ := hw1 ht3; simp [z1, z2, z3, y1, y2]; done))
          · skip
            (first | (exfalso; omega) | (exfalso; simp_all; done) | skip)
            all_goals
              refine tr_skip ?_
              (try simp only [thenE, inBlkE])
              refine hK11 _ ?_
              refine tr_seq fun K14 hK14 => ?_
              refine tr_draw [] [8] mixed rfl (by kernel_rfl) rfl fun K hK => ?_
              iterate 2 refine evD_p ?_
              iterate 5 refine evD_g ?_
              refine evD_gc (hc := (kB _)) (k := ?_)
              iterate 2 refine evD_p ?_
              iterate 7 refine evD_g ?_
              refine evD_gc (hc := (c12 b 50 (by decide))) (k := ?_)
              refine evD_g ?_
              refine evD_gc (hc := (kB _)) (k := ?_)
              refine evD_g ?_
              iterate 2 refine evD_p ?_
              iterate 3 refine evD_g ?_
              refine evD_gc (hc := kR) (k := ?_)
              refine evD_g ?_
              iterate 2 refine evD_p ?_
              refine evD_e hK ?_; clear hK K
              refine hK14 _ ?_
              refine tr_ret ?_
              (try simp only [thenE, inBlkE])
              simp (maxSteps := 4000000) (disch := first | assumption | omega | (simp only [go_sem, *]; done) | (simp only [go_sem, *]; omega)) only [postA, postO, resV1, fzAll, go_sem, hq, Int.reduceToNat, Nat.reduceBEq, Nat.reduceEqDiff, Nat.reduceAdd, Nat.reduceMul, Nat.reduceLeDiff, Nat.reduceLT, Nat.reduceSub, ↓reduceIte, reduceCtorEq]
              all_goals (first | (obtain ⟨z1, z2⟩ := hF ht3; simp [z1, z2]; done) | (obtain ⟨z1, z2, z3⟩ := hT ht3; obtain ⟨y1, y2⟩ := hw1 ht3; simp [z1, z2, z3, y1, y2]; done))
end

end Go.Proofs.Ytfamkbofdamkkaa


namespace Go.Proofs.Ytfamkbofdamkkaa
open Go.ChangeShapes Go.WideShapes Go.ChangeAt Go.RowKit
theorem Try.own : ownKnob Try.prog.godebug = none := by kernel_rfl
theorem Try.laidOut : laidOutB Try.prog = true := by kernel_rfl
section
variable {H : Type} {enc : TypeId × Value → H} {w : World}
theorem okI_of_wf {n : Int} (h : (Lit.int .i64 n).wf = true) : okI n := by
  simp [Lit.wf, IntKind.min, IntKind.max, IntKind.signed, IntKind.bits] at h
  unfold okI; omega
theorem dec3 : Dec enc Try.prog w 65 (fun t : T3 => [V.int .i64 t.p, V.int .i64 t.q, V.int .i64 t.r]) okT :=
  (dec_array (n := 3) (sz := 1) Try.underlying65 (by kernel_rfl) (by kernel_rfl) (dec_int Try.underlying3)).turn (fun xs => ⟨xs.getD 0 0, xs.getD 1 0, xs.getD 2 0⟩) fun xs h => by
    obtain ⟨h1, h2⟩ := h
    match xs, h1 with
    | [x, y, z], _ => exact ⟨rfl, okI_of_wf (h2 x (by simp)), okI_of_wf (h2 y (by simp)), okI_of_wf (h2 z (by simp))⟩
def okG (n : Nat) (a : List Int) : Prop := a.length = n ∧ ∀ c ∈ a, okI c
theorem decG {t : TypeId} {n : Nat} (ht : Try.prog.underlying t = some (.array n 3)) (h1 : Try.prog.cellsOf 3 = 1) (h2 : Try.prog.cellsOf t = n * 1) : Dec enc Try.prog w t (fun a : List Int => cellsI a) (okG n) :=
  (dec_array (n := n) (sz := 1) ht h1 h2 (dec_int Try.underlying3)).turn (fun xs => xs) fun xs h => ⟨by show xs.map (V.int .i64) = _; exact List.map_eq_flatMap, h.1, fun c hc => okI_of_wf (h.2 c hc)⟩
theorem dec8 : Dec enc Try.prog w 23 (fun a : List Int => cellsI a) (okG 8) := decG Try.underlying23 (by kernel_rfl) (by kernel_rfl)
end
end Go.Proofs.Ytfamkbofdamkkaa
