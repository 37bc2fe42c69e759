/- Texts of this proof, put together. -/
import Derived.Test.YtfamkbofdamkkaaKYb
import Derived.Test.YtfamkbofdamkkaaKYc
import Derived.Test.YtfamkbofdamkkaaKYd
import Derived.Shelf.SlIterI.Sorted
import Derived.Shelf.SlIterI.Nil
import Derived.Shelf.SortM.Plain
import Derived.Shelf.SortM.SortNone
import Derived.Ground.GgzProg
import Derived.Ground.SlgmProg
import Derived.Test.YtfamkbofdamkkaaProg
namespace Go.Proofs.Ytfamkbofdamkkaa
open Go.RowKit
set_option linter.unusedVariables false
set_option linter.unusedSimpArgs false
set_option maxRecDepth 100000
attribute [local go_sem] Nat.zero_add Nat.add_zero Nat.mul_one eq_self ne_eq not_true_eq_false not_false_eq_true decide_true decide_false decide_not Bool.false_eq_true List.filter_cons List.filter_nil true_and and_true beq_false beq_true Bool.not_true Bool.not_false Bool.and_true Bool.true_and Option.getD_some Option.getD_none imp_self implies_true Int.toNat_natCast List.cons_append List.nil_append List.map_cons List.map_nil List.length_cons List.length_nil List.getD_cons_zero List.getD_cons_succ List.drop_zero List.drop_succ_cons List.take_succ_cons List.take_zero
attribute [local go_sem] shL isSh Option.isNone_none Option.isNone_some Option.isSome_none lowN lowQ lowM isAl appOwn unw appF isE isO stpO notIn St.bare evO evDO isEff stp St.get St.slot St.put List.lookup un unL ofVal gof nth pickV pkB_false pkB_true binV unV loadV idxV fldV partV buildV fillV lenV sliV appV appR rowsV winV V.parts V.okp V.sc Mem.look_cons Mem.look_nil V.cl V.clL AObj.clo fzAll exps St.fz Mem.fz V.fz V.fzL AObj.fz Option.isSome_some Option.isSome_none Bool.or_true Bool.true_or Bool.or_false Bool.false_or false_and and_false false_or or_false arT_104 arT_121 arT_160 arT_161 arT_22 arT_23 arT_24 arT_25 arT_28 arT_29 arT_30 arT_40 arT_42 arT_52 arT_60 arT_65 arT_72 arT_73 arT_76 arT_9 arT_90 boolT_182 boolT_25 boolT_3 boolT_35 boolT_4 boolT_76 flatT_182 flatT_25 flatT_3 flatT_35 flatT_4 flatT_76 intT_133 intT_169 intT_171 intT_188 intT_3 intT_5 lay_104 lay_112 lay_138 lay_141 lay_153 lay_160 lay_161 lay_164 lay_188 lay_23 lay_24 lay_25 lay_27 lay_28 lay_3 lay_30 lay_34 lay_4 lay_49 lay_52 lay_54 lay_56 lay_65 lay_67 lay_73 lay_76 lay_90 lay_99 mapT_112 okF_10 okF_100 okF_101 okF_102 okF_103 okF_104 okF_105 okF_106 okF_107 okF_108 okF_109 okF_11 okF_110 okF_111 okF_112 okF_113 okF_114 okF_115 okF_116 okF_117 okF_118 okF_119 okF_12 okF_120 okF_121 okF_122 okF_123 okF_124 okF_125 okF_126 okF_127 okF_128 okF_129 okF_13 okF_130 okF_131 okF_132 okF_133 okF_134 okF_135 okF_136 okF_137 okF_138 okF_139 okF_14 okF_140 okF_141 okF_142 okF_143 okF_144 okF_145 okF_146 okF_147 okF_148 okF_149 okF_15 okF_150 okF_151 okF_152 okF_153 okF_154 okF_155 okF_156 okF_157 okF_158 okF_159 okF_16 okF_160 okF_161 okF_162 okF_163 okF_164 okF_165 okF_166 okF_167 okF_168 okF_169 okF_17 okF_170 okF_171 okF_172 okF_173 okF_174 okF_175 okF_176 okF_177 okF_18 okF_19 okF_20 okF_21 okF_22 okF_23 okF_24 okF_25 okF_26 okF_27 okF_28 okF_29 okF_3 okF_30 okF_31 okF_32 okF_33 okF_34 okF_35 okF_36 okF_37 okF_38 okF_39 okF_4 okF_40 okF_41 okF_42 okF_43 okF_44 okF_45 okF_46 okF_47 okF_48 okF_49 okF_5 okF_50 okF_51 okF_52 okF_53 okF_54 okF_55 okF_56 okF_57 okF_58 okF_59 okF_6 okF_60 okF_61 okF_62 okF_63 okF_64 okF_65 okF_66 okF_67 okF_68 okF_69 okF_7 okF_70 okF_71 okF_72 okF_73 okF_74 okF_75 okF_76 okF_77 okF_78 okF_79 okF_8 okF_80 okF_81 okF_82 okF_83 okF_84 okF_85 okF_86 okF_87 okF_88 okF_89 okF_9 okF_90 okF_91 okF_92 okF_93 okF_94 okF_95 okF_96 okF_97 okF_98 okF_99 plT_138 plT_153 plT_157 plT_161 plT_27 plT_34 plT_54 plT_56 plT_67 plT_76 plT_90 plT_99 slT_104 slT_121 slT_160 slT_161 slT_22 slT_23 slT_24 slT_25 slT_28 slT_29 slT_30 slT_40 slT_42 slT_52 slT_60 slT_65 slT_72 slT_73 slT_76 slT_90 stT_138_0 stT_138_1 stT_153_0 stT_157_0 stT_157_1 stT_157_2 stT_157_3 stT_27_0 stT_27_1 stT_27_2 stT_34_0 stT_34_1 stT_34_2 stT_34_3 stT_54_0 stT_54_1 stT_54_2 stT_54_3 stT_56_0 stT_56_1 stT_67_1 stT_67_4 stT_67_5 stT_99_0 stT_99_1 strT_160 strT_76 strT_9 zeroT_112 zeroT_138 zeroT_153 zeroT_157 zeroT_160 zeroT_161 zeroT_188 zeroT_27 zeroT_3 zeroT_30 zeroT_34 zeroT_4 zeroT_49 zeroT_54 zeroT_56 zeroT_65 zeroT_67 zeroT_76 zeroT_90 zeroT_99
attribute [local go_sem] List.getElem?_cons_zero List.getElem?_cons_succ List.zip_cons_cons List.zip_nil_left List.zip_nil_right Bool.false_and Bool.and_false List.length_append List.length_set List.length_replicate List.all_cons List.all_nil encI_length encI_getD encR_length encR_getD encRw encPg spl shp AObj.shp rowM isSt isRpS isRd csh AObj.csh forall_const imp_self
attribute [local go_sem] encSg encW encSgs_length encWs_length encSgs_getD encWs_getD lookV lkM putM
attribute [local simp] encI_length encR_length cellsI_length encSgs_length encWs_length
theorem k24 (p : Pg) (hr0 : p.rows.length ≤ maxLen) (hg : p.gain.length ≤ maxLen) (hc : ∀ r ∈ p.rows, r.coef.length ≤ maxLen) (l : List Sg) (hlm : l.length ≤ maxLen) (hwl : ∀ k, k < l.length → ∀ s, l.getD k sg0 = s → s.ws.length ≤ maxLen) : CallsA Try.prog 24 [.agg (encPg p), .sl 4 (encSgs l)] (.bool (refutesW p l)) := by
 have hq : True := trivial
 refine callsA_of_tr Try.func24 rfl (Nat.le_of_ble_eq_true rfl) ?_
 simp only [Try.results24, envOf, Nat.reduceAdd]
 refine tr_seq fun K1 hK1 => ?_
 refine tr_region [1, 2] rfl rfl fun K hK => ?_
 iterate 2 refine evR_p ?_
 refine evR_e hK ?_; clear hK K
 refine hK1 _ ?_
 refine tr_seq fun K2 hK2 => ?_
 refine tr_region [4] rfl rfl fun K hK => ?_
 iterate 2 refine evR_p ?_
 refine evR_c (hc := (k26 p hr0 hg hc l hlm hwl)) (k := ?_)
 iterate 2 refine evR_p ?_
 refine evR_e hK ?_; clear hK K
 refine hK2 _ ?_
 refine tr_ret ?_
 (try simp only [thenE, inBlkE])
 simp (maxSteps := 4000000) (disch := first | assumption | omega | (simp only [go_sem, *]; done) | (simp only [go_sem, *]; omega)) only [postA, postO, resV1, fzAll, go_sem, hq, Int.reduceToNat, Nat.reduceBEq, Nat.reduceEqDiff, Nat.reduceAdd, Nat.reduceMul, Nat.reduceLeDiff, Nat.reduceLT, Nat.reduceSub, ↓reduceIte, reduceCtorEq]
 all_goals (rfl)

section
attribute [local go_sem] List.replicate_succ List.replicate_zero List.set_cons_zero
set_option maxHeartbeats 16000000 in
theorem k32a (p : Pg) (hr0 : p.rows.length ≤ maxLen) (hg : p.gain.length ≤ maxLen) (hc : ∀ r ∈ p.rows, r.coef.length ≤ maxLen) (l : List Sg) (hlm : l.length ≤ maxLen) (hwl : ∀ k, k < l.length → ∀ s, l.getD k sg0 = s → s.ws.length ≤ maxLen) (hgs : p.gain.length ≤ 1000) (hrs : p.rows.length ≤ 100000) (gain : Int) (hU : usedV p (p.rows ++ [goalW p gain]) l = .nm) : CallsA Try.prog 32 [.agg (encPg p), .sl 4 (encSgs l), .int .i64 gain] (.bool (boundsW p l gain)) := by
 have hk680 := fun hv => k68 p hr0 hg hc (p.rows ++ [goalW p gain]) l hlm hwl hv
 rw [hU] at hk680
 unfold maxLen at hg hr0
 have hq : True := trivial
 refine callsA_of_tr Try.func32 rfl (Nat.le_of_ble_eq_true rfl) ?_
 simp only [Try.results32, envOf, Nat.reduceAdd]
 refine tr_seq fun K1 hK1 => ?_
 refine tr_region [1, 2, 3] rfl rfl fun K hK => ?_
 iterate 2 refine evR_p ?_
 refine evR_e hK ?_; clear hK K
 refine hK1 _ ?_
 refine tr_seq fun K2 hK2 => ?_
 refine tr_seq fun K3 hK3 => ?_
 refine tr_region [1, 2, 3, 14] rfl rfl fun K hK => ?_
 refine evR_p ?_
 refine evR_c (hc := (k75 _ _ _)) (k := ?_)
 refine evR_p ?_
 refine evR_e hK ?_; clear hK K
 refine hK3 _ ?_
 refine tr_condB (fun ht1 => ?_) (fun ht1 => ?_)
 ·
  skip
  refine tr_seq fun K4 hK4 => ?_
  refine tr_region [6] rfl rfl fun K hK => ?_
  refine evR_p ?_
  refine evR_e hK ?_; clear hK K
  refine hK4 _ ?_
  refine tr_ret ?_
  (try simp only [thenE, inBlkE])
  simp (maxSteps := 4000000) (disch := first | assumption | omega | (simp only [go_sem, *]; done) | (simp only [go_sem, *]; omega)) only [postA, postO, resV1, fzAll, go_sem, hq, Int.reduceToNat, Nat.reduceBEq, Nat.reduceEqDiff, Nat.reduceAdd, Nat.reduceMul, Nat.reduceLeDiff, Nat.reduceLT, Nat.reduceSub, ↓reduceIte, reduceCtorEq]
  all_goals (first | (rw [wrongX_bounds ht1]; done) | (rw [bounds_out ht1]; done))
 ·
  skip
  refine tr_skip ?_
  (try simp only [thenE, inBlkE])
  refine hK2 _ ?_
  refine tr_seq fun K5 hK5 => ?_
  refine tr_region [1, 3, 7] rfl rfl fun K hK => ?_
  iterate 6 refine evR_p ?_
  refine evR_e hK ?_; clear hK K
  refine hK5 _ ?_
  refine tr_seq fun K6 hK6 => ?_
  refine tr_seq fun K7 hK7 => ?_
  refine tr_region [1, 3, 7, 20, 21, 22] rfl rfl fun K hK => ?_
  iterate 4 refine evR_p ?_
  refine evR_e hK ?_; clear hK K
  refine hK7 _ ?_
  refine tr_block ?_
  -- loop 1: live [1, 3, 7, 20, 21, 22]
  refine tr_loopW (fun m σ => ∃ i : Nat, i + m = p.gain.length ∧ σ = ⟨[(1, .sl 4 (encSgs l)), (3, .ptr 0 0), (7, .ptr 1 0), (20, .sl 1 (encI p.gain)), (21, .int .i64 p.gain.length), (22, .int .i64 (i : Nat))], [(2, .row 3 1 (encI (negG p.gain i))), (1, .cells [.int .i64 0, .int .i64 0, .int .i64 0, .int .i64 0, .own 2, .int .i64 (IntKind.i64.wrap (0 - IntKind.i64.wrap (gain + 1)))]), (0, .cells (encPg p))], 3⟩) (p.gain.length) ?_ ?_
  ·
   exact ⟨_, Wk.nilown 3 1 1 4 rfl (Nat.le_of_ble_eq_true rfl) rfl, 0, by omega, rfl⟩
  ·
   rintro m σ ⟨i, hi, rfl⟩ KL1 hKL1
   refine tr_seq fun K8 hK8 => ?_
   refine tr_region [1, 3, 7, 20, 21, 22, 23] rfl rfl fun K hK => ?_
   refine evR_p ?_
   refine evR_e hK ?_; clear hK K
   refine hK8 _ ?_
   refine tr_seq fun K9 hK9 => ?_
   refine tr_condB (fun ht2 => ?_) (fun ht2 => ?_)
   ·
    skip
    have hil : i < p.gain.length := by omega
    have hnl := negG_length p.gain i
    replace hq := And.intro hq (And.intro hil (hnl))
    refine tr_skip ?_
    (try simp only [thenE, inBlkE])
    refine hK9 _ ?_
    refine tr_seq fun K10 hK10 => ?_
    refine tr_block ?_
    refine tr_seq fun K11 hK11 => ?_
    refine tr_region [1, 3, 7, 9, 20, 21, 22] rfl rfl fun K hK => ?_
    iterate 3 refine evR_p ?_
    refine evR_e hK ?_; clear hK K
    refine hK11 _ ?_
    refine tr_region [1, 3, 7, 20, 21, 22] rfl rfl fun K hK => ?_
    iterate 4 refine evR_p ?_
    refine evR_bs ?_
    iterate 3 refine evR_p ?_
    refine evR_e hK ?_; clear hK K
    refine hK10 _ ?_
    refine tr_region [1, 3, 7, 20, 21, 22] rfl rfl fun K hK => ?_
    iterate 2 refine evR_p ?_
    refine evR_e hK ?_; clear hK K
    refine hKL1 _ ?_
    exact ⟨m - 1, _, by omega, (Wk.trans (Wk.ren 3 2 (Nat.le_of_ble_eq_true rfl) (Nat.le_of_ble_eq_true rfl) rfl) (Wk.cut 3 rfl)), i + 1, by omega, by rw [w64 (x := (i : Int) + 1) (by omega), negG_succ hil, encI_snoc]; rfl⟩
   ·
    skip
    have hil : i = p.gain.length := by omega
    subst hil
    have hk68 := hk680 (fun hv => goal_okRws hv ht1)
    rw [show encR (p.rows ++ [goalW p gain]) = encR p.rows ++ [[.int .i64 0, .int .i64 0, .int .i64 0, .int .i64 0, .sl 1 (encI (negG p.gain p.gain.length)), .int .i64 (IntKind.i64.wrap (0 - IntKind.i64.wrap (gain + 1)))]] from by simp [encR, encRw, goalW]] at hk68
    have hT : List.take p.rows.length (encR p.rows) = encR p.rows := List.take_of_length_le (by rw [encR_length]; omega)
    replace hq := And.intro hq hT
    refine tr_exit ?_
    simp only [thenE, inBlkE, Nat.reduceEqDiff, ↓reduceIte]
    refine hK6 _ ?_
    refine tr_seq fun K12 hK12 => ?_
    refine tr_fz [.own 2] (by simp (maxSteps := 4000000) (disch := first | assumption | omega | (simp only [go_sem, *]; done) | (simp only [go_sem, *]; omega)) only [go_sem, hq, Int.reduceToNat, Nat.reduceBEq, Nat.reduceEqDiff, Nat.reduceAdd, Nat.reduceMul, Nat.reduceLeDiff, Nat.reduceLT, Nat.reduceSub, ↓reduceIte, reduceCtorEq]; (try rfl)) ?_
    refine tr_draw [46, 47] [10] mixed rfl (by kernel_rfl) rfl fun K hK => ?_
    iterate 11 refine evD_p ?_
    refine evD_step fun Kq hKq => ?_
    simp (maxSteps := 4000000) (disch := first | assumption | omega | (simp only [go_sem, *]; done) | (simp only [go_sem, *]; omega)) only [isE, isO, stpO, notIn, St.bare, go_sem, hq, Int.reduceToNat, Nat.reduceBEq, Nat.reduceEqDiff, Nat.reduceAdd, Nat.reduceMul, Nat.reduceLeDiff, Nat.reduceLT, Nat.reduceSub, ↓reduceIte, reduceCtorEq]
    (repeat (refine And.intro (by first | assumption | omega | decide | (simp; done) | (simp; omega) | (have hq := hvv hgt; omega) | (have hq := hvv hgt.1; omega) | (simp_all; done)) ?_))
    refine Or.inl (hKq _ ?_); clear hKq Kq
    iterate 2 refine evD_p ?_
    refine evD_c (hc := hk68) (k := ?_)
    iterate 5 refine evD_p ?_
    refine evD_e hK ?_; clear hK K
    refine hK12 _ ?_
    refine tr_seq fun K13 hK13 => ?_
    refine tr_region [6] rfl rfl fun K hK => ?_
    iterate 3 refine evR_p ?_
    refine evR_e hK ?_; clear hK K
    refine hK13 _ ?_
    refine tr_ret ?_
    (try simp only [thenE, inBlkE])
    simp (maxSteps := 4000000) (disch := first | assumption | omega | (simp only [go_sem, *]; done) | (simp only [go_sem, *]; omega)) only [postA, postO, resV1, fzAll, go_sem, hq, Int.reduceToNat, Nat.reduceBEq, Nat.reduceEqDiff, Nat.reduceAdd, Nat.reduceMul, Nat.reduceLeDiff, Nat.reduceLT, Nat.reduceSub, ↓reduceIte, reduceCtorEq]
    all_goals (first | (rw [wrongX_bounds ht1]; done) | (rw [bounds_out ht1]; done))
end

section
attribute [local go_sem] List.replicate_succ List.replicate_zero List.set_cons_zero
set_option maxHeartbeats 16000000 in
theorem k32b (p : Pg) (hr0 : p.rows.length ≤ maxLen) (hg : p.gain.length ≤ maxLen) (hc : ∀ r ∈ p.rows, r.coef.length ≤ maxLen) (l : List Sg) (hlm : l.length ≤ maxLen) (hwl : ∀ k, k < l.length → ∀ s, l.getD k sg0 = s → s.ws.length ≤ maxLen) (hgs : p.gain.length ≤ 1000) (hrs : p.rows.length ≤ 100000) (gain : Int) (es : List (Int × Bool)) (hU : usedV p (p.rows ++ [goalW p gain]) l = .fm es) : CallsA Try.prog 32 [.agg (encPg p), .sl 4 (encSgs l), .int .i64 gain] (.bool (boundsW p l gain)) := by
 have hk680 := fun hv => k68 p hr0 hg hc (p.rows ++ [goalW p gain]) l hlm hwl hv
 rw [hU] at hk680
 unfold maxLen at hg hr0
 have hq : True := trivial
 refine callsA_of_tr Try.func32 rfl (Nat.le_of_ble_eq_true rfl) ?_
 simp only [Try.results32, envOf, Nat.reduceAdd]
 refine tr_seq fun K1 hK1 => ?_
 refine tr_region [1, 2, 3] rfl rfl fun K hK => ?_
 iterate 2 refine evR_p ?_
 refine evR_e hK ?_; clear hK K
 refine hK1 _ ?_
 refine tr_seq fun K2 hK2 => ?_
 refine tr_seq fun K3 hK3 => ?_
 refine tr_region [1, 2, 3, 14] rfl rfl fun K hK => ?_
 refine evR_p ?_
 refine evR_c (hc := (k75 _ _ _)) (k := ?_)
 refine evR_p ?_
 refine evR_e hK ?_; clear hK K
 refine hK3 _ ?_
 refine tr_condB (fun ht1 => ?_) (fun ht1 => ?_)
 ·
  skip
  refine tr_seq fun K4 hK4 => ?_
  refine tr_region [6] rfl rfl fun K hK => ?_
  refine evR_p ?_
  refine evR_e hK ?_; clear hK K
  refine hK4 _ ?_
  refine tr_ret ?_
  (try simp only [thenE, inBlkE])
  simp (maxSteps := 4000000) (disch := first | assumption | omega | (simp only [go_sem, *]; done) | (simp only [go_sem, *]; omega)) only [postA, postO, resV1, fzAll, go_sem, hq, Int.reduceToNat, Nat.reduceBEq, Nat.reduceEqDiff, Nat.reduceAdd, Nat.reduceMul, Nat.reduceLeDiff, Nat.reduceLT, Nat.reduceSub, ↓reduceIte, reduceCtorEq]
  all_goals (first | (rw [wrongX_bounds ht1]; done) | (rw [bounds_out ht1]; done))
 ·
  skip
  refine tr_skip ?_
  (try simp only [thenE, inBlkE])
  refine hK2 _ ?_
  refine tr_seq fun K5 hK5 => ?_
  refine tr_region [1, 3, 7] rfl rfl fun K hK => ?_
  iterate 6 refine evR_p ?_
  refine evR_e hK ?_; clear hK K
  refine hK5 _ ?_
  refine tr_seq fun K6 hK6 => ?_
  refine tr_seq fun K7 hK7 => ?_
  refine tr_region [1, 3, 7, 20, 21, 22] rfl rfl fun K hK => ?_
  iterate 4 refine evR_p ?_
  refine evR_e hK ?_; clear hK K
  refine hK7 _ ?_
  refine tr_block ?_
  -- loop 1: live [1, 3, 7, 20, 21, 22]
  refine tr_loopW (fun m σ => ∃ i : Nat, i + m = p.gain.length ∧ σ = ⟨[(1, .sl 4 (encSgs l)), (3, .ptr 0 0), (7, .ptr 1 0), (20, .sl 1 (encI p.gain)), (21, .int .i64 p.gain.length), (22, .int .i64 (i : Nat))], [(2, .row 3 1 (encI (negG p.gain i))), (1, .cells [.int .i64 0, .int .i64 0, .int .i64 0, .int .i64 0, .own 2, .int .i64 (IntKind.i64.wrap (0 - IntKind.i64.wrap (gain + 1)))]), (0, .cells (encPg p))], 3⟩) (p.gain.length) ?_ ?_
  ·
   exact ⟨_, Wk.nilown 3 1 1 4 rfl (Nat.le_of_ble_eq_true rfl) rfl, 0, by omega, rfl⟩
  ·
   rintro m σ ⟨i, hi, rfl⟩ KL1 hKL1
   refine tr_seq fun K8 hK8 => ?_
   refine tr_region [1, 3, 7, 20, 21, 22, 23] rfl rfl fun K hK => ?_
   refine evR_p ?_
   refine evR_e hK ?_; clear hK K
   refine hK8 _ ?_
   refine tr_seq fun K9 hK9 => ?_
   refine tr_condB (fun ht2 => ?_) (fun ht2 => ?_)
   ·
    skip
    have hil : i < p.gain.length := by omega
    have hnl := negG_length p.gain i
    replace hq := And.intro hq (And.intro hil (hnl))
    refine tr_skip ?_
    (try simp only [thenE, inBlkE])
    refine hK9 _ ?_
    refine tr_seq fun K10 hK10 => ?_
    refine tr_block ?_
    refine tr_seq fun K11 hK11 => ?_
    refine tr_region [1, 3, 7, 9, 20, 21, 22] rfl rfl fun K hK => ?_
    iterate 3 refine evR_p ?_
    refine evR_e hK ?_; clear hK K
    refine hK11 _ ?_
    refine tr_region [1, 3, 7, 20, 21, 22] rfl rfl fun K hK => ?_
    iterate 4 refine evR_p ?_
    refine evR_bs ?_
    iterate 3 refine evR_p ?_
    refine evR_e hK ?_; clear hK K
    refine hK10 _ ?_
    refine tr_region [1, 3, 7, 20, 21, 22] rfl rfl fun K hK => ?_
    iterate 2 refine evR_p ?_
    refine evR_e hK ?_; clear hK K
    refine hKL1 _ ?_
    exact ⟨m - 1, _, by omega, (Wk.trans (Wk.ren 3 2 (Nat.le_of_ble_eq_true rfl) (Nat.le_of_ble_eq_true rfl) rfl) (Wk.cut 3 rfl)), i + 1, by omega, by rw [w64 (x := (i : Int) + 1) (by omega), negG_succ hil, encI_snoc]; rfl⟩
   ·
    skip
    have hil : i = p.gain.length := by omega
    subst hil
    have hk68 := hk680 (fun hv => goal_okRws hv ht1)
    rw [show encR (p.rows ++ [goalW p gain]) = encR p.rows ++ [[.int .i64 0, .int .i64 0, .int .i64 0, .int .i64 0, .sl 1 (encI (negG p.gain p.gain.length)), .int .i64 (IntKind.i64.wrap (0 - IntKind.i64.wrap (gain + 1)))]] from by simp [encR, encRw, goalW]] at hk68
    have hT : List.take p.rows.length (encR p.rows) = encR p.rows := List.take_of_length_le (by rw [encR_length]; omega)
    replace hq := And.intro hq hT
    refine tr_exit ?_
    simp only [thenE, inBlkE, Nat.reduceEqDiff, ↓reduceIte]
    refine hK6 _ ?_
    refine tr_seq fun K12 hK12 => ?_
    refine tr_fz [.own 2] (by simp (maxSteps := 4000000) (disch := first | assumption | omega | (simp only [go_sem, *]; done) | (simp only [go_sem, *]; omega)) only [go_sem, hq, Int.reduceToNat, Nat.reduceBEq, Nat.reduceEqDiff, Nat.reduceAdd, Nat.reduceMul, Nat.reduceLeDiff, Nat.reduceLT, Nat.reduceSub, ↓reduceIte, reduceCtorEq]; (try rfl)) ?_
    refine tr_draw [46, 47] [10] mixed rfl (by kernel_rfl) rfl fun K hK => ?_
    iterate 11 refine evD_p ?_
    refine evD_step fun Kq hKq => ?_
    simp (maxSteps := 4000000) (disch := first | assumption | omega | (simp only [go_sem, *]; done) | (simp only [go_sem, *]; omega)) only [isE, isO, stpO, notIn, St.bare, go_sem, hq, Int.reduceToNat, Nat.reduceBEq, Nat.reduceEqDiff, Nat.reduceAdd, Nat.reduceMul, Nat.reduceLeDiff, Nat.reduceLT, Nat.reduceSub, ↓reduceIte, reduceCtorEq]
    (repeat (refine And.intro (by first | assumption | omega | decide | (simp; done) | (simp; omega) | (have hq := hvv hgt; omega) | (have hq := hvv hgt.1; omega) | (simp_all; done)) ?_))
    refine Or.inl (hKq _ ?_); clear hKq Kq
    iterate 2 refine evD_p ?_
    refine evD_c (hc := hk68) (k := ?_)
    iterate 5 refine evD_p ?_
    refine evD_e hK ?_; clear hK K
    refine hK12 _ ?_
    refine tr_seq fun K13 hK13 => ?_
    refine tr_region [6] rfl rfl fun K hK => ?_
    iterate 3 refine evR_p ?_
    refine evR_e hK ?_; clear hK K
    refine hK13 _ ?_
    refine tr_ret ?_
    (try simp only [thenE, inBlkE])
    simp (maxSteps := 4000000) (disch := first | assumption | omega | (simp only [go_sem, *]; done) | (simp only [go_sem, *]; omega)) only [postA, postO, resV1, fzAll, go_sem, hq, Int.reduceToNat, Nat.reduceBEq, Nat.reduceEqDiff, Nat.reduceAdd, Nat.reduceMul, Nat.reduceLeDiff, Nat.reduceLT, Nat.reduceSub, ↓reduceIte, reduceCtorEq]
    all_goals (first | (rw [wrongX_bounds ht1]; done) | (rw [bounds_out ht1]; done))
end
theorem k32 (p : Pg) (hr0 : p.rows.length ≤ maxLen) (hg : p.gain.length ≤ maxLen) (hc : ∀ r ∈ p.rows, r.coef.length ≤ maxLen) (l : List Sg) (hlm : l.length ≤ maxLen) (hwl : ∀ k, k < l.length → ∀ s, l.getD k sg0 = s → s.ws.length ≤ maxLen) (hgs : p.gain.length ≤ 1000) (hrs : p.rows.length ≤ 100000) (gain : Int) : CallsA Try.prog 32 [.agg (encPg p), .sl 4 (encSgs l), .int .i64 gain] (.bool (boundsW p l gain)) := by
 rcases usedV_cases p (p.rows ++ [goalW p gain]) l with h | ⟨es, h⟩
 ·
  exact k32a p hr0 hg hc l hlm hwl hgs hrs gain h
 ·
  exact k32b p hr0 hg hc l hlm hwl hgs hrs gain es h

end Go.Proofs.Ytfamkbofdamkkaa
namespace Go.Proofs.Ytfamkbofdamkkaa
open Go.RowKit Go.Maps Go.MapKept
open Go.WideElems (Fit rd rg)
set_option linter.unusedVariables false
set_option linter.unusedSimpArgs false
def RB : Value → Option (DataW Unit × List MemPlace)
  | .bool b => some (.lit (.bool b), [])
  | _ => none
end Go.Proofs.Ytfamkbofdamkkaa
namespace Go.Proofs
open Go.Shelf
def Try.keysA_ren : Go.Shelf.Ren := ⟨fun | 7 => 73 | 10 => 123 | n => n, fun | 23 => 112 | 26 => 3 | 3 => 4 | 28 => 119 | 0 => 0 | 27 => 118 | 33 => 164 | 4 => 4 | n => n, fun | n => n⟩
def Try.sortedA_ren : Go.Shelf.Ren := ⟨fun | 6 => 72 | 8 => 76 | 9 => 122 | 11 => 124 | 13 => 154 | 12 => 153 | 23 => 170 | 24 => 171 | 14 => 162 | 15 => 163 | 16 => 164 | 17 => 165 | 18 => 166 | 19 => 167 | 20 => 131 | 21 => 168 | 22 => 169 | 25 => 172 | 26 => 173 | 27 => 174 | 28 => 175 | 29 => 176 | 30 => 155 | 31 => 177 | n => n, fun | 26 => 3 | 28 => 119 | 24 => 25 | 0 => 0 | 3 => 3 | 37 => 133 | 48 => 169 | 50 => 171 | 4 => 4 | 40 => 183 | 39 => 182 | 45 => 127 | 5 => 5 | 9 => 9 | 51 => 188 | 55 => 192 | 57 => 194 | 58 => 43 | 33 => 164 | n => n, fun | n => n⟩
def Try.sortA_ren : Go.Shelf.Ren := ⟨fun | 5 => 122 | 8 => 154 | 7 => 153 | 19 => 170 | 20 => 171 | 10 => 162 | 11 => 163 | 12 => 164 | 13 => 165 | 14 => 166 | 15 => 167 | 16 => 131 | 17 => 168 | 18 => 169 | 30 => 172 | 31 => 173 | 32 => 174 | 33 => 175 | 34 => 176 | 35 => 155 | 40 => 177 | n => n, fun | 23 => 25 | 25 => 3 | 3 => 3 | 32 => 133 | 22 => 25 | 0 => 0 | 44 => 169 | 46 => 171 | 4 => 4 | 36 => 183 | 35 => 182 | 41 => 127 | 5 => 5 | 9 => 9 | 53 => 188 | 57 => 192 | 63 => 194 | 64 => 43 | n => n, fun | n => n⟩
end Go.Proofs
namespace Go.Proofs.Ytfamkbofdamkkaa
open Go.RowKit Go.Maps Go.Sort Go.Shelf
set_option linter.unusedVariables false
set_option linter.unusedSimpArgs false
def sortU (es : List (Int × Bool)) : List Int := (keyU es).mergeSort leI
/-! #### the rows that are used -/
def usedI (p : Pg) (l : List Sg) : List Int :=
  if validB p = true ∧ l.length ≤ 8192 then (match wrkP p.vars p.rows l with | some _ => [] | none => sortU (usN l l.length 0 [])) else []
end Go.Proofs.Ytfamkbofdamkkaa
namespace Go.Proofs.Ytfamkbofdamkkaa
open Go.RowKit
set_option linter.unusedVariables false
set_option linter.unusedSimpArgs false
set_option maxRecDepth 100000
attribute [local go_sem] Nat.zero_add Nat.add_zero Nat.mul_one eq_self ne_eq not_true_eq_false not_false_eq_true decide_true decide_false decide_not Bool.false_eq_true List.filter_cons List.filter_nil true_and and_true beq_false beq_true Bool.not_true Bool.not_false Bool.and_true Bool.true_and Option.getD_some Option.getD_none imp_self implies_true Int.toNat_natCast List.cons_append List.nil_append List.map_cons List.map_nil List.length_cons List.length_nil List.getD_cons_zero List.getD_cons_succ List.drop_zero List.drop_succ_cons List.take_succ_cons List.take_zero
attribute [local go_sem] shL isSh Option.isNone_none Option.isNone_some Option.isSome_none lowN lowQ lowM isAl appOwn unw appF isE isO stpO notIn St.bare evO evDO isEff stp St.get St.slot St.put List.lookup un unL ofVal gof nth pickV pkB_false pkB_true binV unV loadV idxV fldV partV buildV fillV lenV sliV appV appR rowsV winV V.parts V.okp V.sc Mem.look_cons Mem.look_nil V.cl V.clL AObj.clo fzAll exps St.fz Mem.fz V.fz V.fzL AObj.fz Option.isSome_some Option.isSome_none Bool.or_true Bool.true_or Bool.or_false Bool.false_or false_and and_false false_or or_false arT_104 arT_121 arT_160 arT_161 arT_22 arT_23 arT_24 arT_25 arT_28 arT_29 arT_30 arT_40 arT_42 arT_52 arT_60 arT_65 arT_72 arT_73 arT_76 arT_9 arT_90 boolT_182 boolT_25 boolT_3 boolT_35 boolT_4 boolT_76 flatT_182 flatT_25 flatT_3 flatT_35 flatT_4 flatT_76 intT_133 intT_169 intT_171 intT_188 intT_3 intT_5 lay_104 lay_112 lay_138 lay_141 lay_153 lay_160 lay_161 lay_164 lay_188 lay_23 lay_24 lay_25 lay_27 lay_28 lay_3 lay_30 lay_34 lay_4 lay_49 lay_52 lay_54 lay_56 lay_65 lay_67 lay_73 lay_76 lay_90 lay_99 mapT_112 okF_10 okF_100 okF_101 okF_102 okF_103 okF_104 okF_105 okF_106 okF_107 okF_108 okF_109 okF_11 okF_110 okF_111 okF_112 okF_113 okF_114 okF_115 okF_116 okF_117 okF_118 okF_119 okF_12 okF_120 okF_121 okF_122 okF_123 okF_124 okF_125 okF_126 okF_127 okF_128 okF_129 okF_13 okF_130 okF_131 okF_132 okF_133 okF_134 okF_135 okF_136 okF_137 okF_138 okF_139 okF_14 okF_140 okF_141 okF_142 okF_143 okF_144 okF_145 okF_146 okF_147 okF_148 okF_149 okF_15 okF_150 okF_151 okF_152 okF_153 okF_154 okF_155 okF_156 okF_157 okF_158 okF_159 okF_16 okF_160 okF_161 okF_162 okF_163 okF_164 okF_165 okF_166 okF_167 okF_168 okF_169 okF_17 okF_170 okF_171 okF_172 okF_173 okF_174 okF_175 okF_176 okF_177 okF_18 okF_19 okF_20 okF_21 okF_22 okF_23 okF_24 okF_25 okF_26 okF_27 okF_28 okF_29 okF_3 okF_30 okF_31 okF_32 okF_33 okF_34 okF_35 okF_36 okF_37 okF_38 okF_39 okF_4 okF_40 okF_41 okF_42 okF_43 okF_44 okF_45 okF_46 okF_47 okF_48 okF_49 okF_5 okF_50 okF_51 okF_52 okF_53 okF_54 okF_55 okF_56 okF_57 okF_58 okF_59 okF_6 okF_60 okF_61 okF_62 okF_63 okF_64 okF_65 okF_66 okF_67 okF_68 okF_69 okF_7 okF_70 okF_71 okF_72 okF_73 okF_74 okF_75 okF_76 okF_77 okF_78 okF_79 okF_8 okF_80 okF_81 okF_82 okF_83 okF_84 okF_85 okF_86 okF_87 okF_88 okF_89 okF_9 okF_90 okF_91 okF_92 okF_93 okF_94 okF_95 okF_96 okF_97 okF_98 okF_99 plT_138 plT_153 plT_157 plT_161 plT_27 plT_34 plT_54 plT_56 plT_67 plT_76 plT_90 plT_99 slT_104 slT_121 slT_160 slT_161 slT_22 slT_23 slT_24 slT_25 slT_28 slT_29 slT_30 slT_40 slT_42 slT_52 slT_60 slT_65 slT_72 slT_73 slT_76 slT_90 stT_138_0 stT_138_1 stT_153_0 stT_157_0 stT_157_1 stT_157_2 stT_157_3 stT_27_0 stT_27_1 stT_27_2 stT_34_0 stT_34_1 stT_34_2 stT_34_3 stT_54_0 stT_54_1 stT_54_2 stT_54_3 stT_56_0 stT_56_1 stT_67_1 stT_67_4 stT_67_5 stT_99_0 stT_99_1 strT_160 strT_76 strT_9 zeroT_112 zeroT_138 zeroT_153 zeroT_157 zeroT_160 zeroT_161 zeroT_188 zeroT_27 zeroT_3 zeroT_30 zeroT_34 zeroT_4 zeroT_49 zeroT_54 zeroT_56 zeroT_65 zeroT_67 zeroT_76 zeroT_90 zeroT_99
attribute [local go_sem] List.getElem?_cons_zero List.getElem?_cons_succ List.zip_cons_cons List.zip_nil_left List.zip_nil_right Bool.false_and Bool.and_false List.length_append List.length_set List.length_replicate List.all_cons List.all_nil encI_length encI_getD encR_length encR_getD encRw encPg spl shp AObj.shp rowM isSt isRpS isRd csh AObj.csh forall_const imp_self
attribute [local go_sem] encSg encW encSgs_length encWs_length encSgs_getD encWs_getD lookV lkM putM
attribute [local simp] encI_length encR_length cellsI_length encSgs_length encWs_length
end Go.Proofs.Ytfamkbofdamkkaa
namespace Go.Proofs.Ytfamkbofdamkkaa
open Go.RowKit
set_option linter.unusedVariables false
set_option linter.unusedSimpArgs false
def lf (ws : List Wt) : Sg := ⟨-1, 0, 0, ws⟩
def spP : Pg := ⟨2, [⟨0, 0, 0, 0, [2, 2], 3⟩, ⟨0, 0, 0, 0, [-1, -1], -2⟩], [3, 4]⟩
def spQ : Pg := ⟨2, [⟨0, 0, 0, 0, [2, 2], 3⟩], [3, 4]⟩
def spN : Pg := ⟨-1, [], []⟩
def pf1 : List Sg := [lf [⟨0, 1⟩, ⟨1, 2⟩]]
def pf2 : List Sg := [lf [⟨0, 1⟩]]
def pf3 : List Sg := [⟨0, 1, 2, []⟩, lf [⟨1, 1⟩], ⟨1, 3, 4, []⟩, lf [⟨1, 1⟩], lf [⟨0, 1⟩]]
def pfG : List Sg := [lf [⟨0, 2⟩, ⟨1, 1⟩]]
theorem r1 : refutesW spP pf1 = true := by decide
theorem r2 : refutesW spP pf2 = false := by decide
theorem q1 : wrongW spP pf1 = -1 := by decide
theorem q2 : wrongW spP pf2 = 0 := by decide
def pv3 : V := .sl 4 [[.int .i64 0, .int .i64 1, .int .i64 2, .nsl], encSg (lf [⟨1, 1⟩]), [.int .i64 1, .int .i64 3, .int .i64 4, .nsl], encSg (lf [⟨1, 1⟩]), encSg (lf [⟨0, 1⟩])]
theorem encSt_le (s : Stp) (j : Nat) : V.Le0 ((encSt s).getD j .any) ((encSg (toSg s)).getD j .any) := by
  match j with
  | 0 | 1 | 2 => exact .refl _
  | 3 =>
    show V.Le0 (match s.leaf with | some i => V.sl 2 [[.int .i64 i, .int .i64 1]] | none => .nsl) (.sl 2 (encWs (toSg s).ws))
    cases h : s.leaf with
    | none => simp only [toSg, h]; exact .nsl 2
    | some i => simp only [toSg, h]; exact .refl _
  | j + 4 => exact .refl _
theorem encS_le (l : List Stp) : V.Le (.sl 4 (encS l)) (.sl 4 (encSgs (l.map toSg))) := by
  refine .sl 4 (by simp [encS, encSgs]) (fun i hi => ?_) (fun i j hi => ?_) <;> rw [encS_length] at hi
  · rw [encS_getD _ _ hi, encSgs_getD _ _ (by simpa using hi)]; rfl
  · rw [encS_getD _ _ hi, encSgs_getD _ _ (by simpa using hi), toSg_getD]; exact encSt_le _ j
theorem prf_ws (p : Pg) : ∀ s ∈ prfS p, s.ws.length ≤ 1000 := by
  intro s hs
  obtain ⟨t, -, rfl⟩ := List.mem_map.1 hs
  simp only [toSg]
  cases t.leaf <;> simp
section
variable {p : Pg} (hv : validB p = true)
include hv
theorem cmp_bound (hf : (solveB p).1 = true) : boundsW p (prfS p) (solveB p).2.2 = true := by
  obtain ⟨s, -, -, -, h1, h2⟩ := solveB_gain hv hf
  exact prf_bounds hv hf ⟨h1, h2⟩
end
end Go.Proofs.Ytfamkbofdamkkaa
namespace Go.Proofs.Ytfamkbofdamkkaa
def moresP (p : Pg) (rs : List Rw) : Pg := ⟨p.vars, p.rows ++ rs, p.gain⟩
/-! #### a row and its opposite -/
def agR (r : Rw) (v : Nat) : Rw := ⟨0, 0, 0, 0, negG r.coef v, IntKind.i64.wrap (IntKind.i64.wrap (0 - r.most) - 1)⟩
def usP (p : Pg) (r : Rw) : Pg := moresP p [r, agR r p.vars.toNat]
open Go.RowKit
set_option linter.unusedVariables false
set_option linter.unusedSimpArgs false
def cellsB (xs : List Bool) : List V := xs.map V.bool
def isTo (l : List Int) : Nat → List Bool
  | 0 => List.replicate 4 false
  | j + 1 => (isTo l j).set (l.getD j 0).toNat true
/-! #### the rows -/
def addL (m n : Int) (a b : List Int) (v : Nat) : List Int := (List.range v).map fun i => IntKind.i64.wrap (IntKind.i64.wrap (m * a.getD i 0) + IntKind.i64.wrap (n * b.getD i 0))
def mulL (m : Int) (a : List Int) (v : Nat) : List Int := (List.range v).map fun i => IntKind.i64.wrap (IntKind.i64.wrap (m + 1) * a.getD i 0)
def addR (m n : Int) (r s : Rw) (v : Nat) : Rw := ⟨0, 0, 0, 0, addL m n r.coef s.coef v, IntKind.i64.wrap (IntKind.i64.wrap (m * r.most) + IntKind.i64.wrap (n * s.most))⟩
def mulR (m : Int) (r : Rw) (v : Nat) : Rw := ⟨0, 0, 0, 0, mulL m r.coef v, IntKind.i64.wrap (IntKind.i64.wrap (m + 1) * r.most)⟩
def smallR (r : Rw) : Prop := (∀ c ∈ r.coef, -4 ≤ c ∧ c ≤ 11) ∧ -4 ≤ r.most ∧ r.most ≤ 25
def addQ (p : Pg) (m n : Int) (r s : Rw) (v : Nat) : Pg := ⟨p.vars, [r, s, addR m n r s v, mulR m r v], p.gain⟩
end Go.Proofs.Ytfamkbofdamkkaa
namespace Go.Proofs.Ytfamkbofdamkkaa
open Go.RowKit Go.Maps Go.Sort Go.Shelf
set_option linter.unusedVariables false
set_option linter.unusedSimpArgs false
/-- The rows from 0 on that a list does not name. -/
def offW (rows : List Int) : Nat → List Int
  | 0 => []
  | n + 1 => if atW rows n < rows.length ∧ rows.getD (atW rows n) 0 = n then offW rows n else offW rows n ++ [(n : Int)]
/-- A row and its opposite are a leaf by themselves. -/
def shortS (n : Nat) : List Sg := [lf [⟨(n : Int) - 2, 1⟩, ⟨(n : Int) - 1, 1⟩]]
end Go.Proofs.Ytfamkbofdamkkaa
namespace Go.Proofs.Ytfamkbofdamkkaa
open Go.RowKit
set_option linter.unusedVariables false
set_option linter.unusedSimpArgs false
set_option maxRecDepth 100000
attribute [local go_sem] Nat.zero_add Nat.add_zero Nat.mul_one eq_self ne_eq not_true_eq_false not_false_eq_true decide_true decide_false decide_not Bool.false_eq_true List.filter_cons List.filter_nil true_and and_true beq_false beq_true Bool.not_true Bool.not_false Bool.and_true Bool.true_and Option.getD_some Option.getD_none imp_self implies_true Int.toNat_natCast List.cons_append List.nil_append List.map_cons List.map_nil List.length_cons List.length_nil List.getD_cons_zero List.getD_cons_succ List.drop_zero List.drop_succ_cons List.take_succ_cons List.take_zero
attribute [local go_sem] shL isSh Option.isNone_none Option.isNone_some Option.isSome_none lowN lowQ lowM isAl appOwn unw appF isE isO stpO notIn St.bare evO evDO isEff stp St.get St.slot St.put List.lookup un unL ofVal gof nth pickV pkB_false pkB_true binV unV loadV idxV fldV partV buildV fillV lenV sliV appV appR rowsV winV V.parts V.okp V.sc Mem.look_cons Mem.look_nil V.cl V.clL AObj.clo fzAll exps St.fz Mem.fz V.fz V.fzL AObj.fz Option.isSome_some Option.isSome_none Bool.or_true Bool.true_or Bool.or_false Bool.false_or false_and and_false false_or or_false arT_22 arT_23 arT_25 arT_24 arT_40 arT_30  arT_65 arT_28 arT_90  arT_52 boolT_25 boolT_3 boolT_35 boolT_4  flatT_25 flatT_3 flatT_35 flatT_4  intT_3 intT_133 lay_23 lay_25 lay_67 lay_24 lay_27 lay_3 lay_49 lay_30 lay_34 lay_4 lay_65 lay_52 lay_54 lay_56 lay_141 lay_164  okF_17 okF_31  okF_36 okF_18 okF_34 okF_63  okF_28 okF_50 okF_69 okF_51  okF_35       okF_37   okF_71  okF_65  okF_62 okF_77 okF_79  okF_80 okF_81 okF_64 okF_66 okF_76 okF_113 okF_96 okF_97 okF_98 okF_82  okF_99 okF_119 okF_120 okF_78 okF_100 okF_101 okF_83 okF_84 okF_125 okF_126  okF_127 okF_128 okF_129 okF_130 okF_114 okF_124 okF_140 okF_141 okF_142 okF_143  okF_131 okF_132 okF_144 okF_158 okF_155 okF_159   plT_67 plT_27 plT_34 plT_54 plT_56 slT_22 slT_23 slT_25 slT_24 slT_40 slT_30  slT_65 slT_28 slT_90  slT_52  stT_67_1   stT_67_4 stT_67_5 stT_27_0 stT_27_1 stT_27_2 stT_34_0 stT_34_1 stT_34_2 stT_34_3 stT_54_0 stT_54_1 stT_54_2 stT_54_3 stT_56_0 stT_56_1  zeroT_67 zeroT_27 zeroT_3 zeroT_49 zeroT_30 zeroT_34 zeroT_65  zeroT_54 zeroT_56
attribute [local go_sem] List.getElem?_cons_zero List.getElem?_cons_succ List.zip_cons_cons List.zip_nil_left List.zip_nil_right Bool.false_and Bool.and_false List.length_append List.length_set List.length_replicate List.all_cons List.all_nil encI_length encI_getD encR_length encR_getD encRw encPg spl shp AObj.shp rowM isSt isRpS isRd csh AObj.csh forall_const imp_self
attribute [local simp] encI_length encR_length
theorem c19 (a b : List Int) (ha : a.length ≤ maxLen) (hb : b.length ≤ maxLen) : CallsA Try.prog 28 [.sl 1 (encI a), .sl 1 (encI b)] (.bool (decide (a = b))) := by
 unfold maxLen at ha hb
 have hq : True := trivial
 refine callsA_of_tr Try.func28 rfl (Nat.le_of_ble_eq_true rfl) ?_
 simp only [Try.results28, envOf, Nat.reduceAdd]
 refine tr_seq fun K1 hK1 => ?_
 refine tr_region [0, 1] rfl rfl fun K hK => ?_
 refine evR_p ?_
 refine evR_e hK ?_; clear hK K
 refine hK1 _ ?_
 refine tr_seq fun K2 hK2 => ?_
 refine tr_seq fun K3 hK3 => ?_
 refine tr_region [0, 1, 10] rfl rfl fun K hK => ?_
 iterate 5 refine evR_p ?_
 refine evR_e hK ?_; clear hK K
 refine hK3 _ ?_
 refine tr_condB (fun ht1 => ?_) (fun ht1 => ?_)
 ·
  skip
  refine tr_seq fun K4 hK4 => ?_
  refine tr_region [4] rfl rfl fun K hK => ?_
  refine evR_p ?_
  refine evR_e hK ?_; clear hK K
  refine hK4 _ ?_
  refine tr_ret ?_
  (try simp only [thenE, inBlkE])
  simp (maxSteps := 4000000) (disch := first | assumption | omega | (simp only [go_sem, *]; done) | (simp only [go_sem, *]; omega)) only [postA, postO, resV1, fzAll, go_sem, hq, Int.reduceToNat, Nat.reduceBEq, Nat.reduceEqDiff, Nat.reduceAdd, Nat.reduceMul, Nat.reduceLeDiff, Nat.reduceLT, Nat.reduceSub, ↓reduceIte, reduceCtorEq]
  all_goals ((first | (simp only [V.bool.injEq]; symm; rw [decide_eq_false_iff_not]; exact ne_of_getD (by assumption)) | (simp only [V.bool.injEq]; symm; rw [decide_eq_true_iff]; exact eq_of_take (by omega) he) | (simp only [V.bool.injEq]; symm; rw [decide_eq_false_iff_not]; intro e; subst e; omega)))
 ·
  skip
  refine tr_skip ?_
  (try simp only [thenE, inBlkE])
  refine hK2 _ ?_
  refine tr_seq fun K5 hK5 => ?_
  refine tr_seq fun K6 hK6 => ?_
  refine tr_region [0, 1, 5] rfl rfl fun K hK => ?_
  refine evR_p ?_
  refine evR_e hK ?_; clear hK K
  refine hK6 _ ?_
  refine tr_block ?_
  -- loop 1: live [0, 1, 5]
  refine tr_loopW (fun m σ => ∃ i, i + m = a.length ∧ a.take i = b.take i ∧ σ = ⟨[(0, .sl 1 (encI a)), (1, .sl 1 (encI b)), (5, .int .i64 (i : Nat))], [], 0⟩) (a.length) ?_ ?_
  ·
   exact ⟨_, Wk.refl _, 0, by omega, rfl, rfl⟩
  ·
   rintro m σ ⟨i, hi, he, rfl⟩ KL1 hKL1
   refine tr_seq fun K7 hK7 => ?_
   refine tr_seq fun K8 hK8 => ?_
   refine tr_region [0, 1, 5, 14] rfl rfl fun K hK => ?_
   iterate 4 refine evR_p ?_
   refine evR_e hK ?_; clear hK K
   refine hK8 _ ?_
   refine tr_condB (fun ht2 => ?_) (fun ht2 => ?_)
   ·
    skip
    have hil : i < a.length := by omega
    have hil2 : i < b.length := by omega
    replace hq := And.intro hq (And.intro hil (hil2))
    refine tr_skip ?_
    (try simp only [thenE, inBlkE])
    refine hK7 _ ?_
    refine tr_seq fun K9 hK9 => ?_
    refine tr_block ?_
    refine tr_seq fun K10 hK10 => ?_
    refine tr_draw [] [0, 1, 5, 25] mixed rfl (by kernel_rfl) rfl fun K hK => ?_
    iterate 9 refine evD_p ?_
    refine evD_e hK ?_; clear hK K
    refine hK10 _ ?_
    refine tr_condB (fun ht3 => ?_) (fun ht3 => ?_)
    ·
     skip
     refine tr_seq fun K11 hK11 => ?_
     refine tr_region [4] rfl rfl fun K hK => ?_
     refine evR_p ?_
     refine evR_e hK ?_; clear hK K
     refine hK11 _ ?_
     refine tr_ret ?_
     (try simp only [thenE, inBlkE])
     simp (maxSteps := 4000000) (disch := first | assumption | omega | (simp only [go_sem, *]; done) | (simp only [go_sem, *]; omega)) only [postA, postO, resV1, fzAll, go_sem, hq, Int.reduceToNat, Nat.reduceBEq, Nat.reduceEqDiff, Nat.reduceAdd, Nat.reduceMul, Nat.reduceLeDiff, Nat.reduceLT, Nat.reduceSub, ↓reduceIte, reduceCtorEq]
     all_goals ((first | (simp only [V.bool.injEq]; symm; rw [decide_eq_false_iff_not]; exact ne_of_getD (by assumption)) | (simp only [V.bool.injEq]; symm; rw [decide_eq_true_iff]; exact eq_of_take (by omega) he) | (simp only [V.bool.injEq]; symm; rw [decide_eq_false_iff_not]; intro e; subst e; omega)))
    ·
     skip
     refine tr_skip ?_
     (try simp only [thenE, inBlkE])
     refine hK9 _ ?_
     refine tr_region [0, 1, 5] rfl rfl fun K hK => ?_
     iterate 3 refine evR_p ?_
     refine evR_e hK ?_; clear hK K
     refine hKL1 _ ?_
     exact ⟨m - 1, _, by omega, Wk.refl _, i + 1, by omega, take_one_eq hil hil2 he (by assumption), by rw [w64 (x := (i : Int) + 1) (by omega)]; rfl⟩
   ·
    skip
    have hil : i = a.length := by omega
    subst hil
    refine tr_exit ?_
    simp only [thenE, inBlkE, Nat.reduceEqDiff, ↓reduceIte]
    refine hK5 _ ?_
    refine tr_seq fun K12 hK12 => ?_
    refine tr_region [4] rfl rfl fun K hK => ?_
    refine evR_p ?_
    refine evR_e hK ?_; clear hK K
    refine hK12 _ ?_
    refine tr_ret ?_
    (try simp only [thenE, inBlkE])
    simp (maxSteps := 4000000) (disch := first | assumption | omega | (simp only [go_sem, *]; done) | (simp only [go_sem, *]; omega)) only [postA, postO, resV1, fzAll, go_sem, hq, Int.reduceToNat, Nat.reduceBEq, Nat.reduceEqDiff, Nat.reduceAdd, Nat.reduceMul, Nat.reduceLeDiff, Nat.reduceLT, Nat.reduceSub, ↓reduceIte, reduceCtorEq]
    all_goals ((first | (simp only [V.bool.injEq]; symm; rw [decide_eq_false_iff_not]; exact ne_of_getD (by assumption)) | (simp only [V.bool.injEq]; symm; rw [decide_eq_true_iff]; exact eq_of_take (by omega) he) | (simp only [V.bool.injEq]; symm; rw [decide_eq_false_iff_not]; intro e; subst e; omega)))

theorem c40 (p : Pg) (hg : p.gain.length ≤ 1000) (gain : Int) : CallsA Try.prog 80 [.agg (encPg p), .int .i64 gain] (.agg (encRw (goalW p gain))) := by
 have hq : True := trivial
 refine callsA_of_tr Try.func80 rfl (Nat.le_of_ble_eq_true rfl) ?_
 simp only [Try.results80, envOf, Nat.reduceAdd]
 refine tr_seq fun K1 hK1 => ?_
 refine tr_region [1, 2, 4] rfl rfl fun K hK => ?_
 iterate 2 refine evR_p ?_
 refine evR_e hK ?_; clear hK K
 refine hK1 _ ?_
 refine tr_seq fun K2 hK2 => ?_
 refine tr_region [2, 4, 5] rfl rfl fun K hK => ?_
 iterate 6 refine evR_p ?_
 refine evR_e hK ?_; clear hK K
 refine hK2 _ ?_
 refine tr_seq fun K3 hK3 => ?_
 refine tr_seq fun K4 hK4 => ?_
 refine tr_region [4, 5, 13, 14, 15] rfl rfl fun K hK => ?_
 iterate 4 refine evR_p ?_
 refine evR_e hK ?_; clear hK K
 refine hK4 _ ?_
 refine tr_block ?_
 -- loop 1: live [4, 5, 13, 14, 15]
 refine tr_loopW (fun m σ => ∃ i, i + m = p.gain.length ∧ σ = ⟨[(4, .ptr 1 0), (5, .ptr 2 0), (13, .sl 1 (encI p.gain)), (14, .int .i64 p.gain.length), (15, .int .i64 (i : Nat))], [(3, .row 3 1 (encI (negG p.gain i))), (2, .cells [.int .i64 0, .int .i64 0, .int .i64 0, .int .i64 0, .own 3, .int .i64 (IntKind.i64.wrap (0 - IntKind.i64.wrap (gain + 1)))]), (1, .cells [.int .i64 0, .int .i64 0, .int .i64 0, .int .i64 0, .nsl, .int .i64 0]), (0, .cells (encPg p))], 4⟩) (p.gain.length) ?_ ?_
 ·
  exact ⟨_, Wk.nilown 3 1 2 4 rfl (Nat.le_of_ble_eq_true rfl) rfl, 0, by omega, rfl⟩
 ·
  rintro m σ ⟨i, hi, rfl⟩ KL1 hKL1
  refine tr_seq fun K5 hK5 => ?_
  refine tr_region [4, 5, 13, 14, 15, 16] rfl rfl fun K hK => ?_
  refine evR_p ?_
  refine evR_e hK ?_; clear hK K
  refine hK5 _ ?_
  refine tr_seq fun K6 hK6 => ?_
  refine tr_condB (fun ht1 => ?_) (fun ht1 => ?_)
  ·
   skip
   have hil : i < p.gain.length := by omega
   have hnl := negG_length p.gain i
   replace hq := And.intro hq (And.intro hil (hnl))
   refine tr_skip ?_
   (try simp only [thenE, inBlkE])
   refine hK6 _ ?_
   refine tr_seq fun K7 hK7 => ?_
   refine tr_block ?_
   refine tr_seq fun K8 hK8 => ?_
   refine tr_region [4, 5, 7, 13, 14, 15] rfl rfl fun K hK => ?_
   iterate 3 refine evR_p ?_
   refine evR_e hK ?_; clear hK K
   refine hK8 _ ?_
   refine tr_region [4, 5, 13, 14, 15] rfl rfl fun K hK => ?_
   iterate 4 refine evR_p ?_
   refine evR_bs ?_
   iterate 3 refine evR_p ?_
   refine evR_e hK ?_; clear hK K
   refine hK7 _ ?_
   refine tr_region [4, 5, 13, 14, 15] rfl rfl fun K hK => ?_
   iterate 2 refine evR_p ?_
   refine evR_e hK ?_; clear hK K
   refine hKL1 _ ?_
   exact ⟨m - 1, _, by omega, (Wk.trans (Wk.ren 4 3 (Nat.le_of_ble_eq_true rfl) (Nat.le_of_ble_eq_true rfl) rfl) (Wk.cut 4 rfl)), i + 1, by omega, by rw [w64 (x := (i : Int) + 1) (by omega), negG_succ hil, encI_snoc]; rfl⟩
  ·
   skip
   have hil : i = p.gain.length := by omega
   subst hil
   refine tr_exit ?_
   simp only [thenE, inBlkE, Nat.reduceEqDiff, ↓reduceIte]
   refine hK3 _ ?_
   refine tr_seq fun K9 hK9 => ?_
   refine tr_region [4] rfl rfl fun K hK => ?_
   iterate 2 refine evR_p ?_
   refine evR_e hK ?_; clear hK K
   refine hK9 _ ?_
   refine tr_ret ?_
   (try simp only [thenE, inBlkE])
   simp (maxSteps := 4000000) (disch := first | assumption | omega | (simp only [go_sem, *]; done) | (simp only [go_sem, *]; omega)) only [postA, postO, resV1, fzAll, go_sem, hq, Int.reduceToNat, Nat.reduceBEq, Nat.reduceEqDiff, Nat.reduceAdd, Nat.reduceMul, Nat.reduceLeDiff, Nat.reduceLT, Nat.reduceSub, ↓reduceIte, reduceCtorEq]
   all_goals (rfl)

section
attribute [local go_sem] encI_take encI_drop
theorem c63 (r : Rw) (hm : r.coef.length ≤ maxLen) (d : Nat) (set : Int) (hd : d ≤ r.coef.length) : CallsA Try.prog 130 [.agg (encRw r), .int .i64 d, .int .i64 set] (.int .i64 (leastW r d set)) := by
 have hm0 := hm
 unfold maxLen at hm0
 have hq : True := trivial
 refine callsA_of_tr Try.func130 rfl (Nat.le_of_ble_eq_true rfl) ?_
 simp only [Try.results130, envOf, Nat.reduceAdd]
 refine tr_seq fun K1 hK1 => ?_
 refine tr_region [1, 2, 3] rfl rfl fun K hK => ?_
 iterate 2 refine evR_p ?_
 refine evR_e hK ?_; clear hK K
 refine hK1 _ ?_
 refine tr_seq fun K2 hK2 => ?_
 refine tr_region [1, 3, 7] rfl rfl fun K hK => ?_
 iterate 5 refine evR_p ?_
 refine evR_c (hc := (c39 _ _ (by simp only [List.length_take, maxLen]; omega))) (k := ?_)
 refine evR_p ?_
 refine evR_e hK ?_; clear hK K
 refine hK2 _ ?_
 refine tr_seq fun K3 hK3 => ?_
 refine tr_seq fun K4 hK4 => ?_
 refine tr_region [7, 19, 20, 21] rfl rfl fun K hK => ?_
 iterate 6 refine evR_p ?_
 refine evR_e hK ?_; clear hK K
 refine hK4 _ ?_
 refine tr_block ?_
 -- loop 1: live [7, 19, 20, 21]
 refine tr_loopW (fun m σ => ∃ i, i + m = (r.coef.drop d).length ∧ σ = ⟨[(7, .int .i64 (leastT (r.coef.drop d) (chosenW (r.coef.take d) set) i)), (19, .sl 1 (encI (r.coef.drop d))), (20, .int .i64 (r.coef.drop d).length), (21, .int .i64 (i : Nat))], [(0, .cells (encRw r))], 1⟩) ((r.coef.drop d).length) ?_ ?_
 ·
  exact ⟨_, Wk.refl _, 0, by omega, rfl⟩
 ·
  rintro m σ ⟨i, hi, rfl⟩ KL1 hKL1
  refine tr_seq fun K5 hK5 => ?_
  refine tr_region [7, 19, 20, 21, 22] rfl rfl fun K hK => ?_
  refine evR_p ?_
  refine evR_e hK ?_; clear hK K
  refine hK5 _ ?_
  refine tr_seq fun K6 hK6 => ?_
  refine tr_condB (fun ht1 => ?_) (fun ht1 => ?_)
  ·
   skip
   have hil : i < (r.coef.drop d).length := by omega
   have hl2 : (r.coef.drop d).length ≤ r.coef.length := by simp
   replace hq := And.intro hq (hil)
   refine tr_skip ?_
   (try simp only [thenE, inBlkE])
   refine hK6 _ ?_
   refine tr_seq fun K7 hK7 => ?_
   refine tr_block ?_
   refine tr_seq fun K8 hK8 => ?_
   refine tr_region [7, 9, 19, 20, 21] rfl rfl fun K hK => ?_
   iterate 3 refine evR_p ?_
   refine evR_e hK ?_; clear hK K
   refine hK8 _ ?_
   refine tr_region [7, 19, 20, 21] rfl rfl fun K hK => ?_
   iterate 5 refine evR_p ?_
   refine evR_e hK ?_; clear hK K
   refine hK7 _ ?_
   refine tr_region [7, 19, 20, 21] rfl rfl fun K hK => ?_
   iterate 2 refine evR_p ?_
   refine evR_e hK ?_; clear hK K
   refine hKL1 _ ?_
   exact ⟨m - 1, _, by omega, Wk.refl _, i + 1, by omega, by rw [w64 (x := (i : Int) + 1) (by omega)]; rfl⟩
  ·
   skip
   have hil : i = (r.coef.drop d).length := by omega
   subst hil
   refine tr_exit ?_
   simp only [thenE, inBlkE, Nat.reduceEqDiff, ↓reduceIte]
   refine hK3 _ ?_
   refine tr_seq fun K9 hK9 => ?_
   refine tr_region [6] rfl rfl fun K hK => ?_
   iterate 2 refine evR_p ?_
   refine evR_e hK ?_; clear hK K
   refine hK9 _ ?_
   refine tr_ret ?_
   (try simp only [thenE, inBlkE])
   simp (maxSteps := 4000000) (disch := first | assumption | omega | (simp only [go_sem, *]; done) | (simp only [go_sem, *]; omega)) only [postA, postO, resV1, fzAll, go_sem, hq, Int.reduceToNat, Nat.reduceBEq, Nat.reduceEqDiff, Nat.reduceAdd, Nat.reduceMul, Nat.reduceLeDiff, Nat.reduceLT, Nat.reduceSub, ↓reduceIte, reduceCtorEq]
   all_goals (rfl)
end

theorem c62 (r : Rw) (hm : r.coef.length ≤ maxLen) (d : Nat) (set : Int) (hd : d ≤ r.coef.length) : CallsA Try.prog 129 [.agg (encRw r), .ep [.int .i64 d], .ep [.int .i64 set]] (.bool (overB d set r)) := by
 have hq : True := trivial
 refine callsA_of_tr Try.func129 rfl (Nat.le_of_ble_eq_true rfl) ?_
 simp only [Try.results129, envOf, Nat.reduceAdd]
 refine tr_seq fun K1 hK1 => ?_
 refine tr_region [1, 2, 3] rfl rfl fun K hK => ?_
 iterate 2 refine evR_p ?_
 refine evR_e hK ?_; clear hK K
 refine hK1 _ ?_
 refine tr_seq fun K2 hK2 => ?_
 refine tr_draw [] [4] mixed rfl (by kernel_rfl) rfl fun K hK => ?_
 iterate 3 refine evD_p ?_
 refine evD_c (hc := (c63 r hm d set hd)) (k := ?_)
 iterate 4 refine evD_p ?_
 refine evD_e hK ?_; clear hK K
 refine hK2 _ ?_
 refine tr_ret ?_
 (try simp only [thenE, inBlkE])
 simp (maxSteps := 4000000) (disch := first | assumption | omega | (simp only [go_sem, *]; done) | (simp only [go_sem, *]; omega)) only [postA, postO, resV1, fzAll, go_sem, hq, Int.reduceToNat, Nat.reduceBEq, Nat.reduceEqDiff, Nat.reduceAdd, Nat.reduceMul, Nat.reduceLeDiff, Nat.reduceLT, Nat.reduceSub, ↓reduceIte, reduceCtorEq]
 all_goals (rfl)

section
attribute [local go_sem] encS_one encS_leaf encS_length
theorem c60s (rows : List Rw) (hr : rows.length ≤ maxLen) (hm : ∀ r ∈ rows, r.coef.length ≤ maxLen) (n d : Nat) (set : Int) (out : List Stp) (hc : ∀ r ∈ rows, r.coef.length = d + n) (hd : d + n ≤ 12) (hinf : infN rows n d set) (ho : out.length + 2 ^ (n + 1) ≤ 100000)
  (ih : ∀ (m : Nat), m + 1 = n → ∀ (set : Int) (out : List Stp), infN rows m (d + 1) set → out.length + 2 ^ (m + 1) ≤ 100000 → CallsM Try.prog 127 [.int .i64 ((d + 1 : Nat) : Int), .int .i64 set, .ptr 1 0, .ptr 0 0, .ptr 2 0] [(3, .row 54 4 (encS out)), (2, .cells [.fn 127 [.ptr 1 0, .ptr 0 0, .ptr 2 0]]), (1, .cells [.own 3]), (0, .cells [.sl 6 (encR rows)])] 4 (.int .i64 ((out).length : Nat)) [(4, .row 54 4 (encS (growN rows m (d + 1) set out))), (2, .cells [.fn 127 [.ptr 1 0, .ptr 0 0, .ptr 2 0]]), (1, .cells [.own 4]), (0, .cells [.sl 6 (encR rows)])] 5) : CallsM Try.prog 127 [.int .i64 (d : Nat), .int .i64 set, .ptr 1 0, .ptr 0 0, .ptr 2 0] ([(3, .row 54 4 (encS out)), (2, .cells [.fn 127 [.ptr 1 0, .ptr 0 0, .ptr 2 0]]), (1, .cells [.own 3]), (0, .cells [.sl 6 (encR rows)])]) (4) (.int .i64 (out.length : Nat)) ([(4, .row 54 4 (encS (growN rows n d set out))), (2, .cells [.fn 127 [.ptr 1 0, .ptr 0 0, .ptr 2 0]]), (1, .cells [.own 4]), (0, .cells [.sl 6 (encR rows)])]) (5) := by
 have hw1 : IntKind.i64.wrap ((d : Int) + 1) = ((d + 1 : Nat) : Int) := w64 (by omega)
 have hp2 : 2 ≤ 2 ^ (n + 1) := (by have := Nat.one_le_two_pow (n := n); rw [Nat.pow_succ]; omega)
 have hq := hw1
 refine callsM_of_tr Try.func127 rfl (Nat.le_of_ble_eq_true rfl) (Nat.le_of_ble_eq_true rfl) (Nat.le_of_ble_eq_true rfl) ?_
 simp only [Try.results127, envOf, gh, gv, List.cons_append, List.nil_append, Nat.reduceAdd]
 refine tr_seq fun K1 hK1 => ?_
 refine tr_region [2, 3, 4, 5, 6, 1000000, 1000001, 1000002, 1000003] rfl rfl fun K hK => ?_
 iterate 3 refine evR_p ?_
 refine evR_e hK ?_; clear hK K
 refine hK1 _ ?_
 refine tr_seq fun K2 hK2 => ?_
 refine tr_region [2, 3, 4, 5, 6, 8, 1000000, 1000001, 1000002, 1000003] rfl rfl fun K hK => ?_
 iterate 3 refine evR_p ?_
 refine evR_e hK ?_; clear hK K
 refine hK2 _ ?_
 refine tr_seq fun K3 hK3 => ?_
 refine tr_region [2, 4, 5, 6, 8, 9, 1000000, 1000001, 1000002, 1000003] rfl rfl fun K hK => ?_
 iterate 2 refine evR_p ?_
 refine evR_c (hc := (c61 rows 129 [.ep [.int .i64 d], .ep [.int .i64 set]] (overB d set) okF_129 rfl (fun r h => c62 r (hm r h) d set (by rw [hc r h]; omega)) hr)) (k := ?_)
 refine evR_p ?_
 refine evR_e hK ?_; clear hK K
 refine hK3 _ ?_
 refine tr_seq fun K4 hK4 => ?_
 refine tr_seq fun K5 hK5 => ?_
 refine tr_region [2, 4, 5, 6, 8, 9, 18, 1000000, 1000001, 1000002, 1000003] rfl rfl fun K hK => ?_
 iterate 2 refine evR_p ?_
 refine evR_e hK ?_; clear hK K
 refine hK5 _ ?_
 refine tr_condB (fun ht1 => ?_) (fun ht1 => ?_)
 ·
  skip
  (first | (have hneg : ¬ (0 ≤ idxOf (overB d set) rows) := ht1; obtain ⟨m, hnm, hi1, hi2⟩ := infN_step hinf hneg; have hg1 := growN_length rows m (d + 1) set (out ++ [⟨d, 0, 0, none⟩]); have hg2 := growN_length rows m (d + 1) (setBit set d) (growN rows m (d + 1) set (out ++ [⟨d, 0, 0, none⟩])); simp only [List.length_append, List.length_cons, List.length_nil] at hg1) | skip)
  refine tr_seq fun K6 hK6 => ?_
  refine tr_region [8, 1000000, 1000001, 1000002, 1000003] rfl rfl fun K hK => ?_
  iterate 3 refine evR_p ?_
  refine evR_bs ?_
  refine evR_p ?_
  refine evR_bs ?_
  iterate 2 refine evR_p ?_
  refine evR_e hK ?_; clear hK K
  refine hK6 _ ?_
  refine tr_seq fun K7 hK7 => ?_
  refine tr_region [7, 1000000, 1000001, 1000002, 1000003] rfl rfl fun K hK => ?_
  iterate 2 refine evR_p ?_
  refine evR_e hK ?_; clear hK K
  refine hK7 _ ?_
  refine tr_ret ?_
  (try simp only [thenE, inBlkE])
  all_goals first | refine ⟨_, (Wk.trans (Wk.ren 6 4 (Nat.le_of_ble_eq_true rfl) (Nat.le_of_ble_eq_true rfl) rfl) (Wk.cut 5 rfl)), ?_⟩ | refine ⟨_, (Wk.trans (Wk.ren 8 4 (Nat.le_of_ble_eq_true rfl) (Nat.le_of_ble_eq_true rfl) rfl) (Wk.cut 5 rfl)), ?_⟩
  simp (maxSteps := 4000000) (disch := first | assumption | omega | (simp only [go_sem, *]; done) | (simp only [go_sem, *]; omega)) only [postM, ghOK, gv, St.ren, St.cut, V.ren, V.renL, AObj.ren, Nat.blt_eq, resV1, go_sem, hq, Int.reduceToNat, Nat.reduceBEq, Nat.reduceEqDiff, Nat.reduceAdd, Nat.reduceMul, Nat.reduceLeDiff, Nat.reduceLT, Nat.reduceSub, ↓reduceIte, reduceCtorEq]
  all_goals ((first | (rw [growN_leaf ht1]; done) | (subst hnm; rw [grow_fin (by omega) growN_at]; simp only [growN, if_neg hneg]; rfl)))
 ·
  skip
  (first | (have hneg : ¬ (0 ≤ idxOf (overB d set) rows) := ht1; obtain ⟨m, hnm, hi1, hi2⟩ := infN_step hinf hneg; have hg1 := growN_length rows m (d + 1) set (out ++ [⟨d, 0, 0, none⟩]); have hg2 := growN_length rows m (d + 1) (setBit set d) (growN rows m (d + 1) set (out ++ [⟨d, 0, 0, none⟩])); simp only [List.length_append, List.length_cons, List.length_nil] at hg1) | skip)
  refine tr_skip ?_
  (try simp only [thenE, inBlkE])
  refine hK4 _ ?_
  refine tr_seq fun K8 hK8 => ?_
  refine tr_region [2, 4, 5, 6, 8, 1000000, 1000001, 1000002, 1000003] rfl rfl fun K hK => ?_
  iterate 3 refine evR_p ?_
  refine evR_bs ?_
  iterate 2 refine evR_p ?_
  refine evR_e hK ?_; clear hK K
  refine hK8 _ ?_
  refine tr_seq fun K9 hK9 => ?_
  refine tr_region [2, 4, 5, 6, 8, 10, 1000000, 1000001, 1000002, 1000003] rfl rfl fun K hK => ?_
  iterate 4 refine evR_p ?_
  refine evR_stepX fun Kq hKq => Or.inr ?_
  simp (maxSteps := 4000000) (disch := first | assumption | omega | (simp only [go_sem, *]; done) | (simp only [go_sem, *]; omega)) only [stpM, go_sem, hq, Int.reduceToNat, Nat.reduceBEq, Nat.reduceEqDiff, Nat.reduceAdd, Nat.reduceMul, Nat.reduceLeDiff, Nat.reduceLT, Nat.reduceSub, ↓reduceIte, reduceCtorEq]
  refine ⟨[0, 1, 2, 6], ?_⟩
  simp (maxSteps := 4000000) (disch := first | assumption | omega | (simp only [go_sem, *]; done) | (simp only [go_sem, *]; omega)) only [V.mapL, V.map, gJ, footJ, inJ, AObj.map, ndJ, ltJ, V.domL, V.dom, AObj.dom, kC, kR, AObj.isC, hJ, backJ, List.any_cons, List.any_nil, Nat.ble_eq, Nat.blt_eq, Nat.reduceLT, Nat.reduceLeDiff, Bool.or_true, Bool.true_or, Bool.or_false, Bool.false_or, Bool.and_self, go_sem, hq, Int.reduceToNat, Nat.reduceBEq, Nat.reduceEqDiff, Nat.reduceAdd, Nat.reduceMul, Nat.reduceLeDiff, Nat.reduceLT, Nat.reduceSub, ↓reduceIte, reduceCtorEq]
  refine ⟨_, _, _, (ih m hnm set _ hi1 (by subst hnm; rw [Nat.pow_succ] at ho; simp only [List.length_append, List.length_cons, List.length_nil]; omega)), ?_⟩
  simp (maxSteps := 4000000) (disch := first | assumption | omega | (simp only [go_sem, *]; done) | (simp only [go_sem, *]; omega)) only [V.mapL, V.map, gJ, footJ, inJ, AObj.map, ndJ, ltJ, V.domL, V.dom, AObj.dom, kC, kR, AObj.isC, hJ, backJ, List.any_cons, List.any_nil, Nat.ble_eq, Nat.blt_eq, Nat.reduceLT, Nat.reduceLeDiff, Bool.or_true, Bool.true_or, Bool.or_false, Bool.false_or, Bool.and_self, go_sem, hq, Int.reduceToNat, Nat.reduceBEq, Nat.reduceEqDiff, Nat.reduceAdd, Nat.reduceMul, Nat.reduceLeDiff, Nat.reduceLT, Nat.reduceSub, ↓reduceIte, reduceCtorEq]
  (repeat (refine And.intro (by first | assumption | omega | decide | (simp; done) | (simp; omega) | (have hq := hvv hgt; omega) | (simp_all; done)) ?_))
  refine hKq _ ?_; clear hKq Kq
  refine evR_p ?_
  refine evR_e hK ?_; clear hK K
  refine hK9 _ ?_
  refine tr_seq fun K10 hK10 => ?_
  refine tr_draw [44] [2, 8, 10, 11, 1000000, 1000001, 1000002, 1000003] mixed rfl (by kernel_rfl) rfl fun K hK => ?_
  iterate 7 refine evD_p ?_
  refine evD_step fun Kq hKq => ?_
  simp (maxSteps := 4000000) (disch := first | assumption | omega | (simp only [go_sem, *]; done) | (simp only [go_sem, *]; omega)) only [go_sem, hq, Int.reduceToNat, Nat.reduceBEq, Nat.reduceEqDiff, Nat.reduceAdd, Nat.reduceMul, Nat.reduceLeDiff, Nat.reduceLT, Nat.reduceSub, ↓reduceIte, reduceCtorEq]
  refine Or.inr ?_
  simp (maxSteps := 4000000) (disch := first | assumption | omega | (simp only [go_sem, *]; done) | (simp only [go_sem, *]; omega)) only [stpM, go_sem, hq, Int.reduceToNat, Nat.reduceBEq, Nat.reduceEqDiff, Nat.reduceAdd, Nat.reduceMul, Nat.reduceLeDiff, Nat.reduceLT, Nat.reduceSub, ↓reduceIte, reduceCtorEq]
  refine ⟨[0, 1, 2, 7], ?_⟩
  simp (maxSteps := 4000000) (disch := first | assumption | omega | (simp only [go_sem, *]; done) | (simp only [go_sem, *]; omega)) only [V.mapL, V.map, gJ, footJ, inJ, AObj.map, ndJ, ltJ, V.domL, V.dom, AObj.dom, kC, kR, AObj.isC, hJ, backJ, List.any_cons, List.any_nil, Nat.ble_eq, Nat.blt_eq, Nat.reduceLT, Nat.reduceLeDiff, Bool.or_true, Bool.true_or, Bool.or_false, Bool.false_or, Bool.and_self, go_sem, hq, Int.reduceToNat, Nat.reduceBEq, Nat.reduceEqDiff, Nat.reduceAdd, Nat.reduceMul, Nat.reduceLeDiff, Nat.reduceLT, Nat.reduceSub, ↓reduceIte, reduceCtorEq]
  refine ⟨_, _, _, (ih m hnm (setBit set d) _ hi2 (by subst hnm; rw [Nat.pow_succ] at ho; omega)), ?_⟩
  simp (maxSteps := 4000000) (disch := first | assumption | omega | (simp only [go_sem, *]; done) | (simp only [go_sem, *]; omega)) only [V.mapL, V.map, gJ, footJ, inJ, AObj.map, ndJ, ltJ, V.domL, V.dom, AObj.dom, kC, kR, AObj.isC, hJ, backJ, List.any_cons, List.any_nil, Nat.ble_eq, Nat.blt_eq, Nat.reduceLT, Nat.reduceLeDiff, Bool.or_true, Bool.true_or, Bool.or_false, Bool.false_or, Bool.and_self, go_sem, hq, Int.reduceToNat, Nat.reduceBEq, Nat.reduceEqDiff, Nat.reduceAdd, Nat.reduceMul, Nat.reduceLeDiff, Nat.reduceLT, Nat.reduceSub, ↓reduceIte, reduceCtorEq]
  (repeat (refine And.intro (by first | assumption | omega | decide | (simp; done) | (simp; omega) | (have hq := hvv hgt; omega) | (simp_all; done)) ?_))
  refine hKq _ ?_; clear hKq Kq
  refine evD_p ?_
  refine evD_e hK ?_; clear hK K
  refine hK10 _ ?_
  refine tr_seq fun K11 hK11 => ?_
  refine tr_draw [999999] [8, 1000000, 1000001, 1000002, 1000003] mixed rfl (by kernel_rfl) rfl fun K hK => ?_
  iterate 12 refine evD_p ?_
  refine evD_e hK ?_; clear hK K
  refine hK11 _ ?_
  refine tr_seq fun K12 hK12 => ?_
  refine tr_region [7, 1000000, 1000001, 1000002, 1000003] rfl rfl fun K hK => ?_
  iterate 2 refine evR_p ?_
  refine evR_e hK ?_; clear hK K
  refine hK12 _ ?_
  refine tr_ret ?_
  (try simp only [thenE, inBlkE])
  all_goals first | refine ⟨_, (Wk.trans (Wk.ren 6 4 (Nat.le_of_ble_eq_true rfl) (Nat.le_of_ble_eq_true rfl) rfl) (Wk.cut 5 rfl)), ?_⟩ | refine ⟨_, (Wk.trans (Wk.ren 8 4 (Nat.le_of_ble_eq_true rfl) (Nat.le_of_ble_eq_true rfl) rfl) (Wk.cut 5 rfl)), ?_⟩
  simp (maxSteps := 4000000) (disch := first | assumption | omega | (simp only [go_sem, *]; done) | (simp only [go_sem, *]; omega)) only [postM, ghOK, gv, St.ren, St.cut, V.ren, V.renL, AObj.ren, Nat.blt_eq, resV1, go_sem, hq, Int.reduceToNat, Nat.reduceBEq, Nat.reduceEqDiff, Nat.reduceAdd, Nat.reduceMul, Nat.reduceLeDiff, Nat.reduceLT, Nat.reduceSub, ↓reduceIte, reduceCtorEq]
  all_goals ((first | (rw [growN_leaf ht1]; done) | (subst hnm; rw [grow_fin (by omega) growN_at]; simp only [growN, if_neg hneg]; rfl)))
end

theorem c60 (rows : List Rw) (hr : rows.length ≤ maxLen) : ∀ (n d : Nat) (set : Int) (out : List Stp), (∀ r ∈ rows, r.coef.length = d + n) → d + n ≤ 12 → infN rows n d set → out.length + 2 ^ (n + 1) ≤ 100000 → CallsM Try.prog 127 [.int .i64 (d : Nat), .int .i64 set, .ptr 1 0, .ptr 0 0, .ptr 2 0] [(3, .row 54 4 (encS out)), (2, .cells [.fn 127 [.ptr 1 0, .ptr 0 0, .ptr 2 0]]), (1, .cells [.own 3]), (0, .cells [.sl 6 (encR rows)])] 4 (.int .i64 ((out).length : Nat)) [(4, .row 54 4 (encS (growN rows n d set out))), (2, .cells [.fn 127 [.ptr 1 0, .ptr 0 0, .ptr 2 0]]), (1, .cells [.own 4]), (0, .cells [.sl 6 (encR rows)])] 5
 | 0, d, set, out, hc, hd, hi, ho => c60s rows hr (fun r h => by have := hc r h; unfold maxLen; omega) 0 d set out hc hd hi ho fun m hm => by omega
 | n + 1, d, set, out, hc, hd, hi, ho => c60s rows hr (fun r h => by have := hc r h; unfold maxLen; omega) (n + 1) d set out hc hd hi ho fun m hm set out h1 h2 => by
  have : m = n := by omega
  subst this
  exact c60 rows hr m (d + 1) set out (fun r h => by have := hc r h; omega) (by omega) h1 h2
theorem c41 (rows : List Rw) (hr : rows.length ≤ maxLen) (n : Nat) (hn : n ≤ 12) (hc : ∀ r ∈ rows, r.coef.length = n) (hinf : infN rows n 0 0) : CallsA Try.prog 81 [.sl 6 (encR rows)] (.sl 4 (encS (growN rows n 0 0 []))) := by
 have hp : 2 ^ (n + 1) ≤ 2 ^ 13 := Nat.pow_le_pow_right (by omega) (by omega)
 have hq : True := trivial
 refine callsA_of_tr Try.func81 rfl (Nat.le_of_ble_eq_true rfl) ?_
 simp only [Try.results81, envOf, Nat.reduceAdd]
 refine tr_seq fun K1 hK1 => ?_
 refine tr_region [1] rfl rfl fun K hK => ?_
 iterate 2 refine evR_p ?_
 refine evR_e hK ?_; clear hK K
 refine hK1 _ ?_
 refine tr_seq fun K2 hK2 => ?_
 refine tr_region [1, 3] rfl rfl fun K hK => ?_
 refine evR_p ?_
 refine evR_e hK ?_; clear hK K
 refine hK2 _ ?_
 refine tr_seq fun K3 hK3 => ?_
 refine tr_region [1, 3, 4] rfl rfl fun K hK => ?_
 refine evR_p ?_
 refine evR_e hK ?_; clear hK K
 refine hK3 _ ?_
 refine tr_seq fun K4 hK4 => ?_
 refine tr_region [3, 4] rfl rfl fun K hK => ?_
 iterate 2 refine evR_p ?_
 refine evR_e hK ?_; clear hK K
 refine hK4 _ ?_
 refine tr_seq fun K5 hK5 => ?_
 refine tr_wk (Wk.nilown 54 4 1 0 rfl (by decide) rfl) ?_
 try simp only [List.map_cons, List.map_nil, Nat.reduceEqDiff, ↓reduceIte, List.set_cons_zero, List.set_cons_succ, Nat.reduceAdd]
 refine tr_region [3] rfl rfl fun K hK => ?_
 refine evR_p ?_
 refine evR_stepX fun Kq hKq => Or.inr ?_
 simp (maxSteps := 4000000) (disch := first | assumption | omega | (simp only [go_sem, *]; done) | (simp only [go_sem, *]; omega)) only [stpM, go_sem, hq, Int.reduceToNat, Nat.reduceBEq, Nat.reduceEqDiff, Nat.reduceAdd, Nat.reduceMul, Nat.reduceLeDiff, Nat.reduceLT, Nat.reduceSub, ↓reduceIte, reduceCtorEq]
 refine ⟨[0, 1, 2, 3], ?_⟩
 simp (maxSteps := 4000000) (disch := first | assumption | omega | (simp only [go_sem, *]; done) | (simp only [go_sem, *]; omega)) only [V.mapL, V.map, gJ, footJ, inJ, AObj.map, ndJ, ltJ, V.domL, V.dom, AObj.dom, kC, kR, AObj.isC, hJ, backJ, List.any_cons, List.any_nil, Nat.ble_eq, Nat.blt_eq, Nat.reduceLT, Nat.reduceLeDiff, Bool.or_true, Bool.true_or, Bool.or_false, Bool.false_or, Bool.and_self, go_sem, hq, Int.reduceToNat, Nat.reduceBEq, Nat.reduceEqDiff, Nat.reduceAdd, Nat.reduceMul, Nat.reduceLeDiff, Nat.reduceLT, Nat.reduceSub, ↓reduceIte, reduceCtorEq]
 refine ⟨_, _, _, (c60 rows hr n 0 0 [] (fun r h => by rw [hc r h]; omega) (by omega) hinf (by simp only [List.length_nil]; omega)), ?_⟩
 simp (maxSteps := 4000000) (disch := first | assumption | omega | (simp only [go_sem, *]; done) | (simp only [go_sem, *]; omega)) only [V.mapL, V.map, gJ, footJ, inJ, AObj.map, ndJ, ltJ, V.domL, V.dom, AObj.dom, kC, kR, AObj.isC, hJ, backJ, List.any_cons, List.any_nil, Nat.ble_eq, Nat.blt_eq, Nat.reduceLT, Nat.reduceLeDiff, Bool.or_true, Bool.true_or, Bool.or_false, Bool.false_or, Bool.and_self, go_sem, hq, Int.reduceToNat, Nat.reduceBEq, Nat.reduceEqDiff, Nat.reduceAdd, Nat.reduceMul, Nat.reduceLeDiff, Nat.reduceLT, Nat.reduceSub, ↓reduceIte, reduceCtorEq]
 (repeat (refine And.intro (by first | assumption | omega | decide | (simp; done) | (simp; omega) | (have hq := hvv hgt; omega) | (simp_all; done)) ?_))
 refine hKq _ ?_; clear hKq Kq
 refine evR_e hK ?_; clear hK K
 refine hK5 _ ?_
 refine tr_seq fun K6 hK6 => ?_
 refine tr_region [2] rfl rfl fun K hK => ?_
 iterate 2 refine evR_p ?_
 refine evR_e hK ?_; clear hK K
 refine hK6 _ ?_
 refine tr_ret ?_
 (try simp only [thenE, inBlkE])
 simp (maxSteps := 4000000) (disch := first | assumption | omega | (simp only [go_sem, *]; done) | (simp only [go_sem, *]; omega)) only [postA, postO, resV1, fzAll, go_sem, hq, Int.reduceToNat, Nat.reduceBEq, Nat.reduceEqDiff, Nat.reduceAdd, Nat.reduceMul, Nat.reduceLeDiff, Nat.reduceLT, Nat.reduceSub, ↓reduceIte, reduceCtorEq]
 all_goals (skip)

theorem c38 (p : Pg) : CallsA Try.prog 77 [.agg (encPg p)] (.fn 125 [.ep (encPg p)]) := by
 have hq : True := trivial
 refine callsA_of_tr Try.func77 rfl (Nat.le_of_ble_eq_true rfl) ?_
 simp only [Try.results77, envOf, Nat.reduceAdd]
 refine tr_seq fun K1 hK1 => ?_
 refine tr_region [1] rfl rfl fun K hK => ?_
 iterate 2 refine evR_p ?_
 refine evR_e hK ?_; clear hK K
 refine hK1 _ ?_
 refine tr_seq fun K2 hK2 => ?_
 refine tr_fz [.ptr 0 0] (by simp (maxSteps := 4000000) (disch := first | assumption | omega | (simp only [go_sem, *]; done) | (simp only [go_sem, *]; omega)) only [go_sem, hq, Int.reduceToNat, Nat.reduceBEq, Nat.reduceEqDiff, Nat.reduceAdd, Nat.reduceMul, Nat.reduceLeDiff, Nat.reduceLT, Nat.reduceSub, ↓reduceIte, reduceCtorEq]; (try rfl)) ?_
 refine tr_region [2] rfl rfl fun K hK => ?_
 iterate 2 refine evR_p ?_
 refine evR_e hK ?_; clear hK K
 refine hK2 _ ?_
 refine tr_ret ?_
 (try simp only [thenE, inBlkE])
 simp (maxSteps := 4000000) (disch := first | assumption | omega | (simp only [go_sem, *]; done) | (simp only [go_sem, *]; omega)) only [postA, postO, resV1, fzAll, go_sem, hq, Int.reduceToNat, Nat.reduceBEq, Nat.reduceEqDiff, Nat.reduceAdd, Nat.reduceMul, Nat.reduceLeDiff, Nat.reduceLT, Nat.reduceSub, ↓reduceIte, reduceCtorEq]
 all_goals (rfl)

theorem c59 (r : Rw) (hm : r.coef.length ≤ maxLen) (set : Int) : CallsA Try.prog 126 [.agg (encRw r), .ep [.int .i64 set]] (.bool (keptB r set)) := by
 have hq : True := trivial
 refine callsA_of_tr Try.func126 rfl (Nat.le_of_ble_eq_true rfl) ?_
 simp only [Try.results126, envOf, Nat.reduceAdd]
 refine tr_seq fun K1 hK1 => ?_
 refine tr_region [1, 2] rfl rfl fun K hK => ?_
 iterate 2 refine evR_p ?_
 refine evR_e hK ?_; clear hK K
 refine hK1 _ ?_
 refine tr_seq fun K2 hK2 => ?_
 refine tr_region [3] rfl rfl fun K hK => ?_
 iterate 2 refine evR_p ?_
 refine evR_c (hc := (c55 r hm set)) (k := ?_)
 refine evR_p ?_
 refine evR_e hK ?_; clear hK K
 refine hK2 _ ?_
 refine tr_ret ?_
 (try simp only [thenE, inBlkE])
 simp (maxSteps := 4000000) (disch := first | assumption | omega | (simp only [go_sem, *]; done) | (simp only [go_sem, *]; omega)) only [postA, postO, resV1, fzAll, go_sem, hq, Int.reduceToNat, Nat.reduceBEq, Nat.reduceEqDiff, Nat.reduceAdd, Nat.reduceMul, Nat.reduceLeDiff, Nat.reduceLT, Nat.reduceSub, ↓reduceIte, reduceCtorEq]
 all_goals (skip)

section
attribute [local go_sem] fzL_mapI
theorem c58 (p : Pg) (hr : p.rows.length ≤ maxLen) (hg : p.gain.length ≤ maxLen) (hc : ∀ r ∈ p.rows, r.coef.length ≤ maxLen) (hv : validB p = true) : SeqA Try.prog (Value.int .i64) 125 [.ep (encPg p)] (fun xs => xs = choiceL p) 4096 := by
 obtain ⟨v, hv1, hv2, hv3, hv4⟩ := vars_pow hv
 have hq := And.intro hv1 (hv3)
 refine seqA_of_tr Try.func125 rfl (by rw [Try.results125]) enok_int (Nat.le_of_ble_eq_true rfl) (Nat.le_of_ble_eq_true rfl) fun l ys C hys hCY => ?_
 obtain ⟨y0, rfl⟩ : ∃ y0, ys = [y0] := by match ys, hys with | [y0], _ => exact ⟨y0, rfl⟩
 simp only [List.zipWith_cons_cons, List.zipWith_nil_left, List.zip_cons_cons, List.zip_nil_left, envOf, List.cons_append, List.nil_append, Nat.reduceAdd] at hCY ⊢
 refine tr_seq fun K1 hK1 => ?_
 refine tr_region [0, 1, 6, 7, 1000000, 1000001] rfl rfl fun K hK => ?_
 iterate 4 refine evR_p ?_
 refine evR_e hK ?_; clear hK K
 refine hK1 _ ?_
 refine tr_block ?_
 -- loop 1: live [0, 1, 6, 7]
 refine tr_loopW (fun m σ => ∃ i : Nat, i + m = 2 ^ v ∧ σ = ⟨[(0, .yl l), (1, .eq y0 (.ep [.int .i64 (v : Nat), .sl 6 (encR p.rows), .sl 1 (encI p.gain)])), (6, .int .i64 ((2 ^ v : Nat) : Int)), (7, .int .i64 (i : Nat)), (1000000, .tup ((chL p.rows i).map (V.int .i64))), (1000001, .bool false)], [], 0⟩) (2 ^ v) ?_ ?_
 ·
  exact ⟨_, Wk.refl _, 0, by omega, rfl⟩
 ·
  rintro m σ ⟨i, hi, rfl⟩ KL1 hKL1
  refine tr_seq fun K2 hK2 => ?_
  refine tr_region [0, 1, 6, 7, 8, 1000000, 1000001] rfl rfl fun K hK => ?_
  refine evR_p ?_
  refine evR_e hK ?_; clear hK K
  refine hK2 _ ?_
  refine tr_seq fun K3 hK3 => ?_
  refine tr_condB (fun ht1 => ?_) (fun ht1 => ?_)
  ·
   skip
   (first | (exfalso; simp_all; done) | skip)
   all_goals
    have hil : i < 2 ^ v := by omega
    have hcl := chL_length p.rows i
    replace hq := And.intro hq (hil)
    refine tr_skip ?_
    (try simp only [thenE, inBlkE])
    refine hK3 _ ?_
    refine tr_seq fun K4 hK4 => ?_
    refine tr_block ?_
    refine tr_seq fun K5 hK5 => ?_
    refine tr_region [0, 1, 3, 6, 7, 1000000, 1000001] rfl rfl fun K hK => ?_
    iterate 3 refine evR_p ?_
    refine evR_e hK ?_; clear hK K
    refine hK5 _ ?_
    refine tr_seq fun K6 hK6 => ?_
    refine tr_region [0, 1, 6, 7, 19, 1000000, 1000001] rfl rfl fun K hK => ?_
    iterate 3 refine evR_p ?_
    refine evR_c (hc := (c46 p.rows 126 [.ep [.int .i64 (i : Nat)]] (fun r => keptB r (i : Nat)) okF_126 rfl (fun r h => c59 r (hc r h) (i : Nat)) hr)) (k := ?_)
    refine evR_p ?_
    iterate 2 refine evR_g ?_
    refine evR_stepY rfl rfl fun Kq hKq => ⟨fun hyt => hCY _ _ _ ?_, fun hyt => ⟨.bool false, hKq _ ?_⟩⟩
    (try simp only [decide_eq_true_eq, decide_eq_false_iff_not, Bool.not_eq_true', Bool.not_eq_false', Bool.and_eq_true, Bool.or_eq_true, Bool.and_eq_false_iff, Bool.or_eq_false_iff, beq_true, beq_false] at hyt)
    simp (maxSteps := 4000000) (disch := first | assumption | omega | (simp only [go_sem, *]; done) | (simp only [go_sem, *]; omega)) only [YI, go_sem, hq, Int.reduceToNat, Nat.reduceBEq, Nat.reduceEqDiff, Nat.reduceAdd, Nat.reduceMul, Nat.reduceLeDiff, Nat.reduceLT, Nat.reduceSub, ↓reduceIte, reduceCtorEq]
    (repeat (refine And.intro (by first | assumption | omega | decide | (simp; done) | (simp; omega) | (have hq := hvv hgt; omega) | (simp_all; done)) ?_))
    refine ⟨((i : Nat) : Int), chL p.rows i, [1], ?_⟩
    (repeat (refine And.intro (by first | rfl | exact (show (chL p.rows i).length < 4096 by omega) | (intro t ht; rw [List.mem_singleton] at ht; subst ht; exact ⟨_, List.mem_singleton.2 rfl, rfl⟩) | (rfl)) ?_))
    refine ⟨hKq _ ?_, hKq _ ?_⟩
    all_goals try simp only [goY, stY, keepE, simE, V.simpl, V.simp, List.cons_append, List.nil_append, St.put, St.slot, List.lookup, Option.getD_some, Nat.reduceBEq]
    all_goals (try clear hKq Kq)
    all_goals (try simp only [decide_eq_true_eq, decide_eq_false_iff_not, Bool.not_eq_true', Bool.not_eq_false', Bool.and_eq_true, Bool.or_eq_true, Bool.and_eq_false_iff, Bool.or_eq_false_iff, beq_true, beq_false] at hyt)
    all_goals
     refine evR_g ?_
     refine evR_p ?_
     refine evR_e hK ?_; clear hK K
     refine hK6 _ ?_
     refine tr_condB (fun ht2 => ?_) (fun ht2 => ?_)
     ·
      skip
      (first | (exfalso; simp_all; done) | skip)
      all_goals
       refine tr_ret ?_
       (try simp only [thenE, inBlkE])
       simp (maxSteps := 4000000) (disch := first | assumption | omega | (simp only [go_sem, *]; done) | (simp only [go_sem, *]; omega)) only [postI, go_sem, hq, Int.reduceToNat, Nat.reduceBEq, Nat.reduceEqDiff, Nat.reduceAdd, Nat.reduceMul, Nat.reduceLeDiff, Nat.reduceLT, Nat.reduceSub, ↓reduceIte, reduceCtorEq]
       all_goals (first | exact Or.inl trivial | exact Or.inl rfl | exact Or.inr ⟨_, by unfold choiceL; rw [hv1]; rfl, rfl⟩)
     ·
      skip
      (first | (exfalso; simp_all; done) | skip)
      all_goals
       refine tr_skip ?_
       (try simp only [thenE, inBlkE])
       refine hK4 _ ?_
       refine tr_region [0, 1, 6, 7, 1000000, 1000001] rfl rfl fun K hK => ?_
       iterate 2 refine evR_p ?_
       refine evR_e hK ?_; clear hK K
       refine hKL1 _ ?_
       first
        | exact ⟨m - 1, _, by omega, Wk.cut 0 (by simp only [St.cutOK, List.all_cons, List.all_nil, V.upto, uptoL_mapI, Bool.and_self, List.filter_nil]), i + 1, by omega, by rw [w64 (x := (i : Int) + 1) (by omega), chL_t hyt]; rfl⟩
        | exact ⟨m - 1, _, by omega, Wk.cut 0 (by simp only [St.cutOK, List.all_cons, List.all_nil, V.upto, uptoL_mapI, Bool.and_self, List.filter_nil]), i + 1, by omega, by rw [w64 (x := (i : Int) + 1) (by omega), chL_f hyt]; rfl⟩
  ·
   skip
   (first | (exfalso; simp_all; done) | skip)
   all_goals
    have hil : i = 2 ^ v := by omega
    subst hil
    refine tr_exit ?_
    simp only [thenE, inBlkE, Nat.reduceEqDiff, ↓reduceIte]
    simp (maxSteps := 4000000) (disch := first | assumption | omega | (simp only [go_sem, *]; done) | (simp only [go_sem, *]; omega)) only [postI, go_sem, hq, Int.reduceToNat, Nat.reduceBEq, Nat.reduceEqDiff, Nat.reduceAdd, Nat.reduceMul, Nat.reduceLeDiff, Nat.reduceLT, Nat.reduceSub, ↓reduceIte, reduceCtorEq]
    all_goals (first | exact Or.inl trivial | exact Or.inl rfl | exact Or.inr ⟨_, by unfold choiceL; rw [hv1]; rfl, rfl⟩)
end

theorem c65 (f : FuncId) (caps : List V) (xs : List Int) (hit : SeqA Try.prog (Value.int .i64) f caps (fun ys => ys = xs) 4096) (hcl : V.clL caps = true) (hok : okF Try.prog f = true) : CallsA Try.prog 124 [.nsl, .fn f caps] (.sl 1 (encI xs)) := by
 have hq : True := trivial
 refine callsA_of_tr Try.func124 rfl (Nat.le_of_ble_eq_true rfl) ?_
 simp only [Try.results124, envOf, Nat.reduceAdd]
 refine tr_seq fun K1 hK1 => ?_
 refine tr_region [1, 2] rfl rfl fun K hK => ?_
 iterate 2 refine evR_p ?_
 refine evR_e hK ?_; clear hK K
 refine hK1 _ ?_
 refine tr_seq fun K2 hK2 => ?_
 refine tr_seq fun K3 hK3 => ?_
 refine tr_region [2, 6] rfl rfl fun K hK => ?_
 refine evR_p ?_
 refine evR_e hK ?_; clear hK K
 refine hK3 _ ?_
 refine tr_block ?_
 -- loop over a function 1: live [2]
 refine tr_wk (Wk.nilown 3 1 0 0 rfl (Nat.le_of_ble_eq_true rfl) rfl) ?_
 try simp only [List.map_cons, List.map_nil, Nat.reduceEqDiff, ↓reduceIte, List.set_cons_zero, List.set_cons_succ, Nat.reduceAdd]
 refine tr_rangeFunc (en := V.int .i64) hit enok_int.rel rfl hcl hok rfl (fun pre σ => σ = ⟨[(2, .ptr 0 0)], [(1, .row 3 1 (encI pre)), (0, .cells [.own 1])], 2⟩) [2] ?_ ?_ ?_
 ·
  rfl
 ·
  rintro pre x σ rfl hpre KL1 hKL1 KA1 hKA1
  simp only [St.rd, List.filter_cons, List.filter_nil, List.map_cons, List.map_nil, Nat.blt_eq, Nat.reduceLT, ↓reduceIte, List.cons_append, List.nil_append, Nat.reduceAdd]
  refine tr_region [2, 5, 2000002] rfl rfl fun K hK => ?_
  refine evR_p ?_
  refine evR_e hK ?_; clear hK K
  refine hKA1 _ ?_
  refine tr_block ?_
  refine tr_region [2000002] rfl rfl fun K hK => ?_
  iterate 2 refine evR_p ?_
  refine evR_bs ?_
  iterate 2 refine evR_p ?_
  refine evR_e hK ?_; clear hK K
  refine hKL1 _ ?_
  simp only [St.bk, List.filterMap_cons, List.filterMap_nil, Nat.ble_eq, Nat.reduceLeDiff, ↓reduceIte, Nat.reduceSub]
  exact ⟨_, Wk.trans (Wk.ren 2 1 (Nat.le_of_ble_eq_true rfl) (Nat.le_of_ble_eq_true rfl) rfl) (Wk.cut 2 rfl), by rw [encI_snoc]; rfl⟩
 ·
  rintro pre σ hS rfl
  subst hS
  refine hK2 _ ?_
  refine tr_seq fun K4 hK4 => ?_
  refine tr_region [4] rfl rfl fun K hK => ?_
  iterate 2 refine evR_p ?_
  refine evR_e hK ?_; clear hK K
  refine hK4 _ ?_
  refine tr_ret ?_
  (try simp only [thenE, inBlkE])
  simp (maxSteps := 4000000) (disch := first | assumption | omega | (simp only [go_sem, *]; done) | (simp only [go_sem, *]; omega)) only [postA, postO, resV1, fzAll, go_sem, hq, Int.reduceToNat, Nat.reduceBEq, Nat.reduceEqDiff, Nat.reduceAdd, Nat.reduceMul, Nat.reduceLeDiff, Nat.reduceLT, Nat.reduceSub, ↓reduceIte, reduceCtorEq]
  all_goals (rfl)

theorem c44 (f : FuncId) (caps : List V) (xs : List Int) (hit : SeqA Try.prog (Value.int .i64) f caps (fun ys => ys = xs) 4096) (hcl : V.clL caps = true) (hok : okF Try.prog f = true) : CallsA Try.prog 76 [.fn f caps] (.sl 1 (encI xs)) := by
 have hq := hcl
 refine callsA_of_tr Try.func76 rfl (Nat.le_of_ble_eq_true rfl) ?_
 simp only [Try.results76, envOf, Nat.reduceAdd]
 refine tr_seq fun K1 hK1 => ?_
 refine tr_region [0] rfl rfl fun K hK => ?_
 refine evR_p ?_
 refine evR_e hK ?_; clear hK K
 refine hK1 _ ?_
 refine tr_seq fun K2 hK2 => ?_
 refine tr_region [2] rfl rfl fun K hK => ?_
 refine evR_p ?_
 refine evR_c (hc := (c65 f caps xs hit hcl hok)) (k := ?_)
 refine evR_p ?_
 refine evR_e hK ?_; clear hK K
 refine hK2 _ ?_
 refine tr_ret ?_
 (try simp only [thenE, inBlkE])
 simp (maxSteps := 4000000) (disch := first | assumption | omega | (simp only [go_sem, *]; done) | (simp only [go_sem, *]; omega)) only [postA, postO, resV1, fzAll, go_sem, hq, Int.reduceToNat, Nat.reduceBEq, Nat.reduceEqDiff, Nat.reduceAdd, Nat.reduceMul, Nat.reduceLeDiff, Nat.reduceLT, Nat.reduceSub, ↓reduceIte, reduceCtorEq]
 all_goals (rfl)

section
attribute [local go_sem] encR_takeA encR_one
set_option maxHeartbeats 2000000 in
theorem c14 (p : Pg) (hr : p.rows.length ≤ maxLen) (hg : p.gain.length ≤ maxLen) (hc : ∀ r ∈ p.rows, r.coef.length ≤ maxLen) (hv : validB p = true) : CallsA Try.prog 36 [.agg (encPg p)] (.tup [.agg (encSol (solveW p)), .int .i64 0]) := by
 obtain ⟨q0, q1, q2, q3, q4, q5⟩ := validB_all hv
 have hq := hv
 refine callsA_of_tr Try.func36 rfl (Nat.le_of_ble_eq_true rfl) ?_
 simp only [Try.results36, envOf, Nat.reduceAdd]
 refine tr_seq fun K1 hK1 => ?_
 refine tr_region [1, 2] rfl rfl fun K hK => ?_
 iterate 3 refine evR_p ?_
 refine evR_e hK ?_; clear hK K
 refine hK1 _ ?_
 refine tr_seq fun K2 hK2 => ?_
 refine tr_seq fun K3 hK3 => ?_
 refine tr_region [1, 2, 10] rfl rfl fun K hK => ?_
 refine evR_p ?_
 refine evR_c (hc := (c20 p hr hg hc)) (k := ?_)
 refine evR_p ?_
 refine evR_e hK ?_; clear hK K
 refine hK3 _ ?_
 refine tr_condB (fun ht1 => ?_) (fun ht1 => ?_)
 ·
  skip
  (first | (exfalso; simp_all; done) | skip)
  all_goals
   refine tr_seq fun K4 hK4 => ?_
   refine tr_region [2, 3] rfl rfl fun K hK => ?_
   iterate 3 refine evR_p ?_
   refine evR_e hK ?_; clear hK K
   refine hK4 _ ?_
   refine tr_ret ?_
   (try simp only [thenE, inBlkE])
   simp (maxSteps := 4000000) (disch := first | assumption | omega | (simp only [go_sem, *]; done) | (simp only [go_sem, *]; omega)) only [postA, postO, resV1, fzAll, go_sem, hq, Int.reduceToNat, Nat.reduceBEq, Nat.reduceEqDiff, Nat.reduceAdd, Nat.reduceMul, Nat.reduceLeDiff, Nat.reduceLT, Nat.reduceSub, ↓reduceIte, reduceCtorEq]
   all_goals (simp only [encSol, solveW]; first | (rw [solRows_t (by assumption)]; done) | (rw [solRows_f (by assumption)]; done) | (rw [solRows_t (by assumption)]; rfl) | (rw [solRows_f (by assumption)]; rfl))
 ·
  skip
  (first | (exfalso; simp_all; done) | skip)
  all_goals
   refine tr_skip ?_
   (try simp only [thenE, inBlkE])
   refine hK2 _ ?_
   refine tr_seq fun K5 hK5 => ?_
   refine tr_region [1, 2, 4] rfl rfl fun K hK => ?_
   refine evR_p ?_
   refine evR_e hK ?_; clear hK K
   refine hK5 _ ?_
   refine tr_seq fun K6 hK6 => ?_
   refine tr_seq fun K7 hK7 => ?_
   refine tr_region [1, 2, 4, 13] rfl rfl fun K hK => ?_
   refine evR_p ?_
   refine evR_c (hc := (c38 p)) (k := ?_)
   refine evR_e hK ?_; clear hK K
   refine hK7 _ ?_
   refine tr_block ?_
   -- loop over a function 1: live [1, 2, 4]
   refine tr_rangeFunc (en := V.int .i64) (c58 p hr hg hc hv) enok_int.rel rfl rfl okF_125 rfl (fun pre σ => σ = ⟨[(1, .ptr 0 0), (2, .ptr 1 0), (4, .ptr 2 0)], [(2, .cells [.bool (bestW p.gain pre).1, .int .i64 (bestW p.gain pre).2.1, .int .i64 (bestW p.gain pre).2.2, .nsl]), (1, .cells [.bool false, .int .i64 0, .int .i64 0, .nsl]), (0, .cells (encPg p))], 3⟩) [1, 2, 4] ?_ ?_ ?_
   ·
    rfl
   ·
    rintro pre x σ rfl hpre KL1 hKL1 KA1 hKA1
    simp only [St.rd, List.filter_cons, List.filter_nil, List.map_cons, List.map_nil, Nat.blt_eq, Nat.reduceLT, ↓reduceIte, List.cons_append, List.nil_append, Nat.reduceAdd]
    refine tr_region [1, 4, 5, 2000001, 2000002, 2000004] rfl rfl fun K hK => ?_
    refine evR_p ?_
    refine evR_e hK ?_; clear hK K
    refine hKA1 _ ?_
    refine tr_block ?_
    refine tr_seq fun K8 hK8 => ?_
    refine tr_region [4, 5, 6, 2000001, 2000002, 2000004] rfl rfl fun K hK => ?_
    iterate 3 refine evR_p ?_
    refine evR_c (hc := (c39 _ _ hg)) (k := ?_)
    refine evR_p ?_
    refine evR_e hK ?_; clear hK K
    refine hK8 _ ?_
    refine tr_seq fun K9 hK9 => ?_
    refine tr_region [4, 5, 6, 27, 2000001, 2000002, 2000004] rfl rfl fun K hK => ?_
    iterate 4 refine evR_p ?_
    iterate 4 refine evR_g ?_
    refine evR_p ?_
    refine evR_e hK ?_; clear hK K
    refine hK9 _ ?_
    refine tr_condB (fun ht2 => ?_) (fun ht2 => ?_)
    ·
     skip
     (first | (exfalso; simp_all; done) | skip)
     all_goals
      refine tr_region [2000001, 2000002, 2000004] rfl rfl fun K hK => ?_
      iterate 4 refine evR_p ?_
      refine evR_e hK ?_; clear hK K
      refine hKL1 _ ?_
      simp only [St.bk, List.filterMap_cons, List.filterMap_nil, Nat.ble_eq, Nat.reduceLeDiff, ↓reduceIte, Nat.reduceSub]
      first
       | exact ⟨_, Wk.refl _, by rw [bestW_snoc, bestS_t (by first | (rcases ht2 with h | h <;> simp [h]; done) | (simp_all; done))]; rfl⟩
       | exact ⟨_, Wk.refl _, by rw [bestW_snoc, bestS_f (by first | (simp only [ht2, Bool.not_true, Bool.false_or]; done) | (simp_all; done))]; rfl⟩
    ·
     skip
     (first | (exfalso; simp_all; done) | skip)
     all_goals
      refine tr_skip ?_
      (try simp only [thenE, inBlkE])
      refine hKL1 _ ?_
      simp only [St.bk, List.filterMap_cons, List.filterMap_nil, Nat.ble_eq, Nat.reduceLeDiff, ↓reduceIte, Nat.reduceSub]
      first
       | exact ⟨_, Wk.refl _, by rw [bestW_snoc, bestS_t (by first | (rcases ht2 with h | h <;> simp [h]; done) | (simp_all; done))]; rfl⟩
       | exact ⟨_, Wk.refl _, by rw [bestW_snoc, bestS_f (by first | (simp only [ht2, Bool.not_true, Bool.false_or]; done) | (simp_all; done))]; rfl⟩
   ·
    rintro pre σ hS rfl
    subst hS
    have eb : bestW p.gain (choiceL p) = solveB p := rfl
    rw [eb]
    obtain ⟨vn, hvn⟩ := Int.eq_ofNat_of_zero_le q0
    refine hK6 _ ?_
    refine tr_seq fun K10 hK10 => ?_
    refine tr_region [1, 2, 4, 7] rfl rfl fun K hK => ?_
    iterate 3 refine evR_p ?_
    refine evR_e hK ?_; clear hK K
    refine hK10 _ ?_
    refine tr_seq fun K11 hK11 => ?_
    refine tr_seq fun K12 hK12 => ?_
    refine tr_region [1, 2, 4, 7, 34] rfl rfl fun K hK => ?_
    iterate 2 refine evR_p ?_
    refine evR_e hK ?_; clear hK K
    refine hK12 _ ?_
    refine tr_condB (fun ht3 => ?_) (fun ht3 => ?_)
    ·
     skip
     (first | (exfalso; simp_all; done) | skip)
     all_goals
      refine tr_draw [45] [2, 4, 7] mixed rfl (by kernel_rfl) rfl fun K hK => ?_
      iterate 9 refine evD_p ?_
      refine evD_c (hc := (c40 p (by omega) _)) (k := ?_)
      refine evD_bs ?_
      iterate 2 refine evD_p ?_
      refine evD_e hK ?_; clear hK K
      refine hK11 _ ?_
      refine tr_seq fun K13 hK13 => ?_
      refine tr_region [2, 4] rfl rfl fun K hK => ?_
      refine evR_p ?_
      refine evR_c (hc := (solRows_t (p := p) (b := solveB p) (by assumption) ▸ (c41 (solRows p (solveB p)) (by rw [solRows_t (by assumption)]; simp only [List.length_append, List.length_cons, List.length_nil, maxLen]; omega) p.vars.toNat (by omega) (solRows_coef hv _) (solve_inf hv)))) (k := ?_)
      iterate 2 refine evR_p ?_
      refine evR_e hK ?_; clear hK K
      refine hK13 _ ?_
      refine tr_seq fun K14 hK14 => ?_
      refine tr_region [2, 3] rfl rfl fun K hK => ?_
      iterate 3 refine evR_p ?_
      refine evR_e hK ?_; clear hK K
      refine hK14 _ ?_
      refine tr_ret ?_
      (try simp only [thenE, inBlkE])
      simp (maxSteps := 4000000) (disch := first | assumption | omega | (simp only [go_sem, *]; done) | (simp only [go_sem, *]; omega)) only [postA, postO, resV1, fzAll, go_sem, hq, Int.reduceToNat, Nat.reduceBEq, Nat.reduceEqDiff, Nat.reduceAdd, Nat.reduceMul, Nat.reduceLeDiff, Nat.reduceLT, Nat.reduceSub, ↓reduceIte, reduceCtorEq]
      all_goals (simp only [encSol, solveW]; first | (rw [solRows_t (by assumption)]; done) | (rw [solRows_f (by assumption)]; done) | (rw [solRows_t (by assumption)]; rfl) | (rw [solRows_f (by assumption)]; rfl))
    ·
     skip
     (first | (exfalso; simp_all; done) | skip)
     all_goals
      refine tr_skip ?_
      (try simp only [thenE, inBlkE])
      refine hK11 _ ?_
      refine tr_seq fun K15 hK15 => ?_
      refine tr_region [2, 4] rfl rfl fun K hK => ?_
      refine evR_p ?_
      refine evR_c (hc := (solRows_f (p := p) (b := solveB p) (by assumption) ▸ (c41 (solRows p (solveB p)) (by rw [solRows_f (by assumption)]; exact hr) p.vars.toNat (by omega) (solRows_coef hv _) (solve_inf hv)))) (k := ?_)
      iterate 2 refine evR_p ?_
      refine evR_e hK ?_; clear hK K
      refine hK15 _ ?_
      refine tr_seq fun K16 hK16 => ?_
      refine tr_region [2, 3] rfl rfl fun K hK => ?_
      iterate 3 refine evR_p ?_
      refine evR_e hK ?_; clear hK K
      refine hK16 _ ?_
      refine tr_ret ?_
      (try simp only [thenE, inBlkE])
      simp (maxSteps := 4000000) (disch := first | assumption | omega | (simp only [go_sem, *]; done) | (simp only [go_sem, *]; omega)) only [postA, postO, resV1, fzAll, go_sem, hq, Int.reduceToNat, Nat.reduceBEq, Nat.reduceEqDiff, Nat.reduceAdd, Nat.reduceMul, Nat.reduceLeDiff, Nat.reduceLT, Nat.reduceSub, ↓reduceIte, reduceCtorEq]
      all_goals (simp only [encSol, solveW]; first | (rw [solRows_t (by assumption)]; done) | (rw [solRows_f (by assumption)]; done) | (rw [solRows_t (by assumption)]; rfl) | (rw [solRows_f (by assumption)]; rfl))
end

section
attribute [local go_sem] encR_takeA encR_one
end

end Go.Proofs.Ytfamkbofdamkkaa
namespace Go.Proofs.Ytfamkbofdamkkaa
open Go.RowKit
set_option linter.unusedVariables false
set_option linter.unusedSimpArgs false
set_option maxRecDepth 100000
attribute [local go_sem] Nat.zero_add Nat.add_zero Nat.mul_one eq_self ne_eq not_true_eq_false not_false_eq_true decide_true decide_false decide_not Bool.false_eq_true List.filter_cons List.filter_nil true_and and_true beq_false beq_true Bool.not_true Bool.not_false Bool.and_true Bool.true_and Option.getD_some Option.getD_none imp_self implies_true Int.toNat_natCast List.cons_append List.nil_append List.map_cons List.map_nil List.length_cons List.length_nil List.getD_cons_zero List.getD_cons_succ List.drop_zero List.drop_succ_cons List.take_succ_cons List.take_zero
attribute [local go_sem] shL isSh Option.isNone_none Option.isNone_some Option.isSome_none lowN lowQ lowM isAl appOwn unw appF isE isO stpO notIn St.bare evO evDO isEff stp St.get St.slot St.put List.lookup un unL ofVal gof nth pickV pkB_false pkB_true binV unV loadV idxV fldV partV buildV fillV lenV sliV appV appR rowsV winV V.parts V.okp V.sc Mem.look_cons Mem.look_nil V.cl V.clL AObj.clo fzAll exps St.fz Mem.fz V.fz V.fzL AObj.fz Option.isSome_some Option.isSome_none Bool.or_true Bool.true_or Bool.or_false Bool.false_or false_and and_false false_or or_false arT_22 arT_23 arT_25 arT_24 arT_40 arT_30  arT_65 arT_28 arT_90  arT_52 boolT_25 boolT_3 boolT_35 boolT_4  flatT_25 flatT_3 flatT_35 flatT_4  intT_3 intT_133 lay_23 lay_25 lay_67 lay_24 lay_27 lay_3 lay_49 lay_30 lay_34 lay_4 lay_65 lay_52 lay_54 lay_56 lay_141 lay_164  okF_17 okF_31  okF_36 okF_18 okF_34 okF_63  okF_28 okF_50 okF_69 okF_51  okF_35       okF_37   okF_71  okF_65  okF_62 okF_77 okF_79  okF_80 okF_81 okF_64 okF_66 okF_76 okF_113 okF_96 okF_97 okF_98 okF_82  okF_99 okF_119 okF_120 okF_78 okF_100 okF_101 okF_83 okF_84 okF_125 okF_126  okF_127 okF_128 okF_129 okF_130 okF_114 okF_124 okF_140 okF_141 okF_142 okF_143  okF_131 okF_132 okF_144 okF_158 okF_155 okF_159   plT_67 plT_27 plT_34 plT_54 plT_56 slT_22 slT_23 slT_25 slT_24 slT_40 slT_30  slT_65 slT_28 slT_90  slT_52  stT_67_1   stT_67_4 stT_67_5 stT_27_0 stT_27_1 stT_27_2 stT_34_0 stT_34_1 stT_34_2 stT_34_3 stT_54_0 stT_54_1 stT_54_2 stT_54_3 stT_56_0 stT_56_1  zeroT_67 zeroT_27 zeroT_3 zeroT_49 zeroT_30 zeroT_34 zeroT_65  zeroT_54 zeroT_56
attribute [local go_sem] List.getElem?_cons_zero List.getElem?_cons_succ List.zip_cons_cons List.zip_nil_left List.zip_nil_right Bool.false_and Bool.and_false List.length_append List.length_set List.length_replicate List.all_cons List.all_nil encI_length encI_getD encR_length encR_getD encRw encPg spl shp AObj.shp rowM isSt isRpS isRd csh AObj.csh forall_const imp_self
attribute [local simp] encI_length encR_length
section
attribute [local go_sem] List.replicate_zero
end
section
attribute [local go_sem] encR_one
end

end Go.Proofs.Ytfamkbofdamkkaa
namespace Go.Proofs.Ytfamkbofdamkkaa
open Go.RowKit
set_option linter.unusedVariables false
set_option linter.unusedSimpArgs false
def encSol2 (p : Pg) : List V := [.bool (solveW p).found, .int .i64 (solveW p).set, .int .i64 (solveW p).gain, .sl 4 (encSgs (prfS p))]
theorem sol_le (p : Pg) : V.Le (.tup [.agg (encSol (solveW p)), .int .i64 0]) (.tup [.agg (encSol2 p), .int .i64 0]) :=
  .tup (.cons (.agg (.cons (.refl _) (.cons (.refl _) (.cons (.refl _) (.cons (encS_le _) .nil))))) (.cons (.refl _) .nil))
theorem s36 {p : Pg} (hv : validB p = true) : CallsA Try.prog 36 [.agg (encPg p)] (.tup [.agg (encSol2 p), .int .i64 0]) := by
  obtain ⟨a, b, c⟩ := valid_max hv
  exact (c14 p a b c hv).le (sol_le p)
/-- A proof that is no longer than any of these is. -/
structure okPf (l : List Sg) : Prop where
  len : l.length ≤ maxLen
  ws : ∀ s ∈ l, s.ws.length ≤ maxLen
theorem okPf.at {l : List Sg} (h : okPf l) : ∀ k, k < l.length → ∀ s, l.getD k sg0 = s → s.ws.length ≤ maxLen := fun k hk s hs => by
  subst hs; exact h.ws _ (getD_mem hk)
/-- A program that is no longer than any of these is. -/
structure okPr (p : Pg) : Prop where
  rows : p.rows.length ≤ 400
  gain : p.gain.length ≤ 1000
  coef : ∀ r ∈ p.rows, r.coef.length ≤ 1000
theorem okPr_valid {p : Pg} (hv : validB p = true) : okPr p := by
  obtain ⟨q0, q1, q2, q3, q4, q5⟩ := validB_all hv
  exact ⟨by omega, by omega, fun r hr => by have := (q5 r hr).1; omega⟩
section
variable {p : Pg} (hp : okPr p) {l : List Sg} (hl : okPf l)
include hp
theorem okPr.r : p.rows.length ≤ maxLen := by have := hp.rows; unfold maxLen; omega
theorem okPr.g : p.gain.length ≤ maxLen := by have := hp.gain; unfold maxLen; omega
theorem okPr.c : ∀ r ∈ p.rows, r.coef.length ≤ maxLen := fun r hr => by have := hp.coef r hr; unfold maxLen; omega
include hl
theorem s24 : CallsA Try.prog 24 [.agg (encPg p), .sl 4 (encSgs l)] (.bool (refutesW p l)) := k24 p hp.r hp.g hp.c l hl.len hl.at
theorem s32 (n : Int) : CallsA Try.prog 32 [.agg (encPg p), .sl 4 (encSgs l), .int .i64 n] (.bool (boundsW p l n)) := k32 p hp.r hp.g hp.c l hl.len hl.at hp.gain (by have := hp.rows; omega) n
end
theorem okPf_prf {p : Pg} (hv : validB p = true) : okPf (prfS p) := ⟨by have := prf_len hv; unfold maxLen; omega, fun s hs => by have := prf_ws p s hs; unfold maxLen; omega⟩
set_option maxRecDepth 100000
attribute [local go_sem] Nat.zero_add Nat.add_zero Nat.mul_one eq_self ne_eq not_true_eq_false not_false_eq_true decide_true decide_false decide_not Bool.false_eq_true List.filter_cons List.filter_nil true_and and_true beq_false beq_true Bool.not_true Bool.not_false Bool.and_true Bool.true_and Option.getD_some Option.getD_none imp_self implies_true Int.toNat_natCast List.cons_append List.nil_append List.map_cons List.map_nil List.length_cons List.length_nil List.getD_cons_zero List.getD_cons_succ List.drop_zero List.drop_succ_cons List.take_succ_cons List.take_zero
attribute [local go_sem] lowN lowQ lowM isAl appOwn unw shL isSh Option.isNone_none Option.isNone_some Option.isSome_none appF isE isO stpO notIn St.bare evO evDO isEff stp St.get St.slot St.put List.lookup un unL ofVal gof nth pickV pkB_false pkB_true binV unV loadV idxV fldV partV buildV fillV lenV sliV appV appR rowsV winV V.parts V.okp V.sc Mem.look_cons Mem.look_nil V.cl V.clL AObj.clo fzAll exps St.fz Mem.fz V.fz V.fzL AObj.fz shp AObj.shp csh AObj.csh rowM isSt isRpS isRd Option.isSome_some Bool.or_true Bool.true_or Bool.or_false Bool.false_or and_false false_and or_false false_or List.length_append forall_const imp_self arT_104 arT_121 arT_160 arT_161 arT_22 arT_23 arT_24 arT_25 arT_28 arT_29 arT_30 arT_40 arT_42 arT_52 arT_60 arT_65 arT_72 arT_73 arT_76 arT_9 arT_90 boolT_182 boolT_25 boolT_3 boolT_35 boolT_4 boolT_76 flatT_182 flatT_25 flatT_3 flatT_35 flatT_4 flatT_76 intT_133 intT_169 intT_171 intT_188 intT_3 intT_5 lay_104 lay_112 lay_138 lay_141 lay_153 lay_160 lay_161 lay_164 lay_188 lay_23 lay_24 lay_25 lay_27 lay_28 lay_3 lay_30 lay_34 lay_4 lay_49 lay_52 lay_54 lay_56 lay_65 lay_67 lay_73 lay_76 lay_90 lay_99 mapT_112 okF_10 okF_100 okF_101 okF_102 okF_103 okF_104 okF_105 okF_106 okF_107 okF_108 okF_109 okF_11 okF_110 okF_111 okF_112 okF_113 okF_114 okF_115 okF_116 okF_117 okF_118 okF_119 okF_12 okF_120 okF_121 okF_122 okF_123 okF_124 okF_125 okF_126 okF_127 okF_128 okF_129 okF_13 okF_130 okF_131 okF_132 okF_133 okF_134 okF_135 okF_136 okF_137 okF_138 okF_139 okF_14 okF_140 okF_141 okF_142 okF_143 okF_144 okF_145 okF_146 okF_147 okF_148 okF_149 okF_15 okF_150 okF_151 okF_152 okF_153 okF_154 okF_155 okF_156 okF_157 okF_158 okF_159 okF_16 okF_160 okF_161 okF_162 okF_163 okF_164 okF_165 okF_166 okF_167 okF_168 okF_169 okF_17 okF_170 okF_171 okF_172 okF_173 okF_174 okF_175 okF_176 okF_177 okF_18 okF_19 okF_20 okF_21 okF_22 okF_23 okF_24 okF_25 okF_26 okF_27 okF_28 okF_29 okF_3 okF_30 okF_31 okF_32 okF_33 okF_34 okF_35 okF_36 okF_37 okF_38 okF_39 okF_4 okF_40 okF_41 okF_42 okF_43 okF_44 okF_45 okF_46 okF_47 okF_48 okF_49 okF_5 okF_50 okF_51 okF_52 okF_53 okF_54 okF_55 okF_56 okF_57 okF_58 okF_59 okF_6 okF_60 okF_61 okF_62 okF_63 okF_64 okF_65 okF_66 okF_67 okF_68 okF_69 okF_7 okF_70 okF_71 okF_72 okF_73 okF_74 okF_75 okF_76 okF_77 okF_78 okF_79 okF_8 okF_80 okF_81 okF_82 okF_83 okF_84 okF_85 okF_86 okF_87 okF_88 okF_89 okF_9 okF_90 okF_91 okF_92 okF_93 okF_94 okF_95 okF_96 okF_97 okF_98 okF_99 plT_138 plT_153 plT_157 plT_161 plT_27 plT_34 plT_54 plT_56 plT_67 plT_76 plT_90 plT_99 slT_104 slT_121 slT_160 slT_161 slT_22 slT_23 slT_24 slT_25 slT_28 slT_29 slT_30 slT_40 slT_42 slT_52 slT_60 slT_65 slT_72 slT_73 slT_76 slT_90 stT_138_0 stT_138_1 stT_153_0 stT_157_0 stT_157_1 stT_157_2 stT_157_3 stT_27_0 stT_27_1 stT_27_2 stT_34_0 stT_34_1 stT_34_2 stT_34_3 stT_54_0 stT_54_1 stT_54_2 stT_54_3 stT_56_0 stT_56_1 stT_67_1 stT_67_4 stT_67_5 stT_99_0 stT_99_1 strT_160 strT_76 strT_9 zeroT_112 zeroT_138 zeroT_153 zeroT_157 zeroT_160 zeroT_161 zeroT_188 zeroT_27 zeroT_3 zeroT_30 zeroT_34 zeroT_4 zeroT_49 zeroT_54 zeroT_56 zeroT_65 zeroT_67 zeroT_76 zeroT_90 zeroT_99
attribute [local go_sem] cellsI_fzL cellsI_uptoL List.getElem?_cons_zero List.getElem?_cons_succ List.zip_cons_cons List.zip_nil_left List.zip_nil_right Bool.false_and Bool.and_false cellsG_length polyA_length discA_length agEq_cells cellsI_isI cellsI_length cellsI_sc cellsI_cl cellsI_rows cellsI_take cellsI_dropD cellsI_set cellsI_full encI_length encI_getD List.length_set List.length_replicate List.all_cons List.all_nil outA_length eachA_length outM_length getD_set_same List.set_set spl_nil0 spl_cons0 spl_succ encP_length encP_getD
attribute [local simp] encP_length padP_length encI_length
attribute [local go_sem] encR_length encR_getD encRw encPg lookV encI_length encI_getD
attribute [local simp] encA_length encR_length cellsI_length
section
attribute [local go_sem] encA_length encA_getD
theorem k52 (l : List (List Int)) (hl : okAs l) (t : List Int) (ht : t.length = 16) (hv : validR l t = true) : CallsA Try.prog 52 [.sl 16 (encA l), .agg (cellsI t)] (.tup [.agg (cellsI (minusA t (unionL l))), .int .i64 0]) := by
 have hlm := hl.1
 unfold maxLen at hlm
 have hul : (unionL l).length = 16 := unionT_len hl _ (Nat.le_refl _)
 have hml : (minusA t (unionL l)).length = 16 := minusA_len ht hul
 have hspl := cellsI_full (minusA t (unionL l)) (cellsI (List.replicate 16 0)) (by rw [cellsI_length, hml]; rfl)
 have htk : List.take 16 (cellsI (minusA t (unionL l))) = cellsI (minusA t (unionL l)) := List.take_of_length_le (by rw [cellsI_length, hml]; decide)
 have hq := And.intro hv (And.intro ht (And.intro hul (And.intro hml (And.intro hspl (htk)))))
 refine callsA_of_tr Try.func52 rfl (Nat.le_of_ble_eq_true rfl) ?_
 simp only [Try.results52, envOf, Nat.reduceAdd]
 refine tr_seq fun K1 hK1 => ?_
 refine tr_region [0, 3, 4] rfl rfl fun K hK => ?_
 iterate 3 refine evR_p ?_
 refine evR_e hK ?_; clear hK K
 refine hK1 _ ?_
 refine tr_seq fun K2 hK2 => ?_
 refine tr_seq fun K3 hK3 => ?_
 refine tr_region [0, 3, 4, 9] rfl rfl fun K hK => ?_
 iterate 2 refine evR_p ?_
 refine evR_c (hc := (k86 l hl t ht)) (k := ?_)
 refine evR_p ?_
 refine evR_e hK ?_; clear hK K
 refine hK3 _ ?_
 refine tr_condB (fun ht1 => ?_) (fun ht1 => ?_)
 ·
  skip
  (first | (exfalso; omega) | (exfalso; simp_all; done) | skip)
  all_goals
   refine tr_seq fun K4 hK4 => ?_
   refine tr_region [4, 5] rfl rfl fun K hK => ?_
   iterate 3 refine evR_p ?_
   refine evR_e hK ?_; clear hK K
   refine hK4 _ ?_
   refine tr_ret ?_
   (try simp only [thenE, inBlkE])
   simp (maxSteps := 4000000) (disch := first | assumption | omega | (simp only [go_sem, *]; done) | (simp only [go_sem, *]; omega)) only [postA, postO, resV1, fzAll, go_sem, hq, Int.reduceToNat, Nat.reduceBEq, Nat.reduceEqDiff, Nat.reduceAdd, Nat.reduceMul, Nat.reduceLeDiff, Nat.reduceLT, Nat.reduceSub, ↓reduceIte, reduceCtorEq]
   all_goals (first | exact ⟨cellsI_cl _, rfl⟩ | exact ⟨Nat.le_refl _, cellsI_cl _, rfl⟩ | exact ⟨by rw [cellsI_length, hml]; decide, cellsI_cl _, rfl⟩ | rfl)
 ·
  skip
  (first | (exfalso; omega) | (exfalso; simp_all; done) | skip)
  all_goals
   refine tr_skip ?_
   (try simp only [thenE, inBlkE])
   refine hK2 _ ?_
   refine tr_seq fun K5 hK5 => ?_
   refine tr_draw [] [4, 5] mixed rfl (by kernel_rfl) rfl fun K hK => ?_
   iterate 2 refine evD_p ?_
   refine evD_c (hc := (k102 l hl)) (k := ?_)
   refine evD_c (hc := (ca21u t (unionL l) ht hul)) (k := ?_)
   iterate 2 refine evD_p ?_
   refine evD_e hK ?_; clear hK K
   refine hK5 _ ?_
   refine tr_ret ?_
   (try simp only [thenE, inBlkE])
   simp (maxSteps := 4000000) (disch := first | assumption | omega | (simp only [go_sem, *]; done) | (simp only [go_sem, *]; omega)) only [postA, postO, resV1, fzAll, go_sem, hq, Int.reduceToNat, Nat.reduceBEq, Nat.reduceEqDiff, Nat.reduceAdd, Nat.reduceMul, Nat.reduceLeDiff, Nat.reduceLT, Nat.reduceSub, ↓reduceIte, reduceCtorEq]
   all_goals (first | exact ⟨cellsI_cl _, rfl⟩ | exact ⟨Nat.le_refl _, cellsI_cl _, rfl⟩ | exact ⟨by rw [cellsI_length, hml]; decide, cellsI_cl _, rfl⟩ | rfl)
end

section
attribute [local go_sem] encA_length encA_getD encSol2
theorem k43 (l : List (List Int)) (hl : okAs l) (t : List Int) (ht : t.length = 16) (hv : validR l t = true) (hvM : validB (progR l t) = true) : CallsA Try.prog 43 [.sl 16 (encA l), .agg (cellsI t)] (.tup [.agg (encSol2 (progR l t)), .int .i64 0]) := by
 have hlm := hl.1
 unfold maxLen at hlm
 have hq := And.intro hv (ht)
 refine callsA_of_tr Try.func43 rfl (Nat.le_of_ble_eq_true rfl) ?_
 simp only [Try.results43, envOf, Nat.reduceAdd]
 refine tr_seq fun K1 hK1 => ?_
 refine tr_region [0, 3, 4] rfl rfl fun K hK => ?_
 iterate 3 refine evR_p ?_
 refine evR_e hK ?_; clear hK K
 refine hK1 _ ?_
 refine tr_seq fun K2 hK2 => ?_
 refine tr_region [4, 6, 7] rfl rfl fun K hK => ?_
 iterate 2 refine evR_p ?_
 refine evR_c (hc := (k49 l hl t ht hv)) (k := ?_)
 iterate 6 refine evR_p ?_
 refine evR_e hK ?_; clear hK K
 refine hK2 _ ?_
 refine tr_seq fun K3 hK3 => ?_
 refine tr_seq fun K4 hK4 => ?_
 refine tr_region [4, 6, 7, 16] rfl rfl fun K hK => ?_
 iterate 2 refine evR_p ?_
 refine evR_e hK ?_; clear hK K
 refine hK4 _ ?_
 refine tr_condB (fun ht1 => ?_) (fun ht1 => ?_)
 ·
  skip
  (first | (exfalso; omega) | (exfalso; simp_all; done) | skip)
  all_goals
   refine tr_seq fun K5 hK5 => ?_
   refine tr_region [4, 5] rfl rfl fun K hK => ?_
   iterate 4 refine evR_p ?_
   refine evR_e hK ?_; clear hK K
   refine hK5 _ ?_
   refine tr_ret ?_
   (try simp only [thenE, inBlkE])
   simp (maxSteps := 4000000) (disch := first | assumption | omega | (simp only [go_sem, *]; done) | (simp only [go_sem, *]; omega)) only [postA, postO, resV1, fzAll, go_sem, hq, Int.reduceToNat, Nat.reduceBEq, Nat.reduceEqDiff, Nat.reduceAdd, Nat.reduceMul, Nat.reduceLeDiff, Nat.reduceLT, Nat.reduceSub, ↓reduceIte, reduceCtorEq]
   all_goals (rfl)
 ·
  skip
  (first | (exfalso; omega) | (exfalso; simp_all; done) | skip)
  all_goals
   refine tr_skip ?_
   (try simp only [thenE, inBlkE])
   refine hK3 _ ?_
   refine tr_seq fun K6 hK6 => ?_
   refine tr_region [4, 7, 8] rfl rfl fun K hK => ?_
   refine evR_p ?_
   refine evR_c (hc := (s36 hvM)) (k := ?_)
   iterate 6 refine evR_p ?_
   refine evR_e hK ?_; clear hK K
   refine hK6 _ ?_
   refine tr_seq fun K7 hK7 => ?_
   refine tr_seq fun K8 hK8 => ?_
   refine tr_region [4, 8, 25] rfl rfl fun K hK => ?_
   iterate 2 refine evR_p ?_
   refine evR_e hK ?_; clear hK K
   refine hK8 _ ?_
   refine tr_condB (fun ht2 => ?_) (fun ht2 => ?_)
   ·
    skip
    (first | (exfalso; omega) | (exfalso; simp_all; done) | skip)
    all_goals
     refine tr_seq fun K9 hK9 => ?_
     refine tr_region [4, 5] rfl rfl fun K hK => ?_
     iterate 3 refine evR_p ?_
     refine evR_e hK ?_; clear hK K
     refine hK9 _ ?_
     refine tr_ret ?_
     (try simp only [thenE, inBlkE])
     simp (maxSteps := 4000000) (disch := first | assumption | omega | (simp only [go_sem, *]; done) | (simp only [go_sem, *]; omega)) only [postA, postO, resV1, fzAll, go_sem, hq, Int.reduceToNat, Nat.reduceBEq, Nat.reduceEqDiff, Nat.reduceAdd, Nat.reduceMul, Nat.reduceLeDiff, Nat.reduceLT, Nat.reduceSub, ↓reduceIte, reduceCtorEq]
     all_goals (rfl)
   ·
    skip
    (first | (exfalso; omega) | (exfalso; simp_all; done) | skip)
    all_goals
     refine tr_skip ?_
     (try simp only [thenE, inBlkE])
     refine hK7 _ ?_
     refine tr_seq fun K10 hK10 => ?_
     refine tr_region [4, 5] rfl rfl fun K hK => ?_
     iterate 3 refine evR_p ?_
     refine evR_e hK ?_; clear hK K
     refine hK10 _ ?_
     refine tr_ret ?_
     (try simp only [thenE, inBlkE])
     simp (maxSteps := 4000000) (disch := first | assumption | omega | (simp only [go_sem, *]; done) | (simp only [go_sem, *]; omega)) only [postA, postO, resV1, fzAll, go_sem, hq, Int.reduceToNat, Nat.reduceBEq, Nat.reduceEqDiff, Nat.reduceAdd, Nat.reduceMul, Nat.reduceLeDiff, Nat.reduceLT, Nat.reduceSub, ↓reduceIte, reduceCtorEq]
     all_goals (rfl)
end

theorem k91 (set : Int) : CallsA Try.prog 91 [.int .i64 set] (.int .i64 (manyR set 12)) := by
 have hq : True := trivial
 refine callsA_of_tr Try.func91 rfl (Nat.le_of_ble_eq_true rfl) ?_
 simp only [Try.results91, envOf, Nat.reduceAdd]
 refine tr_seq fun K1 hK1 => ?_
 refine tr_region [0] rfl rfl fun K hK => ?_
 refine evR_p ?_
 refine evR_e hK ?_; clear hK K
 refine hK1 _ ?_
 refine tr_seq fun K2 hK2 => ?_
 refine tr_region [0, 3] rfl rfl fun K hK => ?_
 refine evR_p ?_
 refine evR_e hK ?_; clear hK K
 refine hK2 _ ?_
 refine tr_seq fun K3 hK3 => ?_
 refine tr_seq fun K4 hK4 => ?_
 refine tr_region [0, 3, 4] rfl rfl fun K hK => ?_
 refine evR_p ?_
 refine evR_e hK ?_; clear hK K
 refine hK4 _ ?_
 refine tr_block ?_
 -- loop 1: live [0, 3, 4]
 refine tr_loopW (fun m σ => ∃ i : Nat, i + m = 12 ∧ σ = ⟨[(0, .int .i64 set), (3, .int .i64 (manyR set i)), (4, .int .i64 (i : Nat))], [], 0⟩) (12) ?_ ?_
 ·
  exact ⟨_, Wk.refl _, 0, by omega, rfl⟩
 ·
  rintro m σ ⟨i, hi, rfl⟩ KL1 hKL1
  refine tr_seq fun K5 hK5 => ?_
  refine tr_seq fun K6 hK6 => ?_
  refine tr_region [0, 3, 4, 6] rfl rfl fun K hK => ?_
  iterate 2 refine evR_p ?_
  refine evR_e hK ?_; clear hK K
  refine hK6 _ ?_
  refine tr_condB (fun ht1 => ?_) (fun ht1 => ?_)
  ·
   skip
   have hil : i < 12 := by omega
   refine tr_skip ?_
   (try simp only [thenE, inBlkE])
   refine hK5 _ ?_
   refine tr_seq fun K7 hK7 => ?_
   refine tr_block ?_
   refine tr_region [0, 3, 4] rfl rfl fun K hK => ?_
   iterate 7 refine evR_p ?_
   refine evR_e hK ?_; clear hK K
   refine hK7 _ ?_
   refine tr_region [0, 3, 4] rfl rfl fun K hK => ?_
   iterate 3 refine evR_p ?_
   refine evR_e hK ?_; clear hK K
   refine hKL1 _ ?_
   exact ⟨m - 1, _, by omega, Wk.refl _, i + 1, by omega, by rw [w64 (x := (i : Int) + 1) (by omega), manyR_w set (by omega)]; rfl⟩
  ·
   skip
   have hil : i = 12 := by omega
   subst hil
   refine tr_exit ?_
   simp only [thenE, inBlkE, Nat.reduceEqDiff, ↓reduceIte]
   refine hK3 _ ?_
   refine tr_seq fun K8 hK8 => ?_
   refine tr_region [2] rfl rfl fun K hK => ?_
   iterate 2 refine evR_p ?_
   refine evR_e hK ?_; clear hK K
   refine hK8 _ ?_
   refine tr_ret ?_
   (try simp only [thenE, inBlkE])
   simp (maxSteps := 4000000) (disch := first | assumption | omega | (simp only [go_sem, *]; done) | (simp only [go_sem, *]; omega)) only [postA, postO, resV1, fzAll, go_sem, hq, Int.reduceToNat, Nat.reduceBEq, Nat.reduceEqDiff, Nat.reduceAdd, Nat.reduceMul, Nat.reduceLeDiff, Nat.reduceLT, Nat.reduceSub, ↓reduceIte, reduceCtorEq]
   all_goals (rfl)

theorem k46 (set : Int) : CallsA Try.prog 46 [.int .i64 set] (.int .i64 (manyR set 12)) := by
 have hq : True := trivial
 refine callsA_of_tr Try.func46 rfl (Nat.le_of_ble_eq_true rfl) ?_
 simp only [Try.results46, envOf, Nat.reduceAdd]
 refine tr_seq fun K1 hK1 => ?_
 refine tr_region [0] rfl rfl fun K hK => ?_
 refine evR_p ?_
 refine evR_e hK ?_; clear hK K
 refine hK1 _ ?_
 refine tr_seq fun K2 hK2 => ?_
 refine tr_region [2] rfl rfl fun K hK => ?_
 refine evR_p ?_
 refine evR_c (hc := (k91 set)) (k := ?_)
 refine evR_p ?_
 refine evR_e hK ?_; clear hK K
 refine hK2 _ ?_
 refine tr_ret ?_
 (try simp only [thenE, inBlkE])
 simp (maxSteps := 4000000) (disch := first | assumption | omega | (simp only [go_sem, *]; done) | (simp only [go_sem, *]; omega)) only [postA, postO, resV1, fzAll, go_sem, hq, Int.reduceToNat, Nat.reduceBEq, Nat.reduceEqDiff, Nat.reduceAdd, Nat.reduceMul, Nat.reduceLeDiff, Nat.reduceLT, Nat.reduceSub, ↓reduceIte, reduceCtorEq]
 all_goals (rfl)

section
attribute [local go_sem] encA_length encA_getD
theorem k47a (l : List (List Int)) (hl : okAs l) (t : List Int) (ht : t.length = 16) (hv : validR l t = true) (fd : Bool) (set gain : Int) (pf : List Sg) (kR : CallsA Try.prog 24 [.agg (encPg (progR l t)), .sl 4 (encSgs pf)] (.bool (refutesW (progR l t) pf))) (kB : ∀ n : Int, CallsA Try.prog 32 [.agg (encPg (progR l t)), .sl 4 (encSgs pf), .int .i64 n] (.bool (boundsW (progR l t) pf n))) (hfd : fd = false) : CallsA Try.prog 47 [.sl 16 (encA l), .agg (cellsI t), .agg [.bool fd, .int .i64 set, .int .i64 gain, .sl 4 (encSgs pf)]] (.bool (decide (set = 0) && decide (gain = 0) && refutesW (progR l t) pf)) := by
 have hlm := hl.1
 unfold maxLen at hlm
 subst hfd
 have hq := And.intro hv (ht)
 refine callsA_of_tr Try.func47 rfl (Nat.le_of_ble_eq_true rfl) ?_
 simp only [Try.results47, envOf, Nat.reduceAdd]
 refine tr_seq fun K1 hK1 => ?_
 refine tr_region [0, 4, 5] rfl rfl fun K hK => ?_
 iterate 3 refine evR_p ?_
 refine evR_e hK ?_; clear hK K
 refine hK1 _ ?_
 refine tr_seq fun K2 hK2 => ?_
 refine tr_region [0, 4, 5, 7, 8] rfl rfl fun K hK => ?_
 iterate 2 refine evR_p ?_
 refine evR_c (hc := (k49 l hl t ht hv)) (k := ?_)
 iterate 6 refine evR_p ?_
 refine evR_e hK ?_; clear hK K
 refine hK2 _ ?_
 refine tr_seq fun K3 hK3 => ?_
 refine tr_seq fun K4 hK4 => ?_
 refine tr_region [0, 4, 5, 7, 18] rfl rfl fun K hK => ?_
 iterate 2 refine evR_p ?_
 refine evR_e hK ?_; clear hK K
 refine hK4 _ ?_
 refine tr_condB (fun ht1 => ?_) (fun ht1 => ?_)
 ·
  skip
  (first | (exfalso; omega) | (exfalso; simp_all; done) | skip)
  all_goals
   refine tr_seq fun K5 hK5 => ?_
   refine tr_region [6] rfl rfl fun K hK => ?_
   refine evR_p ?_
   refine evR_e hK ?_; clear hK K
   refine hK5 _ ?_
   refine tr_ret ?_
   (try simp only [thenE, inBlkE])
   simp (maxSteps := 4000000) (disch := first | assumption | omega | (simp only [go_sem, *]; done) | (simp only [go_sem, *]; omega)) only [postA, postO, resV1, fzAll, go_sem, hq, Int.reduceToNat, Nat.reduceBEq, Nat.reduceEqDiff, Nat.reduceAdd, Nat.reduceMul, Nat.reduceLeDiff, Nat.reduceLT, Nat.reduceSub, ↓reduceIte, reduceCtorEq]
   all_goals ((cases hq1 : decide (set = 0) <;> cases hq2 : decide (gain = 0) <;> simp_all))
 ·
  skip
  (first | (exfalso; omega) | (exfalso; simp_all; done) | skip)
  all_goals
   refine tr_skip ?_
   (try simp only [thenE, inBlkE])
   refine hK3 _ ?_
   refine tr_seq fun K6 hK6 => ?_
   refine tr_seq fun K7 hK7 => ?_
   refine tr_region [0, 4, 5, 7, 21] rfl rfl fun K hK => ?_
   iterate 3 refine evR_p ?_
   refine evR_e hK ?_; clear hK K
   refine hK7 _ ?_
   refine tr_condB (fun ht2 => ?_) (fun ht2 => ?_)
   ·
    skip
    (first | (exfalso; omega) | (exfalso; simp_all; done) | skip)
    all_goals
     refine tr_seq fun K8 hK8 => ?_
     refine tr_region [6] rfl rfl fun K hK => ?_
     iterate 4 refine evR_p ?_
     iterate 3 refine evR_g ?_
     iterate 2 refine evR_p ?_
     iterate 3 refine evR_g ?_
     refine evR_gc (hc := kR) (k := ?_)
     iterate 2 refine evR_p ?_
     refine evR_e hK ?_; clear hK K
     refine hK8 _ ?_
     refine tr_ret ?_
     (try simp only [thenE, inBlkE])
     simp (maxSteps := 4000000) (disch := first | assumption | omega | (simp only [go_sem, *]; done) | (simp only [go_sem, *]; omega)) only [postA, postO, resV1, fzAll, go_sem, hq, Int.reduceToNat, Nat.reduceBEq, Nat.reduceEqDiff, Nat.reduceAdd, Nat.reduceMul, Nat.reduceLeDiff, Nat.reduceLT, Nat.reduceSub, ↓reduceIte, reduceCtorEq]
     all_goals ((cases hq1 : decide (set = 0) <;> cases hq2 : decide (gain = 0) <;> simp_all))
   ·
    skip
    (first | (exfalso; omega) | (exfalso; simp_all; done) | skip)
    all_goals
     refine tr_skip ?_
     (try simp only [thenE, inBlkE])
     refine hK6 _ ?_
     refine tr_seq fun K9 hK9 => ?_
     refine tr_region [4, 5, 7, 8, 9] rfl rfl fun K hK => ?_
     iterate 3 refine evR_p ?_
     refine evR_c (hc := (k53 l hl hl12 set hv0 h0 h1)) (k := ?_)
     iterate 6 refine evR_p ?_
     refine evR_e hK ?_; clear hK K
     refine hK9 _ ?_
     refine tr_seq fun K10 hK10 => ?_
     refine tr_region [5, 7, 10] rfl rfl fun K hK => ?_
     iterate 3 refine evR_p ?_
     iterate 2 refine evR_g ?_
     refine evR_gc (hc := (ca21u t (reachedL l set) ht hrl)) (k := ?_)
     iterate 2 refine evR_g ?_
     iterate 2 refine evR_p ?_
     refine evR_e hK ?_; clear hK K
     refine hK10 _ ?_
     refine tr_seq fun K11 hK11 => ?_
     refine tr_draw [] [6] mixed rfl (by kernel_rfl) rfl fun K hK => ?_
     iterate 2 refine evD_p ?_
     iterate 5 refine evD_g ?_
     refine evD_gc (hc := (ca43 _)) (k := ?_)
     iterate 2 refine evD_g ?_
     iterate 2 refine evD_p ?_
     iterate 5 refine evD_g ?_
     refine evD_gc (hc := (kB _)) (k := ?_)
     iterate 2 refine evD_p ?_
     refine evD_e hK ?_; clear hK K
     refine hK11 _ ?_
     refine tr_ret ?_
     (try simp only [thenE, inBlkE])
     simp (maxSteps := 4000000) (disch := first | assumption | omega | (simp only [go_sem, *]; done) | (simp only [go_sem, *]; omega)) only [postA, postO, resV1, fzAll, go_sem, hq, Int.reduceToNat, Nat.reduceBEq, Nat.reduceEqDiff, Nat.reduceAdd, Nat.reduceMul, Nat.reduceLeDiff, Nat.reduceLT, Nat.reduceSub, ↓reduceIte, reduceCtorEq]
     all_goals ((cases hq1 : decide (set = 0) <;> cases hq2 : decide (gain = 0) <;> simp_all))
end

end Go.Proofs.Ytfamkbofdamkkaa
namespace Go.Proofs.Ytfamkbofdamkkaa
open Go.RowKit
set_option linter.unusedVariables false
set_option linter.unusedSimpArgs false
set_option maxRecDepth 100000
attribute [local go_sem] Nat.zero_add Nat.add_zero Nat.mul_one eq_self ne_eq not_true_eq_false not_false_eq_true decide_true decide_false decide_not Bool.false_eq_true List.filter_cons List.filter_nil true_and and_true beq_false beq_true Bool.not_true Bool.not_false Bool.and_true Bool.true_and Option.getD_some Option.getD_none imp_self implies_true Int.toNat_natCast List.cons_append List.nil_append List.map_cons List.map_nil List.length_cons List.length_nil List.getD_cons_zero List.getD_cons_succ List.drop_zero List.drop_succ_cons List.take_succ_cons List.take_zero
attribute [local go_sem] lowN lowQ lowM isAl appOwn unw shL isSh Option.isNone_none Option.isNone_some Option.isSome_none appF isE isO stpO notIn St.bare evO evDO isEff stp St.get St.slot St.put List.lookup un unL ofVal gof nth pickV pkB_false pkB_true binV unV loadV idxV fldV partV buildV fillV lenV sliV appV appR rowsV winV V.parts V.okp V.sc Mem.look_cons Mem.look_nil V.cl V.clL AObj.clo fzAll exps St.fz Mem.fz V.fz V.fzL AObj.fz shp AObj.shp csh AObj.csh rowM isSt isRpS isRd Option.isSome_some Bool.or_true Bool.true_or Bool.or_false Bool.false_or and_false false_and or_false false_or List.length_append forall_const imp_self arT_104 arT_121 arT_160 arT_161 arT_22 arT_23 arT_24 arT_25 arT_28 arT_29 arT_30 arT_40 arT_42 arT_52 arT_60 arT_65 arT_72 arT_73 arT_76 arT_9 arT_90 boolT_182 boolT_25 boolT_3 boolT_35 boolT_4 boolT_76 flatT_182 flatT_25 flatT_3 flatT_35 flatT_4 flatT_76 intT_133 intT_169 intT_171 intT_188 intT_3 intT_5 lay_104 lay_112 lay_138 lay_141 lay_153 lay_160 lay_161 lay_164 lay_188 lay_23 lay_24 lay_25 lay_27 lay_28 lay_3 lay_30 lay_34 lay_4 lay_49 lay_52 lay_54 lay_56 lay_65 lay_67 lay_73 lay_76 lay_90 lay_99 mapT_112 okF_10 okF_100 okF_101 okF_102 okF_103 okF_104 okF_105 okF_106 okF_107 okF_108 okF_109 okF_11 okF_110 okF_111 okF_112 okF_113 okF_114 okF_115 okF_116 okF_117 okF_118 okF_119 okF_12 okF_120 okF_121 okF_122 okF_123 okF_124 okF_125 okF_126 okF_127 okF_128 okF_129 okF_13 okF_130 okF_131 okF_132 okF_133 okF_134 okF_135 okF_136 okF_137 okF_138 okF_139 okF_14 okF_140 okF_141 okF_142 okF_143 okF_144 okF_145 okF_146 okF_147 okF_148 okF_149 okF_15 okF_150 okF_151 okF_152 okF_153 okF_154 okF_155 okF_156 okF_157 okF_158 okF_159 okF_16 okF_160 okF_161 okF_162 okF_163 okF_164 okF_165 okF_166 okF_167 okF_168 okF_169 okF_17 okF_170 okF_171 okF_172 okF_173 okF_174 okF_175 okF_176 okF_177 okF_18 okF_19 okF_20 okF_21 okF_22 okF_23 okF_24 okF_25 okF_26 okF_27 okF_28 okF_29 okF_3 okF_30 okF_31 okF_32 okF_33 okF_34 okF_35 okF_36 okF_37 okF_38 okF_39 okF_4 okF_40 okF_41 okF_42 okF_43 okF_44 okF_45 okF_46 okF_47 okF_48 okF_49 okF_5 okF_50 okF_51 okF_52 okF_53 okF_54 okF_55 okF_56 okF_57 okF_58 okF_59 okF_6 okF_60 okF_61 okF_62 okF_63 okF_64 okF_65 okF_66 okF_67 okF_68 okF_69 okF_7 okF_70 okF_71 okF_72 okF_73 okF_74 okF_75 okF_76 okF_77 okF_78 okF_79 okF_8 okF_80 okF_81 okF_82 okF_83 okF_84 okF_85 okF_86 okF_87 okF_88 okF_89 okF_9 okF_90 okF_91 okF_92 okF_93 okF_94 okF_95 okF_96 okF_97 okF_98 okF_99 plT_138 plT_153 plT_157 plT_161 plT_27 plT_34 plT_54 plT_56 plT_67 plT_76 plT_90 plT_99 slT_104 slT_121 slT_160 slT_161 slT_22 slT_23 slT_24 slT_25 slT_28 slT_29 slT_30 slT_40 slT_42 slT_52 slT_60 slT_65 slT_72 slT_73 slT_76 slT_90 stT_138_0 stT_138_1 stT_153_0 stT_157_0 stT_157_1 stT_157_2 stT_157_3 stT_27_0 stT_27_1 stT_27_2 stT_34_0 stT_34_1 stT_34_2 stT_34_3 stT_54_0 stT_54_1 stT_54_2 stT_54_3 stT_56_0 stT_56_1 stT_67_1 stT_67_4 stT_67_5 stT_99_0 stT_99_1 strT_160 strT_76 strT_9 zeroT_112 zeroT_138 zeroT_153 zeroT_157 zeroT_160 zeroT_161 zeroT_188 zeroT_27 zeroT_3 zeroT_30 zeroT_34 zeroT_4 zeroT_49 zeroT_54 zeroT_56 zeroT_65 zeroT_67 zeroT_76 zeroT_90 zeroT_99
attribute [local go_sem] cellsI_fzL cellsI_uptoL List.getElem?_cons_zero List.getElem?_cons_succ List.zip_cons_cons List.zip_nil_left List.zip_nil_right Bool.false_and Bool.and_false cellsG_length polyA_length discA_length agEq_cells cellsI_isI cellsI_length cellsI_sc cellsI_cl cellsI_rows cellsI_take cellsI_dropD cellsI_set cellsI_full encI_length encI_getD List.length_set List.length_replicate List.all_cons List.all_nil outA_length eachA_length outM_length getD_set_same List.set_set spl_nil0 spl_cons0 spl_succ encP_length encP_getD
attribute [local simp] encP_length padP_length encI_length
theorem ca60 (x : Int) : CallsA Try.prog 138 [.int .u64 x] (.int .i64 (onesW x)) := by
 have hq : True := trivial
 refine callsA_of_tr Try.func138 rfl (Nat.le_of_ble_eq_true rfl) ?_
 simp only [Try.results138, envOf, Nat.reduceAdd]
 refine tr_seq fun K1 hK1 => ?_
 refine tr_region [0] rfl rfl fun K hK => ?_
 refine evR_p ?_
 refine evR_e hK ?_; clear hK K
 refine hK1 _ ?_
 refine tr_seq fun K2 hK2 => ?_
 refine tr_region [0] rfl rfl fun K hK => ?_
 iterate 7 refine evR_p ?_
 refine evR_e hK ?_; clear hK K
 refine hK2 _ ?_
 refine tr_seq fun K3 hK3 => ?_
 refine tr_region [0] rfl rfl fun K hK => ?_
 iterate 7 refine evR_p ?_
 refine evR_e hK ?_; clear hK K
 refine hK3 _ ?_
 refine tr_seq fun K4 hK4 => ?_
 refine tr_region [0] rfl rfl fun K hK => ?_
 iterate 6 refine evR_p ?_
 refine evR_e hK ?_; clear hK K
 refine hK4 _ ?_
 refine tr_seq fun K5 hK5 => ?_
 refine tr_region [0] rfl rfl fun K hK => ?_
 iterate 5 refine evR_p ?_
 refine evR_e hK ?_; clear hK K
 refine hK5 _ ?_
 refine tr_seq fun K6 hK6 => ?_
 refine tr_region [0] rfl rfl fun K hK => ?_
 iterate 5 refine evR_p ?_
 refine evR_e hK ?_; clear hK K
 refine hK6 _ ?_
 refine tr_seq fun K7 hK7 => ?_
 refine tr_region [0] rfl rfl fun K hK => ?_
 iterate 5 refine evR_p ?_
 refine evR_e hK ?_; clear hK K
 refine hK7 _ ?_
 refine tr_seq fun K8 hK8 => ?_
 refine tr_region [2] rfl rfl fun K hK => ?_
 iterate 4 refine evR_p ?_
 refine evR_e hK ?_; clear hK K
 refine hK8 _ ?_
 refine tr_ret ?_
 (try simp only [thenE, inBlkE])
 simp (maxSteps := 4000000) (disch := first | assumption | omega | (simp only [go_sem, *]; done) | (simp only [go_sem, *]; omega)) only [postA, postO, resV1, fzAll, go_sem, hq, Int.reduceToNat, Nat.reduceBEq, Nat.reduceEqDiff, Nat.reduceAdd, Nat.reduceMul, Nat.reduceLeDiff, Nat.reduceLT, Nat.reduceSub, ↓reduceIte, reduceCtorEq]
 all_goals (rfl)

theorem ca43 (x : Int) : CallsA Try.prog 93 [.int .u64 x] (.int .i64 (onesW x)) := by
 have hq : True := trivial
 refine callsA_of_tr Try.func93 rfl (Nat.le_of_ble_eq_true rfl) ?_
 simp only [Try.results93, envOf, Nat.reduceAdd]
 refine tr_seq fun K1 hK1 => ?_
 refine tr_region [0] rfl rfl fun K hK => ?_
 refine evR_p ?_
 refine evR_e hK ?_; clear hK K
 refine hK1 _ ?_
 refine tr_seq fun K2 hK2 => ?_
 refine tr_cond rfl (fun h => by cases h) (fun _ => ?_)
 refine tr_skip ?_
 (try simp only [thenE, inBlkE])
 refine hK2 _ ?_
 refine tr_seq fun K3 hK3 => ?_
 refine tr_region [2] rfl rfl fun K hK => ?_
 refine evR_p ?_
 refine evR_c (hc := (ca60 _)) (k := ?_)
 refine evR_p ?_
 refine evR_e hK ?_; clear hK K
 refine hK3 _ ?_
 refine tr_ret ?_
 (try simp only [thenE, inBlkE])
 simp (maxSteps := 4000000) (disch := first | assumption | omega | (simp only [go_sem, *]; done) | (simp only [go_sem, *]; omega)) only [postA, postO, resV1, fzAll, go_sem, hq, Int.reduceToNat, Nat.reduceBEq, Nat.reduceEqDiff, Nat.reduceAdd, Nat.reduceMul, Nat.reduceLeDiff, Nat.reduceLT, Nat.reduceSub, ↓reduceIte, reduceCtorEq]
 all_goals (simp)

attribute [local go_sem] encR_length encR_getD encRw encPg lookV encI_length encI_getD
attribute [local simp] encA_length encR_length cellsI_length
section
attribute [local go_sem] encA_length encA_getD
theorem k47b (l : List (List Int)) (hl : okAs l) (t : List Int) (ht : t.length = 16) (hl12 : l.length ≤ 12) (hv : validR l t = true) (hv0 : validR l zeros16 = true) (fd : Bool) (set gain : Int) (pf : List Sg) (kR : CallsA Try.prog 24 [.agg (encPg (progR l t)), .sl 4 (encSgs pf)] (.bool (refutesW (progR l t) pf))) (kB : ∀ n : Int, CallsA Try.prog 32 [.agg (encPg (progR l t)), .sl 4 (encSgs pf), .int .i64 n] (.bool (boundsW (progR l t) pf n))) (hfd : fd = true) (h0 : 0 ≤ set) (h1 : set < ((2 ^ l.length : Nat) : Int)) : CallsA Try.prog 47 [.sl 16 (encA l), .agg (cellsI t), .agg [.bool fd, .int .i64 set, .int .i64 gain, .sl 4 (encSgs pf)]] (.bool (decide (minusA t (reachedL l set) = zeros16) && (decide (gain = -onesW (IntKind.u64.wrap set)) && boundsW (progR l t) pf gain))) := by
 have hlm := hl.1
 unfold maxLen at hlm
 subst hfd
 have hrl : (reachedL l set).length = 16 := unionT_len (chosenT_ok hl set l.length (Nat.le_refl _)) _ (Nat.le_refl _)
 have hml : (minusA t (reachedL l set)).length = 16 := minusA_len ht hrl
 have hrf := cellsI_full (reachedL l set) (cellsI (List.replicate 16 0)) (by rw [cellsI_length, hrl]; rfl)
 have hrk : List.take 16 (cellsI (reachedL l set)) = cellsI (reachedL l set) := List.take_of_length_le (by rw [cellsI_length, hrl]; decide)
 have hq := And.intro hv (And.intro ht (And.intro hrl (And.intro hml (And.intro hrf (hrk)))))
 refine callsA_of_tr Try.func47 rfl (Nat.le_of_ble_eq_true rfl) ?_
 simp only [Try.results47, envOf, Nat.reduceAdd]
 refine tr_seq fun K1 hK1 => ?_
 refine tr_region [0, 4, 5] rfl rfl fun K hK => ?_
 iterate 3 refine evR_p ?_
 refine evR_e hK ?_; clear hK K
 refine hK1 _ ?_
 refine tr_seq fun K2 hK2 => ?_
 refine tr_region [0, 4, 5, 7, 8] rfl rfl fun K hK => ?_
 iterate 2 refine evR_p ?_
 refine evR_c (hc := (k49 l hl t ht hv)) (k := ?_)
 iterate 6 refine evR_p ?_
 refine evR_e hK ?_; clear hK K
 refine hK2 _ ?_
 refine tr_seq fun K3 hK3 => ?_
 refine tr_seq fun K4 hK4 => ?_
 refine tr_region [0, 4, 5, 7, 18] rfl rfl fun K hK => ?_
 iterate 2 refine evR_p ?_
 refine evR_e hK ?_; clear hK K
 refine hK4 _ ?_
 refine tr_condB (fun ht1 => ?_) (fun ht1 => ?_)
 ·
  skip
  (first | (exfalso; omega) | (exfalso; simp_all; done) | skip)
  all_goals
   refine tr_seq fun K5 hK5 => ?_
   refine tr_region [6] rfl rfl fun K hK => ?_
   refine evR_p ?_
   refine evR_e hK ?_; clear hK K
   refine hK5 _ ?_
   refine tr_ret ?_
   (try simp only [thenE, inBlkE])
   simp (maxSteps := 4000000) (disch := first | assumption | omega | (simp only [go_sem, *]; done) | (simp only [go_sem, *]; omega)) only [postA, postO, resV1, fzAll, go_sem, hq, Int.reduceToNat, Nat.reduceBEq, Nat.reduceEqDiff, Nat.reduceAdd, Nat.reduceMul, Nat.reduceLeDiff, Nat.reduceLT, Nat.reduceSub, ↓reduceIte, reduceCtorEq]
   all_goals (rw [w64 (x := 0 - onesW (IntKind.u64.wrap set)) (by have := onesW_range (IntKind.u64.wrap set); omega), Int.zero_sub, Bool.and_assoc]; rfl)
 ·
  skip
  (first | (exfalso; omega) | (exfalso; simp_all; done) | skip)
  all_goals
   refine tr_skip ?_
   (try simp only [thenE, inBlkE])
   refine hK3 _ ?_
   refine tr_seq fun K6 hK6 => ?_
   refine tr_seq fun K7 hK7 => ?_
   refine tr_region [0, 4, 5, 7, 21] rfl rfl fun K hK => ?_
   iterate 3 refine evR_p ?_
   refine evR_e hK ?_; clear hK K
   refine hK7 _ ?_
   refine tr_condB (fun ht2 => ?_) (fun ht2 => ?_)
   ·
    skip
    (first | (exfalso; omega) | (exfalso; simp_all; done) | skip)
    all_goals
     refine tr_seq fun K8 hK8 => ?_
     refine tr_region [6] rfl rfl fun K hK => ?_
     iterate 4 refine evR_p ?_
     iterate 3 refine evR_g ?_
     iterate 2 refine evR_p ?_
     iterate 3 refine evR_g ?_
     refine evR_gc (hc := kR) (k := ?_)
     iterate 2 refine evR_p ?_
     refine evR_e hK ?_; clear hK K
     refine hK8 _ ?_
     refine tr_ret ?_
     (try simp only [thenE, inBlkE])
     simp (maxSteps := 4000000) (disch := first | assumption | omega | (simp only [go_sem, *]; done) | (simp only [go_sem, *]; omega)) only [postA, postO, resV1, fzAll, go_sem, hq, Int.reduceToNat, Nat.reduceBEq, Nat.reduceEqDiff, Nat.reduceAdd, Nat.reduceMul, Nat.reduceLeDiff, Nat.reduceLT, Nat.reduceSub, ↓reduceIte, reduceCtorEq]
     all_goals (rw [w64 (x := 0 - onesW (IntKind.u64.wrap set)) (by have := onesW_range (IntKind.u64.wrap set); omega), Int.zero_sub, Bool.and_assoc]; rfl)
   ·
    skip
    (first | (exfalso; omega) | (exfalso; simp_all; done) | skip)
    all_goals
     refine tr_skip ?_
     (try simp only [thenE, inBlkE])
     refine hK6 _ ?_
     refine tr_seq fun K9 hK9 => ?_
     refine tr_region [4, 5, 7, 8, 9] rfl rfl fun K hK => ?_
     iterate 3 refine evR_p ?_
     refine evR_c (hc := (k53 l hl hl12 set hv0 h0 h1)) (k := ?_)
     iterate 6 refine evR_p ?_
     refine evR_e hK ?_; clear hK K
     refine hK9 _ ?_
     refine tr_seq fun K10 hK10 => ?_
     refine tr_region [5, 7, 10] rfl rfl fun K hK => ?_
     iterate 3 refine evR_p ?_
     iterate 2 refine evR_g ?_
     refine evR_gc (hc := (ca21u t (reachedL l set) ht hrl)) (k := ?_)
     iterate 2 refine evR_g ?_
     iterate 2 refine evR_p ?_
     refine evR_e hK ?_; clear hK K
     refine hK10 _ ?_
     refine tr_seq fun K11 hK11 => ?_
     refine tr_draw [] [6] mixed rfl (by kernel_rfl) rfl fun K hK => ?_
     iterate 2 refine evD_p ?_
     iterate 5 refine evD_g ?_
     refine evD_gc (hc := (ca43 _)) (k := ?_)
     iterate 2 refine evD_g ?_
     iterate 2 refine evD_p ?_
     iterate 5 refine evD_g ?_
     refine evD_gc (hc := (kB _)) (k := ?_)
     iterate 2 refine evD_p ?_
     refine evD_e hK ?_; clear hK K
     refine hK11 _ ?_
     refine tr_ret ?_
     (try simp only [thenE, inBlkE])
     simp (maxSteps := 4000000) (disch := first | assumption | omega | (simp only [go_sem, *]; done) | (simp only [go_sem, *]; omega)) only [postA, postO, resV1, fzAll, go_sem, hq, Int.reduceToNat, Nat.reduceBEq, Nat.reduceEqDiff, Nat.reduceAdd, Nat.reduceMul, Nat.reduceLeDiff, Nat.reduceLT, Nat.reduceSub, ↓reduceIte, reduceCtorEq]
     all_goals (rw [w64 (x := 0 - onesW (IntKind.u64.wrap set)) (by have := onesW_range (IntKind.u64.wrap set); omega), Int.zero_sub, Bool.and_assoc]; rfl)
end

section
attribute [local go_sem] encA_length encA_getD
theorem k47c (l : List (List Int)) (hl : okAs l) (t : List Int) (ht : t.length = 16) (hl12 : l.length ≤ 12) (hv : validR l t = true) (fd : Bool) (set gain : Int) (pf : List Sg) (kR : CallsA Try.prog 24 [.agg (encPg (progR l t)), .sl 4 (encSgs pf)] (.bool (refutesW (progR l t) pf))) (kB : ∀ n : Int, CallsA Try.prog 32 [.agg (encPg (progR l t)), .sl 4 (encSgs pf), .int .i64 n] (.bool (boundsW (progR l t) pf n))) (hfd : fd = true) (h1 : validR l zeros16 = false ∨ set < 0 ∨ ((2 ^ l.length : Nat) : Int) ≤ set) : CallsA Try.prog 47 [.sl 16 (encA l), .agg (cellsI t), .agg [.bool fd, .int .i64 set, .int .i64 gain, .sl 4 (encSgs pf)]] (.bool false) := by
 have hlm := hl.1
 unfold maxLen at hlm
 subst hfd
 have hrl : (zeros16 : List Int).length = 16 := rfl
 have hq := And.intro hv (ht)
 refine callsA_of_tr Try.func47 rfl (Nat.le_of_ble_eq_true rfl) ?_
 simp only [Try.results47, envOf, Nat.reduceAdd]
 refine tr_seq fun K1 hK1 => ?_
 refine tr_region [0, 4, 5] rfl rfl fun K hK => ?_
 iterate 3 refine evR_p ?_
 refine evR_e hK ?_; clear hK K
 refine hK1 _ ?_
 refine tr_seq fun K2 hK2 => ?_
 refine tr_region [0, 4, 5, 7, 8] rfl rfl fun K hK => ?_
 iterate 2 refine evR_p ?_
 refine evR_c (hc := (k49 l hl t ht hv)) (k := ?_)
 iterate 6 refine evR_p ?_
 refine evR_e hK ?_; clear hK K
 refine hK2 _ ?_
 refine tr_seq fun K3 hK3 => ?_
 refine tr_seq fun K4 hK4 => ?_
 refine tr_region [0, 4, 5, 7, 18] rfl rfl fun K hK => ?_
 iterate 2 refine evR_p ?_
 refine evR_e hK ?_; clear hK K
 refine hK4 _ ?_
 refine tr_condB (fun ht1 => ?_) (fun ht1 => ?_)
 ·
  skip
  (first | (exfalso; omega) | (exfalso; simp_all; done) | skip)
  all_goals
   refine tr_seq fun K5 hK5 => ?_
   refine tr_region [6] rfl rfl fun K hK => ?_
   refine evR_p ?_
   refine evR_e hK ?_; clear hK K
   refine hK5 _ ?_
   refine tr_ret ?_
   (try simp only [thenE, inBlkE])
   simp (maxSteps := 4000000) (disch := first | assumption | omega | (simp only [go_sem, *]; done) | (simp only [go_sem, *]; omega)) only [postA, postO, resV1, fzAll, go_sem, hq, Int.reduceToNat, Nat.reduceBEq, Nat.reduceEqDiff, Nat.reduceAdd, Nat.reduceMul, Nat.reduceLeDiff, Nat.reduceLT, Nat.reduceSub, ↓reduceIte, reduceCtorEq]
   all_goals (rfl)
 ·
  skip
  (first | (exfalso; omega) | (exfalso; simp_all; done) | skip)
  all_goals
   refine tr_skip ?_
   (try simp only [thenE, inBlkE])
   refine hK3 _ ?_
   refine tr_seq fun K6 hK6 => ?_
   refine tr_seq fun K7 hK7 => ?_
   refine tr_region [0, 4, 5, 7, 21] rfl rfl fun K hK => ?_
   iterate 3 refine evR_p ?_
   refine evR_e hK ?_; clear hK K
   refine hK7 _ ?_
   refine tr_condB (fun ht2 => ?_) (fun ht2 => ?_)
   ·
    skip
    (first | (exfalso; omega) | (exfalso; simp_all; done) | skip)
    all_goals
     refine tr_seq fun K8 hK8 => ?_
     refine tr_region [6] rfl rfl fun K hK => ?_
     iterate 4 refine evR_p ?_
     iterate 3 refine evR_g ?_
     iterate 2 refine evR_p ?_
     iterate 3 refine evR_g ?_
     refine evR_gc (hc := kR) (k := ?_)
     iterate 2 refine evR_p ?_
     refine evR_e hK ?_; clear hK K
     refine hK8 _ ?_
     refine tr_ret ?_
     (try simp only [thenE, inBlkE])
     simp (maxSteps := 4000000) (disch := first | assumption | omega | (simp only [go_sem, *]; done) | (simp only [go_sem, *]; omega)) only [postA, postO, resV1, fzAll, go_sem, hq, Int.reduceToNat, Nat.reduceBEq, Nat.reduceEqDiff, Nat.reduceAdd, Nat.reduceMul, Nat.reduceLeDiff, Nat.reduceLT, Nat.reduceSub, ↓reduceIte, reduceCtorEq]
     all_goals (rfl)
   ·
    skip
    (first | (exfalso; omega) | (exfalso; simp_all; done) | skip)
    all_goals
     refine tr_skip ?_
     (try simp only [thenE, inBlkE])
     refine hK6 _ ?_
     refine tr_seq fun K9 hK9 => ?_
     refine tr_region [4, 5, 7, 8, 9] rfl rfl fun K hK => ?_
     iterate 3 refine evR_p ?_
     refine evR_c (hc := (k53n l hl hl12 set h1)) (k := ?_)
     iterate 6 refine evR_p ?_
     refine evR_e hK ?_; clear hK K
     refine hK9 _ ?_
     refine tr_seq fun K10 hK10 => ?_
     refine tr_region [5, 7, 10] rfl rfl fun K hK => ?_
     iterate 3 refine evR_p ?_
     iterate 2 refine evR_g ?_
     refine evR_gc (hc := (ca21u t zeros16 ht hrl)) (k := ?_)
     iterate 2 refine evR_g ?_
     iterate 2 refine evR_p ?_
     refine evR_e hK ?_; clear hK K
     refine hK10 _ ?_
     refine tr_seq fun K11 hK11 => ?_
     refine tr_draw [] [6] mixed rfl (by kernel_rfl) rfl fun K hK => ?_
     iterate 2 refine evD_p ?_
     iterate 5 refine evD_g ?_
     refine evD_gc (hc := (ca43 _)) (k := ?_)
     iterate 2 refine evD_g ?_
     iterate 2 refine evD_p ?_
     iterate 5 refine evD_g ?_
     refine evD_gc (hc := (kB _)) (k := ?_)
     iterate 2 refine evD_p ?_
     refine evD_e hK ?_; clear hK K
     refine hK11 _ ?_
     refine tr_ret ?_
     (try simp only [thenE, inBlkE])
     simp (maxSteps := 4000000) (disch := first | assumption | omega | (simp only [go_sem, *]; done) | (simp only [go_sem, *]; omega)) only [postA, postO, resV1, fzAll, go_sem, hq, Int.reduceToNat, Nat.reduceBEq, Nat.reduceEqDiff, Nat.reduceAdd, Nat.reduceMul, Nat.reduceLeDiff, Nat.reduceLT, Nat.reduceSub, ↓reduceIte, reduceCtorEq]
     all_goals (rfl)
end

end Go.Proofs.Ytfamkbofdamkkaa
namespace Go.Proofs.Ytfamkbofdamkkaa
open Go.RowKit
def mN (n : Nat) : Nat := Nat.mod n 18446744073709551616
def onesF (x : Nat) : Nat :=
  let a := mN (Nat.add (Nat.land (mN (Nat.shiftRight x 1)) 6148914691236517205) (Nat.land (mN x) 6148914691236517205))
  let b := mN (Nat.add (Nat.land (mN (Nat.shiftRight a 2)) 3689348814741910323) (Nat.land (mN a) 3689348814741910323))
  let c := Nat.land (mN (mN (Nat.add (Nat.shiftRight b 4) b))) 1085102592571150095
  let d := mN (Nat.add c (Nat.shiftRight c 8))
  let e := mN (Nat.add d (Nat.shiftRight d 16))
  mN (Nat.add e (Nat.shiftRight e 32))
set_option linter.unusedVariables false
set_option linter.unusedSimpArgs false
def cnt (p : Nat → Bool) : Nat → Nat
  | 0 => 0
  | n + 1 => cnt p n + (if p n then 1 else 0)
def tot (g : Nat → Nat → Bool) : Nat → Nat
  | 0 => 0
  | n + 1 => tot g n + cnt (fun x => g x n) 16
/-! #### equal areas -/
theorem bits_eq {M N : Nat} (hM : M < 65536) (hN : N < 65536) (h : ∀ i, i < 16 → M.testBit i = N.testBit i) : M = N := by
  apply Nat.eq_of_testBit_eq
  intro i
  rcases Nat.lt_or_ge i 16 with h1 | h1
  · exact h i h1
  · have hp : 2 ^ 16 ≤ 2 ^ i := Nat.pow_le_pow_right (by omega) h1
    rw [Nat.testBit_lt_two_pow (by omega), Nat.testBit_lt_two_pow (by omega)]
theorem getD_of_get {a : List Int} {j : Nat} (h : j < a.length) : a[j] = a.getD j 0 := by
  rw [List.getD_eq_getElem?_getD, List.getElem?_eq_getElem h]; rfl
theorem list16 {a b : List Int} (ha : a.length = 16) (hb : b.length = 16) (h : ∀ j, j < 16 → a.getD j 0 = b.getD j 0) : a = b := by
  apply List.ext_getElem (by omega)
  intro j h1 h2
  rw [getD_of_get h1, getD_of_get h2]
  exact h j (by omega)
/-- An area whose rows have the bits of g. -/
theorem area_eq {a : List Int} (ha : a.length = 16) (g : Nat → Nat → Bool) (h : ∀ j, j < 16 → ∃ N : Nat, a.getD j 0 = N ∧ N < 65536 ∧ ∀ i, i < 16 → N.testBit i = g i j) : a = cellsG g := by
  apply list16 ha (cellsG_length g)
  intro j hj
  obtain ⟨N, h1, h2, h3⟩ := h j hj
  obtain ⟨M, k1, k2, k3⟩ := cellsG_row g hj
  rw [h1, k1, bits_eq h2 k2 fun i hi => by rw [h3 i hi, k3 i hi]]
theorem cellsG_congr {g h : Nat → Nat → Bool} (e : ∀ x y, x < 16 → y < 16 → g x y = h x y) : cellsG g = cellsG h :=
  area_eq (cellsG_length g) h fun j hj => by
    obtain ⟨N, h1, h2, h3⟩ := cellsG_row g hj
    exact ⟨N, h1, h2, fun i hi => by rw [h3 i hi, e i j hi hj]⟩
theorem cellsG_inj {g h : Nat → Nat → Bool} (e : cellsG g = cellsG h) {x y : Nat} (hx : x < 16) (hy : y < 16) : g x y = h x y := by
  obtain ⟨N, h1, h2, h3⟩ := cellsG_row g hy
  obtain ⟨M, k1, k2, k3⟩ := cellsG_row h hy
  rw [e, k1] at h1
  have : M = N := by omega
  subst this
  rw [← h3 x hx, k3 x hx]
theorem zeros_G : zeros16 = cellsG fun _ _ => false :=
  area_eq rfl _ fun j hj => ⟨0, by unfold zeros16; rw [List.getD_eq_getElem?_getD, List.getElem?_replicate, if_pos hj]; rfl, by omega, fun i _ => by simp⟩
def bitG (a : List Int) (x y : Nat) : Bool := (a.getD y 0).toNat.testBit x
theorem rep_G {a : List Int} (ha : a.length = 16) (hv : validA a = true) : a = cellsG (bitG a) :=
  area_eq ha _ fun j hj => by
    have := (valid_iff a).1 hv (a.getD j 0) (getD_mem (by omega))
    exact ⟨(a.getD j 0).toNat, by omega, by omega, fun i _ => rfl⟩
/-! #### sets -/
theorem each_G {p : Int → Int → Int} {f : Bool → Bool → Bool} (hp : ∀ M N : Nat, M < 65536 → N < 65536 → ∃ K : Nat, p M N = K ∧ K < 65536 ∧ ∀ i, i < 16 → K.testBit i = f (M.testBit i) (N.testBit i)) (g h : Nat → Nat → Bool) :
    eachA p (cellsG g) (cellsG h) = cellsG fun x y => f (g x y) (h x y) := by
  apply area_eq (eachA_length p (cellsG_length g) (cellsG_length h))
  intro j hj
  obtain ⟨M, k1, k2, k3⟩ := cellsG_row g hj
  obtain ⟨N, h1, h2, h3⟩ := cellsG_row h hj
  obtain ⟨K, q1, q2, q3⟩ := hp M N k2 h2
  refine ⟨K, ?_, q2, fun i hi => by rw [q3 i hi, k3 i hi, h3 i hi]⟩
  have e : (eachA p (cellsG g) (cellsG h)).getD j 0 = p ((cellsG g).getD j 0) ((cellsG h).getD j 0) := by
    simp only [eachA, cellsG_valid, Bool.and_self, if_true, List.getD_eq_getElem?_getD, List.getElem?_zipWith]
    rw [List.getElem?_eq_getElem (by rw [cellsG_length]; exact hj), List.getElem?_eq_getElem (by rw [cellsG_length]; exact hj)]; rfl
  rw [e, k1, h1, q1]
theorem union_G (g h : Nat → Nat → Bool) : unionA (cellsG g) (cellsG h) = cellsG fun x y => g x y || h x y :=
  each_G (f := fun a b => a || b) (fun M N hM hN => ⟨M ||| N, orA hM hN, Nat.or_lt_two_pow (n := 16) hM hN, fun i _ => Nat.testBit_or M N i⟩) g h
theorem andNotA {a b : Nat} (ha : a < 65536) (hb : b < 65536) : ∃ K : Nat, bitsV .andNot .i64 a b = K ∧ K < 65536 ∧ ∀ i, i < 16 → K.testBit i = (a.testBit i && !b.testBit i) := by
  have e : bitsV .andNot .i64 a b = IntKind.i64.wrap (((BitVec.ofInt 64 (a : Int)) &&& ~~~(BitVec.ofInt 64 (b : Int))).toNat : Int) := rfl
  have hl : ((BitVec.ofInt 64 (a : Int)) &&& ~~~(BitVec.ofInt 64 (b : Int))).toNat < 65536 := by
    rw [BitVec.toNat_and]
    have := Nat.and_le_left (n := (BitVec.ofInt 64 (a : Int)).toNat) (m := (~~~(BitVec.ofInt 64 (b : Int))).toNat)
    rw [toNatA ha] at this ⊢
    omega
  refine ⟨_, by rw [e, w64 (by omega)], hl, fun i hi => ?_⟩
  rw [BitVec.testBit_toNat, BitVec.getLsbD_and, BitVec.getLsbD_not, ← BitVec.testBit_toNat, ← BitVec.testBit_toNat, toNatA ha, toNatA hb]
  simp [show i < 64 by omega]
theorem minus_G (g h : Nat → Nat → Bool) : minusA (cellsG g) (cellsG h) = cellsG fun x y => g x y && !h x y :=
  each_G (f := fun a b => a && !b) (fun M N hM hN => andNotA hM hN) g h
theorem within_G {g h : Nat → Nat → Bool} : withinA (cellsG g) (cellsG h) = true ↔ ∀ x y, x < 16 → y < 16 → g x y = true → h x y = true := by
  simp only [withinA, cellsG_valid, Bool.true_and, decide_eq_true_eq, minus_G, zeros_G]
  constructor
  · intro e x y hx hy hg
    have := cellsG_inj e hx hy
    simpa [hg] using this
  · intro e
    apply cellsG_congr
    intro x y hx hy
    have := e x y hx hy
    cases hg : g x y <;> simp_all
theorem has_G (g : Nat → Nat → Bool) {x y : Nat} (hx : x < 16) (hy : y < 16) : hasA (cellsG g) x y = g x y := by
  have := hasA_cellsG g (x := (x : Int)) (y := (y : Int)) (by omega) (by omega)
  simpa using this
end Go.Proofs.Ytfamkbofdamkkaa
namespace Go.Proofs.Ytfamkbofdamkkaa
open Go.RowKit
set_option linter.unusedVariables false
set_option linter.unusedSimpArgs false
def edgesFrom (a : Pl) : List Pl → List (Pl × Pl)
  | [] => []
  | b :: bs => (a, b) :: edgesFrom b bs
def hitE (p : Pl) (e : Pl × Pl) : Bool := hitP e.1 e.2 p
def crossE (p : Pl) (e : Pl × Pl) : Bool := crossP e.1 e.2 p
def sideE (p : Pl) (out : Int) (es : List (Pl × Pl)) : Int := if es.any (hitE p) then 0 else if es.countP (crossE p) % 2 = 0 then out else 0 - out
theorem sideGo_E (p : Pl) : ∀ (l : List Pl) (a : Pl) (out : Int), sideGo p a out l = sideE p out (edgesFrom a l)
  | [], a, out => by simp [sideGo, sideE, edgesFrom]
  | b :: bs, a, out => by
    simp only [sideGo, edgesFrom]
    rw [sideGo_E p bs]
    unfold sideE
    simp only [List.any_cons, List.countP_cons, hitE, crossE]
    cases hh : hitP a b p with
    | true => simp
    | false =>
      simp only [Bool.false_eq_true, if_false, Bool.false_or]
      split
      · rfl
      · rcases Bool.eq_false_or_eq_true (crossP a b p) with hc | hc <;> simp only [hc, if_true, Bool.false_eq_true, if_false, Nat.add_zero]
        split <;> split <;> omega
def lastP (l : List Pl) : Pl := l.getD (l.length - 1) ⟨0, 0⟩
def edges (l : List Pl) : List (Pl × Pl) := edgesFrom (lastP l) l
theorem sideP_E (l : List Pl) (p : Pl) : sideP l p = sideE p (-1) (edges l) := sideGo_E p l _ _
theorem edgesFrom_append (a : Pl) : ∀ (u v : List Pl), edgesFrom a (u ++ v) = edgesFrom a u ++ edgesFrom (if u = [] then a else lastP u) v
  | [], v => by simp [edgesFrom]
  | b :: bs, v => by
    simp only [List.cons_append, edgesFrom, edgesFrom_append b bs v]
    cases bs with
    | nil => simp [lastP]
    | cons c cs => simp [lastP]
theorem lastP_append (u v : List Pl) (h : v ≠ []) : lastP (u ++ v) = lastP v := by
  have hl : 0 < v.length := List.length_pos_iff.2 h
  simp only [lastP, List.getD_eq_getElem?_getD, List.length_append]
  rw [List.getElem?_append_right (by omega)]
  congr 2; omega
theorem edges_rot (u v : List Pl) : (edges (u ++ v)).Perm (edges (v ++ u)) := by
  rcases List.eq_nil_or_concat u with hu | ⟨u', x, hu⟩
  · subst hu; simp
  rcases List.eq_nil_or_concat v with hv | ⟨v', y, hv⟩
  · subst hv; simp
  have h1 : u ≠ [] := by subst hu; simp
  have h2 : v ≠ [] := by subst hv; simp
  unfold edges
  rw [lastP_append u v h2, lastP_append v u h1, edgesFrom_append, edgesFrom_append, if_neg h1, if_neg h2]
  exact List.perm_append_comm
def swapE (e : Pl × Pl) : Pl × Pl := (e.2, e.1)
theorem madeP_length (x : List Pl) : 3 ≤ (madeP x).length ∧ (madeP x).length ≤ 9 := by
  unfold madeP; rw [padP_length]; simp; omega
def turnL (l : List Pl) (n k : Nat) : List Pl := (List.range k).map fun i => l.getD ((i + n) % l.length) ⟨0, 0⟩
def backL (l : List Pl) (k : Nat) : List Pl := (List.range k).map fun i => l.getD (l.length - 1 - i) ⟨0, 0⟩
theorem valid_mk {l : List Pl} (h1 : 3 ≤ l.length) (h2 : l.length ≤ 12) (h : ∀ p ∈ l, onMap p = true) : validP l = true := by
  simp only [validP, Bool.and_eq_true, decide_eq_true_eq]
  refine ⟨by omega, by omega, ?_⟩
  simp; exact h
set_option maxRecDepth 100000
attribute [local go_sem] Nat.zero_add Nat.add_zero Nat.mul_one eq_self ne_eq not_true_eq_false not_false_eq_true decide_true decide_false decide_not Bool.false_eq_true List.filter_cons List.filter_nil true_and and_true beq_false beq_true Bool.not_true Bool.not_false Bool.and_true Bool.true_and Option.getD_some Option.getD_none imp_self implies_true Int.toNat_natCast List.cons_append List.nil_append List.map_cons List.map_nil List.length_cons List.length_nil List.getD_cons_zero List.getD_cons_succ List.drop_zero List.drop_succ_cons List.take_succ_cons List.take_zero
attribute [local go_sem] lowN lowQ lowM isAl appOwn unw shL isSh Option.isNone_none Option.isNone_some Option.isSome_none appF isE isO stpO notIn St.bare evO evDO isEff stp St.get St.slot St.put List.lookup un unL ofVal gof nth pickV pkB_false pkB_true binV unV loadV idxV fldV partV buildV fillV lenV sliV appV appR rowsV winV V.parts V.okp V.sc Mem.look_cons Mem.look_nil V.cl V.clL AObj.clo fzAll exps St.fz Mem.fz V.fz V.fzL AObj.fz shp AObj.shp csh AObj.csh rowM isSt isRpS isRd Option.isSome_some Bool.or_true Bool.true_or Bool.or_false Bool.false_or and_false false_and or_false false_or List.length_append forall_const imp_self arT_104 arT_121 arT_160 arT_161 arT_22 arT_23 arT_24 arT_25 arT_28 arT_29 arT_30 arT_40 arT_42 arT_52 arT_60 arT_65 arT_72 arT_73 arT_76 arT_9 arT_90 boolT_182 boolT_25 boolT_3 boolT_35 boolT_4 boolT_76 flatT_182 flatT_25 flatT_3 flatT_35 flatT_4 flatT_76 intT_133 intT_169 intT_171 intT_188 intT_3 intT_5 lay_104 lay_112 lay_138 lay_141 lay_153 lay_160 lay_161 lay_164 lay_188 lay_23 lay_24 lay_25 lay_27 lay_28 lay_3 lay_30 lay_34 lay_4 lay_49 lay_52 lay_54 lay_56 lay_65 lay_67 lay_73 lay_76 lay_90 lay_99 mapT_112 okF_10 okF_100 okF_101 okF_102 okF_103 okF_104 okF_105 okF_106 okF_107 okF_108 okF_109 okF_11 okF_110 okF_111 okF_112 okF_113 okF_114 okF_115 okF_116 okF_117 okF_118 okF_119 okF_12 okF_120 okF_121 okF_122 okF_123 okF_124 okF_125 okF_126 okF_127 okF_128 okF_129 okF_13 okF_130 okF_131 okF_132 okF_133 okF_134 okF_135 okF_136 okF_137 okF_138 okF_139 okF_14 okF_140 okF_141 okF_142 okF_143 okF_144 okF_145 okF_146 okF_147 okF_148 okF_149 okF_15 okF_150 okF_151 okF_152 okF_153 okF_154 okF_155 okF_156 okF_157 okF_158 okF_159 okF_16 okF_160 okF_161 okF_162 okF_163 okF_164 okF_165 okF_166 okF_167 okF_168 okF_169 okF_17 okF_170 okF_171 okF_172 okF_173 okF_174 okF_175 okF_176 okF_177 okF_18 okF_19 okF_20 okF_21 okF_22 okF_23 okF_24 okF_25 okF_26 okF_27 okF_28 okF_29 okF_3 okF_30 okF_31 okF_32 okF_33 okF_34 okF_35 okF_36 okF_37 okF_38 okF_39 okF_4 okF_40 okF_41 okF_42 okF_43 okF_44 okF_45 okF_46 okF_47 okF_48 okF_49 okF_5 okF_50 okF_51 okF_52 okF_53 okF_54 okF_55 okF_56 okF_57 okF_58 okF_59 okF_6 okF_60 okF_61 okF_62 okF_63 okF_64 okF_65 okF_66 okF_67 okF_68 okF_69 okF_7 okF_70 okF_71 okF_72 okF_73 okF_74 okF_75 okF_76 okF_77 okF_78 okF_79 okF_8 okF_80 okF_81 okF_82 okF_83 okF_84 okF_85 okF_86 okF_87 okF_88 okF_89 okF_9 okF_90 okF_91 okF_92 okF_93 okF_94 okF_95 okF_96 okF_97 okF_98 okF_99 plT_138 plT_153 plT_157 plT_161 plT_27 plT_34 plT_54 plT_56 plT_67 plT_76 plT_90 plT_99 slT_104 slT_121 slT_160 slT_161 slT_22 slT_23 slT_24 slT_25 slT_28 slT_29 slT_30 slT_40 slT_42 slT_52 slT_60 slT_65 slT_72 slT_73 slT_76 slT_90 stT_138_0 stT_138_1 stT_153_0 stT_157_0 stT_157_1 stT_157_2 stT_157_3 stT_27_0 stT_27_1 stT_27_2 stT_34_0 stT_34_1 stT_34_2 stT_34_3 stT_54_0 stT_54_1 stT_54_2 stT_54_3 stT_56_0 stT_56_1 stT_67_1 stT_67_4 stT_67_5 stT_99_0 stT_99_1 strT_160 strT_76 strT_9 zeroT_112 zeroT_138 zeroT_153 zeroT_157 zeroT_160 zeroT_161 zeroT_188 zeroT_27 zeroT_3 zeroT_30 zeroT_34 zeroT_4 zeroT_49 zeroT_54 zeroT_56 zeroT_65 zeroT_67 zeroT_76 zeroT_90 zeroT_99
attribute [local go_sem] cellsI_fzL cellsI_uptoL List.getElem?_cons_zero List.getElem?_cons_succ List.zip_cons_cons List.zip_nil_left List.zip_nil_right Bool.false_and Bool.and_false cellsG_length polyA_length discA_length agEq_cells cellsI_isI cellsI_length cellsI_sc cellsI_cl cellsI_rows cellsI_take cellsI_dropD cellsI_set cellsI_full encI_length encI_getD List.length_set List.length_replicate List.all_cons List.all_nil outA_length eachA_length outM_length getD_set_same List.set_set spl_nil0 spl_cons0 spl_succ encP_length encP_getD
attribute [local simp] encP_length padP_length encI_length
theorem ca39 (x y : Int) (hx : 0 ≤ x ∧ x < 16) (hy : 0 ≤ y ∧ y < 16) : CallsA Try.prog 61 [.int .i64 x, .int .i64 y] (.agg [.int .i64 (4 * x + 2), .int .i64 (4 * y + 2)]) := by
 have hw1 : IntKind.i64.wrap (4 * x) = 4 * x := w64 (by omega)
 have hw2 : IntKind.i64.wrap (4 * x + 2) = 4 * x + 2 := w64 (by omega)
 have hw3 : IntKind.i64.wrap (4 * y) = 4 * y := w64 (by omega)
 have hw4 : IntKind.i64.wrap (4 * y + 2) = 4 * y + 2 := w64 (by omega)
 have hq := And.intro hw1 (And.intro hw2 (And.intro hw3 (hw4)))
 refine callsA_of_tr Try.func61 rfl (Nat.le_of_ble_eq_true rfl) ?_
 simp only [Try.results61, envOf, Nat.reduceAdd]
 refine tr_seq fun K1 hK1 => ?_
 refine tr_region [0, 1, 4] rfl rfl fun K hK => ?_
 refine evR_p ?_
 refine evR_e hK ?_; clear hK K
 refine hK1 _ ?_
 refine tr_seq fun K2 hK2 => ?_
 refine tr_region [4] rfl rfl fun K hK => ?_
 iterate 8 refine evR_p ?_
 refine evR_e hK ?_; clear hK K
 refine hK2 _ ?_
 refine tr_ret ?_
 (try simp only [thenE, inBlkE])
 simp (maxSteps := 4000000) (disch := first | assumption | omega | (simp only [go_sem, *]; done) | (simp only [go_sem, *]; omega)) only [postA, postO, resV1, fzAll, go_sem, hq, Int.reduceToNat, Nat.reduceBEq, Nat.reduceEqDiff, Nat.reduceAdd, Nat.reduceMul, Nat.reduceLeDiff, Nat.reduceLT, Nat.reduceSub, ↓reduceIte, reduceCtorEq]
 all_goals (simp)

theorem ca30 (p : Pl) : CallsA Try.prog 105 [.agg [.int .i64 p.x, .int .i64 p.y]] (.agg [.int .i64 (placeP p).x, .int .i64 (placeP p).y]) := by
 have hq : True := trivial
 refine callsA_of_tr Try.func105 rfl (Nat.le_of_ble_eq_true rfl) ?_
 simp only [Try.results105, envOf, Nat.reduceAdd]
 refine tr_seq fun K1 hK1 => ?_
 refine tr_region [1, 2] rfl rfl fun K hK => ?_
 iterate 2 refine evR_p ?_
 refine evR_e hK ?_; clear hK K
 refine hK1 _ ?_
 refine tr_seq fun K2 hK2 => ?_
 refine tr_draw [] [2] mixed rfl (by kernel_rfl) rfl fun K hK => ?_
 iterate 2 refine evD_p ?_
 refine evD_c (hc := (ca40 _ _ (by decide))) (k := ?_)
 iterate 2 refine evD_p ?_
 refine evD_c (hc := (ca40 _ _ (by decide))) (k := ?_)
 iterate 2 refine evD_p ?_
 refine evD_e hK ?_; clear hK K
 refine hK2 _ ?_
 refine tr_ret ?_
 (try simp only [thenE, inBlkE])
 simp (maxSteps := 4000000) (disch := first | assumption | omega | (simp only [go_sem, *]; done) | (simp only [go_sem, *]; omega)) only [postA, postO, resV1, fzAll, go_sem, hq, Int.reduceToNat, Nat.reduceBEq, Nat.reduceEqDiff, Nat.reduceAdd, Nat.reduceMul, Nat.reduceLeDiff, Nat.reduceLT, Nat.reduceSub, ↓reduceIte, reduceCtorEq]
 all_goals (simp [placeP])

theorem ca29 (l : List Pl) (hm : l.length ≤ maxLen) : CallsA Try.prog 60 [.sl 2 (encP l)] (.sl 2 (encP (madeP l))) := by
 unfold maxLen at hm
 have hq : True := trivial
 refine callsA_of_tr Try.func60 rfl (Nat.le_of_ble_eq_true rfl) ?_
 simp only [Try.results60, envOf, Nat.reduceAdd]
 refine tr_seq fun K1 hK1 => ?_
 refine tr_region [0] rfl rfl fun K hK => ?_
 refine evR_p ?_
 refine evR_e hK ?_; clear hK K
 refine hK1 _ ?_
 refine tr_seq fun K2 hK2 => ?_
 refine tr_region [0, 3] rfl rfl fun K hK => ?_
 refine evR_p ?_
 refine evR_e hK ?_; clear hK K
 refine hK2 _ ?_
 refine tr_seq fun K3 hK3 => ?_
 refine tr_seq fun K4 hK4 => ?_
 refine tr_region [0, 3, 4] rfl rfl fun K hK => ?_
 refine evR_p ?_
 refine evR_e hK ?_; clear hK K
 refine hK4 _ ?_
 refine tr_block ?_
 -- loop 1: live [0, 3, 4]
 refine tr_loopW (fun m σ => ∃ i, i + m = min l.length 9 ∧ ((i = 0 ∧ σ = ⟨[(0, .sl 2 (encP l)), (3, .nsl), (4, .int .i64 (i : Nat))], [], 0⟩) ∨ (0 < i ∧ σ = ⟨[(0, .sl 2 (encP l)), (3, .own 0), (4, .int .i64 (i : Nat))], [(0, .row 99 2 (encP ((l.take i).map placeP)))], 1⟩))) (min l.length 9) ?_ ?_
 ·
  exact ⟨_, Wk.refl _, 0, by omega, .inl ⟨rfl, rfl⟩⟩
 ·
  rintro m σ ⟨i, hi, (⟨hi0, rfl⟩ | ⟨hi0, rfl⟩)⟩ KL1 hKL1
  all_goals
   refine tr_seq fun K5 hK5 => ?_
   refine tr_seq fun K6 hK6 => ?_
   refine tr_region [0, 3, 4, 13] rfl rfl fun K hK => ?_
   iterate 5 refine evR_p ?_
   iterate 2 refine evR_g ?_
   refine evR_p ?_
   refine evR_e hK ?_; clear hK K
   refine hK6 _ ?_
   refine tr_condB (fun ht1 => ?_) (fun ht1 => ?_)
   ·
    skip
    have hil : i < l.length := by omega
    replace hq := And.intro hq (hil)
    refine tr_skip ?_
    (try simp only [thenE, inBlkE])
    refine hK5 _ ?_
    refine tr_seq fun K7 hK7 => ?_
    refine tr_block ?_
    refine tr_region [0, 3, 4] rfl rfl fun K hK => ?_
    iterate 5 refine evR_p ?_
    refine evR_c (hc := (ca30 _)) (k := ?_)
    refine evR_bo ?_
    iterate 2 refine evR_p ?_
    refine evR_e hK ?_; clear hK K
    refine hK7 _ ?_
    refine tr_region [0, 3, 4] rfl rfl fun K hK => ?_
    iterate 3 refine evR_p ?_
    refine evR_e hK ?_; clear hK K
    refine hKL1 _ ?_
    refine ⟨m - 1, _, by omega, ((Wk.drop (fun k => Nat.beq k 2)).trans ((Wk.ren 2 0 (Nat.le_of_ble_eq_true rfl) (Nat.le_of_ble_eq_true rfl) rfl).trans (Wk.cut 1 rfl))), i + 1, by omega, .inr ⟨by omega, ?_⟩⟩
    rw [take_snoc placeP ⟨0, 0⟩ hil, encP_snoc, w64 (by omega)]
    first | rfl | (subst hi0; rfl)
   ·
    skip
    have hil : i = min l.length 9 := by omega
    have he9 : l.take i = l.take 9 := by
     rcases Nat.lt_or_ge l.length 9 with h | h
     ·
      rw [List.take_of_length_le (by omega), List.take_of_length_le (by omega)]
     ·
      rw [show i = 9 by omega]
    have hln : ((l.take 9).map placeP).length = i := by simp; omega
    have hle : (encP ((l.take 9).map placeP)).length = i := by simp; omega
    (try simp only [he9])
    refine tr_exit ?_
    simp only [thenE, inBlkE, Nat.reduceEqDiff, ↓reduceIte]
    refine hK3 _ ?_
    refine tr_seq fun K8 hK8 => ?_
    refine tr_seq fun K9 hK9 => ?_
    refine tr_region [3, 5] rfl rfl fun K hK => ?_
    iterate 3 refine evR_p ?_
    refine evR_e hK ?_; clear hK K
    refine hK9 _ ?_
    refine tr_block ?_
    -- loop 2: live [3, 5]
    refine tr_loopW (fun m σ => ∃ j, j + m = max 3 i ∧ i ≤ j ∧ ((j = 0 ∧ σ = ⟨[(3, .nsl), (5, .int .i64 (j : Nat))], [], 0⟩) ∨ (0 < j ∧ σ = ⟨[(3, .own 0), (5, .int .i64 (j : Nat))], [(0, .row 99 2 (encP (padP ((l.take 9).map placeP) j)))], 1⟩))) (max 3 i - i) ?_ ?_
    ·
     exact ⟨_, Wk.refl _, i, by omega, Nat.le_refl _, (by first | (refine .inl ⟨hi0, ?_⟩; subst hi0; rfl) | (refine .inr ⟨hi0, ?_⟩; rw [padP_self _ (by omega)]; simp only [hle, hln]; done) | (refine .inr ⟨hi0, ?_⟩; rw [padP_self _ (by omega)]; simp; omega))⟩
    ·
     rintro m2 σ ⟨j, hj, hij, (⟨hj0, rfl⟩ | ⟨hj0, rfl⟩)⟩ KL2 hKL2
     all_goals
      refine tr_seq fun K10 hK10 => ?_
      refine tr_seq fun K11 hK11 => ?_
      refine tr_region [3, 5, 27] rfl rfl fun K hK => ?_
      iterate 2 refine evR_p ?_
      refine evR_e hK ?_; clear hK K
      refine hK11 _ ?_
      refine tr_condB (fun ht2 => ?_) (fun ht2 => ?_)
      ·
       skip
       have hjl : j < 3 := by omega
       have hjm : (j : Int).tmod 2 = (j : Int) % 2 := Int.tmod_eq_emod_of_nonneg (by omega)
       have hw1 : IntKind.i64.wrap (20 * (j : Int)) = 20 * (j : Int) := w64 (by omega)
       have hw2 : IntKind.i64.wrap (30 * (j : Int).tmod 2) = 30 * (j : Int).tmod 2 := w64 (by omega)
       replace hq := And.intro hq (And.intro hw1 (hw2))
       refine tr_skip ?_
       (try simp only [thenE, inBlkE])
       refine hK10 _ ?_
       refine tr_seq fun K12 hK12 => ?_
       refine tr_block ?_
       refine tr_region [3, 5] rfl rfl fun K hK => ?_
       iterate 7 refine evR_p ?_
       refine evR_bo ?_
       iterate 2 refine evR_p ?_
       refine evR_e hK ?_; clear hK K
       refine hK12 _ ?_
       refine tr_region [3, 5] rfl rfl fun K hK => ?_
       iterate 3 refine evR_p ?_
       refine evR_e hK ?_; clear hK K
       refine hKL2 _ ?_
       refine ⟨m2 - 1, _, by omega, ((Wk.drop (fun k => Nat.beq k 2)).trans ((Wk.ren 2 0 (Nat.le_of_ble_eq_true rfl) (Nat.le_of_ble_eq_true rfl) rfl).trans (Wk.cut 1 rfl))), j + 1, by omega, by omega, .inr ⟨by omega, ?_⟩⟩
       rw [padP_snoc _ (by omega), encP_snoc, w64 (by omega)]
       first | rfl | (have e : l = [] := List.eq_nil_of_length_eq_zero (by omega); subst e; subst hj0; rfl)
      ·
       skip
       have hjl : j = max 3 i := by omega
       refine tr_exit ?_
       simp only [thenE, inBlkE, Nat.reduceEqDiff, ↓reduceIte]
       refine hK8 _ ?_
       refine tr_seq fun K13 hK13 => ?_
       refine tr_region [2] rfl rfl fun K hK => ?_
       iterate 2 refine evR_p ?_
       refine evR_e hK ?_; clear hK K
       refine hK13 _ ?_
       refine tr_ret ?_
       (try simp only [thenE, inBlkE])
       simp (maxSteps := 4000000) (disch := first | assumption | omega | (simp only [go_sem, *]; done) | (simp only [go_sem, *]; omega)) only [postA, postO, resV1, fzAll, go_sem, hq, Int.reduceToNat, Nat.reduceBEq, Nat.reduceEqDiff, Nat.reduceAdd, Nat.reduceMul, Nat.reduceLeDiff, Nat.reduceLT, Nat.reduceSub, ↓reduceIte, reduceCtorEq]
       all_goals ((first | omega | (rw [hjl]; simp only [madeP, hln]; done)))

end Go.Proofs.Ytfamkbofdamkkaa
namespace Go.Proofs.Ytfamkbofdamkkaa
open Go.RowKit
set_option linter.unusedVariables false
set_option linter.unusedSimpArgs false
def inR (a : Int) : Bool := decide (0 ≤ a) && decide (a < 16)
def shG (g : Nat → Nat → Bool) (dx dy : Int) (x y : Nat) : Bool := inR ((y : Int) - dy) && (inR ((x : Int) - dx) && g ((x : Int) - dx).toNat ((y : Int) - dy).toNat)
/-! #### how many, moved -/
def sumN (f : Nat → Nat) : Nat → Nat
  | 0 => 0
  | n + 1 => sumN f n + f n
/-! #### a way moved -/
def mvP (h v : Int) (p : Pl) : Pl := ⟨p.x + 4 * h, p.y + 4 * v⟩
/-! #### off the map -/
def flipE (f : Pl → Bool) (e : Pl × Pl) : Bool := f e.1 != f e.2
def outB (x : Int) : Bool := decide (x < 0) || decide (65535 < x)
def gA (a : List Int) (x y : Nat) : Bool := hasA a x y
theorem rowG_add (g : Nat → Nat → Bool) {y n : Nat} (h : n < 16) (hg : g n y = true) : rowG g y (n + 1) = IntKind.i64.wrap (rowG g y n + shlW .i64 1 n) := by
  obtain ⟨N, h1, h2, h3⟩ := rowG_bits g y n (by omega)
  have hp : 2 ^ n ≤ 2 ^ 15 := Nat.pow_le_pow_right (by omega) (by omega)
  rw [rowG_succ, hg, if_pos rfl, h1, shlA h, orA (by omega) (by omega), ← Int.natCast_add, w64 (by omega)]
  congr 1
  apply Nat.eq_of_testBit_eq
  intro i
  rw [Nat.testBit_or, Nat.testBit_two_pow, Nat.add_comm N]
  rcases Nat.lt_trichotomy i n with h4 | h4 | h4
  · rw [Nat.testBit_two_pow_add_gt h4]
    have : ¬ n = i := by omega
    simp [this]
  · subst h4
    rw [Nat.testBit_two_pow_add_eq, Nat.testBit_lt_two_pow h2]; simp
  · have hq : 2 ^ (n + 1) ≤ 2 ^ i := Nat.pow_le_pow_right (by omega) h4
    have hp1 : 2 ^ (n + 1) = 2 ^ n * 2 := Nat.pow_succ 2 n
    rw [Nat.testBit_lt_two_pow (by omega), Nat.testBit_lt_two_pow (by omega)]
    have : ¬ n = i := by omega
    simp [this]
theorem rowG_skip (g : Nat → Nat → Bool) {y n : Nat} (hg : g n y = false) : rowG g y (n + 1) = rowG g y n := by rw [rowG_succ, hg]; simp
theorem onMap_iff (p : Pl) : onMap p = (((decide (0 ≤ p.x) && decide (p.x ≤ 64)) && decide (0 ≤ p.y)) && decide (p.y ≤ 64)) := by
  rw [Bool.eq_iff_iff]
  simp only [onMap, minV_min, maxV_max, Bool.and_eq_true, decide_eq_true_eq]
  omega
theorem poly_len_bad {l : List Pl} (h : (l.length : Int) < 3 ∨ 12 < (l.length : Int)) : validP l = false := by
  have : ¬ validP l = true := by
    intro e
    have := validP_len e
    omega
  simpa using this
theorem poly_el_bad {l : List Pl} {i : Nat} (hi : i < l.length) (h : onMap (l.getD i ⟨0, 0⟩) = false) : validP l = false := by
  have : ¬ validP l = true := by
    intro e
    have := (validP_len e).2.2 _ (getD_mem (d := ⟨0, 0⟩) hi)
    rw [h] at this; cases this
  simpa using this
theorem poly_ok {l : List Pl} (h : ¬ (l.length : Int) < 3 ∧ ¬ 12 < (l.length : Int)) (hall : ∀ j, j < l.length → onMap (l.getD j ⟨0, 0⟩) = true) : validP l = true := by
  refine valid_mk (by omega) (by omega) fun p hp => ?_
  obtain ⟨j, hj, rfl⟩ := List.getElem_of_mem hp
  have := hall j hj
  simpa [List.getD, hj] using this
theorem mulA {u v : Int} (h1 : -64 ≤ u) (h2 : u ≤ 64) (h3 : -64 ≤ v) (h4 : v ≤ 64) : IntKind.i64.wrap (IntKind.i64.wrap u * IntKind.i64.wrap v) = u * v := by
  have := mulB h1 h2 h3 h4
  rw [w64 (x := u) (by omega), w64 (x := v) (by omega), w64 (by omega)]
theorem mulW1 {u v : Int} (h1 : -64 ≤ u) (h2 : u ≤ 64) (h3 : -64 ≤ v) (h4 : v ≤ 64) : IntKind.i64.wrap (u * v) = u * v := by
  have := mulB h1 h2 h3 h4
  rw [w64 (by omega)]
/-- What the reference's 'meets' computes. -/
def meetsN (a b p : Pl) : Int := a.x * (b.y - a.y) + (p.y - a.y) * (b.x - a.x)
theorem meets_turn (a b p : Pl) : turnP a b p = meetsN a b p - p.x * (b.y - a.y) := by
  simp only [turnP, meetsN, Int.sub_mul, Int.mul_sub]
  have c1 := Int.mul_comm a.x b.y
  have c2 := Int.mul_comm a.x a.y
  have c3 := Int.mul_comm p.y b.x
  have c4 := Int.mul_comm p.y a.x
  have c5 := Int.mul_comm a.y b.x
  have c6 := Int.mul_comm p.x b.y
  have c7 := Int.mul_comm p.x a.y
  omega
/-- The reference's edges: from each corner to the next. -/
def nextP (l : List Pl) (i : Nat) : Pl := l.getD ((i + 1) % l.length) ⟨0, 0⟩
def refE (l : List Pl) (k : Nat) : List (Pl × Pl) := (List.range k).map fun i => (l.getD i ⟨0, 0⟩, nextP l i)
theorem refE_succ (l : List Pl) (k : Nat) : refE l (k + 1) = refE l k ++ [(l.getD k ⟨0, 0⟩, nextP l k)] := by simp [refE, List.range_succ]
theorem edgesFrom_length : ∀ (l : List Pl) (a : Pl), (edgesFrom a l).length = l.length
  | [], _ => rfl
  | b :: bs, a => by simp [edgesFrom, edgesFrom_length bs b]
theorem edgesFrom_get : ∀ (l : List Pl) (a : Pl) (i : Nat) (h : i < (edgesFrom a l).length), (edgesFrom a l)[i] = ((a :: l).getD i ⟨0, 0⟩, l.getD i ⟨0, 0⟩)
  | [], a, i, h => by simp [edgesFrom] at h
  | b :: bs, a, 0, h => by simp [edgesFrom]
  | b :: bs, a, i + 1, h => by
    simp only [edgesFrom, List.getElem_cons_succ]
    rw [edgesFrom_get bs b i]; simp
theorem refE_perm (l : List Pl) : (refE l l.length).Perm (edges l) := by
  cases l with
  | nil => exact .nil
  | cons a t =>
    have e : refE (a :: t) (a :: t).length = edges (t ++ [a]) := by
      have hl : lastP (t ++ [a]) = a := lastP_append t [a] (by simp)
      unfold edges
      rw [hl]
      apply List.ext_getElem
      · simp [refE, edgesFrom_length]
      · intro i h1 h2
        rw [edgesFrom_get]
        have hi : i < t.length + 1 := by simpa [refE] using h1
        simp only [refE, List.getElem_map, List.getElem_range, nextP, List.length_cons]
        rcases Nat.lt_or_ge i t.length with h | h
        · rw [Nat.mod_eq_of_lt (by omega)]
          simp only [List.getD_eq_getElem?_getD, List.getElem?_cons_succ]
          rw [List.getElem?_append_left h, ← List.cons_append, List.getElem?_append_left (by simpa using hi)]
        · have : i = t.length := by omega
          subst this
          rw [Nat.mod_self]
          simp only [List.getD_eq_getElem?_getD]
          rw [List.getElem?_append_right (Nat.le_refl _), ← List.cons_append, List.getElem?_append_left (by simp)]
          simp
    rw [e]
    exact edges_rot t [a]
theorem inside_hit {l : List Pl} {p : Pl} (hv : validP l = true) (hp : onMap p = true) {i : Nat} (hi : i < l.length) (h : hitP (l.getD i ⟨0, 0⟩) (nextP l i) p = true) : insideP l p = 0 := by
  simp only [insideP, hv, hp, Bool.and_self, if_true]
  rw [sideP_E]
  unfold sideE
  have h1 : (edges l).any (hitE p) = true := by
    rw [← (refE_perm l).any_eq, List.any_eq_true]
    exact ⟨_, List.mem_map.2 ⟨i, List.mem_range.2 hi, rfl⟩, h⟩
  rw [h1]; rfl
theorem inside_count {l : List Pl} {p : Pl} (hv : validP l = true) (hp : onMap p = true) (h : ∀ j, j < l.length → hitP (l.getD j ⟨0, 0⟩) (nextP l j) p = false) :
    insideP l p = 2 * (((refE l l.length).countP (crossE p) : Nat) : Int).tmod 2 - 1 := by
  simp only [insideP, hv, hp, Bool.and_self, if_true]
  rw [sideP_E]
  unfold sideE
  have h1 : (edges l).any (hitE p) = false := by
    rw [← (refE_perm l).any_eq, List.any_eq_false]
    intro e he
    obtain ⟨j, hj, rfl⟩ := List.mem_map.1 he
    have h3 := h j (List.mem_range.1 hj)
    intro hc
    have h4 : hitP (l.getD j ⟨0, 0⟩) (nextP l j) p = true := hc
    rw [h3] at h4; cases h4
  rw [h1, ← (refE_perm l).countP_eq]
  have e : (((refE l l.length).countP (crossE p) : Nat) : Int).tmod 2 = (((refE l l.length).countP (crossE p) % 2 : Nat) : Int) := rfl
  rw [e]
  simp only [Bool.false_eq_true, if_false]
  split <;> omega
theorem refE_count_le (l : List Pl) (p : Pl) (k : Nat) : (refE l k).countP (crossE p) ≤ k := by
  have := List.countP_le_length (p := crossE p) (l := refE l k)
  simpa [refE] using this
theorem cross_some (a b p : Pl) : crossP a b p = (((decide (p.y < a.y)) != decide (p.y < b.y)) && (if 0 < b.y - a.y then decide (p.x * (b.y - a.y) < meetsN a b p) else decide (meetsN a b p < p.x * (b.y - a.y)))) := by
  rw [Bool.eq_iff_iff]
  simp only [crossP, meets_turn, Bool.and_eq_true, Bool.or_eq_true, decide_eq_true_eq, bne_iff_ne, ne_eq, decide_eq_decide]
  split <;> simp only [decide_eq_true_eq] <;> omega
theorem refE_t {l : List Pl} {p : Pl} {i : Nat} (h : crossP (l.getD i ⟨0, 0⟩) (nextP l i) p = true) : (refE l (i + 1)).countP (crossE p) = (refE l i).countP (crossE p) + 1 := by
  rw [refE_succ, List.countP_append]
  have : crossE p (l.getD i ⟨0, 0⟩, nextP l i) = true := h
  rw [List.countP_singleton, if_pos this]
theorem refE_f {l : List Pl} {p : Pl} {i : Nat} (h : crossP (l.getD i ⟨0, 0⟩) (nextP l i) p = false) : (refE l (i + 1)).countP (crossE p) = (refE l i).countP (crossE p) := by
  rw [refE_succ, List.countP_append]
  have : ¬ crossE p (l.getD i ⟨0, 0⟩, nextP l i) = true := by show ¬ crossP (l.getD i ⟨0, 0⟩) (nextP l i) p = true; rw [h]; simp
  rw [List.countP_singleton, if_neg this]; rfl
theorem inside_bad {l : List Pl} {p : Pl} (h : validP l = false ∨ onMap p = false) : insideP l p = -1 := by
  rcases h with h | h <;> simp [insideP, h]
theorem inside_wrap {l : List Pl} {p : Pl} (hv : validP l = true) (hp : onMap p = true) (h : ∀ j, j < l.length → hitP (l.getD j ⟨0, 0⟩) (nextP l j) p = false) :
    IntKind.i64.wrap (IntKind.i64.wrap (2 * (((refE l l.length).countP (crossE p) : Nat) : Int).tmod 2) - 1) = insideP l p := by
  rw [inside_count hv hp h]
  have e : (((refE l l.length).countP (crossE p) : Nat) : Int).tmod 2 = (((refE l l.length).countP (crossE p) % 2 : Nat) : Int) := rfl
  rw [e, w64 (x := 2 * (((refE l l.length).countP (crossE p) % 2 : Nat) : Int)) (by omega), w64 (by omega)]
set_option maxRecDepth 100000
attribute [local go_sem] Nat.zero_add Nat.add_zero Nat.mul_one eq_self ne_eq not_true_eq_false not_false_eq_true decide_true decide_false decide_not Bool.false_eq_true List.filter_cons List.filter_nil true_and and_true beq_false beq_true Bool.not_true Bool.not_false Bool.and_true Bool.true_and Option.getD_some Option.getD_none imp_self implies_true Int.toNat_natCast List.cons_append List.nil_append List.map_cons List.map_nil List.length_cons List.length_nil List.getD_cons_zero List.getD_cons_succ List.drop_zero List.drop_succ_cons List.take_succ_cons List.take_zero
attribute [local go_sem] lowN lowQ lowM isAl appOwn unw shL isSh Option.isNone_none Option.isNone_some Option.isSome_none appF isE isO stpO notIn St.bare evO evDO isEff stp St.get St.slot St.put List.lookup un unL ofVal gof nth pickV pkB_false pkB_true binV unV loadV idxV fldV partV buildV fillV lenV sliV appV appR rowsV winV V.parts V.okp V.sc Mem.look_cons Mem.look_nil V.cl V.clL AObj.clo fzAll exps St.fz Mem.fz V.fz V.fzL AObj.fz shp AObj.shp csh AObj.csh rowM isSt isRpS isRd Option.isSome_some Bool.or_true Bool.true_or Bool.or_false Bool.false_or and_false false_and or_false false_or List.length_append forall_const imp_self arT_104 arT_121 arT_160 arT_161 arT_22 arT_23 arT_24 arT_25 arT_28 arT_29 arT_30 arT_40 arT_42 arT_52 arT_60 arT_65 arT_72 arT_73 arT_76 arT_9 arT_90 boolT_182 boolT_25 boolT_3 boolT_35 boolT_4 boolT_76 flatT_182 flatT_25 flatT_3 flatT_35 flatT_4 flatT_76 intT_133 intT_169 intT_171 intT_188 intT_3 intT_5 lay_104 lay_112 lay_138 lay_141 lay_153 lay_160 lay_161 lay_164 lay_188 lay_23 lay_24 lay_25 lay_27 lay_28 lay_3 lay_30 lay_34 lay_4 lay_49 lay_52 lay_54 lay_56 lay_65 lay_67 lay_73 lay_76 lay_90 lay_99 mapT_112 okF_10 okF_100 okF_101 okF_102 okF_103 okF_104 okF_105 okF_106 okF_107 okF_108 okF_109 okF_11 okF_110 okF_111 okF_112 okF_113 okF_114 okF_115 okF_116 okF_117 okF_118 okF_119 okF_12 okF_120 okF_121 okF_122 okF_123 okF_124 okF_125 okF_126 okF_127 okF_128 okF_129 okF_13 okF_130 okF_131 okF_132 okF_133 okF_134 okF_135 okF_136 okF_137 okF_138 okF_139 okF_14 okF_140 okF_141 okF_142 okF_143 okF_144 okF_145 okF_146 okF_147 okF_148 okF_149 okF_15 okF_150 okF_151 okF_152 okF_153 okF_154 okF_155 okF_156 okF_157 okF_158 okF_159 okF_16 okF_160 okF_161 okF_162 okF_163 okF_164 okF_165 okF_166 okF_167 okF_168 okF_169 okF_17 okF_170 okF_171 okF_172 okF_173 okF_174 okF_175 okF_176 okF_177 okF_18 okF_19 okF_20 okF_21 okF_22 okF_23 okF_24 okF_25 okF_26 okF_27 okF_28 okF_29 okF_3 okF_30 okF_31 okF_32 okF_33 okF_34 okF_35 okF_36 okF_37 okF_38 okF_39 okF_4 okF_40 okF_41 okF_42 okF_43 okF_44 okF_45 okF_46 okF_47 okF_48 okF_49 okF_5 okF_50 okF_51 okF_52 okF_53 okF_54 okF_55 okF_56 okF_57 okF_58 okF_59 okF_6 okF_60 okF_61 okF_62 okF_63 okF_64 okF_65 okF_66 okF_67 okF_68 okF_69 okF_7 okF_70 okF_71 okF_72 okF_73 okF_74 okF_75 okF_76 okF_77 okF_78 okF_79 okF_8 okF_80 okF_81 okF_82 okF_83 okF_84 okF_85 okF_86 okF_87 okF_88 okF_89 okF_9 okF_90 okF_91 okF_92 okF_93 okF_94 okF_95 okF_96 okF_97 okF_98 okF_99 plT_138 plT_153 plT_157 plT_161 plT_27 plT_34 plT_54 plT_56 plT_67 plT_76 plT_90 plT_99 slT_104 slT_121 slT_160 slT_161 slT_22 slT_23 slT_24 slT_25 slT_28 slT_29 slT_30 slT_40 slT_42 slT_52 slT_60 slT_65 slT_72 slT_73 slT_76 slT_90 stT_138_0 stT_138_1 stT_153_0 stT_157_0 stT_157_1 stT_157_2 stT_157_3 stT_27_0 stT_27_1 stT_27_2 stT_34_0 stT_34_1 stT_34_2 stT_34_3 stT_54_0 stT_54_1 stT_54_2 stT_54_3 stT_56_0 stT_56_1 stT_67_1 stT_67_4 stT_67_5 stT_99_0 stT_99_1 strT_160 strT_76 strT_9 zeroT_112 zeroT_138 zeroT_153 zeroT_157 zeroT_160 zeroT_161 zeroT_188 zeroT_27 zeroT_3 zeroT_30 zeroT_34 zeroT_4 zeroT_49 zeroT_54 zeroT_56 zeroT_65 zeroT_67 zeroT_76 zeroT_90 zeroT_99
attribute [local go_sem] cellsI_fzL cellsI_uptoL List.getElem?_cons_zero List.getElem?_cons_succ List.zip_cons_cons List.zip_nil_left List.zip_nil_right Bool.false_and Bool.and_false cellsG_length polyA_length discA_length agEq_cells cellsI_isI cellsI_length cellsI_sc cellsI_cl cellsI_rows cellsI_take cellsI_dropD cellsI_set cellsI_full encI_length encI_getD List.length_set List.length_replicate List.all_cons List.all_nil outA_length eachA_length outM_length getD_set_same List.set_set spl_nil0 spl_cons0 spl_succ encP_length encP_getD
attribute [local simp] encP_length padP_length encI_length
theorem ca54 (p : Pl) : CallsA Try.prog 133 [.agg [.int .i64 p.x, .int .i64 p.y]] (.bool (onMap p)) := by
 have hq : True := trivial
 refine callsA_of_tr Try.func133 rfl (Nat.le_of_ble_eq_true rfl) ?_
 simp only [Try.results133, envOf, Nat.reduceAdd]
 refine tr_seq fun K1 hK1 => ?_
 refine tr_region [1] rfl rfl fun K hK => ?_
 iterate 2 refine evR_p ?_
 refine evR_e hK ?_; clear hK K
 refine hK1 _ ?_
 refine tr_seq fun K2 hK2 => ?_
 refine tr_region [2] rfl rfl fun K hK => ?_
 iterate 4 refine evR_p ?_
 iterate 3 refine evR_g ?_
 iterate 2 refine evR_p ?_
 iterate 3 refine evR_g ?_
 iterate 2 refine evR_p ?_
 iterate 3 refine evR_g ?_
 iterate 2 refine evR_p ?_
 refine evR_e hK ?_; clear hK K
 refine hK2 _ ?_
 refine tr_ret ?_
 (try simp only [thenE, inBlkE])
 simp (maxSteps := 4000000) (disch := first | assumption | omega | (simp only [go_sem, *]; done) | (simp only [go_sem, *]; omega)) only [postA, postO, resV1, fzAll, go_sem, hq, Int.reduceToNat, Nat.reduceBEq, Nat.reduceEqDiff, Nat.reduceAdd, Nat.reduceMul, Nat.reduceLeDiff, Nat.reduceLT, Nat.reduceSub, ↓reduceIte, reduceCtorEq]
 all_goals ((simp [onMap_iff]))

theorem ca34 (l : List Pl) (hm : l.length ≤ maxLen) : CallsA Try.prog 134 [.sl 2 (encP l)] (.bool (validP l)) := by
 unfold maxLen at hm
 have hq : True := trivial
 refine callsA_of_tr Try.func134 rfl (Nat.le_of_ble_eq_true rfl) ?_
 simp only [Try.results134, envOf, Nat.reduceAdd]
 refine tr_seq fun K1 hK1 => ?_
 refine tr_region [0] rfl rfl fun K hK => ?_
 refine evR_p ?_
 refine evR_e hK ?_; clear hK K
 refine hK1 _ ?_
 refine tr_seq fun K2 hK2 => ?_
 refine tr_seq fun K3 hK3 => ?_
 refine tr_region [0, 11] rfl rfl fun K hK => ?_
 iterate 4 refine evR_p ?_
 iterate 3 refine evR_g ?_
 refine evR_p ?_
 refine evR_e hK ?_; clear hK K
 refine hK3 _ ?_
 refine tr_condB (fun ht1 => ?_) (fun ht1 => ?_)
 ·
  skip
  refine tr_seq fun K4 hK4 => ?_
  refine tr_region [2] rfl rfl fun K hK => ?_
  refine evR_p ?_
  refine evR_e hK ?_; clear hK K
  refine hK4 _ ?_
  refine tr_ret ?_
  (try simp only [thenE, inBlkE])
  simp (maxSteps := 4000000) (disch := first | assumption | omega | (simp only [go_sem, *]; done) | (simp only [go_sem, *]; omega)) only [postA, postO, resV1, fzAll, go_sem, hq, Int.reduceToNat, Nat.reduceBEq, Nat.reduceEqDiff, Nat.reduceAdd, Nat.reduceMul, Nat.reduceLeDiff, Nat.reduceLT, Nat.reduceSub, ↓reduceIte, reduceCtorEq]
  all_goals ((first | (rw [poly_len_bad (by assumption)]; done) | (rw [poly_el_bad hil (by assumption)]; done) | (rw [poly_ok (by assumption) hall]; done)))
 ·
  skip
  refine tr_skip ?_
  (try simp only [thenE, inBlkE])
  refine hK2 _ ?_
  refine tr_seq fun K5 hK5 => ?_
  refine tr_seq fun K6 hK6 => ?_
  refine tr_region [0, 3] rfl rfl fun K hK => ?_
  refine evR_p ?_
  refine evR_e hK ?_; clear hK K
  refine hK6 _ ?_
  refine tr_block ?_
  -- loop 1: live [0, 3]
  refine tr_loopW (fun m σ => ∃ i, i + m = l.length ∧ (∀ j, j < i → onMap (l.getD j ⟨0, 0⟩) = true) ∧ σ = ⟨[(0, .sl 2 (encP l)), (3, .int .i64 (i : Nat))], [], 0⟩) (l.length) ?_ ?_
  ·
   exact ⟨_, Wk.refl _, 0, by omega, (by intro j hj; omega), rfl⟩
  ·
   rintro m σ ⟨i, hi, hall, rfl⟩ KL1 hKL1
   refine tr_seq fun K7 hK7 => ?_
   refine tr_seq fun K8 hK8 => ?_
   refine tr_region [0, 3, 15] rfl rfl fun K hK => ?_
   iterate 4 refine evR_p ?_
   refine evR_e hK ?_; clear hK K
   refine hK8 _ ?_
   refine tr_condB (fun ht2 => ?_) (fun ht2 => ?_)
   ·
    skip
    have hil : i < l.length := by omega
    replace hq := And.intro hq (hil)
    refine tr_skip ?_
    (try simp only [thenE, inBlkE])
    refine hK7 _ ?_
    refine tr_seq fun K9 hK9 => ?_
    refine tr_block ?_
    refine tr_seq fun K10 hK10 => ?_
    refine tr_region [0, 3, 23] rfl rfl fun K hK => ?_
    iterate 4 refine evR_p ?_
    refine evR_c (hc := (ca54 _)) (k := ?_)
    refine evR_p ?_
    refine evR_e hK ?_; clear hK K
    refine hK10 _ ?_
    refine tr_condB (fun ht3 => ?_) (fun ht3 => ?_)
    ·
     skip
     refine tr_seq fun K11 hK11 => ?_
     refine tr_region [2] rfl rfl fun K hK => ?_
     refine evR_p ?_
     refine evR_e hK ?_; clear hK K
     refine hK11 _ ?_
     refine tr_ret ?_
     (try simp only [thenE, inBlkE])
     simp (maxSteps := 4000000) (disch := first | assumption | omega | (simp only [go_sem, *]; done) | (simp only [go_sem, *]; omega)) only [postA, postO, resV1, fzAll, go_sem, hq, Int.reduceToNat, Nat.reduceBEq, Nat.reduceEqDiff, Nat.reduceAdd, Nat.reduceMul, Nat.reduceLeDiff, Nat.reduceLT, Nat.reduceSub, ↓reduceIte, reduceCtorEq]
     all_goals ((first | (rw [poly_len_bad (by assumption)]; done) | (rw [poly_el_bad hil (by assumption)]; done) | (rw [poly_ok (by assumption) hall]; done)))
    ·
     skip
     refine tr_skip ?_
     (try simp only [thenE, inBlkE])
     refine hK9 _ ?_
     refine tr_region [0, 3] rfl rfl fun K hK => ?_
     iterate 3 refine evR_p ?_
     refine evR_e hK ?_; clear hK K
     refine hKL1 _ ?_
     exact ⟨m - 1, _, by omega, Wk.refl _, i + 1, by omega, (by intro j hj; rcases Nat.lt_or_ge j i with h | h; exact hall j h; obtain rfl : j = i := (by omega); assumption), by rw [w64 (x := (i : Int) + 1) (by omega)]; rfl⟩
   ·
    skip
    have hil : i = l.length := by omega
    subst hil
    refine tr_exit ?_
    simp only [thenE, inBlkE, Nat.reduceEqDiff, ↓reduceIte]
    refine hK5 _ ?_
    refine tr_seq fun K12 hK12 => ?_
    refine tr_region [2] rfl rfl fun K hK => ?_
    refine evR_p ?_
    refine evR_e hK ?_; clear hK K
    refine hK12 _ ?_
    refine tr_ret ?_
    (try simp only [thenE, inBlkE])
    simp (maxSteps := 4000000) (disch := first | assumption | omega | (simp only [go_sem, *]; done) | (simp only [go_sem, *]; omega)) only [postA, postO, resV1, fzAll, go_sem, hq, Int.reduceToNat, Nat.reduceBEq, Nat.reduceEqDiff, Nat.reduceAdd, Nat.reduceMul, Nat.reduceLeDiff, Nat.reduceLT, Nat.reduceSub, ↓reduceIte, reduceCtorEq]
    all_goals ((first | (rw [poly_len_bad (by assumption)]; done) | (rw [poly_el_bad hil (by assumption)]; done) | (rw [poly_ok (by assumption) hall]; done)))

theorem ca38 (p : Pl) (r : Int) : CallsA Try.prog 87 [.agg [.int .i64 p.x, .int .i64 p.y], .int .i64 r] (.tup [.agg (cellsI (discA p r).1), .int .i64 (discA p r).2]) := by
 have hq : True := trivial
 refine callsA_of_tr Try.func87 rfl (Nat.le_of_ble_eq_true rfl) ?_
 simp only [Try.results87, envOf, Nat.reduceAdd]
 refine tr_seq fun K1 hK1 => ?_
 refine tr_region [1, 2, 4] rfl rfl fun K hK => ?_
 iterate 3 refine evR_p ?_
 refine evR_e hK ?_; clear hK K
 refine hK1 _ ?_
 refine tr_seq fun K2 hK2 => ?_
 refine tr_region [1, 2, 4, 6] rfl rfl fun K hK => ?_
 refine evR_p ?_
 refine evR_e hK ?_; clear hK K
 refine hK2 _ ?_
 refine tr_seq fun K3 hK3 => ?_
 refine tr_seq fun K4 hK4 => ?_
 refine tr_region [1, 2, 4, 6, 20] rfl rfl fun K hK => ?_
 refine evR_p ?_
 refine evR_c (hc := (ca54 p)) (k := ?_)
 iterate 2 refine evR_p ?_
 iterate 2 refine evR_g ?_
 iterate 2 refine evR_p ?_
 iterate 2 refine evR_g ?_
 refine evR_p ?_
 refine evR_e hK ?_; clear hK K
 refine hK4 _ ?_
 refine tr_condB (fun ht1 => ?_) (fun ht1 => ?_)
 ·
  skip
  refine tr_seq fun K5 hK5 => ?_
  refine tr_region [4, 5] rfl rfl fun K hK => ?_
  iterate 3 refine evR_p ?_
  refine evR_e hK ?_; clear hK K
  refine hK5 _ ?_
  refine tr_ret ?_
  (try simp only [thenE, inBlkE])
  simp (maxSteps := 4000000) (disch := first | assumption | omega | (simp only [go_sem, *]; done) | (simp only [go_sem, *]; omega)) only [postA, postO, resV1, fzAll, go_sem, hq, Int.reduceToNat, Nat.reduceBEq, Nat.reduceEqDiff, Nat.reduceAdd, Nat.reduceMul, Nat.reduceLeDiff, Nat.reduceLT, Nat.reduceSub, ↓reduceIte, reduceCtorEq]
  all_goals ((first | (rw [discA_bad (by assumption)]; simp [zeros16]; done) | (rw [discA_ok (by simp_all) (by omega) (by omega)]; done) | (rw [discA_ok (by simp_all) (by omega) (by omega)]; simp [cellsG]; done)))
 ·
  skip
  refine tr_skip ?_
  (try simp only [thenE, inBlkE])
  refine hK3 _ ?_
  refine tr_seq fun K6 hK6 => ?_
  refine tr_seq fun K7 hK7 => ?_
  refine tr_region [1, 2, 4, 6, 7] rfl rfl fun K hK => ?_
  refine evR_p ?_
  refine evR_e hK ?_; clear hK K
  refine hK7 _ ?_
  refine tr_block ?_
  -- loop 1: live [1, 2, 4, 6, 7]
  refine tr_loopW (fun m σ => ∃ y : Nat, y + m = 16 ∧ σ = ⟨[(1, .int .i64 r), (2, .ptr 0 0), (4, .ptr 1 0), (6, .ptr 2 0), (7, .int .i64 y)], [(2, .cells (cellsI (outA (fun j => rowG (fun x y => nearR (ctr x y) p r) j 16) y))), (1, .cells (cellsI (List.replicate 16 0))), (0, .cells [.int .i64 p.x, .int .i64 p.y])], 3⟩) (16) ?_ ?_
  ·
   exact ⟨_, Wk.refl _, 0, by omega, by rw [outA_zero]; rfl⟩
  ·
   rintro m σ ⟨y, hi, rfl⟩ KL1 hKL1
   refine tr_seq fun K8 hK8 => ?_
   refine tr_seq fun K9 hK9 => ?_
   refine tr_region [1, 2, 4, 6, 7, 23] rfl rfl fun K hK => ?_
   iterate 2 refine evR_p ?_
   refine evR_e hK ?_; clear hK K
   refine hK9 _ ?_
   refine tr_condB (fun ht2 => ?_) (fun ht2 => ?_)
   ·
    skip
    have hil : y < 16 := by omega
    refine tr_skip ?_
    (try simp only [thenE, inBlkE])
    refine hK8 _ ?_
    refine tr_seq fun K10 hK10 => ?_
    refine tr_block ?_
    refine tr_seq fun K11 hK11 => ?_
    refine tr_region [1, 2, 4, 6, 7, 8] rfl rfl fun K hK => ?_
    refine evR_p ?_
    refine evR_e hK ?_; clear hK K
    refine hK11 _ ?_
    refine tr_block ?_
    -- loop 2: live [1, 2, 4, 6, 7, 8]
    refine tr_loopW (fun m σ => ∃ x : Nat, x + m = 16 ∧ σ = ⟨[(1, .int .i64 r), (2, .ptr 0 0), (4, .ptr 1 0), (6, .ptr 2 0), (7, .int .i64 y), (8, .int .i64 x)], [(2, .cells (cellsI ((outA (fun j => rowG (fun x y => nearR (ctr x y) p r) j 16) y).set y (rowG (fun x y => nearR (ctr x y) p r) y x)))), (1, .cells (cellsI (List.replicate 16 0))), (0, .cells [.int .i64 p.x, .int .i64 p.y])], 3⟩) (16) ?_ ?_
    ·
     exact ⟨_, Wk.refl _, 0, by omega, by rw [outR_zero (fun x y => nearR (ctr x y) p r) hil]; rfl⟩
    ·
     rintro m2 σ ⟨x, hx, rfl⟩ KL2 hKL2
     refine tr_seq fun K12 hK12 => ?_
     refine tr_seq fun K13 hK13 => ?_
     refine tr_region [1, 2, 4, 6, 7, 8, 27] rfl rfl fun K hK => ?_
     iterate 2 refine evR_p ?_
     refine evR_e hK ?_; clear hK K
     refine hK13 _ ?_
     refine tr_condB (fun ht3 => ?_) (fun ht3 => ?_)
     ·
      skip
      have hxl : x < 16 := by omega
      have hw := near_wrap (q := ctr x y) (p := p) (r := r) (ctr_on hxl hil) (by simp_all) (by omega) (by omega)
      refine tr_skip ?_
      (try simp only [thenE, inBlkE])
      refine hK12 _ ?_
      refine tr_seq fun K14 hK14 => ?_
      refine tr_block ?_
      refine tr_seq fun K15 hK15 => ?_
      refine tr_region [1, 2, 4, 6, 7, 8, 9] rfl rfl fun K hK => ?_
      iterate 2 refine evR_p ?_
      refine evR_c (hc := (ca39 _ _ (by omega) (by omega))) (k := ?_)
      iterate 2 refine evR_p ?_
      refine evR_e hK ?_; clear hK K
      refine hK15 _ ?_
      refine tr_seq fun K16 hK16 => ?_
      refine tr_region [1, 2, 4, 6, 7, 8, 59] rfl rfl fun K hK => ?_
      iterate 27 refine evR_p ?_
      refine evR_e hK ?_; clear hK K
      refine hK16 _ ?_
      refine tr_condB (fun ht4 => ?_) (fun ht4 => ?_)
      ·
       skip
       refine tr_draw [] [1, 2, 4, 6, 7, 8] mixed rfl (by kernel_rfl) rfl fun K hK => ?_
       iterate 9 refine evD_p ?_
       refine evD_e hK ?_; clear hK K
       refine hK14 _ ?_
       refine tr_region [1, 2, 4, 6, 7, 8] rfl rfl fun K hK => ?_
       iterate 3 refine evR_p ?_
       refine evR_e hK ?_; clear hK K
       refine hKL2 _ ?_
       first
        | exact ⟨m2 - 1, _, by omega, Wk.cut 3 (by simp [St.cutOK, AObj.upto, V.upto, V.uptoL, cellsI_uptoL]), x + 1, by omega, by rw [w64 (x := (x : Int) + 1) (by omega), rowG_add (fun x y => nearR (ctr x y) p r) hxl (by first | exact hw.symm.trans (decide_eq_true ht4) | exact hw.symm.trans (decide_eq_false ht4))]; rfl⟩
        | exact ⟨m2 - 1, _, by omega, Wk.cut 3 (by simp [St.cutOK, AObj.upto, V.upto, V.uptoL, cellsI_uptoL]), x + 1, by omega, by rw [w64 (x := (x : Int) + 1) (by omega), rowG_skip (fun x y => nearR (ctr x y) p r) (by first | exact hw.symm.trans (decide_eq_true ht4) | exact hw.symm.trans (decide_eq_false ht4))]; rfl⟩
      ·
       skip
       refine tr_skip ?_
       (try simp only [thenE, inBlkE])
       refine hK14 _ ?_
       refine tr_region [1, 2, 4, 6, 7, 8] rfl rfl fun K hK => ?_
       iterate 3 refine evR_p ?_
       refine evR_e hK ?_; clear hK K
       refine hKL2 _ ?_
       first
        | exact ⟨m2 - 1, _, by omega, Wk.cut 3 (by simp [St.cutOK, AObj.upto, V.upto, V.uptoL, cellsI_uptoL]), x + 1, by omega, by rw [w64 (x := (x : Int) + 1) (by omega), rowG_add (fun x y => nearR (ctr x y) p r) hxl (by first | exact hw.symm.trans (decide_eq_true ht4) | exact hw.symm.trans (decide_eq_false ht4))]; rfl⟩
        | exact ⟨m2 - 1, _, by omega, Wk.cut 3 (by simp [St.cutOK, AObj.upto, V.upto, V.uptoL, cellsI_uptoL]), x + 1, by omega, by rw [w64 (x := (x : Int) + 1) (by omega), rowG_skip (fun x y => nearR (ctr x y) p r) (by first | exact hw.symm.trans (decide_eq_true ht4) | exact hw.symm.trans (decide_eq_false ht4))]; rfl⟩
     ·
      skip
      have hxl : x = 16 := by omega
      subst hxl
      refine tr_exit ?_
      simp only [thenE, inBlkE, Nat.reduceEqDiff, ↓reduceIte]
      refine hK10 _ ?_
      refine tr_region [1, 2, 4, 6, 7] rfl rfl fun K hK => ?_
      iterate 3 refine evR_p ?_
      refine evR_e hK ?_; clear hK K
      refine hKL1 _ ?_
      exact ⟨m - 1, _, by omega, Wk.refl _, y + 1, by omega, by rw [w64 (x := (y : Int) + 1) (by omega), outA_set (fun j => rowG (fun x y => nearR (ctr x y) p r) j 16) hil]; rfl⟩
   ·
    skip
    have hil : y = 16 := by omega
    subst hil
    refine tr_exit ?_
    simp only [thenE, inBlkE, Nat.reduceEqDiff, ↓reduceIte]
    refine hK6 _ ?_
    refine tr_seq fun K17 hK17 => ?_
    refine tr_region [4, 5] rfl rfl fun K hK => ?_
    iterate 3 refine evR_p ?_
    refine evR_e hK ?_; clear hK K
    refine hK17 _ ?_
    refine tr_ret ?_
    (try simp only [thenE, inBlkE])
    simp (maxSteps := 4000000) (disch := first | assumption | omega | (simp only [go_sem, *]; done) | (simp only [go_sem, *]; omega)) only [postA, postO, resV1, fzAll, go_sem, hq, Int.reduceToNat, Nat.reduceBEq, Nat.reduceEqDiff, Nat.reduceAdd, Nat.reduceMul, Nat.reduceLeDiff, Nat.reduceLT, Nat.reduceSub, ↓reduceIte, reduceCtorEq]
    all_goals ((first | (rw [discA_bad (by assumption)]; simp [zeros16]; done) | (rw [discA_ok (by simp_all) (by omega) (by omega)]; done) | (rw [discA_ok (by simp_all) (by omega) (by omega)]; simp [cellsG]; done)))

theorem ca55 (a b p : Pl) (ha : onMap a = true) (hb : onMap b = true) (hp : onMap p = true) : CallsA Try.prog 156 [.agg [.int .i64 a.x, .int .i64 a.y], .agg [.int .i64 b.x, .int .i64 b.y], .agg [.int .i64 p.x, .int .i64 p.y]] (.bool (hitP a b p)) := by
 have ka := onMap_spec ha
 have kb := onMap_spec hb
 have kp := onMap_spec hp
 have hwa : IntKind.i64.wrap (IntKind.i64.wrap (b.x - a.x) * IntKind.i64.wrap (p.y - a.y)) = (b.x - a.x) * (p.y - a.y) := mulA (by omega) (by omega) (by omega) (by omega)
 have hwb : IntKind.i64.wrap (IntKind.i64.wrap (b.y - a.y) * IntKind.i64.wrap (p.x - a.x)) = (b.y - a.y) * (p.x - a.x) := mulA (by omega) (by omega) (by omega) (by omega)
 have hq := And.intro hwa (hwb)
 refine callsA_of_tr Try.func156 rfl (Nat.le_of_ble_eq_true rfl) ?_
 simp only [Try.results156, envOf, Nat.reduceAdd]
 refine tr_seq fun K1 hK1 => ?_
 refine tr_region [3, 4, 5] rfl rfl fun K hK => ?_
 iterate 4 refine evR_p ?_
 refine evR_e hK ?_; clear hK K
 refine hK1 _ ?_
 refine tr_seq fun K2 hK2 => ?_
 refine tr_seq fun K3 hK3 => ?_
 refine tr_region [3, 4, 5, 29] rfl rfl fun K hK => ?_
 iterate 23 refine evR_p ?_
 refine evR_e hK ?_; clear hK K
 refine hK3 _ ?_
 refine tr_condB (fun ht1 => ?_) (fun ht1 => ?_)
 ·
  skip
  refine tr_seq fun K4 hK4 => ?_
  refine tr_region [6] rfl rfl fun K hK => ?_
  refine evR_p ?_
  refine evR_e hK ?_; clear hK K
  refine hK4 _ ?_
  refine tr_ret ?_
  (try simp only [thenE, inBlkE])
  simp (maxSteps := 4000000) (disch := first | assumption | omega | (simp only [go_sem, *]; done) | (simp only [go_sem, *]; omega)) only [postA, postO, resV1, fzAll, go_sem, hq, Int.reduceToNat, Nat.reduceBEq, Nat.reduceEqDiff, Nat.reduceAdd, Nat.reduceMul, Nat.reduceLeDiff, Nat.reduceLT, Nat.reduceSub, ↓reduceIte, reduceCtorEq]
  all_goals (first | (have ht : ¬ turnP a b p = 0 := (by unfold turnP; omega); simp [hitP, ht]; done) | (have ht : turnP a b p = 0 := (by unfold turnP; omega); simp [hitP, nearP, ht]; done))
 ·
  skip
  refine tr_skip ?_
  (try simp only [thenE, inBlkE])
  refine hK2 _ ?_
  refine tr_seq fun K5 hK5 => ?_
  refine tr_region [6] rfl rfl fun K hK => ?_
  iterate 9 refine evR_p ?_
  iterate 8 refine evR_g ?_
  iterate 2 refine evR_p ?_
  iterate 8 refine evR_g ?_
  iterate 2 refine evR_p ?_
  iterate 8 refine evR_g ?_
  iterate 2 refine evR_p ?_
  refine evR_e hK ?_; clear hK K
  refine hK5 _ ?_
  refine tr_ret ?_
  (try simp only [thenE, inBlkE])
  simp (maxSteps := 4000000) (disch := first | assumption | omega | (simp only [go_sem, *]; done) | (simp only [go_sem, *]; omega)) only [postA, postO, resV1, fzAll, go_sem, hq, Int.reduceToNat, Nat.reduceBEq, Nat.reduceEqDiff, Nat.reduceAdd, Nat.reduceMul, Nat.reduceLeDiff, Nat.reduceLT, Nat.reduceSub, ↓reduceIte, reduceCtorEq]
  all_goals (first | (have ht : ¬ turnP a b p = 0 := (by unfold turnP; omega); simp [hitP, ht]; done) | (have ht : turnP a b p = 0 := (by unfold turnP; omega); simp [hitP, nearP, ht]; done))

theorem ca56 (a b p : Pl) (ha : onMap a = true) (hb : onMap b = true) (hp : onMap p = true) : CallsA Try.prog 157 [.agg [.int .i64 a.x, .int .i64 a.y], .agg [.int .i64 b.x, .int .i64 b.y], .agg [.int .i64 p.x, .int .i64 p.y]] (.bool (crossP a b p)) := by
 have ka := onMap_spec ha
 have kb := onMap_spec hb
 have kp := onMap_spec hp
 have hw1 : IntKind.i64.wrap (b.y - a.y) = b.y - a.y := w64 (by omega)
 have hw2 : IntKind.i64.wrap (p.y - a.y) = p.y - a.y := w64 (by omega)
 have hw3 : IntKind.i64.wrap (b.x - a.x) = b.x - a.x := w64 (by omega)
 have m1 := mulB (u := a.x) (v := b.y - a.y) (by omega) (by omega) (by omega) (by omega)
 have m2 := mulB (u := p.y - a.y) (v := b.x - a.x) (by omega) (by omega) (by omega) (by omega)
 have hw4 : IntKind.i64.wrap (a.x * (b.y - a.y)) = a.x * (b.y - a.y) := w64 (by omega)
 have hw5 : IntKind.i64.wrap ((p.y - a.y) * (b.x - a.x)) = (p.y - a.y) * (b.x - a.x) := w64 (by omega)
 have hw6 : IntKind.i64.wrap (a.x * (b.y - a.y) + (p.y - a.y) * (b.x - a.x)) = meetsN a b p := w64 (by omega)
 have hw7 : IntKind.i64.wrap (p.x * (b.y - a.y)) = p.x * (b.y - a.y) := mulW1 (by omega) (by omega) (by omega) (by omega)
 have hq := And.intro hw1 (And.intro hw2 (And.intro hw3 (And.intro hw4 (And.intro hw5 (And.intro hw6 (hw7))))))
 refine callsA_of_tr Try.func157 rfl (Nat.le_of_ble_eq_true rfl) ?_
 simp only [Try.results157, envOf, Nat.reduceAdd]
 refine tr_seq fun K1 hK1 => ?_
 refine tr_region [3, 4, 5] rfl rfl fun K hK => ?_
 iterate 4 refine evR_p ?_
 refine evR_e hK ?_; clear hK K
 refine hK1 _ ?_
 refine tr_seq fun K2 hK2 => ?_
 refine tr_seq fun K3 hK3 => ?_
 refine tr_region [3, 4, 5, 19] rfl rfl fun K hK => ?_
 iterate 11 refine evR_p ?_
 refine evR_e hK ?_; clear hK K
 refine hK3 _ ?_
 refine tr_condB (fun ht1 => ?_) (fun ht1 => ?_)
 ·
  skip
  refine tr_seq fun K4 hK4 => ?_
  refine tr_region [6] rfl rfl fun K hK => ?_
  refine evR_p ?_
  refine evR_e hK ?_; clear hK K
  refine hK4 _ ?_
  refine tr_ret ?_
  (try simp only [thenE, inBlkE])
  simp (maxSteps := 4000000) (disch := first | assumption | omega | (simp only [go_sem, *]; done) | (simp only [go_sem, *]; omega)) only [postA, postO, resV1, fzAll, go_sem, hq, Int.reduceToNat, Nat.reduceBEq, Nat.reduceEqDiff, Nat.reduceAdd, Nat.reduceMul, Nat.reduceLeDiff, Nat.reduceLT, Nat.reduceSub, ↓reduceIte, reduceCtorEq]
  all_goals ((rw [cross_some]; first | (simp only [bne, ht1, Bool.not_true, Bool.false_and]; done) | (simp only [bne, ht1, Bool.not_false, Bool.true_and, if_pos ht2]; done) | (simp only [bne, ht1, Bool.not_false, Bool.true_and, if_neg ht2]; done)))
 ·
  skip
  refine tr_skip ?_
  (try simp only [thenE, inBlkE])
  refine hK2 _ ?_
  refine tr_seq fun K5 hK5 => ?_
  refine tr_region [3, 4, 5, 7] rfl rfl fun K hK => ?_
  iterate 6 refine evR_p ?_
  refine evR_e hK ?_; clear hK K
  refine hK5 _ ?_
  refine tr_seq fun K6 hK6 => ?_
  refine tr_region [5, 7, 8] rfl rfl fun K hK => ?_
  iterate 17 refine evR_p ?_
  refine evR_e hK ?_; clear hK K
  refine hK6 _ ?_
  refine tr_seq fun K7 hK7 => ?_
  refine tr_seq fun K8 hK8 => ?_
  refine tr_region [5, 7, 8, 42] rfl rfl fun K hK => ?_
  iterate 2 refine evR_p ?_
  refine evR_e hK ?_; clear hK K
  refine hK8 _ ?_
  refine tr_condB (fun ht2 => ?_) (fun ht2 => ?_)
  ·
   skip
   refine tr_seq fun K9 hK9 => ?_
   refine tr_region [6] rfl rfl fun K hK => ?_
   iterate 7 refine evR_p ?_
   refine evR_e hK ?_; clear hK K
   refine hK9 _ ?_
   refine tr_ret ?_
   (try simp only [thenE, inBlkE])
   simp (maxSteps := 4000000) (disch := first | assumption | omega | (simp only [go_sem, *]; done) | (simp only [go_sem, *]; omega)) only [postA, postO, resV1, fzAll, go_sem, hq, Int.reduceToNat, Nat.reduceBEq, Nat.reduceEqDiff, Nat.reduceAdd, Nat.reduceMul, Nat.reduceLeDiff, Nat.reduceLT, Nat.reduceSub, ↓reduceIte, reduceCtorEq]
   all_goals ((rw [cross_some]; first | (simp only [bne, ht1, Bool.not_true, Bool.false_and]; done) | (simp only [bne, ht1, Bool.not_false, Bool.true_and, if_pos ht2]; done) | (simp only [bne, ht1, Bool.not_false, Bool.true_and, if_neg ht2]; done)))
  ·
   skip
   refine tr_skip ?_
   (try simp only [thenE, inBlkE])
   refine hK7 _ ?_
   refine tr_seq fun K10 hK10 => ?_
   refine tr_region [6] rfl rfl fun K hK => ?_
   iterate 7 refine evR_p ?_
   refine evR_e hK ?_; clear hK K
   refine hK10 _ ?_
   refine tr_ret ?_
   (try simp only [thenE, inBlkE])
   simp (maxSteps := 4000000) (disch := first | assumption | omega | (simp only [go_sem, *]; done) | (simp only [go_sem, *]; omega)) only [postA, postO, resV1, fzAll, go_sem, hq, Int.reduceToNat, Nat.reduceBEq, Nat.reduceEqDiff, Nat.reduceAdd, Nat.reduceMul, Nat.reduceLeDiff, Nat.reduceLT, Nat.reduceSub, ↓reduceIte, reduceCtorEq]
   all_goals ((rw [cross_some]; first | (simp only [bne, ht1, Bool.not_true, Bool.false_and]; done) | (simp only [bne, ht1, Bool.not_false, Bool.true_and, if_pos ht2]; done) | (simp only [bne, ht1, Bool.not_false, Bool.true_and, if_neg ht2]; done)))

theorem ca36 (l : List Pl) (p : Pl) (hm : l.length ≤ maxLen) : CallsA Try.prog 135 [.sl 2 (encP l), .agg [.int .i64 p.x, .int .i64 p.y]] (.int .i64 (insideP l p)) := by
 have hq : True := trivial
 refine callsA_of_tr Try.func135 rfl (Nat.le_of_ble_eq_true rfl) ?_
 simp only [Try.results135, envOf, Nat.reduceAdd]
 refine tr_seq fun K1 hK1 => ?_
 refine tr_region [0, 3] rfl rfl fun K hK => ?_
 iterate 2 refine evR_p ?_
 refine evR_e hK ?_; clear hK K
 refine hK1 _ ?_
 refine tr_seq fun K2 hK2 => ?_
 refine tr_seq fun K3 hK3 => ?_
 refine tr_region [0, 3, 16] rfl rfl fun K hK => ?_
 refine evR_p ?_
 refine evR_c (hc := (ca34 l hm)) (k := ?_)
 iterate 2 refine evR_p ?_
 refine evR_g ?_
 refine evR_gc (hc := (ca54 p)) (k := ?_)
 refine evR_g ?_
 refine evR_p ?_
 refine evR_e hK ?_; clear hK K
 refine hK3 _ ?_
 refine tr_condB (fun ht1 => ?_) (fun ht1 => ?_)
 ·
  skip
  refine tr_seq fun K4 hK4 => ?_
  refine tr_region [4] rfl rfl fun K hK => ?_
  refine evR_p ?_
  refine evR_e hK ?_; clear hK K
  refine hK4 _ ?_
  refine tr_ret ?_
  (try simp only [thenE, inBlkE])
  simp (maxSteps := 4000000) (disch := first | assumption | omega | (simp only [go_sem, *]; done) | (simp only [go_sem, *]; omega)) only [postA, postO, resV1, fzAll, go_sem, hq, Int.reduceToNat, Nat.reduceBEq, Nat.reduceEqDiff, Nat.reduceAdd, Nat.reduceMul, Nat.reduceLeDiff, Nat.reduceLT, Nat.reduceSub, ↓reduceIte, reduceCtorEq]
  all_goals ((first | (rw [inside_bad (by assumption)]; done) | (rw [inside_hit ht1.1 ht1.2 hil (by assumption)]; done) | (rw [inside_wrap ht1.1 ht1.2 hall]; done)))
 ·
  skip
  refine tr_skip ?_
  (try simp only [thenE, inBlkE])
  refine hK2 _ ?_
  refine tr_seq fun K5 hK5 => ?_
  refine tr_region [0, 3, 5] rfl rfl fun K hK => ?_
  refine evR_p ?_
  refine evR_e hK ?_; clear hK K
  refine hK5 _ ?_
  refine tr_seq fun K6 hK6 => ?_
  refine tr_seq fun K7 hK7 => ?_
  refine tr_region [0, 3, 5, 6] rfl rfl fun K hK => ?_
  refine evR_p ?_
  refine evR_e hK ?_; clear hK K
  refine hK7 _ ?_
  refine tr_block ?_
  -- loop 1: live [0, 3, 5, 6]
  refine tr_loopW (fun m σ => ∃ i, i + m = l.length ∧ (∀ j, j < i → hitP (l.getD j ⟨0, 0⟩) (nextP l j) p = false) ∧ σ = ⟨[(0, .sl 2 (encP l)), (3, .ptr 0 0), (5, .int .i64 ((refE l i).countP (crossE p) : Nat)), (6, .int .i64 (i : Nat))], [(0, .cells [.int .i64 p.x, .int .i64 p.y])], 1⟩) (l.length) ?_ ?_
  ·
   exact ⟨_, Wk.refl _, 0, by omega, (by intro j hj; omega), rfl⟩
  ·
   rintro m σ ⟨i, hi, hall, rfl⟩ KL1 hKL1
   refine tr_seq fun K8 hK8 => ?_
   refine tr_seq fun K9 hK9 => ?_
   refine tr_region [0, 3, 5, 6, 20] rfl rfl fun K hK => ?_
   iterate 4 refine evR_p ?_
   refine evR_e hK ?_; clear hK K
   refine hK9 _ ?_
   refine tr_condB (fun ht2 => ?_) (fun ht2 => ?_)
   ·
    skip
    have hil : i < l.length := by omega
    have hvl := validP_len ht1.1
    have hao : onMap (l.getD i ⟨0, 0⟩) = true := hvl.2.2 _ (getD_mem hil)
    have hml : (i + 1) % l.length < l.length := Nat.mod_lt _ (by omega)
    have hbo : onMap (nextP l i) = true := hvl.2.2 _ (getD_mem hml)
    have hw1 : IntKind.i64.wrap ((i : Int) + 1) = ((i + 1 : Nat) : Int) := w64 (by omega)
    have hw2 : (((i + 1 : Nat) : Int)).tmod (l.length : Int) = (((i + 1) % l.length : Nat) : Int) := rfl
    have hcl := refE_count_le l p i
    have hw3 : IntKind.i64.wrap (((refE l i).countP (crossE p) : Nat) + 1 : Int) = (((refE l i).countP (crossE p) + 1 : Nat) : Int) := w64 (by omega)
    replace hq := And.intro hq (And.intro hil (And.intro hw1 (And.intro hw2 (And.intro hw3 (hml)))))
    refine tr_skip ?_
    (try simp only [thenE, inBlkE])
    refine hK8 _ ?_
    refine tr_seq fun K10 hK10 => ?_
    refine tr_block ?_
    refine tr_seq fun K11 hK11 => ?_
    refine tr_region [0, 3, 5, 6, 7] rfl rfl fun K hK => ?_
    iterate 6 refine evR_p ?_
    refine evR_e hK ?_; clear hK K
    refine hK11 _ ?_
    refine tr_seq fun K12 hK12 => ?_
    refine tr_region [0, 3, 5, 6, 7, 8] rfl rfl fun K hK => ?_
    iterate 10 refine evR_p ?_
    refine evR_e hK ?_; clear hK K
    refine hK12 _ ?_
    refine tr_seq fun K13 hK13 => ?_
    refine tr_seq fun K14 hK14 => ?_
    refine tr_region [0, 3, 5, 6, 7, 8, 38] rfl rfl fun K hK => ?_
    iterate 3 refine evR_p ?_
    refine evR_c (hc := (ca55 (l.getD i ⟨0, 0⟩) (nextP l i) p hao hbo ht1.2)) (k := ?_)
    refine evR_e hK ?_; clear hK K
    refine hK14 _ ?_
    refine tr_condB (fun ht3 => ?_) (fun ht3 => ?_)
    ·
     skip
     refine tr_seq fun K15 hK15 => ?_
     refine tr_region [4] rfl rfl fun K hK => ?_
     refine evR_p ?_
     refine evR_e hK ?_; clear hK K
     refine hK15 _ ?_
     refine tr_ret ?_
     (try simp only [thenE, inBlkE])
     simp (maxSteps := 4000000) (disch := first | assumption | omega | (simp only [go_sem, *]; done) | (simp only [go_sem, *]; omega)) only [postA, postO, resV1, fzAll, go_sem, hq, Int.reduceToNat, Nat.reduceBEq, Nat.reduceEqDiff, Nat.reduceAdd, Nat.reduceMul, Nat.reduceLeDiff, Nat.reduceLT, Nat.reduceSub, ↓reduceIte, reduceCtorEq]
     all_goals ((first | (rw [inside_bad (by assumption)]; done) | (rw [inside_hit ht1.1 ht1.2 hil (by assumption)]; done) | (rw [inside_wrap ht1.1 ht1.2 hall]; done)))
    ·
     skip
     refine tr_skip ?_
     (try simp only [thenE, inBlkE])
     refine hK13 _ ?_
     refine tr_seq fun K16 hK16 => ?_
     refine tr_region [0, 3, 5, 6, 42] rfl rfl fun K hK => ?_
     iterate 3 refine evR_p ?_
     refine evR_c (hc := (ca56 (l.getD i ⟨0, 0⟩) (nextP l i) p hao hbo ht1.2)) (k := ?_)
     refine evR_e hK ?_; clear hK K
     refine hK16 _ ?_
     refine tr_condB (fun ht4 => ?_) (fun ht4 => ?_)
     ·
      skip
      refine tr_region [0, 3, 5, 6] rfl rfl fun K hK => ?_
      iterate 3 refine evR_p ?_
      refine evR_e hK ?_; clear hK K
      refine hK10 _ ?_
      refine tr_region [0, 3, 5, 6] rfl rfl fun K hK => ?_
      iterate 3 refine evR_p ?_
      refine evR_e hK ?_; clear hK K
      refine hKL1 _ ?_
      first
       | exact ⟨m - 1, _, by omega, Wk.cut 1 rfl, i + 1, by omega, (by intro j hj; rcases Nat.lt_or_ge j i with h | h; exact hall j h; obtain rfl : j = i := (by omega); assumption), by rw [refE_t (by assumption)]; rfl⟩
       | exact ⟨m - 1, _, by omega, Wk.cut 1 rfl, i + 1, by omega, (by intro j hj; rcases Nat.lt_or_ge j i with h | h; exact hall j h; obtain rfl : j = i := (by omega); assumption), by rw [refE_f (by assumption)]; rfl⟩
     ·
      skip
      refine tr_skip ?_
      (try simp only [thenE, inBlkE])
      refine hK10 _ ?_
      refine tr_region [0, 3, 5, 6] rfl rfl fun K hK => ?_
      iterate 3 refine evR_p ?_
      refine evR_e hK ?_; clear hK K
      refine hKL1 _ ?_
      first
       | exact ⟨m - 1, _, by omega, Wk.cut 1 rfl, i + 1, by omega, (by intro j hj; rcases Nat.lt_or_ge j i with h | h; exact hall j h; obtain rfl : j = i := (by omega); assumption), by rw [refE_t (by assumption)]; rfl⟩
       | exact ⟨m - 1, _, by omega, Wk.cut 1 rfl, i + 1, by omega, (by intro j hj; rcases Nat.lt_or_ge j i with h | h; exact hall j h; obtain rfl : j = i := (by omega); assumption), by rw [refE_f (by assumption)]; rfl⟩
   ·
    skip
    have hil : i = l.length := by omega
    subst hil
    refine tr_exit ?_
    simp only [thenE, inBlkE, Nat.reduceEqDiff, ↓reduceIte]
    refine hK6 _ ?_
    refine tr_seq fun K17 hK17 => ?_
    refine tr_region [4] rfl rfl fun K hK => ?_
    iterate 5 refine evR_p ?_
    refine evR_e hK ?_; clear hK K
    refine hK17 _ ?_
    refine tr_ret ?_
    (try simp only [thenE, inBlkE])
    simp (maxSteps := 4000000) (disch := first | assumption | omega | (simp only [go_sem, *]; done) | (simp only [go_sem, *]; omega)) only [postA, postO, resV1, fzAll, go_sem, hq, Int.reduceToNat, Nat.reduceBEq, Nat.reduceEqDiff, Nat.reduceAdd, Nat.reduceMul, Nat.reduceLeDiff, Nat.reduceLT, Nat.reduceSub, ↓reduceIte, reduceCtorEq]
    all_goals ((first | (rw [inside_bad (by assumption)]; done) | (rw [inside_hit ht1.1 ht1.2 hil (by assumption)]; done) | (rw [inside_wrap ht1.1 ht1.2 hall]; done)))

theorem ca32 (l : List Pl) (hm : l.length ≤ maxLen) : CallsA Try.prog 88 [.sl 2 (encP l)] (.tup [.agg (cellsI (polyA l).1), .int .i64 (polyA l).2]) := by
 have hq : True := trivial
 refine callsA_of_tr Try.func88 rfl (Nat.le_of_ble_eq_true rfl) ?_
 simp only [Try.results88, envOf, Nat.reduceAdd]
 refine tr_seq fun K1 hK1 => ?_
 refine tr_region [0, 2] rfl rfl fun K hK => ?_
 iterate 2 refine evR_p ?_
 refine evR_e hK ?_; clear hK K
 refine hK1 _ ?_
 refine tr_seq fun K2 hK2 => ?_
 refine tr_region [0, 2, 4] rfl rfl fun K hK => ?_
 refine evR_p ?_
 refine evR_e hK ?_; clear hK K
 refine hK2 _ ?_
 refine tr_seq fun K3 hK3 => ?_
 refine tr_seq fun K4 hK4 => ?_
 refine tr_region [0, 2, 4, 9] rfl rfl fun K hK => ?_
 refine evR_p ?_
 refine evR_c (hc := (ca34 l hm)) (k := ?_)
 refine evR_p ?_
 refine evR_e hK ?_; clear hK K
 refine hK4 _ ?_
 refine tr_condB (fun ht1 => ?_) (fun ht1 => ?_)
 ·
  skip
  refine tr_seq fun K5 hK5 => ?_
  refine tr_region [2, 3] rfl rfl fun K hK => ?_
  iterate 3 refine evR_p ?_
  refine evR_e hK ?_; clear hK K
  refine hK5 _ ?_
  refine tr_ret ?_
  (try simp only [thenE, inBlkE])
  simp (maxSteps := 4000000) (disch := first | assumption | omega | (simp only [go_sem, *]; done) | (simp only [go_sem, *]; omega)) only [postA, postO, resV1, fzAll, go_sem, hq, Int.reduceToNat, Nat.reduceBEq, Nat.reduceEqDiff, Nat.reduceAdd, Nat.reduceMul, Nat.reduceLeDiff, Nat.reduceLT, Nat.reduceSub, ↓reduceIte, reduceCtorEq]
  all_goals ((first | (simp_all [polyA, zeros16]; done) | (simp_all [polyA, cellsG]; done)))
 ·
  skip
  refine tr_skip ?_
  (try simp only [thenE, inBlkE])
  refine hK3 _ ?_
  refine tr_seq fun K6 hK6 => ?_
  refine tr_seq fun K7 hK7 => ?_
  refine tr_region [0, 2, 4, 5] rfl rfl fun K hK => ?_
  refine evR_p ?_
  refine evR_e hK ?_; clear hK K
  refine hK7 _ ?_
  refine tr_block ?_
  -- loop 1: live [0, 2, 4, 5]
  refine tr_loopW (fun m σ => ∃ y : Nat, y + m = 16 ∧ σ = ⟨[(0, .sl 2 (encP l)), (2, .ptr 0 0), (4, .ptr 1 0), (5, .int .i64 y)], [(1, .cells (cellsI (outA (fun j => rowG (fun x y => decide (0 ≤ sideP l (ctr x y))) j 16) y))), (0, .cells (cellsI (List.replicate 16 0)))], 2⟩) (16) ?_ ?_
  ·
   exact ⟨_, Wk.refl _, 0, by omega, by rw [outA_zero]; rfl⟩
  ·
   rintro m σ ⟨y, hi, rfl⟩ KL1 hKL1
   refine tr_seq fun K8 hK8 => ?_
   refine tr_seq fun K9 hK9 => ?_
   refine tr_region [0, 2, 4, 5, 12] rfl rfl fun K hK => ?_
   iterate 2 refine evR_p ?_
   refine evR_e hK ?_; clear hK K
   refine hK9 _ ?_
   refine tr_condB (fun ht2 => ?_) (fun ht2 => ?_)
   ·
    skip
    have hil : y < 16 := by omega
    refine tr_skip ?_
    (try simp only [thenE, inBlkE])
    refine hK8 _ ?_
    refine tr_seq fun K10 hK10 => ?_
    refine tr_block ?_
    refine tr_seq fun K11 hK11 => ?_
    refine tr_region [0, 2, 4, 5, 6] rfl rfl fun K hK => ?_
    refine evR_p ?_
    refine evR_e hK ?_; clear hK K
    refine hK11 _ ?_
    refine tr_block ?_
    -- loop 2: live [0, 2, 4, 5, 6]
    refine tr_loopW (fun m σ => ∃ x : Nat, x + m = 16 ∧ σ = ⟨[(0, .sl 2 (encP l)), (2, .ptr 0 0), (4, .ptr 1 0), (5, .int .i64 y), (6, .int .i64 x)], [(1, .cells (cellsI ((outA (fun j => rowG (fun x y => decide (0 ≤ sideP l (ctr x y))) j 16) y).set y (rowG (fun x y => decide (0 ≤ sideP l (ctr x y))) y x)))), (0, .cells (cellsI (List.replicate 16 0)))], 2⟩) (16) ?_ ?_
    ·
     exact ⟨_, Wk.refl _, 0, by omega, by rw [outR_zero (fun x y => decide (0 ≤ sideP l (ctr x y))) hil]; rfl⟩
    ·
     rintro m2 σ ⟨x, hx, rfl⟩ KL2 hKL2
     refine tr_seq fun K12 hK12 => ?_
     refine tr_seq fun K13 hK13 => ?_
     refine tr_region [0, 2, 4, 5, 6, 16] rfl rfl fun K hK => ?_
     iterate 2 refine evR_p ?_
     refine evR_e hK ?_; clear hK K
     refine hK13 _ ?_
     refine tr_condB (fun ht3 => ?_) (fun ht3 => ?_)
     ·
      skip
      have hxl : x < 16 := by omega
      have hin : insideP l (ctr x y) = sideP l (ctr x y) := by
       have h5 := ctr_on hxl hil
       simp_all [insideP]
      refine tr_skip ?_
      (try simp only [thenE, inBlkE])
      refine hK12 _ ?_
      refine tr_seq fun K14 hK14 => ?_
      refine tr_block ?_
      refine tr_seq fun K15 hK15 => ?_
      refine tr_region [0, 2, 4, 5, 6, 24] rfl rfl fun K hK => ?_
      iterate 3 refine evR_p ?_
      refine evR_c (hc := (ca39 _ _ (by omega) (by omega))) (k := ?_)
      refine evR_c (hc := (ca36 l ⟨_, _⟩ hm)) (k := ?_)
      refine evR_p ?_
      refine evR_e hK ?_; clear hK K
      refine hK15 _ ?_
      refine tr_condB (fun ht4 => ?_) (fun ht4 => ?_)
      ·
       skip
       refine tr_draw [] [0, 2, 4, 5, 6] mixed rfl (by kernel_rfl) rfl fun K hK => ?_
       iterate 9 refine evD_p ?_
       refine evD_e hK ?_; clear hK K
       refine hK14 _ ?_
       refine tr_region [0, 2, 4, 5, 6] rfl rfl fun K hK => ?_
       iterate 3 refine evR_p ?_
       refine evR_e hK ?_; clear hK K
       refine hKL2 _ ?_
       first
        | exact ⟨m2 - 1, _, by omega, Wk.refl _, x + 1, by omega, by rw [w64 (x := (x : Int) + 1) (by omega), rowG_add (fun x y => decide (0 ≤ sideP l (ctr x y))) hxl (by first | exact decide_eq_true (by rw [← hin]; exact ht4) | exact decide_eq_false (by rw [← hin]; exact ht4))]; rfl⟩
        | exact ⟨m2 - 1, _, by omega, Wk.refl _, x + 1, by omega, by rw [w64 (x := (x : Int) + 1) (by omega), rowG_skip (fun x y => decide (0 ≤ sideP l (ctr x y))) (by first | exact decide_eq_true (by rw [← hin]; exact ht4) | exact decide_eq_false (by rw [← hin]; exact ht4))]; rfl⟩
      ·
       skip
       refine tr_skip ?_
       (try simp only [thenE, inBlkE])
       refine hK14 _ ?_
       refine tr_region [0, 2, 4, 5, 6] rfl rfl fun K hK => ?_
       iterate 3 refine evR_p ?_
       refine evR_e hK ?_; clear hK K
       refine hKL2 _ ?_
       first
        | exact ⟨m2 - 1, _, by omega, Wk.refl _, x + 1, by omega, by rw [w64 (x := (x : Int) + 1) (by omega), rowG_add (fun x y => decide (0 ≤ sideP l (ctr x y))) hxl (by first | exact decide_eq_true (by rw [← hin]; exact ht4) | exact decide_eq_false (by rw [← hin]; exact ht4))]; rfl⟩
        | exact ⟨m2 - 1, _, by omega, Wk.refl _, x + 1, by omega, by rw [w64 (x := (x : Int) + 1) (by omega), rowG_skip (fun x y => decide (0 ≤ sideP l (ctr x y))) (by first | exact decide_eq_true (by rw [← hin]; exact ht4) | exact decide_eq_false (by rw [← hin]; exact ht4))]; rfl⟩
     ·
      skip
      have hxl : x = 16 := by omega
      subst hxl
      refine tr_exit ?_
      simp only [thenE, inBlkE, Nat.reduceEqDiff, ↓reduceIte]
      refine hK10 _ ?_
      refine tr_region [0, 2, 4, 5] rfl rfl fun K hK => ?_
      iterate 3 refine evR_p ?_
      refine evR_e hK ?_; clear hK K
      refine hKL1 _ ?_
      exact ⟨m - 1, _, by omega, Wk.refl _, y + 1, by omega, by rw [w64 (x := (y : Int) + 1) (by omega), outA_set (fun j => rowG (fun x y => decide (0 ≤ sideP l (ctr x y))) j 16) hil]; rfl⟩
   ·
    skip
    have hil : y = 16 := by omega
    subst hil
    refine tr_exit ?_
    simp only [thenE, inBlkE, Nat.reduceEqDiff, ↓reduceIte]
    refine hK6 _ ?_
    refine tr_seq fun K16 hK16 => ?_
    refine tr_region [2, 3] rfl rfl fun K hK => ?_
    iterate 3 refine evR_p ?_
    refine evR_e hK ?_; clear hK K
    refine hK16 _ ?_
    refine tr_ret ?_
    (try simp only [thenE, inBlkE])
    simp (maxSteps := 4000000) (disch := first | assumption | omega | (simp only [go_sem, *]; done) | (simp only [go_sem, *]; omega)) only [postA, postO, resV1, fzAll, go_sem, hq, Int.reduceToNat, Nat.reduceBEq, Nat.reduceEqDiff, Nat.reduceAdd, Nat.reduceMul, Nat.reduceLeDiff, Nat.reduceLT, Nat.reduceSub, ↓reduceIte, reduceCtorEq]
    all_goals ((first | (simp_all [polyA, zeros16]; done) | (simp_all [polyA, cellsG]; done)))

attribute [local go_sem] encR_length encR_getD encRw encPg lookV encI_length encI_getD
attribute [local simp] encA_length encR_length cellsI_length
theorem k106 (c n : Int) (hn : 0 < n) : CallsA Try.prog 106 [.int .i64 c, .int .i64 n] (.int .i64 (pickW c n)) := by
 have hq : True := trivial
 refine callsA_of_tr Try.func106 rfl (Nat.le_of_ble_eq_true rfl) ?_
 simp only [Try.results106, envOf, Nat.reduceAdd]
 refine tr_seq fun K1 hK1 => ?_
 refine tr_region [0, 1] rfl rfl fun K hK => ?_
 refine evR_p ?_
 refine evR_e hK ?_; clear hK K
 refine hK1 _ ?_
 refine tr_seq fun K2 hK2 => ?_
 refine tr_seq fun K3 hK3 => ?_
 refine tr_region [0, 1, 6] rfl rfl fun K hK => ?_
 iterate 2 refine evR_p ?_
 refine evR_e hK ?_; clear hK K
 refine hK3 _ ?_
 refine tr_condB (fun ht1 => ?_) (fun ht1 => ?_)
 ·
  skip
  refine tr_region [0, 1] rfl rfl fun K hK => ?_
  iterate 4 refine evR_p ?_
  refine evR_e hK ?_; clear hK K
  refine hK2 _ ?_
  refine tr_seq fun K4 hK4 => ?_
  refine tr_region [4] rfl rfl fun K hK => ?_
  iterate 4 refine evR_p ?_
  refine evR_e hK ?_; clear hK K
  refine hK4 _ ?_
  refine tr_ret ?_
  (try simp only [thenE, inBlkE])
  simp (maxSteps := 4000000) (disch := first | assumption | omega | (simp only [go_sem, *]; done) | (simp only [go_sem, *]; omega)) only [postA, postO, resV1, fzAll, go_sem, hq, Int.reduceToNat, Nat.reduceBEq, Nat.reduceEqDiff, Nat.reduceAdd, Nat.reduceMul, Nat.reduceLeDiff, Nat.reduceLT, Nat.reduceSub, ↓reduceIte, reduceCtorEq]
  all_goals (simp [pickW, *])
 ·
  skip
  refine tr_skip ?_
  (try simp only [thenE, inBlkE])
  refine hK2 _ ?_
  refine tr_seq fun K5 hK5 => ?_
  refine tr_region [4] rfl rfl fun K hK => ?_
  iterate 4 refine evR_p ?_
  refine evR_e hK ?_; clear hK K
  refine hK5 _ ?_
  refine tr_ret ?_
  (try simp only [thenE, inBlkE])
  simp (maxSteps := 4000000) (disch := first | assumption | omega | (simp only [go_sem, *]; done) | (simp only [go_sem, *]; omega)) only [postA, postO, resV1, fzAll, go_sem, hq, Int.reduceToNat, Nat.reduceBEq, Nat.reduceEqDiff, Nat.reduceAdd, Nat.reduceMul, Nat.reduceLeDiff, Nat.reduceLT, Nat.reduceSub, ↓reduceIte, reduceCtorEq]
  all_goals (simp [pickW, *])

theorem k57 (x : T3) : CallsA Try.prog 57 [.agg [.int .i64 x.p, .int .i64 x.q, .int .i64 x.r]] (.tup [.agg [.int .i64 (mastP x).x, .int .i64 (mastP x).y], .int .i64 (mastR x)]) := by
 have hpr := pickW_abs x.r (n := 30) (by decide)
 have hw6 : IntKind.i64.wrap (6 + pickW x.r 30) = 6 + pickW x.r 30 := w64 (by omega)
 have hq := hw6
 refine callsA_of_tr Try.func57 rfl (Nat.le_of_ble_eq_true rfl) ?_
 simp only [Try.results57, envOf, Nat.reduceAdd]
 refine tr_seq fun K1 hK1 => ?_
 refine tr_region [1, 2] rfl rfl fun K hK => ?_
 iterate 3 refine evR_p ?_
 refine evR_e hK ?_; clear hK K
 refine hK1 _ ?_
 refine tr_seq fun K2 hK2 => ?_
 refine tr_draw [] [2, 3] mixed rfl (by kernel_rfl) rfl fun K hK => ?_
 iterate 5 refine evD_p ?_
 refine evD_c (hc := (ca30 ⟨x.p, x.q⟩)) (k := ?_)
 iterate 2 refine evD_p ?_
 refine evD_c (hc := (k106 x.r 30 (by decide))) (k := ?_)
 iterate 3 refine evD_p ?_
 refine evD_e hK ?_; clear hK K
 refine hK2 _ ?_
 refine tr_ret ?_
 (try simp only [thenE, inBlkE])
 simp (maxSteps := 4000000) (disch := first | assumption | omega | (simp only [go_sem, *]; done) | (simp only [go_sem, *]; omega)) only [postA, postO, resV1, fzAll, go_sem, hq, Int.reduceToNat, Nat.reduceBEq, Nat.reduceEqDiff, Nat.reduceAdd, Nat.reduceMul, Nat.reduceLeDiff, Nat.reduceLT, Nat.reduceSub, ↓reduceIte, reduceCtorEq]
 all_goals (first | exact ⟨rfl, rfl⟩ | rfl)

section
attribute [local go_sem] encA_length encA_getD encT_length encT_getD encA_one
theorem k40 (l : List T3) (hm : l.length ≤ maxLen) : CallsA Try.prog 40 [.sl 3 (encT l)] (.sl 16 (encA (discsL l))) := by
 have hlm := hm
 unfold maxLen at hlm
 have hq : True := trivial
 refine callsA_of_tr Try.func40 rfl (Nat.le_of_ble_eq_true rfl) ?_
 simp only [Try.results40, envOf, Nat.reduceAdd]
 refine tr_seq fun K1 hK1 => ?_
 refine tr_region [0] rfl rfl fun K hK => ?_
 refine evR_p ?_
 refine evR_e hK ?_; clear hK K
 refine hK1 _ ?_
 refine tr_seq fun K2 hK2 => ?_
 refine tr_region [0, 3] rfl rfl fun K hK => ?_
 refine evR_p ?_
 refine evR_e hK ?_; clear hK K
 refine hK2 _ ?_
 refine tr_seq fun K3 hK3 => ?_
 refine tr_seq fun K4 hK4 => ?_
 refine tr_region [0, 3, 4] rfl rfl fun K hK => ?_
 refine evR_p ?_
 refine evR_e hK ?_; clear hK K
 refine hK4 _ ?_
 refine tr_block ?_
 -- loop 1: live [0, 3, 4]
 refine tr_loopW (fun m σ => ∃ i : Nat, i + m = 7 ∧ i ≤ l.length ∧ σ = ⟨[(0, .sl 3 (encT l)), (3, .own 0), (4, .int .i64 (i : Nat))], [(0, .row 76 16 (encA ((l.take i).map discV)))], 1⟩) (7) ?_ ?_
 ·
  exact ⟨_, Wk.nilslot 76 16 3 rfl, 0, by omega, by omega, rfl⟩
 ·
  rintro m σ ⟨i, hi, hil0, rfl⟩ KL1 hKL1
  refine tr_seq fun K5 hK5 => ?_
  refine tr_seq fun K6 hK6 => ?_
  refine tr_region [0, 3, 4, 16] rfl rfl fun K hK => ?_
  iterate 5 refine evR_p ?_
  iterate 2 refine evR_g ?_
  refine evR_p ?_
  refine evR_e hK ?_; clear hK K
  refine hK6 _ ?_
  refine tr_condB (fun ht1 => ?_) (fun ht1 => ?_)
  ·
   skip
   have hil : i < l.length := by omega
   have hti : ((l.take i).map discV).length = i := by simp; omega
   have hdl : (discA (mastP (l.getD i t30)) (mastR (l.getD i t30))).1.length = 16 := discA_length _ _
   have hrf := cellsI_full (discA (mastP (l.getD i t30)) (mastR (l.getD i t30))).1 (cellsI (List.replicate 16 0)) (by rw [cellsI_length, hdl]; rfl)
   have hrk : List.take 16 (cellsI (discA (mastP (l.getD i t30)) (mastR (l.getD i t30))).1) = cellsI (discA (mastP (l.getD i t30)) (mastR (l.getD i t30))).1 := List.take_of_length_le (by rw [cellsI_length, hdl]; decide)
   have hcl := cellsI_cl (discA (mastP (l.getD i t30)) (mastR (l.getD i t30))).1
   replace hq := And.intro hq (And.intro hil (And.intro hti (And.intro hdl (And.intro hrf (And.intro hrk (hcl))))))
   refine tr_skip ?_
   (try simp only [thenE, inBlkE])
   refine hK5 _ ?_
   refine tr_seq fun K7 hK7 => ?_
   refine tr_block ?_
   refine tr_seq fun K8 hK8 => ?_
   refine tr_region [0, 3, 4, 5, 6] rfl rfl fun K hK => ?_
   iterate 4 refine evR_p ?_
   refine evR_c (hc := (k57 (l.getD i t30))) (k := ?_)
   iterate 6 refine evR_p ?_
   refine evR_e hK ?_; clear hK K
   refine hK8 _ ?_
   refine tr_seq fun K9 hK9 => ?_
   refine tr_region [0, 3, 4, 7] rfl rfl fun K hK => ?_
   iterate 2 refine evR_p ?_
   refine evR_c (hc := (ca38 (mastP (l.getD i t30)) (mastR (l.getD i t30)))) (k := ?_)
   iterate 6 refine evR_p ?_
   refine evR_e hK ?_; clear hK K
   refine hK9 _ ?_
   refine tr_region [0, 3, 4] rfl rfl fun K hK => ?_
   iterate 2 refine evR_p ?_
   refine evR_bs ?_
   iterate 2 refine evR_p ?_
   refine evR_e hK ?_; clear hK K
   refine hK7 _ ?_
   refine tr_region [0, 3, 4] rfl rfl fun K hK => ?_
   iterate 3 refine evR_p ?_
   refine evR_e hK ?_; clear hK K
   refine hKL1 _ ?_
   exact ⟨m - 1, _, by omega, (Wk.trans (Wk.ren 3 0 (Nat.le_of_ble_eq_true rfl) (Nat.le_of_ble_eq_true rfl) (by simp [St.noSt, St.ren, St.cutOK, St.cut, AObj.no, AObj.upto, AObj.ren, V.no, V.upto, V.ren, V.noL, V.uptoL, V.renL, cellsI_uptoL, cellsI_noA, cellsI_renA, enC_uptoL])) (Wk.cut 1 (by simp [St.noSt, St.ren, St.cutOK, St.cut, AObj.no, AObj.upto, AObj.ren, V.no, V.upto, V.ren, V.noL, V.uptoL, V.renL, cellsI_uptoL, cellsI_noA, cellsI_renA, enC_uptoL]))), i + 1, by omega, by omega, by rw [w64 (x := (i : Int) + 1) (by omega), discs_snoc hil]; rfl⟩
  ·
   skip
   have hdn := discs_done (l := l) (i := i) hil0 (by omega) (by assumption)
   refine tr_exit ?_
   simp only [thenE, inBlkE, Nat.reduceEqDiff, ↓reduceIte]
   refine hK3 _ ?_
   refine tr_seq fun K10 hK10 => ?_
   refine tr_region [2] rfl rfl fun K hK => ?_
   iterate 2 refine evR_p ?_
   refine evR_e hK ?_; clear hK K
   refine hK10 _ ?_
   refine tr_ret ?_
   (try simp only [thenE, inBlkE])
   simp (maxSteps := 4000000) (disch := first | assumption | omega | (simp only [go_sem, *]; done) | (simp only [go_sem, *]; omega)) only [postA, postO, resV1, fzAll, go_sem, hq, Int.reduceToNat, Nat.reduceBEq, Nat.reduceEqDiff, Nat.reduceAdd, Nat.reduceMul, Nat.reduceLeDiff, Nat.reduceLT, Nat.reduceSub, ↓reduceIte, reduceCtorEq]
   all_goals ((rw [hdn]))
end

theorem k41 (l : List Pl) (hm : l.length ≤ maxLen) : CallsA Try.prog 41 [.sl 2 (encP l)] (.agg (cellsI (targetL l))) := by
 have hmp : (madeP l).length ≤ maxLen := by have := madeP_length l; unfold maxLen; omega
 have htl : (polyA (madeP l)).1.length = 16 := polyA_length _
 have hrf := cellsI_full (polyA (madeP l)).1 (cellsI (List.replicate 16 0)) (by rw [cellsI_length, htl]; rfl)
 have hrk : List.take 16 (cellsI (polyA (madeP l)).1) = cellsI (polyA (madeP l)).1 := List.take_of_length_le (by rw [cellsI_length, htl]; decide)
 have hq := And.intro hrf (And.intro hrk (htl))
 refine callsA_of_tr Try.func41 rfl (Nat.le_of_ble_eq_true rfl) ?_
 simp only [Try.results41, envOf, Nat.reduceAdd]
 refine tr_seq fun K1 hK1 => ?_
 refine tr_region [0, 2] rfl rfl fun K hK => ?_
 refine evR_p ?_
 refine evR_e hK ?_; clear hK K
 refine hK1 _ ?_
 refine tr_seq fun K2 hK2 => ?_
 refine tr_region [2, 3] rfl rfl fun K hK => ?_
 refine evR_p ?_
 refine evR_c (hc := (ca29 l hm)) (k := ?_)
 refine evR_c (hc := (ca32 (madeP l) hmp)) (k := ?_)
 iterate 6 refine evR_p ?_
 refine evR_e hK ?_; clear hK K
 refine hK2 _ ?_
 refine tr_seq fun K3 hK3 => ?_
 refine tr_region [2] rfl rfl fun K hK => ?_
 iterate 2 refine evR_p ?_
 refine evR_e hK ?_; clear hK K
 refine hK3 _ ?_
 refine tr_ret ?_
 (try simp only [thenE, inBlkE])
 simp (maxSteps := 4000000) (disch := first | assumption | omega | (simp only [go_sem, *]; done) | (simp only [go_sem, *]; omega)) only [postA, postO, resV1, fzAll, go_sem, hq, Int.reduceToNat, Nat.reduceBEq, Nat.reduceEqDiff, Nat.reduceAdd, Nat.reduceMul, Nat.reduceLeDiff, Nat.reduceLT, Nat.reduceSub, ↓reduceIte, reduceCtorEq]
 all_goals (first | exact ⟨cellsI_cl _, rfl⟩ | exact ⟨Nat.le_refl _, cellsI_cl _, rfl⟩ | exact ⟨by rw [cellsI_length, htl]; decide, cellsI_cl _, rfl⟩ | rfl)

end Go.Proofs.Ytfamkbofdamkkaa
