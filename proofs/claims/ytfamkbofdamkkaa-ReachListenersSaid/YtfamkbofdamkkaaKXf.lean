/- Texts of this proof, put together. -/
import Derived.Test.YtfamkbofdamkkaaKXb
import Derived.Test.YtfamkbofdamkkaaKXc
import Derived.Test.YtfamkbofdamkkaaKXe
import Derived.Test.YtfamkbofdamkkaaChecked
namespace Go.Proofs.Ytfamkbofdamkkaa
open Go.RowKit
set_option linter.unusedVariables false
set_option linter.unusedSimpArgs false
set_option maxRecDepth 100000
attribute [local go_sem] Nat.zero_add Nat.add_zero Nat.mul_one eq_self ne_eq not_true_eq_false not_false_eq_true decide_true decide_false decide_not Bool.false_eq_true List.filter_cons List.filter_nil true_and and_true beq_false beq_true Bool.not_true Bool.not_false Bool.and_true Bool.true_and Option.getD_some Option.getD_none imp_self implies_true Int.toNat_natCast List.cons_append List.nil_append List.map_cons List.map_nil List.length_cons List.length_nil List.getD_cons_zero List.getD_cons_succ List.drop_zero List.drop_succ_cons List.take_succ_cons List.take_zero
attribute [local go_sem] lowN lowQ lowM isAl appOwn unw shL isSh Option.isNone_none Option.isNone_some Option.isSome_none appF isE isO stpO notIn St.bare evO evDO isEff stp St.get St.slot St.put List.lookup un unL ofVal gof nth pickV pkB_false pkB_true binV unV loadV idxV fldV partV buildV fillV lenV sliV appV appR rowsV winV V.parts V.okp V.sc Mem.look_cons Mem.look_nil V.cl V.clL AObj.clo fzAll exps St.fz Mem.fz V.fz V.fzL AObj.fz shp AObj.shp csh AObj.csh rowM isSt isRpS isRd Option.isSome_some Bool.or_true Bool.true_or Bool.or_false Bool.false_or and_false false_and or_false false_or List.length_append forall_const imp_self arT_104 arT_121 arT_160 arT_161 arT_22 arT_23 arT_24 arT_25 arT_28 arT_29 arT_30 arT_40 arT_42 arT_52 arT_60 arT_65 arT_72 arT_73 arT_76 arT_9 arT_90 boolT_182 boolT_25 boolT_3 boolT_35 boolT_4 boolT_76 flatT_182 flatT_25 flatT_3 flatT_35 flatT_4 flatT_76 intT_133 intT_169 intT_171 intT_188 intT_3 intT_5 lay_104 lay_112 lay_138 lay_141 lay_153 lay_160 lay_161 lay_164 lay_188 lay_23 lay_24 lay_25 lay_27 lay_28 lay_3 lay_30 lay_34 lay_4 lay_49 lay_52 lay_54 lay_56 lay_65 lay_67 lay_73 lay_76 lay_90 lay_99 mapT_112 okF_10 okF_100 okF_101 okF_102 okF_103 okF_104 okF_105 okF_106 okF_107 okF_108 okF_109 okF_11 okF_110 okF_111 okF_112 okF_113 okF_114 okF_115 okF_116 okF_117 okF_118 okF_119 okF_12 okF_120 okF_121 okF_122 okF_123 okF_124 okF_125 okF_126 okF_127 okF_128 okF_129 okF_13 okF_130 okF_131 okF_132 okF_133 okF_134 okF_135 okF_136 okF_137 okF_138 okF_139 okF_14 okF_140 okF_141 okF_142 okF_143 okF_144 okF_145 okF_146 okF_147 okF_148 okF_149 okF_15 okF_150 okF_151 okF_152 okF_153 okF_154 okF_155 okF_156 okF_157 okF_158 okF_159 okF_16 okF_160 okF_161 okF_162 okF_163 okF_164 okF_165 okF_166 okF_167 okF_168 okF_169 okF_17 okF_170 okF_171 okF_172 okF_173 okF_174 okF_175 okF_176 okF_177 okF_18 okF_19 okF_20 okF_21 okF_22 okF_23 okF_24 okF_25 okF_26 okF_27 okF_28 okF_29 okF_3 okF_30 okF_31 okF_32 okF_33 okF_34 okF_35 okF_36 okF_37 okF_38 okF_39 okF_4 okF_40 okF_41 okF_42 okF_43 okF_44 okF_45 okF_46 okF_47 okF_48 okF_49 okF_5 okF_50 okF_51 okF_52 okF_53 okF_54 okF_55 okF_56 okF_57 okF_58 okF_59 okF_6 okF_60 okF_61 okF_62 okF_63 okF_64 okF_65 okF_66 okF_67 okF_68 okF_69 okF_7 okF_70 okF_71 okF_72 okF_73 okF_74 okF_75 okF_76 okF_77 okF_78 okF_79 okF_8 okF_80 okF_81 okF_82 okF_83 okF_84 okF_85 okF_86 okF_87 okF_88 okF_89 okF_9 okF_90 okF_91 okF_92 okF_93 okF_94 okF_95 okF_96 okF_97 okF_98 okF_99 plT_138 plT_153 plT_157 plT_161 plT_27 plT_34 plT_54 plT_56 plT_67 plT_76 plT_90 plT_99 slT_104 slT_121 slT_160 slT_161 slT_22 slT_23 slT_24 slT_25 slT_28 slT_29 slT_30 slT_40 slT_42 slT_52 slT_60 slT_65 slT_72 slT_73 slT_76 slT_90 stT_138_0 stT_138_1 stT_153_0 stT_157_0 stT_157_1 stT_157_2 stT_157_3 stT_27_0 stT_27_1 stT_27_2 stT_34_0 stT_34_1 stT_34_2 stT_34_3 stT_54_0 stT_54_1 stT_54_2 stT_54_3 stT_56_0 stT_56_1 stT_67_1 stT_67_4 stT_67_5 stT_99_0 stT_99_1 strT_160 strT_76 strT_9 zeroT_112 zeroT_138 zeroT_153 zeroT_157 zeroT_160 zeroT_161 zeroT_188 zeroT_27 zeroT_3 zeroT_30 zeroT_34 zeroT_4 zeroT_49 zeroT_54 zeroT_56 zeroT_65 zeroT_67 zeroT_76 zeroT_90 zeroT_99
attribute [local go_sem] cellsI_fzL cellsI_uptoL List.getElem?_cons_zero List.getElem?_cons_succ List.zip_cons_cons List.zip_nil_left List.zip_nil_right Bool.false_and Bool.and_false cellsG_length polyA_length discA_length agEq_cells cellsI_isI cellsI_length cellsI_sc cellsI_cl cellsI_rows cellsI_take cellsI_dropD cellsI_set cellsI_full encI_length encI_getD List.length_set List.length_replicate List.all_cons List.all_nil outA_length eachA_length outM_length getD_set_same List.set_set spl_nil0 spl_cons0 spl_succ encP_length encP_getD
attribute [local simp] encP_length padP_length encI_length
attribute [local go_sem] encR_length encR_getD encRw encPg lookV encI_length encI_getD
attribute [local simp] encA_length encR_length cellsI_length
theorem k106 (c n : Int) (hn : 0 < n) : CallsA Try.prog 106 [.int .i64 c, .int .i64 n] (.int .i64 (pickW c n)) := by
 have hq : True := trivial
 refine callsA_of_tr Try.func106 rfl (Nat.le_of_ble_eq_true rfl) ?_
 simp only [Try.results106, envOf, Nat.reduceAdd]
 refine tr_seq fun K1 hK1 => ?_
 refine tr_region [0, 1] rfl rfl fun K hK => ?_
 refine evR_p ?_
 refine evR_e hK ?_; clear hK K
 refine hK1 _ ?_
 refine tr_seq fun K2 hK2 => ?_
 refine tr_seq fun K3 hK3 => ?_
 refine tr_region [0, 1, 6] rfl rfl fun K hK => ?_
 iterate 2 refine evR_p ?_
 refine evR_e hK ?_; clear hK K
 refine hK3 _ ?_
 refine tr_condB (fun ht1 => ?_) (fun ht1 => ?_)
 ·
  skip
  refine tr_region [0, 1] rfl rfl fun K hK => ?_
  iterate 4 refine evR_p ?_
  refine evR_e hK ?_; clear hK K
  refine hK2 _ ?_
  refine tr_seq fun K4 hK4 => ?_
  refine tr_region [4] rfl rfl fun K hK => ?_
  iterate 4 refine evR_p ?_
  refine evR_e hK ?_; clear hK K
  refine hK4 _ ?_
  refine tr_ret ?_
  (try simp only [thenE, inBlkE])
  simp (maxSteps := 4000000) (disch := first | assumption | omega | (simp only [go_sem, *]; done) | (simp only [go_sem, *]; omega)) only [postA, postO, resV1, fzAll, go_sem, hq, Int.reduceToNat, Nat.reduceBEq, Nat.reduceEqDiff, Nat.reduceAdd, Nat.reduceMul, Nat.reduceLeDiff, Nat.reduceLT, Nat.reduceSub, ↓reduceIte, reduceCtorEq]
  all_goals (simp [pickW, *])
 ·
  skip
  refine tr_skip ?_
  (try simp only [thenE, inBlkE])
  refine hK2 _ ?_
  refine tr_seq fun K5 hK5 => ?_
  refine tr_region [4] rfl rfl fun K hK => ?_
  iterate 4 refine evR_p ?_
  refine evR_e hK ?_; clear hK K
  refine hK5 _ ?_
  refine tr_ret ?_
  (try simp only [thenE, inBlkE])
  simp (maxSteps := 4000000) (disch := first | assumption | omega | (simp only [go_sem, *]; done) | (simp only [go_sem, *]; omega)) only [postA, postO, resV1, fzAll, go_sem, hq, Int.reduceToNat, Nat.reduceBEq, Nat.reduceEqDiff, Nat.reduceAdd, Nat.reduceMul, Nat.reduceLeDiff, Nat.reduceLT, Nat.reduceSub, ↓reduceIte, reduceCtorEq]
  all_goals (simp [pickW, *])

theorem k57 (x : T3) : CallsA Try.prog 57 [.agg [.int .i64 x.p, .int .i64 x.q, .int .i64 x.r]] (.tup [.agg [.int .i64 (mastP x).x, .int .i64 (mastP x).y], .int .i64 (mastR x)]) := by
 have hpr := pickW_abs x.r (n := 30) (by decide)
 have hw6 : IntKind.i64.wrap (6 + pickW x.r 30) = 6 + pickW x.r 30 := w64 (by omega)
 have hq := hw6
 refine callsA_of_tr Try.func57 rfl (Nat.le_of_ble_eq_true rfl) ?_
 simp only [Try.results57, envOf, Nat.reduceAdd]
 refine tr_seq fun K1 hK1 => ?_
 refine tr_region [1, 2] rfl rfl fun K hK => ?_
 iterate 3 refine evR_p ?_
 refine evR_e hK ?_; clear hK K
 refine hK1 _ ?_
 refine tr_seq fun K2 hK2 => ?_
 refine tr_draw [] [2, 3] mixed rfl (by kernel_rfl) rfl fun K hK => ?_
 iterate 5 refine evD_p ?_
 refine evD_c (hc := (ca30 ⟨x.p, x.q⟩)) (k := ?_)
 iterate 2 refine evD_p ?_
 refine evD_c (hc := (k106 x.r 30 (by decide))) (k := ?_)
 iterate 3 refine evD_p ?_
 refine evD_e hK ?_; clear hK K
 refine hK2 _ ?_
 refine tr_ret ?_
 (try simp only [thenE, inBlkE])
 simp (maxSteps := 4000000) (disch := first | assumption | omega | (simp only [go_sem, *]; done) | (simp only [go_sem, *]; omega)) only [postA, postO, resV1, fzAll, go_sem, hq, Int.reduceToNat, Nat.reduceBEq, Nat.reduceEqDiff, Nat.reduceAdd, Nat.reduceMul, Nat.reduceLeDiff, Nat.reduceLT, Nat.reduceSub, ↓reduceIte, reduceCtorEq]
 all_goals (first | exact ⟨rfl, rfl⟩ | rfl)

section
attribute [local go_sem] encA_length encA_getD encT_length encT_getD encA_one
theorem k40 (l : List T3) (hm : l.length ≤ maxLen) : CallsA Try.prog 40 [.sl 3 (encT l)] (.sl 16 (encA (discsL l))) := by
 have hlm := hm
 unfold maxLen at hlm
 have hq : True := trivial
 refine callsA_of_tr Try.func40 rfl (Nat.le_of_ble_eq_true rfl) ?_
 simp only [Try.results40, envOf, Nat.reduceAdd]
 refine tr_seq fun K1 hK1 => ?_
 refine tr_region [0] rfl rfl fun K hK => ?_
 refine evR_p ?_
 refine evR_e hK ?_; clear hK K
 refine hK1 _ ?_
 refine tr_seq fun K2 hK2 => ?_
 refine tr_region [0, 3] rfl rfl fun K hK => ?_
 refine evR_p ?_
 refine evR_e hK ?_; clear hK K
 refine hK2 _ ?_
 refine tr_seq fun K3 hK3 => ?_
 refine tr_seq fun K4 hK4 => ?_
 refine tr_region [0, 3, 4] rfl rfl fun K hK => ?_
 refine evR_p ?_
 refine evR_e hK ?_; clear hK K
 refine hK4 _ ?_
 refine tr_block ?_
 -- loop 1: live [0, 3, 4]
 refine tr_loopW (fun m σ => ∃ i : Nat, i + m = 7 ∧ i ≤ l.length ∧ σ = ⟨[(0, .sl 3 (encT l)), (3, .own 0), (4, .int .i64 (i : Nat))], [(0, .row 76 16 (encA ((l.take i).map discV)))], 1⟩) (7) ?_ ?_
 ·
  exact ⟨_, Wk.nilslot 76 16 3 rfl, 0, by omega, by omega, rfl⟩
 ·
  rintro m σ ⟨i, hi, hil0, rfl⟩ KL1 hKL1
  refine tr_seq fun K5 hK5 => ?_
  refine tr_seq fun K6 hK6 => ?_
  refine tr_region [0, 3, 4, 16] rfl rfl fun K hK => ?_
  iterate 5 refine evR_p ?_
  iterate 2 refine evR_g ?_
  refine evR_p ?_
  refine evR_e hK ?_; clear hK K
  refine hK6 _ ?_
  refine tr_condB (fun ht1 => ?_) (fun ht1 => ?_)
  ·
   skip
   have hil : i < l.length := by omega
   have hti : ((l.take i).map discV).length = i := by simp; omega
   have hdl : (discA (mastP (l.getD i t30)) (mastR (l.getD i t30))).1.length = 16 := discA_length _ _
   have hrf := cellsI_full (discA (mastP (l.getD i t30)) (mastR (l.getD i t30))).1 (cellsI (List.replicate 16 0)) (by rw [cellsI_length, hdl]; rfl)
   have hrk : List.take 16 (cellsI (discA (mastP (l.getD i t30)) (mastR (l.getD i t30))).1) = cellsI (discA (mastP (l.getD i t30)) (mastR (l.getD i t30))).1 := List.take_of_length_le (by rw [cellsI_length, hdl]; decide)
   have hcl := cellsI_cl (discA (mastP (l.getD i t30)) (mastR (l.getD i t30))).1
   replace hq := And.intro hq (And.intro hil (And.intro hti (And.intro hdl (And.intro hrf (And.intro hrk (hcl))))))
   refine tr_skip ?_
   (try simp only [thenE, inBlkE])
   refine hK5 _ ?_
   refine tr_seq fun K7 hK7 => ?_
   refine tr_block ?_
   refine tr_seq fun K8 hK8 => ?_
   refine tr_region [0, 3, 4, 5, 6] rfl rfl fun K hK => ?_
   iterate 4 refine evR_p ?_
   refine evR_c (hc := (k57 (l.getD i t30))) (k := ?_)
   iterate 6 refine evR_p ?_
   refine evR_e hK ?_; clear hK K
   refine hK8 _ ?_
   refine tr_seq fun K9 hK9 => ?_
   refine tr_region [0, 3, 4, 7] rfl rfl fun K hK => ?_
   iterate 2 refine evR_p ?_
   refine evR_c (hc := (ca38 (mastP (l.getD i t30)) (mastR (l.getD i t30)))) (k := ?_)
   iterate 6 refine evR_p ?_
   refine evR_e hK ?_; clear hK K
   refine hK9 _ ?_
   refine tr_region [0, 3, 4] rfl rfl fun K hK => ?_
   iterate 2 refine evR_p ?_
   refine evR_bs ?_
   iterate 2 refine evR_p ?_
   refine evR_e hK ?_; clear hK K
   refine hK7 _ ?_
   refine tr_region [0, 3, 4] rfl rfl fun K hK => ?_
   iterate 3 refine evR_p ?_
   refine evR_e hK ?_; clear hK K
   refine hKL1 _ ?_
   exact ⟨m - 1, _, by omega, (Wk.trans (Wk.ren 3 0 (Nat.le_of_ble_eq_true rfl) (Nat.le_of_ble_eq_true rfl) (by simp [St.noSt, St.ren, St.cutOK, St.cut, AObj.no, AObj.upto, AObj.ren, V.no, V.upto, V.ren, V.noL, V.uptoL, V.renL, cellsI_uptoL, cellsI_noA, cellsI_renA, enC_uptoL])) (Wk.cut 1 (by simp [St.noSt, St.ren, St.cutOK, St.cut, AObj.no, AObj.upto, AObj.ren, V.no, V.upto, V.ren, V.noL, V.uptoL, V.renL, cellsI_uptoL, cellsI_noA, cellsI_renA, enC_uptoL]))), i + 1, by omega, by omega, by rw [w64 (x := (i : Int) + 1) (by omega), discs_snoc hil]; rfl⟩
  ·
   skip
   have hdn := discs_done (l := l) (i := i) hil0 (by omega) (by assumption)
   refine tr_exit ?_
   simp only [thenE, inBlkE, Nat.reduceEqDiff, ↓reduceIte]
   refine hK3 _ ?_
   refine tr_seq fun K10 hK10 => ?_
   refine tr_region [2] rfl rfl fun K hK => ?_
   iterate 2 refine evR_p ?_
   refine evR_e hK ?_; clear hK K
   refine hK10 _ ?_
   refine tr_ret ?_
   (try simp only [thenE, inBlkE])
   simp (maxSteps := 4000000) (disch := first | assumption | omega | (simp only [go_sem, *]; done) | (simp only [go_sem, *]; omega)) only [postA, postO, resV1, fzAll, go_sem, hq, Int.reduceToNat, Nat.reduceBEq, Nat.reduceEqDiff, Nat.reduceAdd, Nat.reduceMul, Nat.reduceLeDiff, Nat.reduceLT, Nat.reduceSub, ↓reduceIte, reduceCtorEq]
   all_goals ((rw [hdn]))
end

theorem k41 (l : List Pl) (hm : l.length ≤ maxLen) : CallsA Try.prog 41 [.sl 2 (encP l)] (.agg (cellsI (targetL l))) := by
 have hmp : (madeP l).length ≤ maxLen := by have := madeP_length l; unfold maxLen; omega
 have htl : (polyA (madeP l)).1.length = 16 := polyA_length _
 have hrf := cellsI_full (polyA (madeP l)).1 (cellsI (List.replicate 16 0)) (by rw [cellsI_length, htl]; rfl)
 have hrk : List.take 16 (cellsI (polyA (madeP l)).1) = cellsI (polyA (madeP l)).1 := List.take_of_length_le (by rw [cellsI_length, htl]; decide)
 have hq := And.intro hrf (And.intro hrk (htl))
 refine callsA_of_tr Try.func41 rfl (Nat.le_of_ble_eq_true rfl) ?_
 simp only [Try.results41, envOf, Nat.reduceAdd]
 refine tr_seq fun K1 hK1 => ?_
 refine tr_region [0, 2] rfl rfl fun K hK => ?_
 refine evR_p ?_
 refine evR_e hK ?_; clear hK K
 refine hK1 _ ?_
 refine tr_seq fun K2 hK2 => ?_
 refine tr_region [2, 3] rfl rfl fun K hK => ?_
 refine evR_p ?_
 refine evR_c (hc := (ca29 l hm)) (k := ?_)
 refine evR_c (hc := (ca32 (madeP l) hmp)) (k := ?_)
 iterate 6 refine evR_p ?_
 refine evR_e hK ?_; clear hK K
 refine hK2 _ ?_
 refine tr_seq fun K3 hK3 => ?_
 refine tr_region [2] rfl rfl fun K hK => ?_
 iterate 2 refine evR_p ?_
 refine evR_e hK ?_; clear hK K
 refine hK3 _ ?_
 refine tr_ret ?_
 (try simp only [thenE, inBlkE])
 simp (maxSteps := 4000000) (disch := first | assumption | omega | (simp only [go_sem, *]; done) | (simp only [go_sem, *]; omega)) only [postA, postO, resV1, fzAll, go_sem, hq, Int.reduceToNat, Nat.reduceBEq, Nat.reduceEqDiff, Nat.reduceAdd, Nat.reduceMul, Nat.reduceLeDiff, Nat.reduceLT, Nat.reduceSub, ↓reduceIte, reduceCtorEq]
 all_goals (first | exact ⟨cellsI_cl _, rfl⟩ | exact ⟨Nat.le_refl _, cellsI_cl _, rfl⟩ | exact ⟨by rw [cellsI_length, htl]; decide, cellsI_cl _, rfl⟩ | rfl)

theorem k85  : CallsA Try.prog 85 [] (.sl 16 (encA exR)) := by
 have hq : True := trivial
 refine callsA_of_tr Try.func85 rfl (Nat.le_of_ble_eq_true rfl) ?_
 simp only [Try.results85, envOf, Nat.reduceAdd]
 refine tr_seq fun K1 hK1 => ?_
 refine tr_region [] rfl rfl fun K hK => ?_
 refine evR_p ?_
 refine evR_e hK ?_; clear hK K
 refine hK1 _ ?_
 refine tr_seq fun K2 hK2 => ?_
 refine tr_region [0] rfl rfl fun K hK => ?_
 iterate 3 refine evR_p ?_
 refine evR_bo ?_
 refine evR_p ?_
 refine evR_e hK ?_; clear hK K
 refine hK2 _ ?_
 refine tr_ret ?_
 (try simp only [thenE, inBlkE])
 simp (maxSteps := 4000000) (disch := first | assumption | omega | (simp only [go_sem, *]; done) | (simp only [go_sem, *]; omega)) only [postA, postO, resV1, fzAll, go_sem, hq, Int.reduceToNat, Nat.reduceBEq, Nat.reduceEqDiff, Nat.reduceAdd, Nat.reduceMul, Nat.reduceLeDiff, Nat.reduceLT, Nat.reduceSub, ↓reduceIte, reduceCtorEq]
 all_goals (rfl)

end Go.Proofs.Ytfamkbofdamkkaa
namespace Go.Proofs.Ytfamkbofdamkkaa
open Go.RowKit
set_option linter.unusedVariables false
set_option linter.unusedSimpArgs false
theorem hasV {a : List Int} (ha : a.length = 16) (hv : validA a = true) {x y : Nat} (hx : x < 16) (hy : y < 16) : hasA a x y = bitG a x y := by
  have h := has_G (bitG a) hx hy
  rw [← rep_G ha hv] at h; exact h
/-- A cell is covered by a set. -/
def covC (l : List (List Int)) (c : Nat × Nat) (s : Nat) : Bool := (List.range l.length).any fun i => s.testBit i && hasC l c i
theorem covC_iff {l : List (List Int)} {c : Nat × Nat} {s : Nat} : covC l c s = true ↔ ∃ i, i < l.length ∧ s.testBit i = true ∧ hasC l c i = true := by
  simp only [covC, List.any_eq_true, List.mem_range, Bool.and_eq_true]
theorem sumG_coef (l : List (List Int)) (c : Nat × Nat) (s : Nat) : ∀ n, n ≤ l.length → sumG (coefT l c l.length) s n ≤ 0 ∧ -(n : Int) ≤ sumG (coefT l c l.length) s n ∧ (sumG (coefT l c l.length) s n ≤ -1 ↔ ∃ i, i < n ∧ s.testBit i = true ∧ hasC l c i = true)
  | 0, _ => by simp [sumG]
  | n + 1, hn => by
    have ⟨ih1, ih2, ih3⟩ := sumG_coef l c s n (by omega)
    have e := coefT_getD (l := l) (c := c) (n := l.length) (i := n) (by omega)
    simp only [sumG, e]
    by_cases hb : s.testBit n = true
    · by_cases hc : hasC l c n = true
      · rw [if_pos hb, if_pos ⟨by omega, hc⟩]
        refine ⟨by omega, by omega, ⟨fun _ => ⟨n, by omega, hb, hc⟩, fun _ => by omega⟩⟩
      · rw [if_pos hb, if_neg (by intro h; exact hc h.2)]
        refine ⟨by omega, by omega, ?_⟩
        rw [Int.add_zero, ih3]
        constructor
        · rintro ⟨i, h1, h2⟩; exact ⟨i, by omega, h2⟩
        · rintro ⟨i, h1, h2, h3⟩
          refine ⟨i, ?_, h2, h3⟩
          rcases Nat.lt_or_ge i n with h | h
          · exact h
          · have : i = n := by omega
            subst this; exact absurd h3 hc
    · rw [if_neg hb]
      refine ⟨by omega, by omega, ?_⟩
      rw [Int.add_zero, ih3]
      constructor
      · rintro ⟨i, h1, h2⟩; exact ⟨i, by omega, h2⟩
      · rintro ⟨i, h1, h2, h3⟩
        refine ⟨i, ?_, h2, h3⟩
        rcases Nat.lt_or_ge i n with h | h
        · exact h
        · have : i = n := by omega
          subst this; exact absurd h2 hb
theorem coefB_R (l : List (List Int)) (c : Nat × Nat) (n : Nat) : coefB (coefT l c n) = true := by
  rw [coefB_iff]
  intro x hx
  obtain ⟨i, -, rfl⟩ := List.mem_map.1 hx
  split <;> omega
theorem kept_row {l : List (List Int)} (hl : l.length ≤ 12) (c : Nat × Nat) {s : Nat} (hs : s < 65536) : keptB (rowR l c) s = covC l c s := by
  have h1 := chosenW_sum (coefB_R l c l.length) hs (by rw [coefT_len]; exact hl)
  have h2 := (sumG_coef l c s l.length (Nat.le_refl _)).2.2
  have h3 : sumS (coefT l c l.length) s = sumG (coefT l c l.length) s l.length := by unfold sumS; rw [coefT_len]
  rw [Bool.eq_iff_iff, covC_iff, ← h2, ← h3, ← h1, keptB_iff]; rfl
theorem covC_key {l : List (List Int)} {c d : Nat × Nat} (h : setN l c l.length = setN l d l.length) (s : Nat) : covC l c s = covC l d s := by
  have hh : ∀ i, i < l.length → hasC l c i = hasC l d i := fun i hi => by
    have h1 := setN_bit l c l.length i
    have h2 := setN_bit l d l.length i
    rw [h, h2] at h1
    simpa [hi] using h1.symm
  rw [Bool.eq_iff_iff, covC_iff, covC_iff]
  constructor
  · rintro ⟨i, h1, h2, h3⟩; exact ⟨i, h1, h2, by rw [← hh i h1]; exact h3⟩
  · rintro ⟨i, h1, h2, h3⟩; exact ⟨i, h1, h2, by rw [hh i h1]; exact h3⟩
theorem lkM_put (k k' : Int) : ∀ es : List (Int × Bool), lkM (putM es k true) k' = true ↔ lkM es k' = true ∨ k' = k
  | [] => by
    simp only [putM, lkM]
    by_cases h : k = k'
    · rw [if_pos h]; simp [h]
    · have h4 : ¬ k' = k := fun e => h e.symm
      rw [if_neg h]; simp [h4]
  | (a, b) :: es => by
    have ih := lkM_put k k' es
    simp only [putM]
    split
    · rename_i h
      simp only [lkM]
      by_cases h2 : k = k'
      · rw [if_pos h2]; simp [h2]
      · have h3 : ¬ a = k' := fun e => h2 (h ▸ e)
        have h4 : ¬ k' = k := fun e => h2 e.symm
        rw [if_neg h2, if_neg h3]; simp [h4]
    · rename_i h
      simp only [lkM]
      by_cases h2 : a = k'
      · have h3 : ¬ k' = k := fun e => h (h2.trans e)
        rw [if_pos h2]; simp [h3, h2]
      · rw [if_neg h2, if_neg h2]; exact ih
theorem foldR_key (l : List (List Int)) (cs : List (Nat × Nat)) (k : Int) : lkM (foldR l cs).1 k = true ↔ ∃ c ∈ cs, k = (setN l c l.length : Nat) := by
  refine snoc_ind (P := fun cs => lkM (foldR l cs).1 k = true ↔ ∃ c ∈ cs, k = (setN l c l.length : Nat)) (by simp [foldR, lkM]) (fun cs c ih => ?_) cs
  rw [foldR_snoc]
  have e : (∃ d ∈ cs ++ [c], k = (setN l d l.length : Nat)) ↔ (∃ d ∈ cs, k = (setN l d l.length : Nat)) ∨ k = (setN l c l.length : Nat) := by
    constructor
    · rintro ⟨d, hd, h⟩
      rcases List.mem_append.1 hd with h1 | h1
      · exact .inl ⟨d, h1, h⟩
      · rw [List.mem_singleton] at h1; subst h1; exact .inr h
    · rintro (⟨d, hd, h⟩ | h)
      · exact ⟨d, List.mem_append.2 (.inl hd), h⟩
      · exact ⟨c, List.mem_append.2 (.inr (by simp)), h⟩
  rw [e]
  by_cases hk : lkM (foldR l cs).1 (setN l c l.length : Nat) = true
  · rw [stepR_t hk, ih]
    constructor
    · exact .inl
    · rintro (h | h)
      · exact h
      · rw [← ih, h]; exact hk
  · rw [Bool.not_eq_true] at hk
    rw [stepR_f hk, lkM_put, ih]
theorem foldR_rows {l : List (List Int)} (hl : l.length ≤ 12) (cs : List (Nat × Nat)) {s : Nat} (hs : s < 65536) : allKept (foldR l cs).2 s = cs.all fun c => covC l c s := by
  refine snoc_ind (P := fun cs => allKept (foldR l cs).2 s = cs.all fun c => covC l c s) (by simp [foldR, allKept]) (fun cs c ih => ?_) cs
  rw [foldR_snoc, List.all_append]
  by_cases hk : lkM (foldR l cs).1 (setN l c l.length : Nat) = true
  · rw [stepR_t hk, ih]
    obtain ⟨d, hd, he⟩ := (foldR_key l cs _).1 hk
    have hc := covC_key (show setN l c l.length = setN l d l.length by omega) s
    rw [Bool.eq_iff_iff]
    simp only [List.all_cons, List.all_nil, Bool.and_true, Bool.and_eq_true]
    constructor
    · intro h; exact ⟨h, by rw [hc]; exact List.all_eq_true.1 h d hd⟩
    · exact fun h => h.1
  · rw [Bool.not_eq_true] at hk
    rw [stepR_f hk]
    show allKept ((foldR l cs).2 ++ [rowR l c]) s = _
    simp only [allKept, List.all_append, List.all_cons, List.all_nil, Bool.and_true]
    rw [kept_row hl c hs, ← ih]; rfl
theorem foldR_mem {l : List (List Int)} (cs : List (Nat × Nat)) : ∀ r ∈ (foldR l cs).2, ∃ c ∈ cs, r = rowR l c := by
  refine snoc_ind (P := fun cs => ∀ r ∈ (foldR l cs).2, ∃ c ∈ cs, r = rowR l c) (by simp [foldR]) (fun cs c ih => ?_) cs
  intro r hr
  rw [foldR_snoc] at hr
  by_cases hk : lkM (foldR l cs).1 (setN l c l.length : Nat) = true
  · rw [stepR_t hk] at hr
    obtain ⟨d, h1, h2⟩ := ih r hr
    exact ⟨d, List.mem_append.2 (.inl h1), h2⟩
  · rw [Bool.not_eq_true] at hk
    rw [stepR_f hk] at hr
    rcases List.mem_append.1 hr with h | h
    · obtain ⟨d, h1, h2⟩ := ih r h
      exact ⟨d, List.mem_append.2 (.inl h1), h2⟩
    · rw [List.mem_singleton] at h
      exact ⟨c, List.mem_append.2 (.inr (by simp)), h⟩
theorem cellsL_len (t : List Int) : (cellsL t).length ≤ 256 := cellT_len t 256
theorem progR_valid {l : List (List Int)} (hl : l.length ≤ 12) (t : List Int) : validB (progR l t) = true := by
  simp only [validB, Bool.and_eq_true, isInB_spec, decide_eq_true_eq]
  have h1 := (foldR_len l (cellsL t)).1
  have h2 := cellsL_len t
  refine ⟨⟨by show (0 : Int) ≤ l.length; omega, by show (l.length : Int) ≤ 12; omega⟩, by show ((foldR l (cellsL t)).2.length : Int) ≤ 300; omega, ?_, by simp [progR], ?_⟩
  · rw [List.all_eq_true]
    intro r hr
    obtain ⟨c, -, rfl⟩ := foldR_mem (cellsL t) r hr
    simp only [rightB, Bool.and_eq_true, decide_eq_true_eq, isInB_spec]
    exact ⟨by show ((coefT l c l.length).length : Int) = l.length; rw [coefT_len], coefB_R l c _, by show (-1000000000000 : Int) ≤ -1 ∧ (-1 : Int) ≤ 1000000000000; decide⟩
  · rw [coefB_iff]
    intro x hx
    have := List.eq_of_mem_replicate hx
    omega
theorem union_has {a b : List Int} (ha : a.length = 16) (hb : b.length = 16) (va : validA a = true) (vb : validA b = true) : validA (unionA a b) = true ∧ ∀ x y : Nat, x < 16 → y < 16 → hasA (unionA a b) x y = (hasA a x y || hasA b x y) := by
  have e : unionA a b = cellsG fun x y => bitG a x y || bitG b x y := by
    have := union_G (bitG a) (bitG b); rw [← rep_G ha va, ← rep_G hb vb] at this; exact this
  exact ⟨by rw [e]; exact cellsG_valid _, fun x y hx hy => by rw [e, has_G _ hx hy, hasV ha va hx hy, hasV hb vb hx hy]⟩
theorem minus_has {a b : List Int} (ha : a.length = 16) (hb : b.length = 16) (va : validA a = true) (vb : validA b = true) : validA (minusA a b) = true ∧ ∀ x y : Nat, x < 16 → y < 16 → hasA (minusA a b) x y = (hasA a x y && !hasA b x y) := by
  have e : minusA a b = cellsG fun x y => bitG a x y && !bitG b x y := by
    have := minus_G (bitG a) (bitG b); rw [← rep_G ha va, ← rep_G hb vb] at this; exact this
  exact ⟨by rw [e]; exact cellsG_valid _, fun x y hx hy => by rw [e, has_G _ hx hy, hasV ha va hx hy, hasV hb vb hx hy]⟩
theorem meet_has {a b : List Int} (ha : a.length = 16) (hb : b.length = 16) (va : validA a = true) (vb : validA b = true) : validA (meetA a b) = true ∧ ∀ x y : Nat, x < 16 → y < 16 → hasA (meetA a b) x y = (hasA a x y && hasA b x y) := by
  have e : meetA a b = cellsG fun x y => bitG a x y && bitG b x y := by
    have := meet_G (bitG a) (bitG b); rw [← rep_G ha va, ← rep_G hb vb] at this; exact this
  exact ⟨by rw [e]; exact cellsG_valid _, fun x y hx hy => by rw [e, has_G _ hx hy, hasV ha va hx hy, hasV hb vb hx hy]⟩
theorem within_has {a b : List Int} (ha : a.length = 16) (hb : b.length = 16) (va : validA a = true) (vb : validA b = true) : withinA a b = true ↔ ∀ x y : Nat, x < 16 → y < 16 → hasA a x y = true → hasA b x y = true := by
  have := within_G (g := bitG a) (h := bitG b)
  rw [← rep_G ha va, ← rep_G hb vb] at this
  rw [this]
  constructor
  · intro h x y hx hy; rw [hasV ha va hx hy, hasV hb vb hx hy]; exact h x y hx hy
  · intro h x y hx hy; have := h x y hx hy; rw [hasV ha va hx hy, hasV hb vb hx hy] at this; exact this
theorem zeros_has : validA zeros16 = true ∧ ∀ x y : Nat, x < 16 → y < 16 → hasA zeros16 x y = false := ⟨by decide, fun x y hx hy => by rw [zeros_G, has_G _ hx hy]⟩
def allV (l : List (List Int)) : Prop := ∀ a ∈ l, validA a = true
theorem validR_iff {l : List (List Int)} {t : List Int} : validR l t = true ↔ allV l ∧ l.length ≤ 12 ∧ validA t = true := by
  simp only [validR, Bool.and_eq_true, decide_eq_true_eq, List.all_eq_true, allV]
  exact ⟨fun ⟨h1, h2, h3⟩ => ⟨h1, by omega, h3⟩, fun ⟨h1, h2, h3⟩ => ⟨h1, by omega, h3⟩⟩
theorem unionT_has {l : List (List Int)} (hl : okAs l) (hv : allV l) : ∀ n, n ≤ l.length → validA (unionT l n) = true ∧ ∀ x y : Nat, x < 16 → y < 16 → (hasA (unionT l n) x y = true ↔ ∃ i, i < n ∧ hasA (l.getD i []) x y = true)
  | 0, _ => ⟨zeros_has.1, fun x y hx hy => by
      show hasA zeros16 x y = true ↔ _
      rw [zeros_has.2 x y hx hy]; simp⟩
  | n + 1, hn => by
    have ⟨ih1, ih2⟩ := unionT_has hl hv n (by omega)
    have hu := union_has (unionT_len hl n (by omega)) (hl.at (show n < l.length by omega)) ih1 (hv _ (getD_mem (by omega)))
    refine ⟨hu.1, fun x y hx hy => ?_⟩
    show hasA (unionA (unionT l n) (l.getD n [])) x y = true ↔ _
    rw [hu.2 x y hx hy, Bool.or_eq_true, ih2 x y hx hy]
    constructor
    · rintro (⟨i, h1, h2⟩ | h)
      · exact ⟨i, by omega, h2⟩
      · exact ⟨n, by omega, h⟩
    · rintro ⟨i, h1, h2⟩
      rcases Nat.lt_or_ge i n with h | h
      · exact .inl ⟨i, h, h2⟩
      · have : i = n := by omega
        subst this; exact .inr h2
theorem union_mem {l : List (List Int)} (hl : okAs l) (hv : allV l) {x y : Nat} (hx : x < 16) (hy : y < 16) : hasA (unionL l) x y = true ↔ ∃ a ∈ l, hasA a x y = true := by
  have h := (unionT_has hl hv l.length (Nat.le_refl _)).2 x y hx hy
  show hasA (unionT l l.length) x y = true ↔ _
  rw [h]
  constructor
  · rintro ⟨i, h1, h2⟩; exact ⟨_, getD_mem h1, h2⟩
  · rintro ⟨a, ha, h2⟩
    obtain ⟨i, hi, rfl⟩ := List.getElem_of_mem ha
    exact ⟨i, hi, by simpa [List.getD, hi] using h2⟩
theorem chosen_mem {l : List (List Int)} {s : Int} {a : List Int} : ∀ {n : Nat}, a ∈ chosenT l s n ↔ ∃ i : Nat, i < n ∧ cBit s i = true ∧ a = l.getD i []
  | 0 => by simp [chosenT]
  | n + 1 => by
    have ih := chosen_mem (l := l) (s := s) (a := a) (n := n)
    by_cases h : cBit s n = true
    · rw [chosenT_t h, List.mem_append, ih, List.mem_singleton]
      constructor
      · rintro (⟨i, h1, h2⟩ | h2)
        · exact ⟨i, by omega, h2⟩
        · exact ⟨n, by omega, h, h2⟩
      · rintro ⟨i, h1, h2, h3⟩
        rcases Nat.lt_or_ge i n with h4 | h4
        · exact .inl ⟨i, h4, h2, h3⟩
        · have : i = n := by omega
          subst this; exact .inr h3
    · rw [chosenT_f (Bool.eq_false_iff.2 h), ih]
      constructor
      · rintro ⟨i, h1, h2⟩; exact ⟨i, by omega, h2⟩
      · rintro ⟨i, h1, h2, h3⟩
        rcases Nat.lt_or_ge i n with h4 | h4
        · exact ⟨i, h4, h2, h3⟩
        · have : i = n := by omega
          subst this; exact absurd h2 h
theorem chosen_V {l : List (List Int)} (hv : allV l) (s : Int) : allV (chosenL l s) := fun a ha => by
  obtain ⟨i, h1, -, rfl⟩ := chosen_mem.1 ha
  exact hv _ (getD_mem h1)
theorem reached_len {l : List (List Int)} (hl : okAs l) (s : Int) : (reachedL l s).length = 16 := unionT_len (chosenT_ok hl s l.length (Nat.le_refl _)) _ (Nat.le_refl _)
theorem reached_V {l : List (List Int)} (hl : okAs l) (hv : allV l) (s : Int) : validA (reachedL l s) = true := (unionT_has (chosenT_ok hl s l.length (Nat.le_refl _)) (chosen_V hv s) _ (Nat.le_refl _)).1
theorem reached_has {l : List (List Int)} (hl : okAs l) (hv : allV l) (h12 : l.length ≤ 12) {s : Nat} (hs : s < 65536) {x y : Nat} (hx : x < 16) (hy : y < 16) : hasA (reachedL l s) x y = covC l (x, y) s := by
  have h := union_mem (chosenT_ok hl s l.length (Nat.le_refl _)) (chosen_V hv s) hx hy
  rw [Bool.eq_iff_iff, covC_iff]
  show hasA (unionL (chosenT l s l.length)) x y = true ↔ _
  rw [h]
  constructor
  · rintro ⟨a, ha, h2⟩
    obtain ⟨i, h3, h4, rfl⟩ := chosen_mem.1 ha
    exact ⟨i, h3, by rw [← cBit_nat hs (by omega)]; exact h4, h2⟩
  · rintro ⟨i, h3, h4, h5⟩
    exact ⟨_, chosen_mem.2 ⟨i, h3, by rw [cBit_nat hs (by omega)]; exact h4, rfl⟩, h5⟩
theorem cells_mem {t : List Int} (ht : t.length = 16) (hv : validA t = true) {p : Nat × Nat} : p ∈ cellsL t ↔ p.1 < 16 ∧ p.2 < 16 ∧ hasA t p.1 p.2 = true := by
  have e : ∀ x y : Nat, x < 16 → y < 16 → hasA t x y = cellB (t.getD y 0) x := fun x y hx hy => by
    have h1 : (0 : Int) ≤ minV x y := minV_nn (by omega) (by omega)
    have h2 : maxV (x : Int) y < 16 := maxV_lt (by omega) (by omega)
    simp [hasA, hv, h1, h2]
  unfold cellsL
  rw [cellsL_mem]
  constructor
  · rintro ⟨h1, h2, h3⟩; exact ⟨h1, by omega, by rw [e _ _ h1 (by omega)]; exact h3⟩
  · rintro ⟨h1, h2, h3⟩; exact ⟨h1, by omega, by rw [← e _ _ h1 h2]; exact h3⟩
theorem covers_iff {l : List (List Int)} (hl : okAs l) {t : List Int} (ht : t.length = 16) (hR : validR l t = true) {s : Nat} (hs : s < 65536) : withinA t (reachedL l s) = (cellsL t).all fun c => covC l c s := by
  obtain ⟨hv, h12, hvt⟩ := validR_iff.1 hR
  rw [Bool.eq_iff_iff, within_has ht (reached_len hl _) hvt (reached_V hl hv _), List.all_eq_true]
  constructor
  · intro h c hc
    obtain ⟨h1, h2, h3⟩ := (cells_mem ht hvt).1 hc
    rw [← reached_has hl hv h12 hs h1 h2]; exact h _ _ h1 h2 h3
  · intro h x y hx hy hh
    rw [reached_has hl hv h12 hs hx hy]
    exact h (x, y) ((cells_mem ht hvt).2 ⟨hx, hy, hh⟩)
/-- A set covers the target exactly if it keeps all rows. -/
theorem covers_kept {l : List (List Int)} (hl : okAs l) {t : List Int} (ht : t.length = 16) (hR : validR l t = true) {s : Nat} (hs : s < 65536) : allKept (progR l t).rows s = withinA t (reachedL l s) := by
  rw [covers_iff hl ht hR hs]; exact foldR_rows (validR_iff.1 hR).2.1 _ hs
def tX (n : Int) : List Int := n :: List.replicate 15 0
theorem exR_ok : okAs exR := ⟨by simp [exR, maxLen], by intro a ha; simp [exR] at ha; rcases ha with rfl | rfl | rfl <;> rfl⟩
theorem ex_val {n : Int} (h : validA (tX n) = true) : validR exR (tX n) = true := validR_iff.2 ⟨by intro a ha; simp [exR] at ha; rcases ha with rfl | rfl | rfl <;> decide, by decide, h⟩
theorem ex255 : (solveW (progR exR (tX 255))).found = true ∧ (solveW (progR exR (tX 255))).set = 5 ∧ (solveW (progR exR (tX 255))).gain = -2 := by decide +kernel
theorem ex12 : (solveW (progR exR (tX 12))).found = true ∧ (solveW (progR exR (tX 12))).set = 1 ∧ (solveW (progR exR (tX 12))).gain = -1 := by decide +kernel
theorem ex24 : (solveW (progR exR (tX 24))).found = true ∧ (solveW (progR exR (tX 24))).set = 2 ∧ (solveW (progR exR (tX 24))).gain = -1 := by decide +kernel
theorem ex511 : (solveW (progR exR (tX 511))).found = false ∧ (solveW (progR exR (tX 511))).set = 0 ∧ (solveW (progR exR (tX 511))).gain = 0 := by decide +kernel
theorem exRows : (progR exR (tX 255)).rows = [⟨1, 0, 0, 0, [-1, 0, 0], -1⟩, ⟨1, 2, 0, 0, [-1, -1, 0], -1⟩, ⟨1, 4, 0, 0, [0, -1, -1], -1⟩, ⟨1, 6, 0, 0, [0, 0, -1], -1⟩] := by kernel_rfl
theorem exMiss : minusA (tX 511) (unionL exR) = tX 256 := by decide +kernel
theorem exReach : reachedL exR 3 = tX 63 := by decide +kernel
theorem exReach5 : minusA (tX 255) (reachedL exR 5) = zeros16 ∧ minusA (tX 255) (reachedL exR 7) = zeros16 := by decide +kernel
def checkC (l : List (List Int)) (t : List Int) (fd : Bool) (set gain : Int) (pf : List Sg) : Bool :=
 if fd then decide (0 ≤ set ∧ set < ((2 ^ l.length : Nat) : Int)) && (decide (minusA t (reachedL l set) = zeros16) && (decide (gain = -onesW (IntKind.u64.wrap set)) && boundsW (progR l t) pf gain))
 else decide (set = 0) && decide (gain = 0) && refutesW (progR l t) pf
theorem valid0 {l : List (List Int)} {t : List Int} (hR : validR l t = true) : validR l zeros16 = true := by
 obtain ⟨h1, h2, -⟩ := validR_iff.1 hR
 exact validR_iff.2 ⟨h1, h2, zeros_has.1⟩
theorem kCheck {l : List (List Int)} (hl : okAs l) {t : List Int} (ht : t.length = 16) (hR : validR l t = true) (fd : Bool) (set gain : Int) (pf : List Sg) (hpf : okPf pf) :
  CallsA Try.prog 47 [.sl 16 (encA l), .agg (cellsI t), .agg [.bool fd, .int .i64 set, .int .i64 gain, .sl 4 (encSgs pf)]] (.bool (checkC l t fd set gain pf)) := by
 have h12 := (validR_iff.1 hR).2.1
 have hvM := progR_valid h12 t
 have kR := s24 (okPr_valid hvM) hpf
 have kB := s32 (okPr_valid hvM) hpf
 cases fd with
 | false => exact k47a l hl t ht hR false set gain pf kR kB rfl
 | true =>
  by_cases h : 0 ≤ set ∧ set < ((2 ^ l.length : Nat) : Int)
  ·
   have := k47b l hl t ht h12 hR (valid0 hR) true set gain pf kR kB rfl h.1 h.2
   have e : checkC l t true set gain pf = (decide (minusA t (reachedL l set) = zeros16) && (decide (gain = -onesW (IntKind.u64.wrap set)) && boundsW (progR l t) pf gain)) := by
    unfold checkC; rw [if_pos rfl, decide_eq_true h, Bool.true_and]
   rw [e]; exact this
  ·
   have := k47c l hl t ht h12 hR true set gain pf kR kB rfl (by right; omega)
   have e : checkC l t true set gain pf = false := by
    unfold checkC; rw [if_pos rfl, decide_eq_false h, Bool.false_and]
   rw [e]; exact this
theorem kLeast {l : List (List Int)} (hl : okAs l) {t : List Int} (ht : t.length = 16) (hR : validR l t = true) :
  CallsA Try.prog 43 [.sl 16 (encA l), .agg (cellsI t)] (.tup [.agg (encSol2 (progR l t)), .int .i64 0]) := k43 l hl t ht hR (progR_valid (validR_iff.1 hR).2.1 t)
theorem solveW_f (p : Pg) : (solveB p).1 = (solveW p).found := rfl
theorem solveW_s (p : Pg) : (solveB p).2.1 = (solveW p).set := rfl
theorem solveW_g (p : Pg) : (solveB p).2.2 = (solveW p).gain := rfl
theorem vx (n : Int) (h : validA (tX n) = true := by decide) : validR exR (tX n) = true := ex_val h
theorem sx43 {n : Int} (h : validA (tX n) = true) : CallsA Try.prog 43 [.sl 16 (encA exR), .agg (cellsI (tX n))] (.tup [.agg [.bool (solveW (progR exR (tX n))).found, .int .i64 (solveW (progR exR (tX n))).set, .int .i64 (solveW (progR exR (tX n))).gain, .sl 4 (encSgs (prfS (progR exR (tX n))))], .int .i64 0]) := kLeast exR_ok (t := tX n) rfl (ex_val h)
theorem sx1 : ∃ P : List Sg, CallsA Try.prog 43 [.sl 16 (encA exR), .agg (cellsI (tX 255))] (.tup [.agg [.bool true, .int .i64 5, .int .i64 (-2), .sl 4 (encSgs P)], .int .i64 0]) ∧
  CallsA Try.prog 47 [.sl 16 (encA exR), .agg (cellsI (tX 255)), .agg [.bool true, .int .i64 5, .int .i64 (-2), .sl 4 (encSgs P)]] (.bool true) ∧
  CallsA Try.prog 47 [.sl 16 (encA exR), .agg (cellsI (tX 255)), .agg [.bool true, .int .i64 7, .int .i64 (-3), .sl 4 (encSgs P)]] (.bool false) := by
 have hv := progR_valid (l := exR) (by decide) (tX 255)
 have h := sx43 (n := 255) (by decide)
 obtain ⟨e1, e2, e3⟩ := ex255
 rw [e1, e2, e3] at h
 refine ⟨_, h, ?_, ?_⟩
 ·
  have hb := cmp_bound hv ((solveW_f _).trans e1)
  have e3' : (solveB (progR exR (tX 255))).2.2 = -2 := (solveW_g _).trans e3
  rw [e3'] at hb
  have hc := kCheck exR_ok (t := tX 255) rfl (vx 255) true 5 (-2) _ (okPf_prf hv)
  have e : checkC exR (tX 255) true 5 (-2) (prfS (progR exR (tX 255))) = true := by
   unfold checkC
   rw [if_pos rfl, hb, exReach5.1]; decide
  rw [e] at hc; exact hc
 ·
  have hc := kCheck exR_ok (t := tX 255) rfl (vx 255) true 7 (-3) _ (okPf_prf hv)
  have hb : boundsW (progR exR (tX 255)) (prfS (progR exR (tX 255))) (-3) = false := by
   cases hb : boundsW (progR exR (tX 255)) (prfS (progR exR (tX 255))) (-3) with
   | false => rfl
   | true =>
    have := bounds_true hb (v := 3) rfl (s := 5) (by decide) (by decide +kernel)
    exact absurd this (by decide)
  have e : checkC exR (tX 255) true 7 (-3) (prfS (progR exR (tX 255))) = false := by
   unfold checkC
   rw [if_pos rfl, hb, Bool.and_false, Bool.and_false, Bool.and_false]
  rw [e] at hc; exact hc
theorem sx2 : ∃ P : List Sg, CallsA Try.prog 43 [.sl 16 (encA exR), .agg (cellsI (tX 12))] (.tup [.agg [.bool true, .int .i64 1, .int .i64 (-1), .sl 4 (encSgs P)], .int .i64 0]) := by
 have h := sx43 (n := 12) (by decide)
 obtain ⟨e1, e2, e3⟩ := ex12
 rw [e1, e2, e3] at h; exact ⟨_, h⟩
theorem sx3 : ∃ P : List Sg, CallsA Try.prog 43 [.sl 16 (encA exR), .agg (cellsI (tX 24))] (.tup [.agg [.bool true, .int .i64 2, .int .i64 (-1), .sl 4 (encSgs P)], .int .i64 0]) := by
 have h := sx43 (n := 24) (by decide)
 obtain ⟨e1, e2, e3⟩ := ex24
 rw [e1, e2, e3] at h; exact ⟨_, h⟩
theorem sx4 : ∃ P : List Sg, CallsA Try.prog 43 [.sl 16 (encA exR), .agg (cellsI (tX 511))] (.tup [.agg [.bool false, .int .i64 0, .int .i64 0, .sl 4 (encSgs P)], .int .i64 0]) ∧
  CallsA Try.prog 47 [.sl 16 (encA exR), .agg (cellsI (tX 511)), .agg [.bool false, .int .i64 0, .int .i64 0, .sl 4 (encSgs P)]] (.bool true) ∧
  CallsA Try.prog 47 [.sl 16 (encA exR), .agg (cellsI (tX 255)), .agg [.bool false, .int .i64 0, .int .i64 0, .sl 4 (encSgs P)]] (.bool false) := by
 have hv := progR_valid (l := exR) (by decide) (tX 511)
 have h := sx43 (n := 511) (by decide)
 obtain ⟨e1, e2, e3⟩ := ex511
 rw [e1, e2, e3] at h
 refine ⟨_, h, ?_, ?_⟩
 ·
  have hb := prf_refutes hv ((solveW_f _).trans e1)
  have hc := kCheck exR_ok (t := tX 511) rfl (vx 511) false 0 0 _ (okPf_prf hv)
  have e : checkC exR (tX 511) false 0 0 (prfS (progR exR (tX 511))) = true := by
   unfold checkC
   rw [hb]; decide
  rw [e] at hc; exact hc
 ·
  have hc := kCheck exR_ok (t := tX 255) rfl (vx 255) false 0 0 _ (okPf_prf hv)
  have hb : refutesW (progR exR (tX 255)) (prfS (progR exR (tX 511))) = false := by
   cases hb : refutesW (progR exR (tX 255)) (prfS (progR exR (tX 511))) with
   | false => rfl
   | true =>
    have := refutes_true hb (v := 3) rfl (s := 5) (by decide)
    have h5 : allKept (progR exR (tX 255)).rows (5 : Nat) = true := by decide +kernel
    rw [h5] at this; cases this
  have e : checkC exR (tX 255) false 0 0 (prfS (progR exR (tX 511))) = false := by
   unfold checkC
   rw [hb]; decide
  rw [e] at hc; exact hc
theorem sx5 : CallsA Try.prog 49 [.sl 16 (encA exR), .agg (cellsI (tX 255))] (.tup [.agg [.int .i64 3, .sl 6 (encR [⟨1, 0, 0, 0, [-1, 0, 0], -1⟩, ⟨1, 2, 0, 0, [-1, -1, 0], -1⟩, ⟨1, 4, 0, 0, [0, -1, -1], -1⟩, ⟨1, 6, 0, 0, [0, 0, -1], -1⟩]), .sl 1 (encI [-1, -1, -1])], .int .i64 0]) := by
 have h := k49 exR exR_ok (tX 255) rfl (vx 255)
 unfold encPg at h; rw [exRows] at h; exact h
theorem sx6 : CallsA Try.prog 52 [.sl 16 (encA exR), .agg (cellsI (tX 511))] (.tup [.agg (cellsI (tX 256)), .int .i64 0]) := by
 have h := k52 exR exR_ok (tX 511) rfl (vx 511); rw [exMiss] at h; exact h
theorem sx7 : CallsA Try.prog 53 [.sl 16 (encA exR), .int .i64 3] (.tup [.agg (cellsI (tX 63)), .int .i64 0]) := by
 have h := k53 exR exR_ok (by decide) 3 (valid0 (vx 255)) (by decide) (by decide); rw [exReach] at h; exact h
theorem sx8 : CallsA Try.prog 53 [.sl 16 (encA exR), .int .i64 8] (.tup [.agg (cellsI zeros16), .int .i64 280]) := k53n exR exR_ok (by decide) 8 (by decide)
theorem sx9 : CallsA Try.prog 86 [.sl 16 (encA exR), .agg (cellsI (tX 1))] (.bool true) := by
 have h := k86 exR exR_ok (tX 1) rfl; rw [vx 1] at h; exact h
theorem sx10 : CallsA Try.prog 86 [.sl 16 (encA exR), .agg (cellsI (tX (-1)))] (.bool false) := by
 have h := k86 exR exR_ok (tX (-1)) rfl
 have e : validR exR (tX (-1)) = false := by decide
 rw [e] at h; exact h
set_option maxRecDepth 100000
attribute [local go_sem] Nat.zero_add Nat.add_zero Nat.mul_one eq_self ne_eq not_true_eq_false not_false_eq_true decide_true decide_false decide_not Bool.false_eq_true List.filter_cons List.filter_nil true_and and_true beq_false beq_true Bool.not_true Bool.not_false Bool.and_true Bool.true_and Option.getD_some Option.getD_none imp_self implies_true Int.toNat_natCast List.cons_append List.nil_append List.map_cons List.map_nil List.length_cons List.length_nil List.getD_cons_zero List.getD_cons_succ List.drop_zero List.drop_succ_cons List.take_succ_cons List.take_zero
attribute [local go_sem] lowN lowQ lowM isAl appOwn unw shL isSh Option.isNone_none Option.isNone_some Option.isSome_none appF isE isO stpO notIn St.bare evO evDO isEff stp St.get St.slot St.put List.lookup un unL ofVal gof nth pickV pkB_false pkB_true binV unV loadV idxV fldV partV buildV fillV lenV sliV appV appR rowsV winV V.parts V.okp V.sc Mem.look_cons Mem.look_nil V.cl V.clL AObj.clo fzAll exps St.fz Mem.fz V.fz V.fzL AObj.fz shp AObj.shp csh AObj.csh rowM isSt isRpS isRd Option.isSome_some Bool.or_true Bool.true_or Bool.or_false Bool.false_or and_false false_and or_false false_or List.length_append forall_const imp_self arT_104 arT_121 arT_160 arT_161 arT_22 arT_23 arT_24 arT_25 arT_28 arT_29 arT_30 arT_40 arT_42 arT_52 arT_60 arT_65 arT_72 arT_73 arT_76 arT_9 arT_90 boolT_182 boolT_25 boolT_3 boolT_35 boolT_4 boolT_76 flatT_182 flatT_25 flatT_3 flatT_35 flatT_4 flatT_76 intT_133 intT_169 intT_171 intT_188 intT_3 intT_5 lay_104 lay_112 lay_138 lay_141 lay_153 lay_160 lay_161 lay_164 lay_188 lay_23 lay_24 lay_25 lay_27 lay_28 lay_3 lay_30 lay_34 lay_4 lay_49 lay_52 lay_54 lay_56 lay_65 lay_67 lay_73 lay_76 lay_90 lay_99 mapT_112 okF_10 okF_100 okF_101 okF_102 okF_103 okF_104 okF_105 okF_106 okF_107 okF_108 okF_109 okF_11 okF_110 okF_111 okF_112 okF_113 okF_114 okF_115 okF_116 okF_117 okF_118 okF_119 okF_12 okF_120 okF_121 okF_122 okF_123 okF_124 okF_125 okF_126 okF_127 okF_128 okF_129 okF_13 okF_130 okF_131 okF_132 okF_133 okF_134 okF_135 okF_136 okF_137 okF_138 okF_139 okF_14 okF_140 okF_141 okF_142 okF_143 okF_144 okF_145 okF_146 okF_147 okF_148 okF_149 okF_15 okF_150 okF_151 okF_152 okF_153 okF_154 okF_155 okF_156 okF_157 okF_158 okF_159 okF_16 okF_160 okF_161 okF_162 okF_163 okF_164 okF_165 okF_166 okF_167 okF_168 okF_169 okF_17 okF_170 okF_171 okF_172 okF_173 okF_174 okF_175 okF_176 okF_177 okF_18 okF_19 okF_20 okF_21 okF_22 okF_23 okF_24 okF_25 okF_26 okF_27 okF_28 okF_29 okF_3 okF_30 okF_31 okF_32 okF_33 okF_34 okF_35 okF_36 okF_37 okF_38 okF_39 okF_4 okF_40 okF_41 okF_42 okF_43 okF_44 okF_45 okF_46 okF_47 okF_48 okF_49 okF_5 okF_50 okF_51 okF_52 okF_53 okF_54 okF_55 okF_56 okF_57 okF_58 okF_59 okF_6 okF_60 okF_61 okF_62 okF_63 okF_64 okF_65 okF_66 okF_67 okF_68 okF_69 okF_7 okF_70 okF_71 okF_72 okF_73 okF_74 okF_75 okF_76 okF_77 okF_78 okF_79 okF_8 okF_80 okF_81 okF_82 okF_83 okF_84 okF_85 okF_86 okF_87 okF_88 okF_89 okF_9 okF_90 okF_91 okF_92 okF_93 okF_94 okF_95 okF_96 okF_97 okF_98 okF_99 plT_138 plT_153 plT_157 plT_161 plT_27 plT_34 plT_54 plT_56 plT_67 plT_76 plT_90 plT_99 slT_104 slT_121 slT_160 slT_161 slT_22 slT_23 slT_24 slT_25 slT_28 slT_29 slT_30 slT_40 slT_42 slT_52 slT_60 slT_65 slT_72 slT_73 slT_76 slT_90 stT_138_0 stT_138_1 stT_153_0 stT_157_0 stT_157_1 stT_157_2 stT_157_3 stT_27_0 stT_27_1 stT_27_2 stT_34_0 stT_34_1 stT_34_2 stT_34_3 stT_54_0 stT_54_1 stT_54_2 stT_54_3 stT_56_0 stT_56_1 stT_67_1 stT_67_4 stT_67_5 stT_99_0 stT_99_1 strT_160 strT_76 strT_9 zeroT_112 zeroT_138 zeroT_153 zeroT_157 zeroT_160 zeroT_161 zeroT_188 zeroT_27 zeroT_3 zeroT_30 zeroT_34 zeroT_4 zeroT_49 zeroT_54 zeroT_56 zeroT_65 zeroT_67 zeroT_76 zeroT_90 zeroT_99
attribute [local go_sem] cellsI_fzL cellsI_uptoL List.getElem?_cons_zero List.getElem?_cons_succ List.zip_cons_cons List.zip_nil_left List.zip_nil_right Bool.false_and Bool.and_false cellsG_length polyA_length discA_length agEq_cells cellsI_isI cellsI_length cellsI_sc cellsI_cl cellsI_rows cellsI_take cellsI_dropD cellsI_set cellsI_full encI_length encI_getD List.length_set List.length_replicate List.all_cons List.all_nil outA_length eachA_length outM_length getD_set_same List.set_set spl_nil0 spl_cons0 spl_succ encP_length encP_getD
attribute [local simp] encP_length padP_length encI_length
attribute [local go_sem] encR_length encR_getD encRw encPg lookV encI_length encI_getD
attribute [local simp] encA_length encR_length cellsI_length
section
attribute [local go_sem] encR encRw
set_option maxHeartbeats 16000000 in
theorem k39  : CallsA Try.prog 39 [] (.bool true) := by
 obtain ⟨P1, c1, q1, q2⟩ := sx1
 obtain ⟨P2, c2⟩ := sx2
 obtain ⟨P3, c3⟩ := sx3
 obtain ⟨P4, c4, q3, q4⟩ := sx4
 have e1 : List.take 16 (spl (cellsI (List.replicate 16 0)) 0 (cellsI (tX 256))) = cellsI (tX 256) := by rw [cellsI_full (tX 256) _ rfl]; exact List.take_of_length_le (Nat.le_refl 16)
 have e2 : List.take 16 (spl (cellsI (List.replicate 16 0)) 0 (cellsI (tX 63))) = cellsI (tX 63) := by rw [cellsI_full (tX 63) _ rfl]; exact List.take_of_length_le (Nat.le_refl 16)
 have hq : True := trivial
 refine callsA_of_tr Try.func39 rfl (Nat.le_of_ble_eq_true rfl) ?_
 simp only [Try.results39, envOf, Nat.reduceAdd]
 refine tr_seq fun K1 hK1 => ?_
 refine tr_region [] rfl rfl fun K hK => ?_
 refine evR_p ?_
 refine evR_e hK ?_; clear hK K
 refine hK1 _ ?_
 refine tr_seq fun K2 hK2 => ?_
 refine tr_region [1] rfl rfl fun K hK => ?_
 refine evR_c (hc := k85) (k := ?_)
 refine evR_p ?_
 refine evR_e hK ?_; clear hK K
 refine hK2 _ ?_
 refine tr_seq fun K3 hK3 => ?_
 refine tr_region [1, 2, 3] rfl rfl fun K hK => ?_
 iterate 2 refine evR_p ?_
 refine evR_c (hc := c1) (k := ?_)
 iterate 6 refine evR_p ?_
 refine evR_e hK ?_; clear hK K
 refine hK3 _ ?_
 refine tr_seq fun K4 hK4 => ?_
 refine tr_region [1, 2, 3, 4, 5] rfl rfl fun K hK => ?_
 iterate 2 refine evR_p ?_
 refine evR_c (hc := c2) (k := ?_)
 iterate 6 refine evR_p ?_
 refine evR_e hK ?_; clear hK K
 refine hK4 _ ?_
 refine tr_seq fun K5 hK5 => ?_
 refine tr_region [1, 2, 3, 4, 5, 6, 7] rfl rfl fun K hK => ?_
 iterate 2 refine evR_p ?_
 refine evR_c (hc := c3) (k := ?_)
 iterate 6 refine evR_p ?_
 refine evR_e hK ?_; clear hK K
 refine hK5 _ ?_
 refine tr_seq fun K6 hK6 => ?_
 refine tr_region [1, 2, 3, 4, 5, 6, 7, 8, 9] rfl rfl fun K hK => ?_
 iterate 2 refine evR_p ?_
 refine evR_c (hc := sx5) (k := ?_)
 iterate 6 refine evR_p ?_
 refine evR_e hK ?_; clear hK K
 refine hK6 _ ?_
 refine tr_seq fun K7 hK7 => ?_
 refine tr_region [1, 2, 3, 4, 5, 6, 7, 8, 9, 10, 11] rfl rfl fun K hK => ?_
 iterate 2 refine evR_p ?_
 refine evR_c (hc := sx6) (k := ?_)
 iterate 6 refine evR_p ?_
 refine evR_e hK ?_; clear hK K
 refine hK7 _ ?_
 refine tr_seq fun K8 hK8 => ?_
 refine tr_region [1, 2, 3, 4, 5, 6, 7, 8, 9, 10, 11, 12, 13] rfl rfl fun K hK => ?_
 refine evR_p ?_
 refine evR_c (hc := sx7) (k := ?_)
 iterate 6 refine evR_p ?_
 refine evR_e hK ?_; clear hK K
 refine hK8 _ ?_
 refine tr_seq fun K9 hK9 => ?_
 refine tr_region [1, 2, 3, 4, 5, 6, 7, 8, 9, 10, 11, 12, 13, 14, 15] rfl rfl fun K hK => ?_
 iterate 2 refine evR_p ?_
 refine evR_c (hc := c4) (k := ?_)
 iterate 6 refine evR_p ?_
 refine evR_e hK ?_; clear hK K
 refine hK9 _ ?_
 refine tr_seq fun K10 hK10 => ?_
 refine tr_region [1, 2, 3, 4, 5, 6, 7, 8, 9, 10, 11, 12, 13, 14, 15, 17] rfl rfl fun K hK => ?_
 refine evR_p ?_
 refine evR_c (hc := sx8) (k := ?_)
 iterate 6 refine evR_p ?_
 refine evR_e hK ?_; clear hK K
 refine hK10 _ ?_
 refine tr_seq fun K11 hK11 => ?_
 refine tr_seq fun K12 hK12 => ?_
 refine tr_region [1, 2, 4, 6, 8, 10, 12, 14, 109] rfl rfl fun K hK => ?_
 iterate 3 refine evR_p ?_
 iterate 2 refine evR_g ?_
 iterate 2 refine evR_p ?_
 iterate 2 refine evR_g ?_
 iterate 2 refine evR_p ?_
 iterate 2 refine evR_g ?_
 iterate 2 refine evR_p ?_
 iterate 2 refine evR_g ?_
 iterate 2 refine evR_p ?_
 iterate 2 refine evR_g ?_
 iterate 2 refine evR_p ?_
 iterate 2 refine evR_g ?_
 iterate 2 refine evR_p ?_
 iterate 2 refine evR_g ?_
 iterate 2 refine evR_p ?_
 iterate 4 refine evR_g ?_
 iterate 2 refine evR_p ?_
 iterate 3 refine evR_g ?_
 refine evR_p ?_
 refine evR_e hK ?_; clear hK K
 refine hK12 _ ?_
 refine tr_condB (fun ht1 => ?_) (fun ht1 => ?_)
 ·
  skip
  refine tr_seq fun K13 hK13 => ?_
  refine tr_region [0] rfl rfl fun K hK => ?_
  refine evR_p ?_
  refine evR_e hK ?_; clear hK K
  refine hK13 _ ?_
  refine tr_ret ?_
  (try simp only [thenE, inBlkE])
  simp (maxSteps := 4000000) (disch := first | assumption | omega | (simp only [go_sem, *]; done) | (simp only [go_sem, *]; omega)) only [postA, postO, resV1, fzAll, go_sem, hq, Int.reduceToNat, Nat.reduceBEq, Nat.reduceEqDiff, Nat.reduceAdd, Nat.reduceMul, Nat.reduceLeDiff, Nat.reduceLT, Nat.reduceSub, ↓reduceIte, reduceCtorEq]
  all_goals (first | exact absurd rfl ht1 | (rw [e1, e2, agEq_cells, agEq_cells]; decide) | (rw [e1, e2, agEq_cells, agEq_cells]; rfl))
 ·
  skip
  refine tr_skip ?_
  (try simp only [thenE, inBlkE])
  refine hK11 _ ?_
  refine tr_seq fun K14 hK14 => ?_
  refine tr_region [1, 2, 8, 10, 12, 14, 18] rfl rfl fun K hK => ?_
  iterate 3 refine evR_p ?_
  iterate 3 refine evR_g ?_
  iterate 2 refine evR_p ?_
  iterate 3 refine evR_g ?_
  iterate 2 refine evR_p ?_
  iterate 2 refine evR_g ?_
  iterate 2 refine evR_p ?_
  iterate 3 refine evR_g ?_
  iterate 2 refine evR_p ?_
  iterate 3 refine evR_g ?_
  iterate 2 refine evR_p ?_
  iterate 2 refine evR_g ?_
  iterate 2 refine evR_p ?_
  iterate 3 refine evR_g ?_
  iterate 2 refine evR_p ?_
  iterate 3 refine evR_g ?_
  iterate 2 refine evR_p ?_
  iterate 3 refine evR_g ?_
  iterate 2 refine evR_p ?_
  refine evR_e hK ?_; clear hK K
  refine hK14 _ ?_
  refine tr_seq fun K15 hK15 => ?_
  refine tr_region [1, 2, 10, 12, 14, 18, 19] rfl rfl fun K hK => ?_
  iterate 7 refine evR_p ?_
  iterate 6 refine evR_g ?_
  refine evR_gc (hc := (c19 [-1, -1, 0] [-1, -1, 0] (by simp [maxLen]) (by simp [maxLen]))) (k := ?_)
  iterate 2 refine evR_p ?_
  iterate 6 refine evR_g ?_
  iterate 2 refine evR_p ?_
  iterate 6 refine evR_g ?_
  refine evR_gc (hc := (c19 [0, 0, -1] [0, 0, -1] (by simp [maxLen]) (by simp [maxLen]))) (k := ?_)
  iterate 2 refine evR_p ?_
  refine evR_e hK ?_; clear hK K
  refine hK15 _ ?_
  refine tr_seq fun K16 hK16 => ?_
  refine tr_region [1, 2, 10, 12, 14, 18, 19, 20] rfl rfl fun K hK => ?_
  iterate 3 refine evR_p ?_
  refine evR_e hK ?_; clear hK K
  refine hK16 _ ?_
  refine tr_seq fun K17 hK17 => ?_
  refine tr_region [1, 2, 10, 12, 14, 18, 19, 20] rfl rfl fun K hK => ?_
  iterate 2 refine evR_p ?_
  refine evR_e hK ?_; clear hK K
  refine hK17 _ ?_
  refine tr_seq fun K18 hK18 => ?_
  refine tr_region [1, 2, 10, 12, 14, 18, 19, 20] rfl rfl fun K hK => ?_
  iterate 2 refine evR_p ?_
  refine evR_e hK ?_; clear hK K
  refine hK18 _ ?_
  refine tr_seq fun K19 hK19 => ?_
  refine tr_region [1, 10, 12, 18, 19, 21] rfl rfl fun K hK => ?_
  iterate 3 refine evR_p ?_
  refine evR_c (hc := q1) (k := ?_)
  refine evR_p ?_
  iterate 3 refine evR_g ?_
  refine evR_gc (hc := q2) (k := ?_)
  refine evR_g ?_
  iterate 2 refine evR_p ?_
  iterate 3 refine evR_g ?_
  refine evR_gc (hc := q3) (k := ?_)
  iterate 2 refine evR_p ?_
  iterate 3 refine evR_g ?_
  refine evR_gc (hc := q4) (k := ?_)
  refine evR_g ?_
  iterate 2 refine evR_p ?_
  refine evR_e hK ?_; clear hK K
  refine hK19 _ ?_
  refine tr_seq fun K20 hK20 => ?_
  refine tr_region [0] rfl rfl fun K hK => ?_
  iterate 2 refine evR_p ?_
  refine evR_g ?_
  iterate 2 refine evR_p ?_
  refine evR_g ?_
  iterate 2 refine evR_p ?_
  iterate 3 refine evR_g ?_
  iterate 2 refine evR_p ?_
  iterate 3 refine evR_g ?_
  iterate 2 refine evR_p ?_
  iterate 2 refine evR_g ?_
  refine evR_gc (hc := sx9) (k := ?_)
  iterate 2 refine evR_p ?_
  iterate 2 refine evR_g ?_
  refine evR_gc (hc := sx10) (k := ?_)
  refine evR_g ?_
  iterate 2 refine evR_p ?_
  refine evR_e hK ?_; clear hK K
  refine hK20 _ ?_
  refine tr_ret ?_
  (try simp only [thenE, inBlkE])
  simp (maxSteps := 4000000) (disch := first | assumption | omega | (simp only [go_sem, *]; done) | (simp only [go_sem, *]; omega)) only [postA, postO, resV1, fzAll, go_sem, hq, Int.reduceToNat, Nat.reduceBEq, Nat.reduceEqDiff, Nat.reduceAdd, Nat.reduceMul, Nat.reduceLeDiff, Nat.reduceLT, Nat.reduceSub, ↓reduceIte, reduceCtorEq]
  all_goals (first | exact absurd rfl ht1 | (rw [e1, e2, agEq_cells, agEq_cells]; decide) | (rw [e1, e2, agEq_cells, agEq_cells]; rfl))
end

end Go.Proofs.Ytfamkbofdamkkaa
namespace Go.Proofs.Ytfamkbofdamkkaa
open Go.RowKit
set_option linter.unusedVariables false
set_option linter.unusedSimpArgs false
theorem pickW_rangeL (c : Int) {n : Int} (hn : 0 < n) (hc : okI c) : 0 ≤ pickW c n ∧ pickW c n < n := by
  unfold okI at hc
  unfold pickW
  split
  · rw [w64 (x := c + 1) (by omega), w64 (x := 0 - (c + 1)) (by omega)]
    exact ⟨Int.tmod_nonneg _ (by omega), Int.tmod_lt_of_pos _ hn⟩
  · exact ⟨Int.tmod_nonneg _ (by omega), Int.tmod_lt_of_pos _ hn⟩
/-- The step that Bent makes of a step. -/
def bentS (n : Nat) (z : List Int) (s : Sg) : Sg :=
  if pickW (z.getD 1 0) 9 = 0 then ⟨pickW (z.getD 2 0) 9 - 1, s.no, s.yes, s.ws⟩
  else if pickW (z.getD 1 0) 9 = 1 then ⟨s.var, pickW (z.getD 2 0) (n + 1), s.yes, s.ws⟩
  else if pickW (z.getD 1 0) 9 = 2 then ⟨s.var, s.no, pickW (z.getD 2 0) (n + 1), s.ws⟩
  else if pickW (z.getD 1 0) 9 = 3 then (if 0 < s.ws.length then ⟨s.var, s.no, s.yes, s.ws.set 0 ⟨pickW (z.getD 2 0) 9, (s.ws.getD 0 wt0).tm⟩⟩ else s)
  else if pickW (z.getD 1 0) 9 = 4 then (if 0 < s.ws.length then ⟨s.var, s.no, s.yes, s.ws.set 0 ⟨(s.ws.getD 0 wt0).rw, pickW (z.getD 2 0) 1003 - 1⟩⟩ else s)
  else if pickW (z.getD 1 0) 9 = 5 then ⟨s.var, s.no, s.yes, s.ws ++ [⟨pickW (z.getD 2 0) 10, 1 + pickW (z.getD 3 0) 5⟩]⟩
  else if pickW (z.getD 1 0) 9 = 7 then ⟨s.var, s.yes, s.no, s.ws⟩
  else s
def bentW (l : List Sg) (z : List Int) : List Sg :=
  if l.length = 0 then l
  else if pickW (z.getD 1 0) 9 = 6 then (l.set (pickW (z.getD 0 0) l.length).toNat (bentS l.length z (l.getD (pickW (z.getD 0 0) l.length).toNat sg0))).take (pickW (z.getD 2 0) l.length + 1).toNat
  else l.set (pickW (z.getD 0 0) l.length).toNat (bentS l.length z (l.getD (pickW (z.getD 0 0) l.length).toNat sg0))
theorem discV_valid (x : T3) : validA (discV x) = true := by
  unfold discV discA; split
  · exact cellsG_valid _
  · exact zeros_has.1
theorem targetL_valid (y : List Pl) : validA (targetL y) = true := by
  unfold targetL polyA; split
  · exact cellsG_valid _
  · exact zeros_has.1
theorem discsL_V (x : List T3) : allV (discsL x) := fun a ha => by
  obtain ⟨v, -, rfl⟩ := List.mem_map.1 ha; exact discV_valid v
theorem made_R (x : List T3) (y : List Pl) : validR (discsL x) (targetL y) = true := validR_iff.2 ⟨discsL_V x, by have := discsL_len x; omega, targetL_valid y⟩
theorem pick_pow (n : Int) (hn : okI n) (v : Nat) : ∃ u : Nat, pickW n ((2 ^ v : Nat) : Int) = u ∧ u < 2 ^ v := by
  have h := pickW_rangeL n (n := ((2 ^ v : Nat) : Int)) (by have := Nat.two_pow_pos v; omega) hn
  exact ⟨(pickW n ((2 ^ v : Nat) : Int)).toNat, by omega, by omega⟩
theorem pow_small {v u : Nat} (hv : v ≤ 12) (hu : u < 2 ^ v) : u < 65536 := by
  have : 2 ^ v ≤ 2 ^ 12 := Nat.pow_le_pow_right (by decide) hv
  omega
set_option maxRecDepth 100000
attribute [local go_sem] Nat.zero_add Nat.add_zero Nat.mul_one eq_self ne_eq not_true_eq_false not_false_eq_true decide_true decide_false decide_not Bool.false_eq_true List.filter_cons List.filter_nil true_and and_true beq_false beq_true Bool.not_true Bool.not_false Bool.and_true Bool.true_and Option.getD_some Option.getD_none imp_self implies_true Int.toNat_natCast List.cons_append List.nil_append List.map_cons List.map_nil List.length_cons List.length_nil List.getD_cons_zero List.getD_cons_succ List.drop_zero List.drop_succ_cons List.take_succ_cons List.take_zero
attribute [local go_sem] lowN lowQ lowM isAl appOwn unw shL isSh Option.isNone_none Option.isNone_some Option.isSome_none appF isE isO stpO notIn St.bare evO evDO isEff stp St.get St.slot St.put List.lookup un unL ofVal gof nth pickV pkB_false pkB_true binV unV loadV idxV fldV partV buildV fillV lenV sliV appV appR rowsV winV V.parts V.okp V.sc Mem.look_cons Mem.look_nil V.cl V.clL AObj.clo fzAll exps St.fz Mem.fz V.fz V.fzL AObj.fz shp AObj.shp csh AObj.csh rowM isSt isRpS isRd Option.isSome_some Bool.or_true Bool.true_or Bool.or_false Bool.false_or and_false false_and or_false false_or List.length_append forall_const imp_self arT_104 arT_121 arT_160 arT_161 arT_22 arT_23 arT_24 arT_25 arT_28 arT_29 arT_30 arT_40 arT_42 arT_52 arT_60 arT_65 arT_72 arT_73 arT_76 arT_9 arT_90 boolT_182 boolT_25 boolT_3 boolT_35 boolT_4 boolT_76 flatT_182 flatT_25 flatT_3 flatT_35 flatT_4 flatT_76 intT_133 intT_169 intT_171 intT_188 intT_3 intT_5 lay_104 lay_112 lay_138 lay_141 lay_153 lay_160 lay_161 lay_164 lay_188 lay_23 lay_24 lay_25 lay_27 lay_28 lay_3 lay_30 lay_34 lay_4 lay_49 lay_52 lay_54 lay_56 lay_65 lay_67 lay_73 lay_76 lay_90 lay_99 mapT_112 okF_10 okF_100 okF_101 okF_102 okF_103 okF_104 okF_105 okF_106 okF_107 okF_108 okF_109 okF_11 okF_110 okF_111 okF_112 okF_113 okF_114 okF_115 okF_116 okF_117 okF_118 okF_119 okF_12 okF_120 okF_121 okF_122 okF_123 okF_124 okF_125 okF_126 okF_127 okF_128 okF_129 okF_13 okF_130 okF_131 okF_132 okF_133 okF_134 okF_135 okF_136 okF_137 okF_138 okF_139 okF_14 okF_140 okF_141 okF_142 okF_143 okF_144 okF_145 okF_146 okF_147 okF_148 okF_149 okF_15 okF_150 okF_151 okF_152 okF_153 okF_154 okF_155 okF_156 okF_157 okF_158 okF_159 okF_16 okF_160 okF_161 okF_162 okF_163 okF_164 okF_165 okF_166 okF_167 okF_168 okF_169 okF_17 okF_170 okF_171 okF_172 okF_173 okF_174 okF_175 okF_176 okF_177 okF_18 okF_19 okF_20 okF_21 okF_22 okF_23 okF_24 okF_25 okF_26 okF_27 okF_28 okF_29 okF_3 okF_30 okF_31 okF_32 okF_33 okF_34 okF_35 okF_36 okF_37 okF_38 okF_39 okF_4 okF_40 okF_41 okF_42 okF_43 okF_44 okF_45 okF_46 okF_47 okF_48 okF_49 okF_5 okF_50 okF_51 okF_52 okF_53 okF_54 okF_55 okF_56 okF_57 okF_58 okF_59 okF_6 okF_60 okF_61 okF_62 okF_63 okF_64 okF_65 okF_66 okF_67 okF_68 okF_69 okF_7 okF_70 okF_71 okF_72 okF_73 okF_74 okF_75 okF_76 okF_77 okF_78 okF_79 okF_8 okF_80 okF_81 okF_82 okF_83 okF_84 okF_85 okF_86 okF_87 okF_88 okF_89 okF_9 okF_90 okF_91 okF_92 okF_93 okF_94 okF_95 okF_96 okF_97 okF_98 okF_99 plT_138 plT_153 plT_157 plT_161 plT_27 plT_34 plT_54 plT_56 plT_67 plT_76 plT_90 plT_99 slT_104 slT_121 slT_160 slT_161 slT_22 slT_23 slT_24 slT_25 slT_28 slT_29 slT_30 slT_40 slT_42 slT_52 slT_60 slT_65 slT_72 slT_73 slT_76 slT_90 stT_138_0 stT_138_1 stT_153_0 stT_157_0 stT_157_1 stT_157_2 stT_157_3 stT_27_0 stT_27_1 stT_27_2 stT_34_0 stT_34_1 stT_34_2 stT_34_3 stT_54_0 stT_54_1 stT_54_2 stT_54_3 stT_56_0 stT_56_1 stT_67_1 stT_67_4 stT_67_5 stT_99_0 stT_99_1 strT_160 strT_76 strT_9 zeroT_112 zeroT_138 zeroT_153 zeroT_157 zeroT_160 zeroT_161 zeroT_188 zeroT_27 zeroT_3 zeroT_30 zeroT_34 zeroT_4 zeroT_49 zeroT_54 zeroT_56 zeroT_65 zeroT_67 zeroT_76 zeroT_90 zeroT_99
attribute [local go_sem] cellsI_fzL cellsI_uptoL List.getElem?_cons_zero List.getElem?_cons_succ List.zip_cons_cons List.zip_nil_left List.zip_nil_right Bool.false_and Bool.and_false cellsG_length polyA_length discA_length agEq_cells cellsI_isI cellsI_length cellsI_sc cellsI_cl cellsI_rows cellsI_take cellsI_dropD cellsI_set cellsI_full encI_length encI_getD List.length_set List.length_replicate List.all_cons List.all_nil outA_length eachA_length outM_length getD_set_same List.set_set spl_nil0 spl_cons0 spl_succ encP_length encP_getD
attribute [local simp] encP_length padP_length encI_length
attribute [local go_sem] encR_length encR_getD encRw encPg lookV encI_length encI_getD
attribute [local simp] encA_length encR_length cellsI_length
theorem k44 (c n : Int) (hn : 0 < n) : CallsA Try.prog 44 [.int .i64 c, .int .i64 n] (.int .i64 (pickW c n)) := by
 have hq : True := trivial
 refine callsA_of_tr Try.func44 rfl (Nat.le_of_ble_eq_true rfl) ?_
 simp only [Try.results44, envOf, Nat.reduceAdd]
 refine tr_seq fun K1 hK1 => ?_
 refine tr_region [0, 1] rfl rfl fun K hK => ?_
 refine evR_p ?_
 refine evR_e hK ?_; clear hK K
 refine hK1 _ ?_
 refine tr_seq fun K2 hK2 => ?_
 refine tr_seq fun K3 hK3 => ?_
 refine tr_region [0, 1, 6] rfl rfl fun K hK => ?_
 iterate 2 refine evR_p ?_
 refine evR_e hK ?_; clear hK K
 refine hK3 _ ?_
 refine tr_condB (fun ht1 => ?_) (fun ht1 => ?_)
 ·
  skip
  refine tr_region [0, 1] rfl rfl fun K hK => ?_
  iterate 4 refine evR_p ?_
  refine evR_e hK ?_; clear hK K
  refine hK2 _ ?_
  refine tr_seq fun K4 hK4 => ?_
  refine tr_region [4] rfl rfl fun K hK => ?_
  iterate 4 refine evR_p ?_
  refine evR_e hK ?_; clear hK K
  refine hK4 _ ?_
  refine tr_ret ?_
  (try simp only [thenE, inBlkE])
  simp (maxSteps := 4000000) (disch := first | assumption | omega | (simp only [go_sem, *]; done) | (simp only [go_sem, *]; omega)) only [postA, postO, resV1, fzAll, go_sem, hq, Int.reduceToNat, Nat.reduceBEq, Nat.reduceEqDiff, Nat.reduceAdd, Nat.reduceMul, Nat.reduceLeDiff, Nat.reduceLT, Nat.reduceSub, ↓reduceIte, reduceCtorEq]
  all_goals (simp [pickW, *])
 ·
  skip
  refine tr_skip ?_
  (try simp only [thenE, inBlkE])
  refine hK2 _ ?_
  refine tr_seq fun K5 hK5 => ?_
  refine tr_region [4] rfl rfl fun K hK => ?_
  iterate 4 refine evR_p ?_
  refine evR_e hK ?_; clear hK K
  refine hK5 _ ?_
  refine tr_ret ?_
  (try simp only [thenE, inBlkE])
  simp (maxSteps := 4000000) (disch := first | assumption | omega | (simp only [go_sem, *]; done) | (simp only [go_sem, *]; omega)) only [postA, postO, resV1, fzAll, go_sem, hq, Int.reduceToNat, Nat.reduceBEq, Nat.reduceEqDiff, Nat.reduceAdd, Nat.reduceMul, Nat.reduceLeDiff, Nat.reduceLT, Nat.reduceSub, ↓reduceIte, reduceCtorEq]
  all_goals (simp [pickW, *])

section
attribute [local go_sem] encA_length encA_getD
end

section
attribute [local go_sem] encA_length encA_getD encPg
end

end Go.Proofs.Ytfamkbofdamkkaa
namespace Go.Proofs.Ytfamkbofdamkkaa
open Go.RowKit
set_option linter.unusedVariables false
set_option linter.unusedSimpArgs false
theorem many_sum {v : Nat} {s : Nat} : ∀ n, n ≤ v → n < 64 → sumG (List.replicate v (-1)) s n = -manyR s n
  | 0, _, _ => by simp [sumG, manyR]
  | n + 1, h, h2 => by
    have ih := many_sum (v := v) (s := s) n (by omega) (by omega)
    have e : (List.replicate v (-1 : Int)).getD n 0 = -1 := by simp [List.getD, List.getElem?_replicate, show n < v by omega]
    simp only [sumG, manyR, e, ih, rem_bit (s := s) (n := n) (by omega)]
    split <;> omega
theorem many_top {s v : Nat} (hs : s < 2 ^ v) : ∀ n, v ≤ n → n < 64 → manyR s n = manyR s v
  | 0, h, _ => by have : v = 0 := by omega
                  subst this; rfl
  | n + 1, h, h2 => by
    by_cases e : v = n + 1
    · subst e; rfl
    · have ih := many_top hs n (by omega) (by omega)
      have hb : s.testBit n = false := Nat.testBit_lt_two_pow (Nat.lt_of_lt_of_le hs (Nat.pow_le_pow_right (by decide) (by omega)))
      simp only [manyR, ih, rem_bit (s := s) (n := n) (by omega), hb]; simp
theorem gain_many {l : List (List Int)} (h12 : l.length ≤ 12) (t : List Int) {s : Nat} (hs : s < 2 ^ l.length) : sumG (progR l t).gain s l.length = -manyR s 12 := by
  rw [show (progR l t).gain = List.replicate l.length (-1) from rfl, many_sum l.length (Nat.le_refl _) (by omega), many_top hs 12 h12 (by omega)]
theorem least_no {l : List (List Int)} (hl : okAs l) {t : List Int} (ht : t.length = 16) (hR : validR l t = true) (hf : (solveB (progR l t)).1 = false) {u : Nat} (hu : u < 2 ^ l.length) : withinA t (reachedL l u) = false := by
  have h12 := (validR_iff.1 hR).2.1
  cases h : withinA t (reachedL l u) with
  | false => rfl
  | true =>
    rw [← covers_kept hl ht hR (pow_small h12 hu)] at h
    have := (solve_kept (progR_valid h12 t) (v := l.length) rfl hu h).1
    rw [hf] at this; cases this
theorem least_yes {l : List (List Int)} (hl : okAs l) {t : List Int} (ht : t.length = 16) (hR : validR l t = true) (hf : (solveB (progR l t)).1 = true) :
    ∃ w : Nat, (solveB (progR l t)).2.1 = w ∧ w < 2 ^ l.length ∧ withinA t (reachedL l w) = true ∧ (solveB (progR l t)).2.2 = -manyR w 12 ∧
      ∀ u : Nat, u < 2 ^ l.length → withinA t (reachedL l u) = true → manyR w 12 < manyR u 12 ∨ manyR u 12 = manyR w 12 ∧ w ≤ u := by
  have h12 := (validR_iff.1 hR).2.1
  have hv := progR_valid h12 t
  obtain ⟨w, h1, h2, h3⟩ := solveB_mem hf
  have h2' : w < 2 ^ l.length := by
    have e : (progR l t).vars.toNat = l.length := Int.toNat_natCast _
    rw [e] at h2; exact h2
  have hk := solve_kept hv (v := l.length) rfl h2' h3
  have hg := gain_many h12 t h2'
  refine ⟨w, h1, h2', by rw [← covers_kept hl ht hR (pow_small h12 h2')]; exact h3, by rw [← hk.2.2.2 h1.symm]; exact hg, fun u hu hc => ?_⟩
  rw [← covers_kept hl ht hR (pow_small h12 hu)] at hc
  have hku := solve_kept hv (v := l.length) rfl hu hc
  have hgu := gain_many h12 t hu
  have e := hk.2.2.2 h1.symm
  by_cases he : manyR u 12 = manyR w 12
  · right
    refine ⟨he, ?_⟩
    have := hku.2.2.1 (by omega)
    omega
  · left
    have := hku.2.1
    omega
theorem union_V {l : List (List Int)} (hl : okAs l) (hv : allV l) : validA (unionL l) = true := (unionT_has hl hv _ (Nat.le_refl _)).1
theorem union_len {l : List (List Int)} (hl : okAs l) : (unionL l).length = 16 := unionT_len hl _ (Nat.le_refl _)
theorem union_any {l : List (List Int)} (hl : okAs l) (hv : allV l) {x y : Nat} (hx : x < 16) (hy : y < 16) : hasA (unionL l) x y = true ↔ ∃ i, i < l.length ∧ hasC l (x, y) i = true := (unionT_has hl hv l.length (Nat.le_refl _)).2 x y hx hy
/-- All of them together reach what any of them reaches. -/
theorem covC_full {l : List (List Int)} {c : Nat × Nat} : covC l c (2 ^ l.length - 1) = true ↔ ∃ i, i < l.length ∧ hasC l c i = true := by
  rw [covC_iff]
  constructor
  · rintro ⟨i, h1, -, h3⟩; exact ⟨i, h1, h3⟩
  · rintro ⟨i, h1, h3⟩; exact ⟨i, h1, by rw [Nat.testBit_two_pow_sub_one]; simpa using h1, h3⟩
theorem full_lt (v : Nat) : 2 ^ v - 1 < 2 ^ v := by have := Nat.two_pow_pos v; omega
theorem size_zero {a : List Int} (ha : a.length = 16) (hv : validA a = true) : sizeA a = 0 ↔ ∀ x y : Nat, x < 16 → y < 16 → hasA a x y = false := by
  have hs : sizeA a = (tot (bitG a) 16 : Nat) := by
    have := size_G (bitG a); rw [← rep_G ha hv] at this; exact this
  rw [hs]
  constructor
  · intro h x y hx hy
    rw [hasV ha hv hx hy]
    exact tot_zero (show tot (bitG a) 16 = 0 by omega) x y hx hy
  · intro h
    have e : tot (bitG a) 16 = tot (fun _ _ => false) 16 := tot_congr fun x y hx hy => by rw [← hasV ha hv hx hy]; exact h x y hx hy
    rw [e]; decide
/-- A set is found exactly if nothing is missing. -/
theorem found_miss {l : List (List Int)} (hl : okAs l) {t : List Int} (ht : t.length = 16) (hR : validR l t = true) : (solveB (progR l t)).1 = decide (sizeA (minusA t (unionL l)) = 0) := by
  obtain ⟨hv, h12, hvt⟩ := validR_iff.1 hR
  have hm := minus_has ht (union_len hl) hvt (union_V hl hv)
  have hml := minusA_len ht (union_len hl)
  have key : sizeA (minusA t (unionL l)) = 0 ↔ withinA t (reachedL l ((2 ^ l.length - 1 : Nat) : Int)) = true := by
    rw [size_zero hml hm.1, within_has ht (reached_len hl _) hvt (reached_V hl hv _)]
    have hs := pow_small h12 (full_lt l.length)
    constructor
    · intro h x y hx hy hh
      rw [reached_has hl hv h12 hs hx hy, covC_full, ← union_any hl hv hx hy]
      have := h x y hx hy
      rw [hm.2 x y hx hy, hh, Bool.true_and] at this
      simpa using this
    · intro h x y hx hy
      rw [hm.2 x y hx hy]
      cases hh : hasA t x y with
      | false => rfl
      | true =>
        have := h x y hx hy hh
        rw [reached_has hl hv h12 hs hx hy, covC_full, ← union_any hl hv hx hy] at this
        rw [this]; rfl
  cases hf : (solveB (progR l t)).1 with
  | true =>
    symm; rw [decide_eq_true_eq, key]
    obtain ⟨w, -, hw, hc, -, -⟩ := least_yes hl ht hR hf
    rw [within_has ht (reached_len hl _) hvt (reached_V hl hv _)] at hc ⊢
    intro x y hx hy hh
    have := hc x y hx hy hh
    rw [reached_has hl hv h12 (pow_small h12 hw) hx hy, covC_iff] at this
    obtain ⟨i, h1, -, h3⟩ := this
    rw [reached_has hl hv h12 (pow_small h12 (full_lt _)) hx hy, covC_full]; exact ⟨i, h1, h3⟩
  | false =>
    symm; rw [decide_eq_false_iff_not, key]
    rw [least_no hl ht hR hf (full_lt _)]; simp
theorem within_miss {l : List (List Int)} (hl : okAs l) {t : List Int} (ht : t.length = 16) (hR : validR l t = true) : withinA (minusA t (unionL l)) t = true := by
  obtain ⟨hv, h12, hvt⟩ := validR_iff.1 hR
  have hm := minus_has ht (union_len hl) hvt (union_V hl hv)
  rw [within_has (minusA_len ht (union_len hl)) ht hm.1 hvt]
  intro x y hx hy h
  rw [hm.2 x y hx hy, Bool.and_eq_true] at h; exact h.1
theorem pick_cell (c : Int) (h : okI c) : ∃ u : Nat, pickW c 16 = u ∧ u < 16 := by
  have h := pickW_range c (n := 16) (by omega) (by omega) h
  exact ⟨(pickW c 16).toNat, by omega, by omega⟩
def hasT (l : List (List Int)) (n u v : Int) : Nat → Bool
  | 0 => false
  | i + 1 => hasT l n u v i || (decide (Int.tmod (shrW .i64 n (i : Nat)) 2 = 1) && hasA (l.getD i []) u v)
def someT (l : List (List Int)) (u v : Int) : Nat → Bool
  | 0 => false
  | i + 1 => someT l u v i || hasA (l.getD i []) u v
theorem bit_rem (s : Nat) {i : Nat} (h : i < 64) : decide (Int.tmod (shrW .i64 (s : Nat) (i : Nat)) 2 = 1) = s.testBit i := by
  rw [rem_bit (s := s) (n := i) h]
  cases s.testBit i <;> rfl
theorem hasT_iff (l : List (List Int)) (s : Nat) (c : Nat × Nat) : ∀ n, n ≤ 12 → (hasT l s c.1 c.2 n = true ↔ ∃ i, i < n ∧ s.testBit i = true ∧ hasC l c i = true)
  | 0, _ => by simp [hasT]
  | n + 1, h => by
    have ih := hasT_iff l s c n (by omega)
    simp only [hasT, Bool.or_eq_true, Bool.and_eq_true, bit_rem s (i := n) (by omega), ih]
    constructor
    · rintro (⟨i, h1, h2⟩ | h2)
      · exact ⟨i, by omega, h2⟩
      · exact ⟨n, by omega, h2⟩
    · rintro ⟨i, h1, h2⟩
      rcases Nat.lt_or_ge i n with h3 | h3
      · exact .inl ⟨i, h3, h2⟩
      · have : i = n := by omega
        subst this; exact .inr h2
theorem cov_hasT {l : List (List Int)} (h12 : l.length ≤ 12) {s : Nat} (hs : s < 2 ^ l.length) {x y : Nat} : covC l (x, y) s = hasT l s x y l.length := by
  rw [Bool.eq_iff_iff, covC_iff, hasT_iff l s (x, y) _ h12]
theorem someT_iff (l : List (List Int)) (c : Nat × Nat) : ∀ n, (someT l c.1 c.2 n = true ↔ ∃ i, i < n ∧ hasC l c i = true)
  | 0 => by simp [someT]
  | n + 1 => by
    have ih := someT_iff l c n
    simp only [someT, Bool.or_eq_true, ih]
    constructor
    · rintro (⟨i, h1, h2⟩ | h2)
      · exact ⟨i, by omega, h2⟩
      · exact ⟨n, by omega, h2⟩
    · rintro ⟨i, h1, h2⟩
      rcases Nat.lt_or_ge i n with h3 | h3
      · exact .inl ⟨i, h3, h2⟩
      · have : i = n := by omega
        subst this; exact .inr h2
theorem union_someT {l : List (List Int)} (hl : okAs l) (hv : allV l) {x y : Nat} (hx : x < 16) (hy : y < 16) : hasA (unionL l) x y = someT l x y l.length := by
  rw [Bool.eq_iff_iff, union_any hl hv hx hy, someT_iff l (x, y)]
theorem least_mono {l l' : List (List Int)} (hl : okAs l) (hl' : okAs l') {t t' : List Int} (ht : t.length = 16) (ht' : t'.length = 16) (hR : validR l t = true) (hR' : validR l' t' = true)
    (h : ∀ u : Nat, u < 2 ^ l.length → withinA t (reachedL l u) = true → ∃ u' : Nat, u' < 2 ^ l'.length ∧ withinA t' (reachedL l' u') = true ∧ manyR u' 12 ≤ manyR u 12)
    (hf : (solveB (progR l t)).1 = true) : (solveB (progR l' t')).1 = true ∧ (solveB (progR l t)).2.2 ≤ (solveB (progR l' t')).2.2 := by
  obtain ⟨w, -, hw, hcw, e2, -⟩ := least_yes hl ht hR hf
  obtain ⟨u', hu', hc', hm⟩ := h w hw hcw
  cases hf' : (solveB (progR l' t')).1 with
  | false => rw [least_no hl' ht' hR' hf' hu'] at hc'; cases hc'
  | true =>
    obtain ⟨w', -, -, -, e2', hbest⟩ := least_yes hl' ht' hR' hf'
    refine ⟨rfl, ?_⟩
    rw [e2, e2']
    rcases hbest u' hu' hc' with h1 | h1 <;> omega
theorem more_target {l : List (List Int)} (hl : okAs l) {t t' : List Int} (ht : t.length = 16) (ht' : t'.length = 16) (hR : validR l t = true) (hR' : validR l t' = true)
    (hs : ∀ x y : Nat, x < 16 → y < 16 → hasA t x y = true → hasA t' x y = true) (hf : (solveB (progR l t')).1 = true) : (solveB (progR l t)).1 = true ∧ (solveB (progR l t')).2.2 ≤ (solveB (progR l t)).2.2 := by
  refine least_mono hl hl ht' ht hR' hR (fun u hu hc => ⟨u, hu, ?_, Int.le_refl _⟩) hf
  obtain ⟨hv, -, hvt⟩ := validR_iff.1 hR
  obtain ⟨-, -, hvt'⟩ := validR_iff.1 hR'
  rw [within_has ht' (reached_len hl _) hvt' (reached_V hl hv _)] at hc
  rw [within_has ht (reached_len hl _) hvt (reached_V hl hv _)]
  exact fun x y hx hy hh => hc x y hx hy (hs x y hx hy hh)
theorem more_tr {l m : List (List Int)} (hl : okAs l) (hl' : okAs (l ++ m)) {t : List Int} (ht : t.length = 16) (hR : validR l t = true) (hR' : validR (l ++ m) t = true)
    (hf : (solveB (progR l t)).1 = true) : (solveB (progR (l ++ m) t)).1 = true ∧ (solveB (progR l t)).2.2 ≤ (solveB (progR (l ++ m) t)).2.2 := by
  refine least_mono hl hl' ht ht hR hR' (fun u hu hc => ?_) hf
  have h12 := (validR_iff.1 hR').2.1
  have hle : 2 ^ l.length ≤ 2 ^ (l ++ m).length := Nat.pow_le_pow_right (by decide) (by simp)
  have hu' : u < 2 ^ (l ++ m).length := by omega
  refine ⟨u, hu', ?_, Int.le_refl _⟩
  have hs := pow_small h12 hu'
  rw [covers_iff hl ht hR hs, List.all_eq_true] at hc
  rw [covers_iff hl' ht hR' hs, List.all_eq_true]
  intro c hcc
  obtain ⟨i, h1, h2, h3⟩ := covC_iff.1 (hc c hcc)
  refine covC_iff.2 ⟨i, by simp; omega, h2, ?_⟩
  have e : (l ++ m).getD i [] = l.getD i [] := by simp [List.getD, List.getElem?_append_left h1]
  unfold hasC at h3 ⊢
  rw [e]; exact h3
/-! #### sets out of predicates -/
def ofB (p : Nat → Bool) : Nat → Nat
  | 0 => 0
  | n + 1 => if p n = true then ofB p n + 2 ^ n else ofB p n
theorem ofB_lt (p : Nat → Bool) : ∀ n, ofB p n < 2 ^ n
  | 0 => by simp [ofB]
  | n + 1 => by have := ofB_lt p n; simp only [ofB]; rw [Nat.pow_succ]; split <;> omega
theorem ofB_bit (p : Nat → Bool) : ∀ n i, (ofB p n).testBit i = (decide (i < n) && p i)
  | 0, i => by simp [ofB]
  | n + 1, i => by
    have ih := ofB_bit p n i
    have hl := ofB_lt p n
    simp only [ofB]
    split
    · rename_i h
      rw [show ofB p n + 2 ^ n = 2 ^ n + ofB p n by omega]
      by_cases e : i = n
      · subst e
        rw [Nat.testBit_two_pow_add_eq, ih]; simp [h]
      · rcases Nat.lt_or_ge i n with h1 | h1
        · rw [Nat.testBit_two_pow_add_gt h1, ih]; simp [h1, show i < n + 1 by omega]
        · have h2 : (2 ^ n + ofB p n).testBit i = false := Nat.testBit_lt_two_pow (by
            have : 2 ^ (n + 1) ≤ 2 ^ i := Nat.pow_le_pow_right (by decide) (by omega)
            rw [Nat.pow_succ] at this; omega)
          rw [h2]; simp; omega
    · rename_i h
      rw [ih]
      by_cases e : i = n
      · subst e; simp at h; simp [h]
      · rw [show decide (i < n + 1) = decide (i < n) from by rw [decide_eq_decide]; omega]
def cntB (p : Nat → Bool) : Nat → Int
  | 0 => 0
  | n + 1 => cntB p n + if p n = true then 1 else 0
theorem cntB_congr {p q : Nat → Bool} : ∀ n, (∀ i, i < n → p i = q i) → cntB p n = cntB q n
  | 0, _ => rfl
  | n + 1, h => by simp only [cntB]; rw [cntB_congr n (fun i hi => h i (by omega)), h n (by omega)]
theorem many_cnt (s : Nat) : ∀ n, n < 64 → manyR s n = cntB s.testBit n
  | 0, _ => rfl
  | n + 1, h => by
    simp only [manyR, cntB, many_cnt s n (by omega), rem_bit (s := s) (n := n) (by omega)]
theorem many_of {s v : Nat} (hs : s < 2 ^ v) (hv : v ≤ 12) : manyR s 12 = cntB s.testBit v := by
  rw [many_top hs 12 hv (by omega), many_cnt s v (by omega)]
theorem many_ofB (p : Nat → Bool) {v : Nat} (hv : v ≤ 12) : manyR (ofB p v : Nat) 12 = cntB p v := by
  rw [many_of (ofB_lt p v) hv]
  exact cntB_congr v fun i hi => by rw [ofB_bit]; simp [hi]
/-- Without one place. -/
theorem cnt_out (p : Nat → Bool) (i : Nat) : ∀ n, i ≤ n → cntB (fun j => p (if j < i then j else j + 1)) n + (if p i = true then 1 else 0) = cntB p (n + 1)
  | 0, h => by
    have : i = 0 := by omega
    subst this; simp [cntB]
  | n + 1, h => by
    by_cases e : i = n + 1
    · subst e
      simp only [cntB]
      have h1 := cntB_congr (p := fun j => p (if j < n + 1 then j else j + 1)) (q := p) n (fun j hj => by simp [show j < n + 1 by omega])
      rw [h1]; simp
    · have ih := cnt_out p i n (by omega)
      simp only [cntB] at ih ⊢
      have e2 : ¬ n < i := by omega
      simp only [if_neg e2]
      omega
/-- A further place: with a false there. -/
theorem cnt_in (p : Nat → Bool) (i : Nat) : ∀ n, i ≤ n → cntB (fun j => if j < i then p j else if j = i then false else p (j - 1)) (n + 1) = cntB p n := by
  intro n h
  have := cnt_out (fun j => if j < i then p j else if j = i then false else p (j - 1)) i n h
  simp only [Nat.lt_irrefl, if_false, if_true, Bool.false_eq_true, Int.add_zero] at this
  rw [← this]
  refine cntB_congr n fun j hj => ?_
  by_cases e : j < i
  · simp [e]
  · simp only [if_neg e, show ¬ j + 1 < i by omega, show ¬ j + 1 = i by omega, if_false, Nat.add_sub_cancel]
/-- One place more is counted at most once. -/
theorem cnt_or (p : Nat → Bool) (b : Bool) (k : Nat) : ∀ n, cntB (fun j => p j || (decide (j = k) && b)) n ≤ cntB p n + (if b = true then 1 else 0) ∧ (n ≤ k → cntB (fun j => p j || (decide (j = k) && b)) n = cntB p n)
  | 0 => by simp [cntB]; split <;> omega
  | n + 1 => by
    have ⟨ih1, ih2⟩ := cnt_or p b k n
    refine ⟨?_, fun hk => ?_⟩
    · simp only [cntB]
      by_cases e : n = k
      · subst e
        rw [ih2 (Nat.le_refl _)]
        simp only [decide_true, Bool.true_and]
        cases b <;> rcases Bool.eq_false_or_eq_true (p n) with hp | hp <;> simp [hp] <;> omega
      · simp only [e, decide_false, Bool.false_and, Bool.or_false]; omega
    · have := ih2 (by omega)
      simp only [cntB, this, show ¬ n = k by omega, decide_false, Bool.false_and, Bool.or_false]
/-! #### a transmitter that is spared -/
def lessL (l : List (List Int)) (i : Nat) : List (List Int) := l.take i ++ l.drop (i + 1)
theorem lessL_len {l : List (List Int)} {i : Nat} (h : i < l.length) : (lessL l i).length + 1 = l.length := by simp [lessL]; omega
theorem lessL_get {l : List (List Int)} {i : Nat} (h : i < l.length) (j : Nat) : (lessL l i).getD j [] = l.getD (if j < i then j else j + 1) [] := by
  unfold lessL
  by_cases e : j < i
  · rw [if_pos e]
    simp only [List.getD, List.getElem?_append_left (show j < (l.take i).length by simp; omega), List.getElem?_take_of_lt e]
  · rw [if_neg e]
    simp only [List.getD]
    rw [List.getElem?_append_right (by simp; omega), List.getElem?_drop]
    have : (l.take i).length = i := by simp; omega
    rw [this, show i + 1 + (j - i) = j + 1 by omega]
theorem lessL_ok {l : List (List Int)} (hl : okAs l) (i : Nat) : okAs (lessL l i) := ⟨by
  have := hl.1
  simp [lessL]; omega, fun a ha => by
  rcases List.mem_append.1 ha with h | h
  · exact hl.2 a (List.mem_of_mem_take h)
  · exact hl.2 a (List.mem_of_mem_drop h)⟩
theorem lessL_R {l : List (List Int)} {t : List Int} (hR : validR l t = true) (i : Nat) : validR (lessL l i) t = true := by
  obtain ⟨hv, h12, hvt⟩ := validR_iff.1 hR
  refine validR_iff.2 ⟨fun a ha => ?_, by simp [lessL]; omega, hvt⟩
  rcases List.mem_append.1 ha with h | h
  · exact hv a (List.mem_of_mem_take h)
  · exact hv a (List.mem_of_mem_drop h)
theorem spare_up {l : List (List Int)} (hl : okAs l) {t : List Int} (ht : t.length = 16) (hR : validR l t = true) {i : Nat} (hi : i < l.length) {u : Nat} (hu : u < 2 ^ (lessL l i).length)
    (hc : withinA t (reachedL (lessL l i) u) = true) : ∃ u' : Nat, u' < 2 ^ l.length ∧ withinA t (reachedL l u') = true ∧ manyR u' 12 ≤ manyR u 12 := by
  have h12 := (validR_iff.1 hR).2.1
  have hn := lessL_len hi
  have hL := lessL_ok hl i
  have hRL := lessL_R hR i
  have h12L := (validR_iff.1 hRL).2.1
  refine ⟨ofB (fun j => if j < i then u.testBit j else if j = i then false else u.testBit (j - 1)) l.length, ofB_lt _ _, ?_, ?_⟩
  · rw [covers_iff hL ht hRL (pow_small h12L hu), List.all_eq_true] at hc
    rw [covers_iff hl ht hR (pow_small h12 (ofB_lt _ _)), List.all_eq_true]
    intro c hcc
    obtain ⟨j, h1, h2, h3⟩ := covC_iff.1 (hc c hcc)
    unfold hasC at h3
    rw [lessL_get hi] at h3
    refine covC_iff.2 ⟨if j < i then j else j + 1, by split <;> omega, ?_, h3⟩
    rw [ofB_bit]
    by_cases e : j < i
    · simp only [if_pos e, h2, show j < l.length by omega, decide_true, Bool.true_and]
    · simp only [if_neg e, show ¬ j + 1 < i by omega, show ¬ j + 1 = i by omega, if_false, Nat.add_sub_cancel, h2, show j + 1 < l.length by omega, decide_true, Bool.true_and]
  · rw [many_ofB _ h12, many_of hu h12L]
    have := cnt_in u.testBit i (lessL l i).length (by omega)
    rw [hn] at this; omega
theorem spare_down {l : List (List Int)} (hl : okAs l) {t : List Int} (ht : t.length = 16) (hR : validR l t = true) {i k : Nat} (hi : i < l.length) (hk : k < l.length) (hik : i ≠ k)
    (hs : ∀ x y : Nat, x < 16 → y < 16 → hasA t x y = true → hasA (l.getD i []) x y = true → hasA (l.getD k []) x y = true) {u : Nat} (hu : u < 2 ^ l.length)
    (hc : withinA t (reachedL l u) = true) : ∃ u' : Nat, u' < 2 ^ (lessL l i).length ∧ withinA t (reachedL (lessL l i) u') = true ∧ manyR u' 12 ≤ manyR u 12 := by
  obtain ⟨hv, h12, hvt⟩ := validR_iff.1 hR
  have hn := lessL_len hi
  have hL := lessL_ok hl i
  have hRL := lessL_R hR i
  have h12L := (validR_iff.1 hRL).2.1
  refine ⟨ofB (fun j => u.testBit (if j < i then j else j + 1) || (decide ((if j < i then j else j + 1) = k) && u.testBit i)) (lessL l i).length, ofB_lt _ _, ?_, ?_⟩
  · rw [covers_iff hl ht hR (pow_small h12 hu), List.all_eq_true] at hc
    rw [covers_iff hL ht hRL (pow_small h12L (ofB_lt _ _)), List.all_eq_true]
    intro c hcc
    obtain ⟨c1, c2, c3⟩ := (cells_mem ht hvt).1 hcc
    obtain ⟨j, h1, h2, h3⟩ := covC_iff.1 (hc c hcc)
    have key : ∃ j, j < l.length ∧ j ≠ i ∧ (u.testBit j || (decide (j = k) && u.testBit i)) = true ∧ hasC l c j = true := by
      by_cases e : j = i
      · subst e
        exact ⟨k, hk, fun e => hik e.symm, by simp [h2], hs _ _ c1 c2 c3 h3⟩
      · exact ⟨j, h1, e, by simp [h2], h3⟩
    obtain ⟨j, h1, hne, h2, h3⟩ := key
    refine covC_iff.2 ⟨if j < i then j else j - 1, by split <;> omega, ?_, ?_⟩
    · rw [ofB_bit]
      by_cases e : j < i
      · simp only [if_pos e, show j < (lessL l i).length by omega, decide_true, Bool.true_and]; exact h2
      · simp only [if_neg e, show ¬ j - 1 < i by omega, show j - 1 < (lessL l i).length by omega, decide_true, Bool.true_and, if_false, show j - 1 + 1 = j by omega]; exact h2
    · unfold hasC at h3 ⊢
      rw [lessL_get hi]
      by_cases e : j < i
      · simp only [if_pos e]; exact h3
      · simp only [if_neg e, show ¬ j - 1 < i by omega, if_false, show j - 1 + 1 = j by omega]; exact h3
  · rw [many_ofB _ h12L, many_of hu h12]
    have h1 := cnt_out (fun j => u.testBit j || (decide (j = k) && u.testBit i)) i (lessL l i).length (by omega)
    have h2 := (cnt_or u.testBit (u.testBit i) k (lessL l i).length.succ).1
    rw [hn] at h1
    rw [show (lessL l i).length.succ = l.length from hn] at h2
    simp only [hik, decide_false, Bool.false_and, Bool.or_false] at h1
    omega
theorem spares {l : List (List Int)} (hl : okAs l) {t : List Int} (ht : t.length = 16) (hR : validR l t = true) {i k : Nat} (hi : i < l.length) (hk : k < l.length) (hik : i ≠ k)
    (hs : ∀ x y : Nat, x < 16 → y < 16 → hasA t x y = true → hasA (l.getD i []) x y = true → hasA (l.getD k []) x y = true) :
    (solveB (progR l t)).1 = (solveB (progR (lessL l i) t)).1 ∧ (solveB (progR l t)).2.2 = (solveB (progR (lessL l i) t)).2.2 := by
  have hL := lessL_ok hl i
  have hRL := lessL_R hR i
  have a := least_mono hl hL ht ht hR hRL (fun u hu hc => spare_down hl ht hR hi hk hik hs hu hc)
  have b := least_mono hL hl ht ht hRL hR (fun u hu hc => spare_up hl ht hR hi hu hc)
  cases hf : (solveB (progR l t)).1 with
  | true =>
    obtain ⟨a1, a2⟩ := a hf
    exact ⟨a1.symm, Int.le_antisymm a2 (b a1).2⟩
  | false =>
    cases hg : (solveB (progR (lessL l i) t)).1 with
    | true => rw [(b hg).1] at hf; cases hf
    | false =>
      refine ⟨rfl, ?_⟩
      rw [((solve_set (progR_valid (validR_iff.1 hR).2.1 t) (v := l.length) rfl).2 hf).2, ((solve_set (progR_valid (validR_iff.1 hRL).2.1 t) (v := (lessL l i).length) rfl).2 hg).2]
theorem set_get {l : List (List Int)} {k : Nat} (hk : k < l.length) (a : List Int) (i : Nat) : (l.set k a).getD i [] = if i = k then a else l.getD i [] := by
  simp only [List.getD, List.getElem?_set]
  by_cases e : k = i
  · subst e; simp [hk]
  · rw [if_neg e, if_neg (fun h => e h.symm)]
/-- The other one gets what the first one has of the target. -/
theorem spare_set {l : List (List Int)} (hl : okAs l) {t : List Int} (ht : t.length = 16) (hR : validR l t = true) {i k : Nat} (hi : i < l.length) (hk : k < l.length) (hik : i ≠ k) {U : List Int} (hU : U = unionA (l.getD k []) (meetA (l.getD i []) t)) :
    okAs (l.set k U) ∧ validR (l.set k U) t = true ∧ (l.set k U).length = l.length ∧ (solveB (progR (l.set k U) t)).1 = (solveB (progR (lessL (l.set k U) i) t)).1 ∧ (solveB (progR (l.set k U) t)).2.2 = (solveB (progR (lessL (l.set k U) i) t)).2.2 := by
  obtain ⟨hv, h12, hvt⟩ := validR_iff.1 hR
  have vi := hv _ (getD_mem (d := []) hi)
  have vk := hv _ (getD_mem (d := []) hk)
  have li := hl.at hi
  have lk := hl.at hk
  have hm := meet_has li ht vi hvt
  have lm : (meetA (l.getD i []) t).length = 16 := eachA_length _ li ht
  have hu := union_has lk lm vk hm.1
  have lu : U.length = 16 := by rw [hU]; exact unionA_len lk lm
  have hO : okAs (l.set k U) := ⟨by rw [List.length_set]; exact hl.1, fun a ha => by
    rcases List.mem_or_eq_of_mem_set ha with h | h
    · exact hl.2 a h
    · rw [h]; exact lu⟩
  have hRs : validR (l.set k U) t = true := validR_iff.2 ⟨fun a ha => by
    rcases List.mem_or_eq_of_mem_set ha with h | h
    · exact hv a h
    · rw [h, hU]; exact hu.1, by rw [List.length_set]; exact h12, hvt⟩
  have := spares hO ht hRs (i := i) (k := k) (by rw [List.length_set]; exact hi) (by rw [List.length_set]; exact hk) hik (fun x y hx hy h1 h2 => by
    rw [set_get hk, if_neg hik] at h2
    rw [set_get hk, if_pos rfl, hU, hu.2 x y hx hy, hm.2 x y hx hy, h1, h2]; simp)
  exact ⟨hO, hRs, List.length_set, this⟩
theorem encA_set (l : List (List Int)) (k : Nat) (a : List Int) : (encA l).set k (cellsI a) = encA (l.set k a) := by simp [encA, List.map_set]
theorem encA_take (l : List (List Int)) (n : Nat) : (encA l).take n = encA (l.take n) := by simp [encA, List.map_take]
theorem encA_drop (l : List (List Int)) (n : Nat) : (encA l).drop n = encA (l.drop n) := by simp [encA, List.map_drop]
theorem encA_app (a b : List (List Int)) : encA a ++ encA b = encA (a ++ b) := by simp [encA]
theorem encA_less (l : List (List Int)) (i : Nat) : encA (l.take i ++ l.drop (i + 1)) = encA (lessL l i) := rfl
theorem pick_len (c : Int) (h : okI c) {n : Nat} (hn : 0 < n) : ∃ u : Nat, pickW c (n : Nat) = u ∧ u < n := by
  have h := pickW_rangeL c (n := (n : Int)) (by omega) h
  exact ⟨(pickW c (n : Nat)).toNat, by omega, by omega⟩
theorem discs_one (q : T3) : (discsL [q]).length = 1 := rfl
/-- The other transmitter's number. -/
def otherN (i k n : Nat) : Nat := if i = k then (k + 1) % n else k
theorem otherN_spec {i k n : Nat} (hi : i < n) (hk : k < n) (h2 : 2 ≤ n) : otherN i k n < n ∧ i ≠ otherN i k n := by
  unfold otherN
  split
  · rename_i e
    subst e
    refine ⟨Nat.mod_lt _ (by omega), ?_⟩
    by_cases e : i + 1 = n
    · rw [e, Nat.mod_self]; omega
    · rw [Nat.mod_eq_of_lt (by omega)]; omega
  · rename_i e; exact ⟨hk, e⟩
theorem great_more {l : List (List Int)} (hl : okAs l) {t t2 : List Int} (ht : t.length = 16) (ht2 : t2.length = 16) (hR : validR l t = true) (hv2 : validA t2 = true) :
    validR l (unionA t t2) = true ∧ ((solveB (progR l (unionA t t2))).1 = true → (solveB (progR l t)).1 = true ∧ (solveB (progR l (unionA t t2))).2.2 ≤ (solveB (progR l t)).2.2) := by
  obtain ⟨hv, h12, hvt⟩ := validR_iff.1 hR
  have hu := union_has ht ht2 hvt hv2
  have hR' : validR l (unionA t t2) = true := validR_iff.2 ⟨hv, h12, hu.1⟩
  exact ⟨hR', more_target hl ht (unionA_len ht ht2) hR hR' fun x y hx hy h => by rw [hu.2 x y hx hy, h]; rfl⟩
set_option maxRecDepth 100000
attribute [local go_sem] Nat.zero_add Nat.add_zero Nat.mul_one eq_self ne_eq not_true_eq_false not_false_eq_true decide_true decide_false decide_not Bool.false_eq_true List.filter_cons List.filter_nil true_and and_true beq_false beq_true Bool.not_true Bool.not_false Bool.and_true Bool.true_and Option.getD_some Option.getD_none imp_self implies_true Int.toNat_natCast List.cons_append List.nil_append List.map_cons List.map_nil List.length_cons List.length_nil List.getD_cons_zero List.getD_cons_succ List.drop_zero List.drop_succ_cons List.take_succ_cons List.take_zero
attribute [local go_sem] lowN lowQ lowM isAl appOwn unw shL isSh Option.isNone_none Option.isNone_some Option.isSome_none appF isE isO stpO notIn St.bare evO evDO isEff stp St.get St.slot St.put List.lookup un unL ofVal gof nth pickV pkB_false pkB_true binV unV loadV idxV fldV partV buildV fillV lenV sliV appV appR rowsV winV V.parts V.okp V.sc Mem.look_cons Mem.look_nil V.cl V.clL AObj.clo fzAll exps St.fz Mem.fz V.fz V.fzL AObj.fz shp AObj.shp csh AObj.csh rowM isSt isRpS isRd Option.isSome_some Bool.or_true Bool.true_or Bool.or_false Bool.false_or and_false false_and or_false false_or List.length_append forall_const imp_self arT_104 arT_121 arT_160 arT_161 arT_22 arT_23 arT_24 arT_25 arT_28 arT_29 arT_30 arT_40 arT_42 arT_52 arT_60 arT_65 arT_72 arT_73 arT_76 arT_9 arT_90 boolT_182 boolT_25 boolT_3 boolT_35 boolT_4 boolT_76 flatT_182 flatT_25 flatT_3 flatT_35 flatT_4 flatT_76 intT_133 intT_169 intT_171 intT_188 intT_3 intT_5 lay_104 lay_112 lay_138 lay_141 lay_153 lay_160 lay_161 lay_164 lay_188 lay_23 lay_24 lay_25 lay_27 lay_28 lay_3 lay_30 lay_34 lay_4 lay_49 lay_52 lay_54 lay_56 lay_65 lay_67 lay_73 lay_76 lay_90 lay_99 mapT_112 okF_10 okF_100 okF_101 okF_102 okF_103 okF_104 okF_105 okF_106 okF_107 okF_108 okF_109 okF_11 okF_110 okF_111 okF_112 okF_113 okF_114 okF_115 okF_116 okF_117 okF_118 okF_119 okF_12 okF_120 okF_121 okF_122 okF_123 okF_124 okF_125 okF_126 okF_127 okF_128 okF_129 okF_13 okF_130 okF_131 okF_132 okF_133 okF_134 okF_135 okF_136 okF_137 okF_138 okF_139 okF_14 okF_140 okF_141 okF_142 okF_143 okF_144 okF_145 okF_146 okF_147 okF_148 okF_149 okF_15 okF_150 okF_151 okF_152 okF_153 okF_154 okF_155 okF_156 okF_157 okF_158 okF_159 okF_16 okF_160 okF_161 okF_162 okF_163 okF_164 okF_165 okF_166 okF_167 okF_168 okF_169 okF_17 okF_170 okF_171 okF_172 okF_173 okF_174 okF_175 okF_176 okF_177 okF_18 okF_19 okF_20 okF_21 okF_22 okF_23 okF_24 okF_25 okF_26 okF_27 okF_28 okF_29 okF_3 okF_30 okF_31 okF_32 okF_33 okF_34 okF_35 okF_36 okF_37 okF_38 okF_39 okF_4 okF_40 okF_41 okF_42 okF_43 okF_44 okF_45 okF_46 okF_47 okF_48 okF_49 okF_5 okF_50 okF_51 okF_52 okF_53 okF_54 okF_55 okF_56 okF_57 okF_58 okF_59 okF_6 okF_60 okF_61 okF_62 okF_63 okF_64 okF_65 okF_66 okF_67 okF_68 okF_69 okF_7 okF_70 okF_71 okF_72 okF_73 okF_74 okF_75 okF_76 okF_77 okF_78 okF_79 okF_8 okF_80 okF_81 okF_82 okF_83 okF_84 okF_85 okF_86 okF_87 okF_88 okF_89 okF_9 okF_90 okF_91 okF_92 okF_93 okF_94 okF_95 okF_96 okF_97 okF_98 okF_99 plT_138 plT_153 plT_157 plT_161 plT_27 plT_34 plT_54 plT_56 plT_67 plT_76 plT_90 plT_99 slT_104 slT_121 slT_160 slT_161 slT_22 slT_23 slT_24 slT_25 slT_28 slT_29 slT_30 slT_40 slT_42 slT_52 slT_60 slT_65 slT_72 slT_73 slT_76 slT_90 stT_138_0 stT_138_1 stT_153_0 stT_157_0 stT_157_1 stT_157_2 stT_157_3 stT_27_0 stT_27_1 stT_27_2 stT_34_0 stT_34_1 stT_34_2 stT_34_3 stT_54_0 stT_54_1 stT_54_2 stT_54_3 stT_56_0 stT_56_1 stT_67_1 stT_67_4 stT_67_5 stT_99_0 stT_99_1 strT_160 strT_76 strT_9 zeroT_112 zeroT_138 zeroT_153 zeroT_157 zeroT_160 zeroT_161 zeroT_188 zeroT_27 zeroT_3 zeroT_30 zeroT_34 zeroT_4 zeroT_49 zeroT_54 zeroT_56 zeroT_65 zeroT_67 zeroT_76 zeroT_90 zeroT_99
attribute [local go_sem] cellsI_fzL cellsI_uptoL List.getElem?_cons_zero List.getElem?_cons_succ List.zip_cons_cons List.zip_nil_left List.zip_nil_right Bool.false_and Bool.and_false cellsG_length polyA_length discA_length agEq_cells cellsI_isI cellsI_length cellsI_sc cellsI_cl cellsI_rows cellsI_take cellsI_dropD cellsI_set cellsI_full encI_length encI_getD List.length_set List.length_replicate List.all_cons List.all_nil outA_length eachA_length outM_length getD_set_same List.set_set spl_nil0 spl_cons0 spl_succ encP_length encP_getD
attribute [local simp] encP_length padP_length encI_length
attribute [local go_sem] encR_length encR_getD encRw encPg lookV encI_length encI_getD
attribute [local simp] encA_length encR_length cellsI_length
section
attribute [local go_sem] encA_length encA_getD encA_app List.nil_append List.replicate_succ List.replicate_zero List.set_cons_zero
set_option maxHeartbeats 8000000 in
theorem k9 (x : List T3) (y z : List Pl) (hx : x.length ≤ maxLen) (hy : y.length ≤ maxLen) (hz : z.length ≤ maxLen) (q : T3) : CallsA Try.prog 9 [.sl 3 (encT x), .sl 2 (encP y), .sl 2 (encP z), .agg [.int .i64 q.p, .int .i64 q.q, .int .i64 q.r]] (.bool true) := by
 obtain ⟨l, hL⟩ : ∃ l, discsL x = l := ⟨_, rfl⟩
 obtain ⟨t, hT⟩ : ∃ t, targetL y = t := ⟨_, rfl⟩
 have hl : okAs l := hL ▸ discsL_ok x
 have h7 : l.length ≤ 7 := hL ▸ discsL_len x
 have ht : t.length = 16 := hT ▸ targetL_len y
 have hR : validR l t = true := hL ▸ hT ▸ made_R x y
 have hR0 := valid0 hR
 have hvM := progR_valid (show l.length ≤ 12 by omega) t
 have c40 : CallsA Try.prog 40 [.sl 3 (encT x)] (.sl 16 (encA l)) := hL ▸ k40 x hx
 have c41 : CallsA Try.prog 41 [.sl 2 (encP y)] (.agg (cellsI t)) := hT ▸ k41 y hy
 have hsh : shlW .i64 1 (l.length : Nat) = ((2 ^ l.length : Nat) : Int) := shl1 (by omega)
 have htf := cellsI_full t (cellsI (List.replicate 16 0)) (by rw [cellsI_length, ht]; rfl)
 have htk : List.take 16 (cellsI t) = cellsI t := List.take_of_length_le (by rw [cellsI_length, ht]; decide)
 obtain ⟨t2, hT2⟩ : ∃ t2, targetL z = t2 := ⟨_, rfl⟩
 have h2 : t2.length = 16 := hT2 ▸ targetL_len z
 have hv2 : validA t2 = true := hT2 ▸ targetL_valid z
 have c41z : CallsA Try.prog 41 [.sl 2 (encP z)] (.agg (cellsI t2)) := hT2 ▸ k41 z hz
 have c40q : CallsA Try.prog 40 [.sl 3 [[.int .i64 q.p, .int .i64 q.q, .int .i64 q.r]]] (.sl 16 (encA (discsL [q]))) := k40 [q] (by simp [maxLen])
 obtain ⟨hV, h12, hvt⟩ := validR_iff.1 hR
 have hle : okAs (l ++ discsL [q]) := ⟨by simp only [List.length_append, discs_one]; unfold maxLen; omega, fun a ha => (List.mem_append.1 ha).elim (hl.2 a) ((discsL_ok [q]).2 a)⟩
 have hRe : validR (l ++ discsL [q]) t = true := validR_iff.2 ⟨fun a ha => (List.mem_append.1 ha).elim (hV a) (discsL_V [q] a), by simp only [List.length_append, discs_one]; omega, hvt⟩
 obtain ⟨hRg, hg⟩ := great_more hl ht h2 hR hv2
 have hm := more_tr hl hle ht hR hRe
 have hql := discs_one q
 have hgl : (unionA t t2).length = 16 := unionA_len ht h2
 have c42 := ca17u t t2 ht h2
 have hgf := cellsI_full (unionA t t2) (cellsI (List.replicate 16 0)) (by rw [cellsI_length, hgl]; rfl)
 have hgk : List.take 16 (cellsI (unionA t t2)) = cellsI (unionA t t2) := List.take_of_length_le (by rw [cellsI_length, hgl]; decide)
 have cS := kLeast hl ht hR
 have cT := kLeast hl hgl hRg
 have cU := kLeast hle ht hRe
 unfold encSol2 at cS cT cU
 rw [← solveW_f, ← solveW_s, ← solveW_g] at cS cT cU
 generalize (solveB (progR l t)).1 = fs at cS hg hm
 generalize (solveB (progR l t)).2.2 = gs at cS hg hm
 generalize (solveB (progR l t)).2.1 = ss at cS
 generalize prfS (progR l t) = ps at cS
 generalize (solveB (progR l (unionA t t2))).1 = ft at cT hg
 generalize (solveB (progR l (unionA t t2))).2.2 = gt at cT hg
 generalize (solveB (progR l (unionA t t2))).2.1 = st at cT
 generalize prfS (progR l (unionA t t2)) = pt at cT
 generalize (solveB (progR (l ++ discsL [q]) t)).1 = fu at cU hm
 generalize (solveB (progR (l ++ discsL [q]) t)).2.2 = gu at cU hm
 generalize (solveB (progR (l ++ discsL [q]) t)).2.1 = su at cU
 generalize prfS (progR (l ++ discsL [q]) t) = pu at cU
 have hA : (ft && !fs) = false := by cases ft <;> cases fs <;> simp_all
 have hB : (fs && !fu) = false := by cases fs <;> cases fu <;> simp_all
 have hC : (!ft || decide (gt ≤ gs)) = true := by cases ft <;> simp_all
 have hD : (!fs || decide (gs ≤ gu)) = true := by cases fs <;> simp_all
 have hq := And.intro ht (And.intro hsh (And.intro htf (And.intro htk (And.intro h2 (And.intro hgf (And.intro hgk (And.intro hA (hB))))))))
 refine callsA_of_tr Try.func9 rfl (Nat.le_of_ble_eq_true rfl) ?_
 simp only [Try.results9, envOf, Nat.reduceAdd]
 refine tr_seq fun K1 hK1 => ?_
 refine tr_region [0, 1, 2, 7] rfl rfl fun K hK => ?_
 iterate 2 refine evR_p ?_
 refine evR_e hK ?_; clear hK K
 refine hK1 _ ?_
 refine tr_seq fun K2 hK2 => ?_
 refine tr_seq fun K3 hK3 => ?_
 refine tr_region [0, 1, 2, 7, 20] rfl rfl fun K hK => ?_
 refine evR_c (hc := k39) (k := ?_)
 refine evR_p ?_
 refine evR_e hK ?_; clear hK K
 refine hK3 _ ?_
 refine tr_condB (fun ht1 => ?_) (fun ht1 => ?_)
 ·
  skip
  (first | (exfalso; omega) | (exfalso; simp_all; done) | skip)
  all_goals
   refine tr_seq fun K4 hK4 => ?_
   refine tr_region [8] rfl rfl fun K hK => ?_
   refine evR_p ?_
   refine evR_e hK ?_; clear hK K
   refine hK4 _ ?_
   refine tr_ret ?_
   (try simp only [thenE, inBlkE])
   simp (maxSteps := 4000000) (disch := first | assumption | omega | (simp only [go_sem, *]; done) | (simp only [go_sem, *]; omega)) only [postA, postO, resV1, fzAll, go_sem, hq, Int.reduceToNat, Nat.reduceBEq, Nat.reduceEqDiff, Nat.reduceAdd, Nat.reduceMul, Nat.reduceLeDiff, Nat.reduceLT, Nat.reduceSub, ↓reduceIte, reduceCtorEq]
   all_goals (first | rfl | (simp [hC, hD]; done) | (simp_all; done))
 ·
  skip
  (first | (exfalso; omega) | (exfalso; simp_all; done) | skip)
  all_goals
   refine tr_skip ?_
   (try simp only [thenE, inBlkE])
   refine hK2 _ ?_
   refine tr_seq fun K5 hK5 => ?_
   refine tr_region [1, 2, 7, 9] rfl rfl fun K hK => ?_
   refine evR_p ?_
   refine evR_c (hc := c40) (k := ?_)
   refine evR_p ?_
   refine evR_e hK ?_; clear hK K
   refine hK5 _ ?_
   refine tr_seq fun K6 hK6 => ?_
   refine tr_region [2, 7, 9, 10] rfl rfl fun K hK => ?_
   refine evR_p ?_
   refine evR_c (hc := c41) (k := ?_)
   iterate 2 refine evR_p ?_
   refine evR_e hK ?_; clear hK K
   refine hK6 _ ?_
   refine tr_seq fun K7 hK7 => ?_
   refine tr_draw [3000002] [7, 9, 10, 11] mixed rfl (by kernel_rfl) rfl fun K hK => ?_
   iterate 2 refine evD_p ?_
   refine evD_c (hc := c41z) (k := ?_)
   refine evD_c (hc := c42) (k := ?_)
   iterate 2 refine evD_p ?_
   refine evD_e hK ?_; clear hK K
   refine hK7 _ ?_
   refine tr_seq fun K8 hK8 => ?_
   refine tr_draw [33, 3000003] [9, 10, 11, 12] mixed rfl (by kernel_rfl) rfl fun K hK => ?_
   refine evD_bo ?_
   iterate 3 refine evD_p ?_
   refine evD_bs ?_
   refine evD_c (hc := c40q) (k := ?_)
   iterate 2 refine evD_p ?_
   refine evD_e hK ?_; clear hK K
   refine hK8 _ ?_
   refine tr_seq fun K9 hK9 => ?_
   refine tr_fz [.own 3] (by simp (maxSteps := 4000000) (disch := first | assumption | omega | (simp only [go_sem, *]; done) | (simp only [go_sem, *]; omega)) only [go_sem, hq, Int.reduceToNat, Nat.reduceBEq, Nat.reduceEqDiff, Nat.reduceAdd, Nat.reduceMul, Nat.reduceLeDiff, Nat.reduceLT, Nat.reduceSub, ↓reduceIte, reduceCtorEq]; (try rfl)) ?_
   refine tr_region [9, 10, 11, 12, 13, 14] rfl rfl fun K hK => ?_
   iterate 2 refine evR_p ?_
   refine evR_c (hc := cS) (k := ?_)
   iterate 6 refine evR_p ?_
   refine evR_e hK ?_; clear hK K
   refine hK9 _ ?_
   refine tr_seq fun K10 hK10 => ?_
   refine tr_region [10, 12, 13, 14, 15, 16] rfl rfl fun K hK => ?_
   iterate 2 refine evR_p ?_
   refine evR_c (hc := cT) (k := ?_)
   iterate 6 refine evR_p ?_
   refine evR_e hK ?_; clear hK K
   refine hK10 _ ?_
   refine tr_seq fun K11 hK11 => ?_
   refine tr_region [13, 14, 15, 16, 17, 18] rfl rfl fun K hK => ?_
   iterate 2 refine evR_p ?_
   refine evR_c (hc := cU) (k := ?_)
   iterate 6 refine evR_p ?_
   refine evR_e hK ?_; clear hK K
   refine hK11 _ ?_
   refine tr_seq fun K12 hK12 => ?_
   refine tr_seq fun K13 hK13 => ?_
   refine tr_region [13, 15, 17, 81] rfl rfl fun K hK => ?_
   iterate 3 refine evR_p ?_
   iterate 2 refine evR_g ?_
   iterate 2 refine evR_p ?_
   iterate 2 refine evR_g ?_
   iterate 2 refine evR_p ?_
   iterate 7 refine evR_g ?_
   iterate 2 refine evR_p ?_
   iterate 7 refine evR_g ?_
   refine evR_p ?_
   refine evR_e hK ?_; clear hK K
   refine hK13 _ ?_
   refine tr_condB (fun ht2 => ?_) (fun ht2 => ?_)
   ·
    skip
    (first | (exfalso; omega) | (exfalso; simp_all; done) | skip)
    all_goals
     refine tr_seq fun K14 hK14 => ?_
     refine tr_region [8] rfl rfl fun K hK => ?_
     refine evR_p ?_
     refine evR_e hK ?_; clear hK K
     refine hK14 _ ?_
     refine tr_ret ?_
     (try simp only [thenE, inBlkE])
     simp (maxSteps := 4000000) (disch := first | assumption | omega | (simp only [go_sem, *]; done) | (simp only [go_sem, *]; omega)) only [postA, postO, resV1, fzAll, go_sem, hq, Int.reduceToNat, Nat.reduceBEq, Nat.reduceEqDiff, Nat.reduceAdd, Nat.reduceMul, Nat.reduceLeDiff, Nat.reduceLT, Nat.reduceSub, ↓reduceIte, reduceCtorEq]
     all_goals (first | rfl | (simp [hC, hD]; done) | (simp_all; done))
   ·
    skip
    (first | (exfalso; omega) | (exfalso; simp_all; done) | skip)
    all_goals
     refine tr_skip ?_
     (try simp only [thenE, inBlkE])
     refine hK12 _ ?_
     refine tr_seq fun K15 hK15 => ?_
     refine tr_region [8] rfl rfl fun K hK => ?_
     iterate 4 refine evR_p ?_
     iterate 5 refine evR_g ?_
     iterate 2 refine evR_p ?_
     iterate 10 refine evR_g ?_
     iterate 2 refine evR_p ?_
     refine evR_e hK ?_; clear hK K
     refine hK15 _ ?_
     refine tr_ret ?_
     (try simp only [thenE, inBlkE])
     simp (maxSteps := 4000000) (disch := first | assumption | omega | (simp only [go_sem, *]; done) | (simp only [go_sem, *]; omega)) only [postA, postO, resV1, fzAll, go_sem, hq, Int.reduceToNat, Nat.reduceBEq, Nat.reduceEqDiff, Nat.reduceAdd, Nat.reduceMul, Nat.reduceLeDiff, Nat.reduceLT, Nat.reduceSub, ↓reduceIte, reduceCtorEq]
     all_goals (first | rfl | (simp [hC, hD]; done) | (simp_all; done))
end

section
attribute [local go_sem] encA_length encA_getD
set_option maxHeartbeats 8000000 in
theorem k14 (x : List T3) (y : List Pl) (hx : x.length ≤ maxLen) (hy : y.length ≤ maxLen) (n : Int) (hn : okI n) (z : Pl) (hz : okP z) : CallsA Try.prog 14 [.sl 3 (encT x), .sl 2 (encP y), .int .i64 n, .agg [.int .i64 z.x, .int .i64 z.y]] (.bool true) := by
 obtain ⟨l, hL⟩ : ∃ l, discsL x = l := ⟨_, rfl⟩
 obtain ⟨t, hT⟩ : ∃ t, targetL y = t := ⟨_, rfl⟩
 have hl : okAs l := hL ▸ discsL_ok x
 have h7 : l.length ≤ 7 := hL ▸ discsL_len x
 have ht : t.length = 16 := hT ▸ targetL_len y
 have hR : validR l t = true := hL ▸ hT ▸ made_R x y
 have hR0 := valid0 hR
 have hvM := progR_valid (show l.length ≤ 12 by omega) t
 have c40 : CallsA Try.prog 40 [.sl 3 (encT x)] (.sl 16 (encA l)) := hL ▸ k40 x hx
 have c41 : CallsA Try.prog 41 [.sl 2 (encP y)] (.agg (cellsI t)) := hT ▸ k41 y hy
 have hsh : shlW .i64 1 (l.length : Nat) = ((2 ^ l.length : Nat) : Int) := shl1 (by omega)
 have htf := cellsI_full t (cellsI (List.replicate 16 0)) (by rw [cellsI_length, ht]; rfl)
 have htk : List.take 16 (cellsI t) = cellsI t := List.take_of_length_le (by rw [cellsI_length, ht]; decide)
 obtain ⟨u, hu1, hu2⟩ := pick_pow n hn l.length
 have hpp : (0 : Int) < ((2 ^ l.length : Nat) : Int) := by have := Nat.two_pow_pos l.length; omega
 have c44 : CallsA Try.prog 44 [.int .i64 n, .int .i64 ((2 ^ l.length : Nat) : Int)] (.int .i64 (u : Nat)) := hu1 ▸ k44 n _ hpp
 obtain ⟨a, ha1, ha2⟩ := pick_cell z.x hz.1
 obtain ⟨b, hb1, hb2⟩ := pick_cell z.y hz.2
 have c44a : CallsA Try.prog 44 [.int .i64 z.x, .int .i64 16] (.int .i64 (a : Nat)) := ha1 ▸ k44 z.x 16 (by decide)
 have c44b : CallsA Try.prog 44 [.int .i64 z.y, .int .i64 16] (.int .i64 (b : Nat)) := hb1 ▸ k44 z.y 16 (by decide)
 obtain ⟨hV, h12, hvt⟩ := validR_iff.1 hR
 have c43 := kLeast hl ht hR
 unfold encSol2 at c43
 rw [← solveW_f, ← solveW_s, ← solveW_g, found_miss hl ht hR] at c43
 have c52 := k52 l hl t ht hR
 have hwm := within_miss hl ht hR
 have hml := minusA_len ht (union_len hl)
 have hmh := (minus_has ht (union_len hl) hvt (union_V hl hV)).2 a b ha2 hb2
 obtain ⟨M, hM⟩ : ∃ M, minusA t (unionL l) = M := ⟨_, rfl⟩
 rw [hM] at c43 c52 hwm hml hmh
 obtain ⟨S, hS⟩ : ∃ S, (solveB (progR l t)).2.1 = S := ⟨_, rfl⟩
 obtain ⟨G, hG⟩ : ∃ G, (solveB (progR l t)).2.2 = G := ⟨_, rfl⟩
 obtain ⟨P, hP⟩ : ∃ P, prfS (progR l t) = P := ⟨_, rfl⟩
 rw [hS, hG, hP] at c43
 have c53 := k53 l hl (by omega) (u : Nat) hR0 (by omega) (by omega)
 have hrl := reached_len hl ((u : Nat) : Int)
 have hrh := reached_has hl hV h12 (pow_small h12 hu2) ha2 hb2
 obtain ⟨Q, hQ⟩ : ∃ Q, reachedL l ((u : Nat) : Int) = Q := ⟨_, rfl⟩
 rw [hQ] at c53 hrl hrh
 have hmf := cellsI_full M (cellsI (List.replicate 16 0)) (by rw [cellsI_length, hml]; rfl)
 have hmk : List.take 16 (cellsI M) = cellsI M := List.take_of_length_le (by rw [cellsI_length, hml]; decide)
 have hqf := cellsI_full Q (cellsI (List.replicate 16 0)) (by rw [cellsI_length, hrl]; rfl)
 have hqk : List.take 16 (cellsI Q) = cellsI Q := List.take_of_length_le (by rw [cellsI_length, hrl]; decide)
 have hF1 : hasA Q a b = hasT l (u : Nat) a b l.length := by rw [hrh, cov_hasT h12 hu2]
 have hF2 : hasA M a b = (hasA t a b && !someT l a b l.length) := by rw [hmh, union_someT hl hV ha2 hb2]
 have hq := And.intro ht (And.intro hsh (And.intro htf (And.intro htk (And.intro hwm (And.intro hml (And.intro hrl (And.intro hmf (And.intro hmk (And.intro hqf (hqk))))))))))
 refine callsA_of_tr Try.func14 rfl (Nat.le_of_ble_eq_true rfl) ?_
 simp only [Try.results14, envOf, Nat.reduceAdd]
 refine tr_seq fun K1 hK1 => ?_
 refine tr_region [0, 1, 2, 7] rfl rfl fun K hK => ?_
 iterate 2 refine evR_p ?_
 refine evR_e hK ?_; clear hK K
 refine hK1 _ ?_
 refine tr_seq fun K2 hK2 => ?_
 refine tr_seq fun K3 hK3 => ?_
 refine tr_region [0, 1, 2, 7, 25] rfl rfl fun K hK => ?_
 refine evR_c (hc := k39) (k := ?_)
 refine evR_p ?_
 refine evR_e hK ?_; clear hK K
 refine hK3 _ ?_
 refine tr_condB (fun ht1 => ?_) (fun ht1 => ?_)
 ·
  skip
  (first | (exfalso; omega) | (exfalso; simp_all; done) | skip)
  all_goals
   refine tr_seq fun K4 hK4 => ?_
   refine tr_region [8] rfl rfl fun K hK => ?_
   refine evR_p ?_
   refine evR_e hK ?_; clear hK K
   refine hK4 _ ?_
   refine tr_ret ?_
   (try simp only [thenE, inBlkE])
   simp (maxSteps := 4000000) (disch := first | assumption | omega | (simp only [go_sem, *]; done) | (simp only [go_sem, *]; omega)) only [postA, postO, resV1, fzAll, go_sem, hq, Int.reduceToNat, Nat.reduceBEq, Nat.reduceEqDiff, Nat.reduceAdd, Nat.reduceMul, Nat.reduceLeDiff, Nat.reduceLT, Nat.reduceSub, ↓reduceIte, reduceCtorEq]
   all_goals (first | (rw [hF1, hF2]; simp; done) | rfl)
 ·
  skip
  (first | (exfalso; omega) | (exfalso; simp_all; done) | skip)
  all_goals
   refine tr_skip ?_
   (try simp only [thenE, inBlkE])
   refine hK2 _ ?_
   refine tr_seq fun K5 hK5 => ?_
   refine tr_region [1, 2, 7, 9] rfl rfl fun K hK => ?_
   refine evR_p ?_
   refine evR_c (hc := c40) (k := ?_)
   refine evR_p ?_
   refine evR_e hK ?_; clear hK K
   refine hK5 _ ?_
   refine tr_seq fun K6 hK6 => ?_
   refine tr_region [2, 7, 9, 10] rfl rfl fun K hK => ?_
   refine evR_p ?_
   refine evR_c (hc := c41) (k := ?_)
   iterate 2 refine evR_p ?_
   refine evR_e hK ?_; clear hK K
   refine hK6 _ ?_
   refine tr_seq fun K7 hK7 => ?_
   refine tr_region [2, 7, 9, 10, 11, 12] rfl rfl fun K hK => ?_
   iterate 2 refine evR_p ?_
   refine evR_c (hc := c43) (k := ?_)
   iterate 6 refine evR_p ?_
   refine evR_e hK ?_; clear hK K
   refine hK7 _ ?_
   refine tr_seq fun K8 hK8 => ?_
   refine tr_region [2, 7, 9, 10, 11, 12, 13, 14] rfl rfl fun K hK => ?_
   iterate 2 refine evR_p ?_
   refine evR_c (hc := c52) (k := ?_)
   iterate 6 refine evR_p ?_
   refine evR_e hK ?_; clear hK K
   refine hK8 _ ?_
   refine tr_seq fun K9 hK9 => ?_
   refine tr_region [7, 9, 10, 11, 12, 13, 14, 15] rfl rfl fun K hK => ?_
   iterate 4 refine evR_p ?_
   refine evR_c (hc := c44) (k := ?_)
   refine evR_p ?_
   refine evR_e hK ?_; clear hK K
   refine hK9 _ ?_
   refine tr_seq fun K10 hK10 => ?_
   refine tr_region [7, 9, 10, 11, 12, 13, 14, 15, 16, 17] rfl rfl fun K hK => ?_
   iterate 2 refine evR_p ?_
   refine evR_c (hc := c53) (k := ?_)
   iterate 6 refine evR_p ?_
   refine evR_e hK ?_; clear hK K
   refine hK10 _ ?_
   refine tr_seq fun K11 hK11 => ?_
   refine tr_seq fun K12 hK12 => ?_
   refine tr_draw [] [7, 9, 10, 13, 15, 16, 76] mixed rfl (by kernel_rfl) rfl fun K hK => ?_
   iterate 3 refine evD_p ?_
   iterate 2 refine evD_g ?_
   iterate 2 refine evD_p ?_
   iterate 2 refine evD_g ?_
   iterate 2 refine evD_p ?_
   iterate 3 refine evD_g ?_
   refine evD_gc (hc := (ca15 M hml)) (k := ?_)
   iterate 2 refine evD_g ?_
   iterate 2 refine evD_p ?_
   iterate 2 refine evD_g ?_
   refine evD_gc (hc := (ca23 M t hml ht)) (k := ?_)
   refine evD_g ?_
   refine evD_p ?_
   refine evD_e hK ?_; clear hK K
   refine hK12 _ ?_
   refine tr_condB (fun ht2 => ?_) (fun ht2 => ?_)
   ·
    skip
    (first | (exfalso; omega) | (exfalso; simp_all; done) | skip)
    all_goals
     refine tr_seq fun K13 hK13 => ?_
     refine tr_region [8] rfl rfl fun K hK => ?_
     refine evR_p ?_
     refine evR_e hK ?_; clear hK K
     refine hK13 _ ?_
     refine tr_ret ?_
     (try simp only [thenE, inBlkE])
     simp (maxSteps := 4000000) (disch := first | assumption | omega | (simp only [go_sem, *]; done) | (simp only [go_sem, *]; omega)) only [postA, postO, resV1, fzAll, go_sem, hq, Int.reduceToNat, Nat.reduceBEq, Nat.reduceEqDiff, Nat.reduceAdd, Nat.reduceMul, Nat.reduceLeDiff, Nat.reduceLT, Nat.reduceSub, ↓reduceIte, reduceCtorEq]
     all_goals (first | (rw [hF1, hF2]; simp; done) | rfl)
   ·
    skip
    (first | (exfalso; omega) | (exfalso; simp_all; done) | skip)
    all_goals
     refine tr_skip ?_
     (try simp only [thenE, inBlkE])
     refine hK11 _ ?_
     refine tr_seq fun K14 hK14 => ?_
     refine tr_region [7, 9, 10, 13, 15, 16, 18] rfl rfl fun K hK => ?_
     iterate 2 refine evR_p ?_
     refine evR_c (hc := c44a) (k := ?_)
     refine evR_p ?_
     refine evR_e hK ?_; clear hK K
     refine hK14 _ ?_
     refine tr_seq fun K15 hK15 => ?_
     refine tr_region [9, 10, 13, 15, 16, 18, 19] rfl rfl fun K hK => ?_
     iterate 2 refine evR_p ?_
     refine evR_c (hc := c44b) (k := ?_)
     refine evR_p ?_
     refine evR_e hK ?_; clear hK K
     refine hK15 _ ?_
     refine tr_seq fun K16 hK16 => ?_
     refine tr_region [9, 10, 13, 15, 16, 18, 19, 20] rfl rfl fun K hK => ?_
     refine evR_p ?_
     refine evR_e hK ?_; clear hK K
     refine hK16 _ ?_
     refine tr_seq fun K17 hK17 => ?_
     refine tr_region [9, 10, 13, 15, 16, 18, 19, 20, 21] rfl rfl fun K hK => ?_
     refine evR_p ?_
     refine evR_e hK ?_; clear hK K
     refine hK17 _ ?_
     refine tr_seq fun K18 hK18 => ?_
     refine tr_seq fun K19 hK19 => ?_
     refine tr_region [9, 10, 13, 15, 16, 18, 19, 20, 21, 22] rfl rfl fun K hK => ?_
     refine evR_p ?_
     refine evR_e hK ?_; clear hK K
     refine hK19 _ ?_
     refine tr_block ?_
     -- loop 1: live [9, 10, 13, 15, 16, 18, 19, 20, 21, 22]
     refine tr_loopW (fun m σ => ∃ i : Nat, i + m = l.length ∧ σ = ⟨[(9, .sl 16 (encA l)), (10, .ptr 1 0), (13, .ptr 3 0), (15, .int .i64 (u : Nat)), (16, .ptr 4 0), (18, .int .i64 (a : Nat)), (19, .int .i64 (b : Nat)), (20, .bool (hasT l (u : Nat) (a : Nat) (b : Nat) i)), (21, .bool (someT l (a : Nat) (b : Nat) i)), (22, .int .i64 (i : Nat))], [(4, .cells (cellsI Q)), (3, .cells (cellsI M)), (1, .cells (cellsI t))], 5⟩) (l.length) ?_ ?_
     ·
      exact ⟨_, Wk.drop (fun k => k == 1 || k == 3 || k == 4), 0, by omega, rfl⟩
     ·
      rintro m σ ⟨i, hi, rfl⟩ KL1 hKL1
      refine tr_seq fun K20 hK20 => ?_
      refine tr_seq fun K21 hK21 => ?_
      refine tr_region [9, 10, 13, 15, 16, 18, 19, 20, 21, 22, 86] rfl rfl fun K hK => ?_
      iterate 4 refine evR_p ?_
      refine evR_e hK ?_; clear hK K
      refine hK21 _ ?_
      refine tr_condB (fun ht3 => ?_) (fun ht3 => ?_)
      ·
       skip
       (first | (exfalso; omega) | (exfalso; simp_all; done) | skip)
       all_goals
        have hil : i < l.length := by omega
        have hli := hl.at hil
        replace hq := And.intro hq (And.intro hil (hli))
        refine tr_skip ?_
        (try simp only [thenE, inBlkE])
        refine hK20 _ ?_
        refine tr_seq fun K22 hK22 => ?_
        refine tr_block ?_
        refine tr_seq fun K23 hK23 => ?_
        refine tr_region [9, 10, 13, 15, 16, 18, 19, 20, 21, 22, 23] rfl rfl fun K hK => ?_
        iterate 6 refine evR_p ?_
        refine evR_c (hc := (ca25 (l.getD i []) hli (a : Nat) (b : Nat))) (k := ?_)
        refine evR_p ?_
        refine evR_e hK ?_; clear hK K
        refine hK23 _ ?_
        refine tr_seq fun K24 hK24 => ?_
        refine tr_region [9, 10, 13, 15, 16, 18, 19, 20, 21, 22, 23] rfl rfl fun K hK => ?_
        iterate 2 refine evR_p ?_
        iterate 8 refine evR_g ?_
        iterate 2 refine evR_p ?_
        refine evR_e hK ?_; clear hK K
        refine hK24 _ ?_
        refine tr_region [9, 10, 13, 15, 16, 18, 19, 20, 21, 22] rfl rfl fun K hK => ?_
        iterate 2 refine evR_p ?_
        refine evR_g ?_
        iterate 2 refine evR_p ?_
        refine evR_e hK ?_; clear hK K
        refine hK22 _ ?_
        refine tr_region [9, 10, 13, 15, 16, 18, 19, 20, 21, 22] rfl rfl fun K hK => ?_
        iterate 3 refine evR_p ?_
        refine evR_e hK ?_; clear hK K
        refine hKL1 _ ?_
        exact ⟨m - 1, _, by omega, Wk.refl _, i + 1, by omega, by rw [w64 (x := (i : Int) + 1) (by omega)]; rfl⟩
      ·
       skip
       (first | (exfalso; omega) | (exfalso; simp_all; done) | skip)
       all_goals
        have hil : i = l.length := by omega
        subst hil
        refine tr_exit ?_
        simp only [thenE, inBlkE, Nat.reduceEqDiff, ↓reduceIte]
        refine hK18 _ ?_
        refine tr_seq fun K25 hK25 => ?_
        refine tr_draw [] [8] mixed rfl (by kernel_rfl) rfl fun K hK => ?_
        iterate 3 refine evD_p ?_
        refine evD_c (hc := (ca25 Q hrl (a : Nat) (b : Nat))) (k := ?_)
        iterate 3 refine evD_p ?_
        iterate 3 refine evD_g ?_
        refine evD_gc (hc := (ca25 M hml (a : Nat) (b : Nat))) (k := ?_)
        iterate 3 refine evD_g ?_
        refine evD_gc (hc := (ca25 t ht (a : Nat) (b : Nat))) (k := ?_)
        iterate 5 refine evD_g ?_
        iterate 2 refine evD_p ?_
        refine evD_e hK ?_; clear hK K
        refine hK25 _ ?_
        refine tr_ret ?_
        (try simp only [thenE, inBlkE])
        simp (maxSteps := 4000000) (disch := first | assumption | omega | (simp only [go_sem, *]; done) | (simp only [go_sem, *]; omega)) only [postA, postO, resV1, fzAll, go_sem, hq, Int.reduceToNat, Nat.reduceBEq, Nat.reduceEqDiff, Nat.reduceAdd, Nat.reduceMul, Nat.reduceLeDiff, Nat.reduceLT, Nat.reduceSub, ↓reduceIte, reduceCtorEq]
        all_goals (first | (rw [hF1, hF2]; simp; done) | rfl)
end

section
attribute [local go_sem] encA_length encA_getD encT_length encT_getD encA_one
theorem k40o (l : List T3) (hm : l.length ≤ maxLen) : CallsO Try.prog 40 [.sl 3 (encT l)] 76 16 (encA (discsL l)) := by
 have hlm := hm
 unfold maxLen at hlm
 have hq : True := trivial
 refine callsO_of_tr Try.func40 rfl (Nat.le_of_ble_eq_true rfl) ?_
 simp only [Try.results40, envOf, Nat.reduceAdd]
 refine tr_seq fun K1 hK1 => ?_
 refine tr_region [0] rfl rfl fun K hK => ?_
 refine evR_p ?_
 refine evR_e hK ?_; clear hK K
 refine hK1 _ ?_
 refine tr_seq fun K2 hK2 => ?_
 refine tr_region [0, 3] rfl rfl fun K hK => ?_
 refine evR_p ?_
 refine evR_e hK ?_; clear hK K
 refine hK2 _ ?_
 refine tr_seq fun K3 hK3 => ?_
 refine tr_seq fun K4 hK4 => ?_
 refine tr_region [0, 3, 4] rfl rfl fun K hK => ?_
 refine evR_p ?_
 refine evR_e hK ?_; clear hK K
 refine hK4 _ ?_
 refine tr_block ?_
 -- loop 1: live [0, 3, 4]
 refine tr_loopW (fun m σ => ∃ i : Nat, i + m = 7 ∧ i ≤ l.length ∧ σ = ⟨[(0, .sl 3 (encT l)), (3, .own 0), (4, .int .i64 (i : Nat))], [(0, .row 76 16 (encA ((l.take i).map discV)))], 1⟩) (7) ?_ ?_
 ·
  exact ⟨_, Wk.nilslot 76 16 3 rfl, 0, by omega, by omega, rfl⟩
 ·
  rintro m σ ⟨i, hi, hil0, rfl⟩ KL1 hKL1
  refine tr_seq fun K5 hK5 => ?_
  refine tr_seq fun K6 hK6 => ?_
  refine tr_region [0, 3, 4, 16] rfl rfl fun K hK => ?_
  iterate 5 refine evR_p ?_
  iterate 2 refine evR_g ?_
  refine evR_p ?_
  refine evR_e hK ?_; clear hK K
  refine hK6 _ ?_
  refine tr_condB (fun ht1 => ?_) (fun ht1 => ?_)
  ·
   skip
   have hil : i < l.length := by omega
   have hti : ((l.take i).map discV).length = i := by simp; omega
   have hdl : (discA (mastP (l.getD i t30)) (mastR (l.getD i t30))).1.length = 16 := discA_length _ _
   have hrf := cellsI_full (discA (mastP (l.getD i t30)) (mastR (l.getD i t30))).1 (cellsI (List.replicate 16 0)) (by rw [cellsI_length, hdl]; rfl)
   have hrk : List.take 16 (cellsI (discA (mastP (l.getD i t30)) (mastR (l.getD i t30))).1) = cellsI (discA (mastP (l.getD i t30)) (mastR (l.getD i t30))).1 := List.take_of_length_le (by rw [cellsI_length, hdl]; decide)
   have hcl := cellsI_cl (discA (mastP (l.getD i t30)) (mastR (l.getD i t30))).1
   replace hq := And.intro hq (And.intro hil (And.intro hti (And.intro hdl (And.intro hrf (And.intro hrk (hcl))))))
   refine tr_skip ?_
   (try simp only [thenE, inBlkE])
   refine hK5 _ ?_
   refine tr_seq fun K7 hK7 => ?_
   refine tr_block ?_
   refine tr_seq fun K8 hK8 => ?_
   refine tr_region [0, 3, 4, 5, 6] rfl rfl fun K hK => ?_
   iterate 4 refine evR_p ?_
   refine evR_c (hc := (k57 (l.getD i t30))) (k := ?_)
   iterate 6 refine evR_p ?_
   refine evR_e hK ?_; clear hK K
   refine hK8 _ ?_
   refine tr_seq fun K9 hK9 => ?_
   refine tr_region [0, 3, 4, 7] rfl rfl fun K hK => ?_
   iterate 2 refine evR_p ?_
   refine evR_c (hc := (ca38 (mastP (l.getD i t30)) (mastR (l.getD i t30)))) (k := ?_)
   iterate 6 refine evR_p ?_
   refine evR_e hK ?_; clear hK K
   refine hK9 _ ?_
   refine tr_region [0, 3, 4] rfl rfl fun K hK => ?_
   iterate 2 refine evR_p ?_
   refine evR_bs ?_
   iterate 2 refine evR_p ?_
   refine evR_e hK ?_; clear hK K
   refine hK7 _ ?_
   refine tr_region [0, 3, 4] rfl rfl fun K hK => ?_
   iterate 3 refine evR_p ?_
   refine evR_e hK ?_; clear hK K
   refine hKL1 _ ?_
   exact ⟨m - 1, _, by omega, (Wk.trans (Wk.ren 3 0 (Nat.le_of_ble_eq_true rfl) (Nat.le_of_ble_eq_true rfl) (by simp [St.noSt, St.ren, St.cutOK, St.cut, AObj.no, AObj.upto, AObj.ren, V.no, V.upto, V.ren, V.noL, V.uptoL, V.renL, cellsI_uptoL, cellsI_noA, cellsI_renA, enC_uptoL])) (Wk.cut 1 (by simp [St.noSt, St.ren, St.cutOK, St.cut, AObj.no, AObj.upto, AObj.ren, V.no, V.upto, V.ren, V.noL, V.uptoL, V.renL, cellsI_uptoL, cellsI_noA, cellsI_renA, enC_uptoL]))), i + 1, by omega, by omega, by rw [w64 (x := (i : Int) + 1) (by omega), discs_snoc hil]; rfl⟩
  ·
   skip
   have hdn := discs_done (l := l) (i := i) hil0 (by omega) (by assumption)
   refine tr_exit ?_
   simp only [thenE, inBlkE, Nat.reduceEqDiff, ↓reduceIte]
   refine hK3 _ ?_
   refine tr_seq fun K10 hK10 => ?_
   refine tr_region [2] rfl rfl fun K hK => ?_
   iterate 2 refine evR_p ?_
   refine evR_e hK ?_; clear hK K
   refine hK10 _ ?_
   refine tr_ret ?_
   (try simp only [thenE, inBlkE])
   simp (maxSteps := 4000000) (disch := first | assumption | omega | (simp only [go_sem, *]; done) | (simp only [go_sem, *]; omega)) only [postA, postO, resV1, fzAll, go_sem, hq, Int.reduceToNat, Nat.reduceBEq, Nat.reduceEqDiff, Nat.reduceAdd, Nat.reduceMul, Nat.reduceLeDiff, Nat.reduceLT, Nat.reduceSub, ↓reduceIte, reduceCtorEq]
   all_goals ((rw [hdn]; exact ⟨0, rfl, if_pos rfl⟩))
end

section
attribute [local go_sem] encA_length encA_getD
set_option maxHeartbeats 4000000 in
theorem k12s (x : List T3) (y : List Pl) (hx : x.length ≤ maxLen) (hy : y.length ≤ maxLen) (i k : Int) (h2 : (discsL x).length < 2) : CallsA Try.prog 12 [.sl 3 (encT x), .sl 2 (encP y), .int .i64 i, .int .i64 k] (.bool true) := by
 obtain ⟨l, hL⟩ : ∃ l, discsL x = l := ⟨_, rfl⟩
 obtain ⟨t, hT⟩ : ∃ t, targetL y = t := ⟨_, rfl⟩
 have hl : okAs l := hL ▸ discsL_ok x
 have h7 : l.length ≤ 7 := hL ▸ discsL_len x
 have ht : t.length = 16 := hT ▸ targetL_len y
 have hR : validR l t = true := hL ▸ hT ▸ made_R x y
 have hR0 := valid0 hR
 have hvM := progR_valid (show l.length ≤ 12 by omega) t
 have c40 : CallsA Try.prog 40 [.sl 3 (encT x)] (.sl 16 (encA l)) := hL ▸ k40 x hx
 have c41 : CallsA Try.prog 41 [.sl 2 (encP y)] (.agg (cellsI t)) := hT ▸ k41 y hy
 have hsh : shlW .i64 1 (l.length : Nat) = ((2 ^ l.length : Nat) : Int) := shl1 (by omega)
 have htf := cellsI_full t (cellsI (List.replicate 16 0)) (by rw [cellsI_length, ht]; rfl)
 have htk : List.take 16 (cellsI t) = cellsI t := List.take_of_length_le (by rw [cellsI_length, ht]; decide)
 rw [hL] at h2
 have c40o : CallsO Try.prog 40 [.sl 3 (encT x)] 76 16 (encA l) := hL ▸ k40o x hx
 have hq := And.intro ht (And.intro hsh (And.intro htf (htk)))
 refine callsA_of_tr Try.func12 rfl (Nat.le_of_ble_eq_true rfl) ?_
 simp only [Try.results12, envOf, Nat.reduceAdd]
 refine tr_seq fun K1 hK1 => ?_
 refine tr_region [0, 1, 2, 3] rfl rfl fun K hK => ?_
 refine evR_p ?_
 refine evR_e hK ?_; clear hK K
 refine hK1 _ ?_
 refine tr_seq fun K2 hK2 => ?_
 refine tr_seq fun K3 hK3 => ?_
 refine tr_region [0, 1, 2, 3, 19] rfl rfl fun K hK => ?_
 refine evR_c (hc := k39) (k := ?_)
 refine evR_p ?_
 refine evR_e hK ?_; clear hK K
 refine hK3 _ ?_
 refine tr_condB (fun ht1 => ?_) (fun ht1 => ?_)
 ·
  skip
  (first | (exfalso; omega) | (exfalso; simp_all; done) | skip)
  all_goals
   refine tr_seq fun K4 hK4 => ?_
   refine tr_region [8] rfl rfl fun K hK => ?_
   refine evR_p ?_
   refine evR_e hK ?_; clear hK K
   refine hK4 _ ?_
   refine tr_ret ?_
   (try simp only [thenE, inBlkE])
   simp (maxSteps := 4000000) (disch := first | assumption | omega | (simp only [go_sem, *]; done) | (simp only [go_sem, *]; omega)) only [postA, postO, resV1, fzAll, go_sem, hq, Int.reduceToNat, Nat.reduceBEq, Nat.reduceEqDiff, Nat.reduceAdd, Nat.reduceMul, Nat.reduceLeDiff, Nat.reduceLT, Nat.reduceSub, ↓reduceIte, reduceCtorEq]
   all_goals (rfl)
 ·
  skip
  (first | (exfalso; omega) | (exfalso; simp_all; done) | skip)
  all_goals
   refine tr_skip ?_
   (try simp only [thenE, inBlkE])
   refine hK2 _ ?_
   refine tr_seq fun K5 hK5 => ?_
   refine tr_region [1, 2, 3, 9] rfl rfl fun K hK => ?_
   refine evR_p ?_
   refine evR_stepX fun Kq hKq => Or.inl ?_
   simp (maxSteps := 4000000) (disch := first | assumption | omega | (simp only [go_sem, *]; done) | (simp only [go_sem, *]; omega)) only [stpO, go_sem, hq, Int.reduceToNat, Nat.reduceBEq, Nat.reduceEqDiff, Nat.reduceAdd, Nat.reduceMul, Nat.reduceLeDiff, Nat.reduceLT, Nat.reduceSub, ↓reduceIte, reduceCtorEq]
   (repeat (refine And.intro (by first | assumption | omega | decide | (simp; done) | (simp; omega) | (have hq := hvv hgt; omega) | (have hq := hvv hgt.1; omega) | (simp_all; done)) ?_))
   refine ⟨_, _, _, c40o, ?_⟩
   (try simp (maxSteps := 4000000) (disch := first | assumption | omega | (simp only [go_sem, *]; done) | (simp only [go_sem, *]; omega)) only [go_sem, hq, Int.reduceToNat, Nat.reduceBEq, Nat.reduceEqDiff, Nat.reduceAdd, Nat.reduceMul, Nat.reduceLeDiff, Nat.reduceLT, Nat.reduceSub, ↓reduceIte, reduceCtorEq])
   (repeat (refine And.intro (by first | assumption | omega | decide | (simp; done) | (simp; omega) | (have hq := hvv hgt; omega) | (have hq := hvv hgt.1; omega) | (simp_all; done)) ?_))
   refine hKq _ ?_; clear hKq Kq
   refine evR_p ?_
   refine evR_e hK ?_; clear hK K
   refine hK5 _ ?_
   refine tr_seq fun K6 hK6 => ?_
   refine tr_region [2, 3, 9, 10] rfl rfl fun K hK => ?_
   refine evR_p ?_
   refine evR_c (hc := c41) (k := ?_)
   iterate 2 refine evR_p ?_
   refine evR_e hK ?_; clear hK K
   refine hK6 _ ?_
   refine tr_seq fun K7 hK7 => ?_
   refine tr_seq fun K8 hK8 => ?_
   refine tr_region [2, 3, 9, 10, 26] rfl rfl fun K hK => ?_
   iterate 3 refine evR_p ?_
   refine evR_e hK ?_; clear hK K
   refine hK8 _ ?_
   refine tr_condB (fun ht2 => ?_) (fun ht2 => ?_)
   ·
    skip
    (first | (exfalso; omega) | (exfalso; simp_all; done) | skip)
    all_goals
     refine tr_seq fun K9 hK9 => ?_
     refine tr_region [8] rfl rfl fun K hK => ?_
     refine evR_p ?_
     refine evR_e hK ?_; clear hK K
     refine hK9 _ ?_
     refine tr_ret ?_
     (try simp only [thenE, inBlkE])
     simp (maxSteps := 4000000) (disch := first | assumption | omega | (simp only [go_sem, *]; done) | (simp only [go_sem, *]; omega)) only [postA, postO, resV1, fzAll, go_sem, hq, Int.reduceToNat, Nat.reduceBEq, Nat.reduceEqDiff, Nat.reduceAdd, Nat.reduceMul, Nat.reduceLeDiff, Nat.reduceLT, Nat.reduceSub, ↓reduceIte, reduceCtorEq]
     all_goals (rfl)
   ·
    skip
    (first | (exfalso; omega) | (exfalso; simp_all; done) | skip)
    all_goals
     refine tr_skip ?_
     (try simp only [thenE, inBlkE])
     refine hK7 _ ?_
     refine tr_seq fun K10 hK10 => ?_
     refine tr_region [3, 9, 10, 11] rfl rfl fun K hK => ?_
     iterate 3 refine evR_p ?_
     refine evR_c (hc := c44) (k := ?_)
     refine evR_p ?_
     refine evR_e hK ?_; clear hK K
     refine hK10 _ ?_
     refine tr_seq fun K11 hK11 => ?_
     refine tr_region [9, 10, 11, 12] rfl rfl fun K hK => ?_
     iterate 3 refine evR_p ?_
     refine evR_c (hc := c44) (k := ?_)
     refine evR_p ?_
     refine evR_e hK ?_; clear hK K
     refine hK11 _ ?_
     refine tr_seq fun K12 hK12 => ?_
     refine tr_seq fun K13 hK13 => ?_
     refine tr_region [9, 10, 11, 12, 37] rfl rfl fun K hK => ?_
     iterate 3 refine evR_p ?_
     refine evR_e hK ?_; clear hK K
     refine hK13 _ ?_
     refine tr_condB (fun ht3 => ?_) (fun ht3 => ?_)
     ·
      skip
      (first | (exfalso; omega) | (exfalso; simp_all; done) | skip)
      all_goals
       refine tr_region [9, 10, 11, 12] rfl rfl fun K hK => ?_
       iterate 6 refine evR_p ?_
       refine evR_e hK ?_; clear hK K
       refine hK12 _ ?_
       refine tr_seq fun K14 hK14 => ?_
       refine tr_draw [] [9, 10, 11] mixed rfl (by kernel_rfl) rfl fun K hK => ?_
       iterate 11 refine evD_p ?_
       refine evD_c (hc := c48) (k := ?_)
       refine evD_c (hc := c42) (k := ?_)
       iterate 2 refine evD_p ?_
       refine evD_e hK ?_; clear hK K
       refine hK14 _ ?_
       refine tr_seq fun K15 hK15 => ?_
       refine tr_draw [] [9, 10, 13] mixed rfl (by kernel_rfl) rfl fun K hK => ?_
       refine evD_bo ?_
       iterate 10 refine evD_p ?_
       refine evD_e hK ?_; clear hK K
       refine hK15 _ ?_
       refine tr_seq fun K16 hK16 => ?_
       refine tr_region [10, 13, 14, 15] rfl rfl fun K hK => ?_
       iterate 2 refine evR_p ?_
       refine evR_c (hc := (kLeast hl ht hR)) (k := ?_)
       iterate 6 refine evR_p ?_
       refine evR_e hK ?_; clear hK K
       refine hK16 _ ?_
       refine tr_seq fun K17 hK17 => ?_
       refine tr_region [14, 15, 16, 17] rfl rfl fun K hK => ?_
       iterate 2 refine evR_p ?_
       refine evR_c (hc := (kLeast hl ht hR)) (k := ?_)
       iterate 6 refine evR_p ?_
       refine evR_e hK ?_; clear hK K
       refine hK17 _ ?_
       refine tr_seq fun K18 hK18 => ?_
       refine tr_region [8] rfl rfl fun K hK => ?_
       iterate 3 refine evR_p ?_
       iterate 2 refine evR_g ?_
       iterate 2 refine evR_p ?_
       iterate 5 refine evR_g ?_
       iterate 2 refine evR_p ?_
       iterate 5 refine evR_g ?_
       iterate 2 refine evR_p ?_
       refine evR_e hK ?_; clear hK K
       refine hK18 _ ?_
       refine tr_ret ?_
       (try simp only [thenE, inBlkE])
       simp (maxSteps := 4000000) (disch := first | assumption | omega | (simp only [go_sem, *]; done) | (simp only [go_sem, *]; omega)) only [postA, postO, resV1, fzAll, go_sem, hq, Int.reduceToNat, Nat.reduceBEq, Nat.reduceEqDiff, Nat.reduceAdd, Nat.reduceMul, Nat.reduceLeDiff, Nat.reduceLT, Nat.reduceSub, ↓reduceIte, reduceCtorEq]
       all_goals (rfl)
     ·
      skip
      (first | (exfalso; omega) | (exfalso; simp_all; done) | skip)
      all_goals
       refine tr_skip ?_
       (try simp only [thenE, inBlkE])
       refine hK12 _ ?_
       refine tr_seq fun K19 hK19 => ?_
       refine tr_draw [] [9, 10, 11] mixed rfl (by kernel_rfl) rfl fun K hK => ?_
       iterate 11 refine evD_p ?_
       refine evD_c (hc := c48) (k := ?_)
       refine evD_c (hc := c42) (k := ?_)
       iterate 2 refine evD_p ?_
       refine evD_e hK ?_; clear hK K
       refine hK19 _ ?_
       refine tr_seq fun K20 hK20 => ?_
       refine tr_draw [] [9, 10, 13] mixed rfl (by kernel_rfl) rfl fun K hK => ?_
       refine evD_bo ?_
       iterate 10 refine evD_p ?_
       refine evD_e hK ?_; clear hK K
       refine hK20 _ ?_
       refine tr_seq fun K21 hK21 => ?_
       refine tr_region [10, 13, 14, 15] rfl rfl fun K hK => ?_
       iterate 2 refine evR_p ?_
       refine evR_c (hc := (kLeast hl ht hR)) (k := ?_)
       iterate 6 refine evR_p ?_
       refine evR_e hK ?_; clear hK K
       refine hK21 _ ?_
       refine tr_seq fun K22 hK22 => ?_
       refine tr_region [14, 15, 16, 17] rfl rfl fun K hK => ?_
       iterate 2 refine evR_p ?_
       refine evR_c (hc := (kLeast hl ht hR)) (k := ?_)
       iterate 6 refine evR_p ?_
       refine evR_e hK ?_; clear hK K
       refine hK22 _ ?_
       refine tr_seq fun K23 hK23 => ?_
       refine tr_region [8] rfl rfl fun K hK => ?_
       iterate 3 refine evR_p ?_
       iterate 2 refine evR_g ?_
       iterate 2 refine evR_p ?_
       iterate 5 refine evR_g ?_
       iterate 2 refine evR_p ?_
       iterate 5 refine evR_g ?_
       iterate 2 refine evR_p ?_
       refine evR_e hK ?_; clear hK K
       refine hK23 _ ?_
       refine tr_ret ?_
       (try simp only [thenE, inBlkE])
       simp (maxSteps := 4000000) (disch := first | assumption | omega | (simp only [go_sem, *]; done) | (simp only [go_sem, *]; omega)) only [postA, postO, resV1, fzAll, go_sem, hq, Int.reduceToNat, Nat.reduceBEq, Nat.reduceEqDiff, Nat.reduceAdd, Nat.reduceMul, Nat.reduceLeDiff, Nat.reduceLT, Nat.reduceSub, ↓reduceIte, reduceCtorEq]
       all_goals (rfl)
end

section
attribute [local go_sem] encA_length encA_getD encA_set encA_take encA_drop encA_app encA_less List.nil_append List.replicate_zero List.length_set
set_option maxHeartbeats 8000000 in
theorem k12l (x : List T3) (y : List Pl) (hx : x.length ≤ maxLen) (hy : y.length ≤ maxLen) (a b : Int) (ha : okI a) (hb : okI b) (h2 : 2 ≤ (discsL x).length) : CallsA Try.prog 12 [.sl 3 (encT x), .sl 2 (encP y), .int .i64 a, .int .i64 b] (.bool true) := by
 obtain ⟨l, hL⟩ : ∃ l, discsL x = l := ⟨_, rfl⟩
 obtain ⟨t, hT⟩ : ∃ t, targetL y = t := ⟨_, rfl⟩
 have hl : okAs l := hL ▸ discsL_ok x
 have h7 : l.length ≤ 7 := hL ▸ discsL_len x
 have ht : t.length = 16 := hT ▸ targetL_len y
 have hR : validR l t = true := hL ▸ hT ▸ made_R x y
 have hR0 := valid0 hR
 have hvM := progR_valid (show l.length ≤ 12 by omega) t
 have c40 : CallsA Try.prog 40 [.sl 3 (encT x)] (.sl 16 (encA l)) := hL ▸ k40 x hx
 have c41 : CallsA Try.prog 41 [.sl 2 (encP y)] (.agg (cellsI t)) := hT ▸ k41 y hy
 have hsh : shlW .i64 1 (l.length : Nat) = ((2 ^ l.length : Nat) : Int) := shl1 (by omega)
 have htf := cellsI_full t (cellsI (List.replicate 16 0)) (by rw [cellsI_length, ht]; rfl)
 have htk : List.take 16 (cellsI t) = cellsI t := List.take_of_length_le (by rw [cellsI_length, ht]; decide)
 rw [hL] at h2
 have c40o : CallsO Try.prog 40 [.sl 3 (encT x)] 76 16 (encA l) := hL ▸ k40o x hx
 obtain ⟨i, hi0, hi⟩ := pick_len a ha (n := l.length) (by omega)
 obtain ⟨k0, hk0, hk0l⟩ := pick_len b hb (n := l.length) (by omega)
 have c44a : CallsA Try.prog 44 [.int .i64 a, .int .i64 (l.length : Nat)] (.int .i64 (i : Nat)) := hi0 ▸ k44 a (l.length : Nat) (by omega)
 have c44b : CallsA Try.prog 44 [.int .i64 b, .int .i64 (l.length : Nat)] (.int .i64 (k0 : Nat)) := hk0 ▸ k44 b (l.length : Nat) (by omega)
 obtain ⟨hk, hik⟩ := otherN_spec hi hk0l h2
 have hw1 : i = k0 → Int.tmod (IntKind.i64.wrap ((k0 : Int) + 1)) (l.length : Int) = (otherN i k0 l.length : Nat) := fun e => by
  rw [w64 (by omega)]; unfold otherN; rw [if_pos e]
  exact (Int.ofNat_tmod (k0 + 1) l.length).symm
 have hw2 : i ≠ k0 → k0 = otherN i k0 l.length := fun e => by unfold otherN; rw [if_neg e]
 obtain ⟨k, hkk⟩ : ∃ k, otherN i k0 l.length = k := ⟨_, rfl⟩
 rw [hkk] at hk hik hw1 hw2
 have hli := hl.at hi
 have hlk := hl.at hk
 have lm : (meetA (l.getD i []) t).length = 16 := eachA_length _ hli ht
 obtain ⟨U, hU⟩ : ∃ U, unionA (l.getD k []) (meetA (l.getD i []) t) = U := ⟨_, rfl⟩
 have hul : U.length = 16 := hU ▸ unionA_len hlk lm
 have c48 := ca19u (l.getD i []) t hli ht
 have c42 := ca17u (l.getD k []) (meetA (l.getD i []) t) hlk lm
 rw [hU] at c42
 obtain ⟨hO, hRO, hOl, hs1, hs2⟩ := spare_set hl ht hR hi hk hik hU.symm
 have huf := cellsI_full U (cellsI (l.getD k [])) (by rw [cellsI_length, hul, hlk])
 have huk : List.take 16 (cellsI U) = cellsI U := List.take_of_length_le (by rw [cellsI_length, hul]; decide)
 have hmk : List.take 16 (cellsI (l.getD k [])) = cellsI (l.getD k []) := List.take_of_length_le (by rw [cellsI_length, hlk]; decide)
 have hmf : List.take 16 (cellsI (l.getD i [])) = cellsI (l.getD i []) := List.take_of_length_le (by rw [cellsI_length, hli]; decide)
 have hi1 : IntKind.i64.wrap ((i : Int) + 1) = ((i + 1 : Nat) : Int) := by rw [w64 (by omega)]; omega
 have cS := kLeast hO ht hRO
 have cT := kLeast (lessL_ok hO i) ht (lessL_R hRO i)
 unfold encSol2 at cS cT
 rw [← solveW_f, ← solveW_s, ← solveW_g] at cS cT
 rw [← hs1, ← hs2] at cT
 have hq := And.intro ht (And.intro hsh (And.intro htf (And.intro htk (And.intro hi (And.intro hk (And.intro hli (And.intro hlk (And.intro hmf (And.intro hmk (And.intro huf (And.intro huk (And.intro hul (hi1)))))))))))))
 refine callsA_of_tr Try.func12 rfl (Nat.le_of_ble_eq_true rfl) ?_
 simp only [Try.results12, envOf, Nat.reduceAdd]
 refine tr_seq fun K1 hK1 => ?_
 refine tr_region [0, 1, 2, 3] rfl rfl fun K hK => ?_
 refine evR_p ?_
 refine evR_e hK ?_; clear hK K
 refine hK1 _ ?_
 refine tr_seq fun K2 hK2 => ?_
 refine tr_seq fun K3 hK3 => ?_
 refine tr_region [0, 1, 2, 3, 19] rfl rfl fun K hK => ?_
 refine evR_c (hc := k39) (k := ?_)
 refine evR_p ?_
 refine evR_e hK ?_; clear hK K
 refine hK3 _ ?_
 refine tr_condB (fun ht1 => ?_) (fun ht1 => ?_)
 ·
  skip
  (first | (exfalso; omega) | (exfalso; simp_all; done) | skip)
  all_goals
   refine tr_seq fun K4 hK4 => ?_
   refine tr_region [8] rfl rfl fun K hK => ?_
   refine evR_p ?_
   refine evR_e hK ?_; clear hK K
   refine hK4 _ ?_
   refine tr_ret ?_
   (try simp only [thenE, inBlkE])
   simp (maxSteps := 4000000) (disch := first | assumption | omega | (simp only [go_sem, *]; done) | (simp only [go_sem, *]; omega)) only [postA, postO, resV1, fzAll, go_sem, hq, Int.reduceToNat, Nat.reduceBEq, Nat.reduceEqDiff, Nat.reduceAdd, Nat.reduceMul, Nat.reduceLeDiff, Nat.reduceLT, Nat.reduceSub, ↓reduceIte, reduceCtorEq]
   all_goals (first | rfl | (simp; done) | (simp_all; done))
 ·
  skip
  (first | (exfalso; omega) | (exfalso; simp_all; done) | skip)
  all_goals
   refine tr_skip ?_
   (try simp only [thenE, inBlkE])
   refine hK2 _ ?_
   refine tr_seq fun K5 hK5 => ?_
   refine tr_region [1, 2, 3, 9] rfl rfl fun K hK => ?_
   refine evR_p ?_
   refine evR_stepX fun Kq hKq => Or.inl ?_
   simp (maxSteps := 4000000) (disch := first | assumption | omega | (simp only [go_sem, *]; done) | (simp only [go_sem, *]; omega)) only [stpO, go_sem, hq, Int.reduceToNat, Nat.reduceBEq, Nat.reduceEqDiff, Nat.reduceAdd, Nat.reduceMul, Nat.reduceLeDiff, Nat.reduceLT, Nat.reduceSub, ↓reduceIte, reduceCtorEq]
   (repeat (refine And.intro (by first | assumption | omega | decide | (simp; done) | (simp; omega) | (have hq := hvv hgt; omega) | (have hq := hvv hgt.1; omega) | (simp_all; done)) ?_))
   refine ⟨_, _, _, c40o, ?_⟩
   (try simp (maxSteps := 4000000) (disch := first | assumption | omega | (simp only [go_sem, *]; done) | (simp only [go_sem, *]; omega)) only [go_sem, hq, Int.reduceToNat, Nat.reduceBEq, Nat.reduceEqDiff, Nat.reduceAdd, Nat.reduceMul, Nat.reduceLeDiff, Nat.reduceLT, Nat.reduceSub, ↓reduceIte, reduceCtorEq])
   (repeat (refine And.intro (by first | assumption | omega | decide | (simp; done) | (simp; omega) | (have hq := hvv hgt; omega) | (have hq := hvv hgt.1; omega) | (simp_all; done)) ?_))
   refine hKq _ ?_; clear hKq Kq
   refine evR_p ?_
   refine evR_e hK ?_; clear hK K
   refine hK5 _ ?_
   refine tr_seq fun K6 hK6 => ?_
   refine tr_region [2, 3, 9, 10] rfl rfl fun K hK => ?_
   refine evR_p ?_
   refine evR_c (hc := c41) (k := ?_)
   iterate 2 refine evR_p ?_
   refine evR_e hK ?_; clear hK K
   refine hK6 _ ?_
   refine tr_seq fun K7 hK7 => ?_
   refine tr_seq fun K8 hK8 => ?_
   refine tr_region [2, 3, 9, 10, 26] rfl rfl fun K hK => ?_
   iterate 3 refine evR_p ?_
   refine evR_e hK ?_; clear hK K
   refine hK8 _ ?_
   refine tr_condB (fun ht2 => ?_) (fun ht2 => ?_)
   ·
    skip
    (first | (exfalso; omega) | (exfalso; simp_all; done) | skip)
    all_goals
     refine tr_seq fun K9 hK9 => ?_
     refine tr_region [8] rfl rfl fun K hK => ?_
     refine evR_p ?_
     refine evR_e hK ?_; clear hK K
     refine hK9 _ ?_
     refine tr_ret ?_
     (try simp only [thenE, inBlkE])
     simp (maxSteps := 4000000) (disch := first | assumption | omega | (simp only [go_sem, *]; done) | (simp only [go_sem, *]; omega)) only [postA, postO, resV1, fzAll, go_sem, hq, Int.reduceToNat, Nat.reduceBEq, Nat.reduceEqDiff, Nat.reduceAdd, Nat.reduceMul, Nat.reduceLeDiff, Nat.reduceLT, Nat.reduceSub, ↓reduceIte, reduceCtorEq]
     all_goals (first | rfl | (simp; done) | (simp_all; done))
   ·
    skip
    (first | (exfalso; omega) | (exfalso; simp_all; done) | skip)
    all_goals
     refine tr_skip ?_
     (try simp only [thenE, inBlkE])
     refine hK7 _ ?_
     refine tr_seq fun K10 hK10 => ?_
     refine tr_region [3, 9, 10, 11] rfl rfl fun K hK => ?_
     iterate 3 refine evR_p ?_
     refine evR_c (hc := c44a) (k := ?_)
     refine evR_p ?_
     refine evR_e hK ?_; clear hK K
     refine hK10 _ ?_
     refine tr_seq fun K11 hK11 => ?_
     refine tr_region [9, 10, 11, 12] rfl rfl fun K hK => ?_
     iterate 3 refine evR_p ?_
     refine evR_c (hc := c44b) (k := ?_)
     refine evR_p ?_
     refine evR_e hK ?_; clear hK K
     refine hK11 _ ?_
     refine tr_seq fun K12 hK12 => ?_
     refine tr_seq fun K13 hK13 => ?_
     refine tr_region [9, 10, 11, 12, 37] rfl rfl fun K hK => ?_
     iterate 3 refine evR_p ?_
     refine evR_e hK ?_; clear hK K
     refine hK13 _ ?_
     refine tr_cut (fun σ => σ = ⟨[(9, .own 0), (10, .ptr 1 0), (11, .int .i64 (i : Nat)), (12, .int .i64 (k : Nat))], [(1, .cells (cellsI t)), (0, .row 76 16 (encA l))], 2⟩) (fun KJ3 hKJ3 => ?_) ?_
     ·
      skip
      refine tr_condB (fun ht3 => ?_) (fun ht3 => ?_)
      ·
       skip
       (first | (exfalso; omega) | (exfalso; simp_all; done) | skip)
       all_goals
        refine tr_region [9, 10, 11, 12] rfl rfl fun K hK => ?_
        iterate 6 refine evR_p ?_
        refine evR_e hK ?_; clear hK K
        refine hKJ3 _ ?_
        first | (rw [hw1 (by omega)]; done) | (rw [hw1 (by omega)]; rfl) | (rw [← hw2 (by omega)]; done) | (rw [← hw2 (by omega)]; rfl)
      ·
       skip
       (first | (exfalso; omega) | (exfalso; simp_all; done) | skip)
       all_goals
        refine tr_wk (Wk.norm _ [9, 10, 11, 12]) ?_
        refine tr_skip ?_
        (try simp only [thenE, inBlkE])
        refine hKJ3 _ ?_
        first | (rw [hw1 (by omega)]; done) | (rw [hw1 (by omega)]; rfl) | (rw [← hw2 (by omega)]; done) | (rw [← hw2 (by omega)]; rfl)
     ·
      rintro σ rfl
      refine hK12 _ ?_
      refine tr_seq fun K14 hK14 => ?_
      refine tr_draw [] [9, 10, 11] mixed rfl (by kernel_rfl) rfl fun K hK => ?_
      iterate 11 refine evD_p ?_
      refine evD_c (hc := c48) (k := ?_)
      refine evD_c (hc := c42) (k := ?_)
      iterate 2 refine evD_p ?_
      refine evD_e hK ?_; clear hK K
      refine hK14 _ ?_
      refine tr_seq fun K15 hK15 => ?_
      refine tr_fz [.own 0] (by simp (maxSteps := 4000000) (disch := first | assumption | omega | (simp only [go_sem, *]; done) | (simp only [go_sem, *]; omega)) only [go_sem, hq, Int.reduceToNat, Nat.reduceBEq, Nat.reduceEqDiff, Nat.reduceAdd, Nat.reduceMul, Nat.reduceLeDiff, Nat.reduceLT, Nat.reduceSub, ↓reduceIte, reduceCtorEq]; (try rfl)) ?_
      refine tr_draw [] [9, 10, 13] mixed rfl (by kernel_rfl) rfl fun K hK => ?_
      refine evD_bo ?_
      iterate 10 refine evD_p ?_
      refine evD_e hK ?_; clear hK K
      refine hK15 _ ?_
      refine tr_seq fun K16 hK16 => ?_
      refine tr_fz [.own 2] (by simp (maxSteps := 4000000) (disch := first | assumption | omega | (simp only [go_sem, *]; done) | (simp only [go_sem, *]; omega)) only [go_sem, hq, Int.reduceToNat, Nat.reduceBEq, Nat.reduceEqDiff, Nat.reduceAdd, Nat.reduceMul, Nat.reduceLeDiff, Nat.reduceLT, Nat.reduceSub, ↓reduceIte, reduceCtorEq]; (try rfl)) ?_
      refine tr_region [10, 13, 14, 15] rfl rfl fun K hK => ?_
      iterate 2 refine evR_p ?_
      refine evR_c (hc := cS) (k := ?_)
      iterate 6 refine evR_p ?_
      refine evR_e hK ?_; clear hK K
      refine hK16 _ ?_
      refine tr_seq fun K17 hK17 => ?_
      refine tr_region [14, 15, 16, 17] rfl rfl fun K hK => ?_
      iterate 2 refine evR_p ?_
      refine evR_c (hc := cT) (k := ?_)
      iterate 6 refine evR_p ?_
      refine evR_e hK ?_; clear hK K
      refine hK17 _ ?_
      refine tr_seq fun K18 hK18 => ?_
      refine tr_region [8] rfl rfl fun K hK => ?_
      iterate 3 refine evR_p ?_
      iterate 2 refine evR_g ?_
      iterate 2 refine evR_p ?_
      iterate 5 refine evR_g ?_
      iterate 2 refine evR_p ?_
      iterate 5 refine evR_g ?_
      iterate 2 refine evR_p ?_
      refine evR_e hK ?_; clear hK K
      refine hK18 _ ?_
      refine tr_ret ?_
      (try simp only [thenE, inBlkE])
      simp (maxSteps := 4000000) (disch := first | assumption | omega | (simp only [go_sem, *]; done) | (simp only [go_sem, *]; omega)) only [postA, postO, resV1, fzAll, go_sem, hq, Int.reduceToNat, Nat.reduceBEq, Nat.reduceEqDiff, Nat.reduceAdd, Nat.reduceMul, Nat.reduceLeDiff, Nat.reduceLT, Nat.reduceSub, ↓reduceIte, reduceCtorEq]
      all_goals (first | rfl | (simp; done) | (simp_all; done))
end

end Go.Proofs.Ytfamkbofdamkkaa
namespace Go.Proofs.Ytfamkbofdamkkaa
open Go.RowKit
set_option linter.unusedVariables false
set_option linter.unusedSimpArgs false
theorem k12 (x : List T3) (y : List Pl) (hx : x.length ≤ maxLen) (hy : y.length ≤ maxLen) (a b : Int) (ha : okI a) (hb : okI b) : CallsA Try.prog 12 [.sl 3 (encT x), .sl 2 (encP y), .int .i64 a, .int .i64 b] (.bool true) := by
 by_cases h : (discsL x).length < 2
 ·
  exact k12s x y hx hy a b h
 ·
  exact k12l x y hx hy a b ha hb (by omega)
theorem mast_ok {x : T3} (h : okT x) : onMap (mastP x) = true ∧ 6 ≤ mastR x ∧ mastR x < 36 := by
  have h1 : onMap (mastP x) = true := placeP_on (p := ⟨x.p, x.q⟩) ⟨h.1, h.2.1⟩
  have h2 := pickW_range x.r (n := 30) (by omega) (by omega) h.2.2
  exact ⟨h1, by unfold mastR; omega, by unfold mastR; omega⟩
theorem disc_fine {x : T3} (h : okT x) : discA (mastP x) (mastR x) = (discV x, 0) := by
  obtain ⟨h1, h2, h3⟩ := mast_ok h
  unfold discV; rw [discA_ok h1 (by omega) (by omega)]
theorem discV_has {x : T3} (h : okT x) {u v : Nat} (hu : u < 16) (hv : v < 16) : hasA (discV x) u v = nearR (mastP x) (ctr u v) (mastR x) := by
  obtain ⟨h1, h2, h3⟩ := mast_ok h
  unfold discV; rw [discA_ok h1 (by omega) (by omega), has_G _ hu hv, near_comm]
theorem target_fine {y : List Pl} (h : ∀ p ∈ y, okP p) : polyA (madeP y) = (targetL y, 0) := by
  have h1 := madeP_length y
  have hv := valid_mk h1.1 (by omega) (madeP_on h)
  unfold targetL polyA; rw [if_pos hv]
theorem discsL_get {x : List T3} {i : Nat} (h : i < (discsL x).length) : (discsL x).getD i [] = discV (x.getD i t30) ∧ i < x.length ∧ i < 7 := by
  have h' : i < min 7 x.length := by simpa [discsL] using h
  refine ⟨?_, by omega, by omega⟩
  simp [discsL, List.getD, List.getElem?_take, show i < 7 by omega, show i < x.length by omega]
theorem near_wrap6 {p c : Pl} {r : Int} (hp : onMap p = true) (hc : onMap c = true) (h0 : 0 ≤ r) (h1 : r ≤ 100) :
    IntKind.i64.wrap (p.x - c.x) = p.x - c.x ∧ IntKind.i64.wrap (p.y - c.y) = p.y - c.y ∧ IntKind.i64.wrap ((p.x - c.x) * (p.x - c.x)) = (p.x - c.x) * (p.x - c.x) ∧ IntKind.i64.wrap ((p.y - c.y) * (p.y - c.y)) = (p.y - c.y) * (p.y - c.y) ∧
      IntKind.i64.wrap ((p.x - c.x) * (p.x - c.x) + (p.y - c.y) * (p.y - c.y)) = (p.x - c.x) * (p.x - c.x) + (p.y - c.y) * (p.y - c.y) ∧ IntKind.i64.wrap (r * r) = r * r := by
  have a := onMap_spec hp
  have b := onMap_spec hc
  have q1 := sqB (u := p.x - c.x) (by omega) (by omega)
  have q2 := sqB (u := p.y - c.y) (by omega) (by omega)
  have q3 := sqB (u := r) (by omega) (by omega)
  refine ⟨w64 (by omega), w64 (by omega), w64 (by omega), w64 (by omega), w64 (by omega), w64 (by omega)⟩
theorem listen {x : List T3} (hx : ∀ t ∈ x, okT t) {t : List Int} (ht : t.length = 16) (hR : validR (discsL x) t = true) (hf : (solveB (progR (discsL x) t)).1 = true) {u v : Nat} (hu : u < 16) (hv : v < 16) (hh : hasA t u v = true) :
    ∃ w : Nat, (solveB (progR (discsL x) t)).2.1 = w ∧ w < 2 ^ (discsL x).length ∧ ∃ i, i < (discsL x).length ∧ w.testBit i = true ∧ nearR (mastP (x.getD i t30)) (ctr u v) (mastR (x.getD i t30)) = true := by
  have hl := discsL_ok x
  obtain ⟨hV, h12, hvt⟩ := validR_iff.1 hR
  obtain ⟨w, e1, hw, hcw, -, -⟩ := least_yes hl ht hR hf
  refine ⟨w, e1, hw, ?_⟩
  rw [within_has ht (reached_len hl _) hvt (reached_V hl hV _)] at hcw
  have h := hcw u v hu hv hh
  rw [reached_has hl hV h12 (pow_small h12 hw) hu hv] at h
  obtain ⟨i, h1, h2, h3⟩ := covC_iff.1 h
  obtain ⟨e, g1, g2⟩ := discsL_get h1
  refine ⟨i, h1, h2, ?_⟩
  have hm : okT (x.getD i t30) := hx _ (getD_mem g1)
  unfold hasC at h3
  rw [e] at h3
  rw [← discV_has hm hu hv]; exact h3
set_option maxRecDepth 100000
attribute [local go_sem] Nat.zero_add Nat.add_zero Nat.mul_one eq_self ne_eq not_true_eq_false not_false_eq_true decide_true decide_false decide_not Bool.false_eq_true List.filter_cons List.filter_nil true_and and_true beq_false beq_true Bool.not_true Bool.not_false Bool.and_true Bool.true_and Option.getD_some Option.getD_none imp_self implies_true Int.toNat_natCast List.cons_append List.nil_append List.map_cons List.map_nil List.length_cons List.length_nil List.getD_cons_zero List.getD_cons_succ List.drop_zero List.drop_succ_cons List.take_succ_cons List.take_zero
attribute [local go_sem] lowN lowQ lowM isAl appOwn unw shL isSh Option.isNone_none Option.isNone_some Option.isSome_none appF isE isO stpO notIn St.bare evO evDO isEff stp St.get St.slot St.put List.lookup un unL ofVal gof nth pickV pkB_false pkB_true binV unV loadV idxV fldV partV buildV fillV lenV sliV appV appR rowsV winV V.parts V.okp V.sc Mem.look_cons Mem.look_nil V.cl V.clL AObj.clo fzAll exps St.fz Mem.fz V.fz V.fzL AObj.fz shp AObj.shp csh AObj.csh rowM isSt isRpS isRd Option.isSome_some Bool.or_true Bool.true_or Bool.or_false Bool.false_or and_false false_and or_false false_or List.length_append forall_const imp_self arT_104 arT_121 arT_160 arT_161 arT_22 arT_23 arT_24 arT_25 arT_28 arT_29 arT_30 arT_40 arT_42 arT_52 arT_60 arT_65 arT_72 arT_73 arT_76 arT_9 arT_90 boolT_182 boolT_25 boolT_3 boolT_35 boolT_4 boolT_76 flatT_182 flatT_25 flatT_3 flatT_35 flatT_4 flatT_76 intT_133 intT_169 intT_171 intT_188 intT_3 intT_5 lay_104 lay_112 lay_138 lay_141 lay_153 lay_160 lay_161 lay_164 lay_188 lay_23 lay_24 lay_25 lay_27 lay_28 lay_3 lay_30 lay_34 lay_4 lay_49 lay_52 lay_54 lay_56 lay_65 lay_67 lay_73 lay_76 lay_90 lay_99 mapT_112 okF_10 okF_100 okF_101 okF_102 okF_103 okF_104 okF_105 okF_106 okF_107 okF_108 okF_109 okF_11 okF_110 okF_111 okF_112 okF_113 okF_114 okF_115 okF_116 okF_117 okF_118 okF_119 okF_12 okF_120 okF_121 okF_122 okF_123 okF_124 okF_125 okF_126 okF_127 okF_128 okF_129 okF_13 okF_130 okF_131 okF_132 okF_133 okF_134 okF_135 okF_136 okF_137 okF_138 okF_139 okF_14 okF_140 okF_141 okF_142 okF_143 okF_144 okF_145 okF_146 okF_147 okF_148 okF_149 okF_15 okF_150 okF_151 okF_152 okF_153 okF_154 okF_155 okF_156 okF_157 okF_158 okF_159 okF_16 okF_160 okF_161 okF_162 okF_163 okF_164 okF_165 okF_166 okF_167 okF_168 okF_169 okF_17 okF_170 okF_171 okF_172 okF_173 okF_174 okF_175 okF_176 okF_177 okF_18 okF_19 okF_20 okF_21 okF_22 okF_23 okF_24 okF_25 okF_26 okF_27 okF_28 okF_29 okF_3 okF_30 okF_31 okF_32 okF_33 okF_34 okF_35 okF_36 okF_37 okF_38 okF_39 okF_4 okF_40 okF_41 okF_42 okF_43 okF_44 okF_45 okF_46 okF_47 okF_48 okF_49 okF_5 okF_50 okF_51 okF_52 okF_53 okF_54 okF_55 okF_56 okF_57 okF_58 okF_59 okF_6 okF_60 okF_61 okF_62 okF_63 okF_64 okF_65 okF_66 okF_67 okF_68 okF_69 okF_7 okF_70 okF_71 okF_72 okF_73 okF_74 okF_75 okF_76 okF_77 okF_78 okF_79 okF_8 okF_80 okF_81 okF_82 okF_83 okF_84 okF_85 okF_86 okF_87 okF_88 okF_89 okF_9 okF_90 okF_91 okF_92 okF_93 okF_94 okF_95 okF_96 okF_97 okF_98 okF_99 plT_138 plT_153 plT_157 plT_161 plT_27 plT_34 plT_54 plT_56 plT_67 plT_76 plT_90 plT_99 slT_104 slT_121 slT_160 slT_161 slT_22 slT_23 slT_24 slT_25 slT_28 slT_29 slT_30 slT_40 slT_42 slT_52 slT_60 slT_65 slT_72 slT_73 slT_76 slT_90 stT_138_0 stT_138_1 stT_153_0 stT_157_0 stT_157_1 stT_157_2 stT_157_3 stT_27_0 stT_27_1 stT_27_2 stT_34_0 stT_34_1 stT_34_2 stT_34_3 stT_54_0 stT_54_1 stT_54_2 stT_54_3 stT_56_0 stT_56_1 stT_67_1 stT_67_4 stT_67_5 stT_99_0 stT_99_1 strT_160 strT_76 strT_9 zeroT_112 zeroT_138 zeroT_153 zeroT_157 zeroT_160 zeroT_161 zeroT_188 zeroT_27 zeroT_3 zeroT_30 zeroT_34 zeroT_4 zeroT_49 zeroT_54 zeroT_56 zeroT_65 zeroT_67 zeroT_76 zeroT_90 zeroT_99
attribute [local go_sem] cellsI_fzL cellsI_uptoL List.getElem?_cons_zero List.getElem?_cons_succ List.zip_cons_cons List.zip_nil_left List.zip_nil_right Bool.false_and Bool.and_false cellsG_length polyA_length discA_length agEq_cells cellsI_isI cellsI_length cellsI_sc cellsI_cl cellsI_rows cellsI_take cellsI_dropD cellsI_set cellsI_full encI_length encI_getD List.length_set List.length_replicate List.all_cons List.all_nil outA_length eachA_length outM_length getD_set_same List.set_set spl_nil0 spl_cons0 spl_succ encP_length encP_getD
attribute [local simp] encP_length padP_length encI_length
theorem ca50 (l : List Pl) (p : Pl) (hv : validP l = true) (hp : onMap p = true) : CallsA Try.prog 112 [.sl 2 (encP l), .agg [.int .i64 p.x, .int .i64 p.y]] (.int .i64 (sideP l p)) := by
 obtain ⟨hl1, hl2, hlm⟩ := validP_len hv
 have hw0 : IntKind.i64.wrap ((l.length : Int) - 1) = (l.length : Int) - 1 := w64 (by omega)
 have hn0 : ((l.length : Int) - 1).toNat = l.length - 1 := by omega
 have hlast : onMap (l.getD (l.length - 1) ⟨0, 0⟩) = true := hlm _ (getD_mem (by omega))
 have hq := And.intro hw0 (hn0)
 refine callsA_of_tr Try.func112 rfl (Nat.le_of_ble_eq_true rfl) ?_
 simp only [Try.results112, envOf, Nat.reduceAdd]
 refine tr_seq fun K1 hK1 => ?_
 refine tr_region [0, 3] rfl rfl fun K hK => ?_
 iterate 2 refine evR_p ?_
 refine evR_e hK ?_; clear hK K
 refine hK1 _ ?_
 refine tr_seq fun K2 hK2 => ?_
 refine tr_region [0, 3, 5] rfl rfl fun K hK => ?_
 refine evR_p ?_
 refine evR_e hK ?_; clear hK K
 refine hK2 _ ?_
 refine tr_seq fun K3 hK3 => ?_
 refine tr_region [0, 3, 5, 6] rfl rfl fun K hK => ?_
 iterate 8 refine evR_p ?_
 refine evR_e hK ?_; clear hK K
 refine hK3 _ ?_
 refine tr_seq fun K4 hK4 => ?_
 refine tr_seq fun K5 hK5 => ?_
 refine tr_region [3, 5, 6, 17, 18, 19] rfl rfl fun K hK => ?_
 iterate 3 refine evR_p ?_
 refine evR_e hK ?_; clear hK K
 refine hK5 _ ?_
 refine tr_block ?_
 -- loop 1: live [3, 5, 6, 17, 18, 19]
 refine tr_loopW (fun m σ => ∃ (i : Nat) (a : Pl) (out : Int), i + m = l.length ∧ onMap a = true ∧ (out = 1 ∨ out = -1) ∧ sideGo p a out (l.drop i) = sideP l p ∧ σ = ⟨[(3, .ptr 0 0), (5, .int .i64 out), (6, .ptr 1 0), (17, .sl 2 (encP l)), (18, .int .i64 l.length), (19, .int .i64 i)], [(1, .cells [.int .i64 a.x, .int .i64 a.y]), (0, .cells [.int .i64 p.x, .int .i64 p.y])], 2⟩) (l.length) ?_ ?_
 ·
  exact ⟨_, Wk.refl _, 0, l.getD (l.length - 1) ⟨0, 0⟩, -1, by omega, hlast, .inr rfl, rfl, rfl⟩
 ·
  rintro m σ ⟨i, a, out, hi, hao, hout, hgo, rfl⟩ KL1 hKL1
  refine tr_seq fun K6 hK6 => ?_
  refine tr_region [3, 5, 6, 17, 18, 19, 20] rfl rfl fun K hK => ?_
  refine evR_p ?_
  refine evR_e hK ?_; clear hK K
  refine hK6 _ ?_
  refine tr_seq fun K7 hK7 => ?_
  refine tr_condB (fun ht1 => ?_) (fun ht1 => ?_)
  ·
   skip
   have hil : i < l.length := by omega
   have hbo : onMap (l.getD i ⟨0, 0⟩) = true := hlm _ (getD_mem hil)
   refine tr_skip ?_
   (try simp only [thenE, inBlkE])
   refine hK7 _ ?_
   refine tr_seq fun K8 hK8 => ?_
   refine tr_block ?_
   refine tr_seq fun K9 hK9 => ?_
   refine tr_region [3, 5, 6, 8, 17, 18, 19] rfl rfl fun K hK => ?_
   iterate 4 refine evR_p ?_
   refine evR_e hK ?_; clear hK K
   refine hK9 _ ?_
   refine tr_seq fun K10 hK10 => ?_
   refine tr_region [3, 5, 6, 8, 9, 17, 18, 19] rfl rfl fun K hK => ?_
   iterate 3 refine evR_p ?_
   refine evR_c (hc := (ca61 a (l.getD i ⟨0, 0⟩) p hao hbo hp)) (k := ?_)
   refine evR_p ?_
   refine evR_e hK ?_; clear hK K
   refine hK10 _ ?_
   refine tr_seq fun K11 hK11 => ?_
   refine tr_region [3, 5, 6, 8, 9, 10, 17, 18, 19] rfl rfl fun K hK => ?_
   iterate 9 refine evR_p ?_
   iterate 8 refine evR_g ?_
   iterate 2 refine evR_p ?_
   iterate 8 refine evR_g ?_
   iterate 2 refine evR_p ?_
   iterate 8 refine evR_g ?_
   iterate 2 refine evR_p ?_
   refine evR_e hK ?_; clear hK K
   refine hK11 _ ?_
   refine tr_seq fun K12 hK12 => ?_
   refine tr_seq fun K13 hK13 => ?_
   refine tr_region [3, 5, 6, 8, 9, 17, 18, 19, 69] rfl rfl fun K hK => ?_
   iterate 3 refine evR_p ?_
   refine evR_g ?_
   refine evR_p ?_
   refine evR_e hK ?_; clear hK K
   refine hK13 _ ?_
   refine tr_condB (fun ht2 => ?_) (fun ht2 => ?_)
   ·
    skip
    refine tr_seq fun K14 hK14 => ?_
    refine tr_region [4] rfl rfl fun K hK => ?_
    refine evR_p ?_
    refine evR_e hK ?_; clear hK K
    refine hK14 _ ?_
    refine tr_ret ?_
    (try simp only [thenE, inBlkE])
    simp (maxSteps := 4000000) (disch := first | assumption | omega | (simp only [go_sem, *]; done) | (simp only [go_sem, *]; omega)) only [postA, postO, resV1, fzAll, go_sem, hq, Int.reduceToNat, Nat.reduceBEq, Nat.reduceEqDiff, Nat.reduceAdd, Nat.reduceMul, Nat.reduceLeDiff, Nat.reduceLT, Nat.reduceSub, ↓reduceIte, reduceCtorEq]
    all_goals (first | (have hit : hitP a (l.getD i ⟨0, 0⟩) p = true := (by simp only [hitP, nearP, decide_eq_true_eq, decide_eq_false_iff_not, Bool.not_eq_true', Bool.not_eq_false', Bool.and_eq_true, Bool.or_eq_true, Bool.and_eq_false_iff, Bool.or_eq_false_iff, beq_true, beq_false]; omega); rw [← hgo, sideGo_hit hil hit]) | (rw [← hgo, List.drop_length]; rfl))
   ·
    skip
    refine tr_skip ?_
    (try simp only [thenE, inBlkE])
    refine hK12 _ ?_
    refine tr_seq fun K15 hK15 => ?_
    refine tr_seq fun K16 hK16 => ?_
    refine tr_region [3, 5, 6, 8, 17, 18, 19, 103] rfl rfl fun K hK => ?_
    iterate 6 refine evR_p ?_
    iterate 5 refine evR_g ?_
    iterate 2 refine evR_p ?_
    iterate 2 refine evR_g ?_
    iterate 2 refine evR_p ?_
    iterate 16 refine evR_g ?_
    refine evR_p ?_
    refine evR_e hK ?_; clear hK K
    refine hK16 _ ?_
    refine tr_condB (fun ht3 => ?_) (fun ht3 => ?_)
    ·
     skip
     refine tr_region [3, 5, 6, 8, 17, 18, 19] rfl rfl fun K hK => ?_
     iterate 3 refine evR_p ?_
     refine evR_e hK ?_; clear hK K
     refine hK15 _ ?_
     refine tr_region [3, 5, 6, 17, 18, 19] rfl rfl fun K hK => ?_
     iterate 2 refine evR_p ?_
     refine evR_e hK ?_; clear hK K
     refine hK8 _ ?_
     refine tr_region [3, 5, 6, 17, 18, 19] rfl rfl fun K hK => ?_
     iterate 2 refine evR_p ?_
     refine evR_e hK ?_; clear hK K
     refine hKL1 _ ?_
     have hit : hitP a (l.getD i ⟨0, 0⟩) p = false := by simp only [hitP, nearP, decide_eq_true_eq, decide_eq_false_iff_not, Bool.not_eq_true', Bool.not_eq_false', Bool.and_eq_true, Bool.or_eq_true, Bool.and_eq_false_iff, Bool.or_eq_false_iff, beq_true, beq_false]; omega
     first
      | (have hc : crossP a (l.getD i ⟨0, 0⟩) p = true := (by simp only [crossP, decide_eq_true_eq, decide_eq_false_iff_not, Bool.not_eq_true', Bool.not_eq_false', Bool.and_eq_true, Bool.or_eq_true, Bool.and_eq_false_iff, Bool.or_eq_false_iff, beq_true, beq_false]; omega); exact ⟨m - 1, _, by omega, Wk.cut 2 rfl, i + 1, l.getD i ⟨0, 0⟩, 0 - out, by omega, hbo, by omega, (sideGo_cross hil hit hc).trans hgo, by rw [w64 (by omega), w64 (by omega)]; rfl⟩)
      | (have hc : crossP a (l.getD i ⟨0, 0⟩) p = false := (by simp only [crossP, decide_eq_true_eq, decide_eq_false_iff_not, Bool.not_eq_true', Bool.not_eq_false', Bool.and_eq_true, Bool.or_eq_true, Bool.and_eq_false_iff, Bool.or_eq_false_iff, beq_true, beq_false]; omega); exact ⟨m - 1, _, by omega, Wk.cut 2 rfl, i + 1, l.getD i ⟨0, 0⟩, out, by omega, hbo, hout, (sideGo_miss hil hit hc).trans hgo, by rw [w64 (by omega)]; rfl⟩)
    ·
     skip
     refine tr_skip ?_
     (try simp only [thenE, inBlkE])
     refine hK15 _ ?_
     refine tr_region [3, 5, 6, 17, 18, 19] rfl rfl fun K hK => ?_
     iterate 2 refine evR_p ?_
     refine evR_e hK ?_; clear hK K
     refine hK8 _ ?_
     refine tr_region [3, 5, 6, 17, 18, 19] rfl rfl fun K hK => ?_
     iterate 2 refine evR_p ?_
     refine evR_e hK ?_; clear hK K
     refine hKL1 _ ?_
     have hit : hitP a (l.getD i ⟨0, 0⟩) p = false := by simp only [hitP, nearP, decide_eq_true_eq, decide_eq_false_iff_not, Bool.not_eq_true', Bool.not_eq_false', Bool.and_eq_true, Bool.or_eq_true, Bool.and_eq_false_iff, Bool.or_eq_false_iff, beq_true, beq_false]; omega
     first
      | (have hc : crossP a (l.getD i ⟨0, 0⟩) p = true := (by simp only [crossP, decide_eq_true_eq, decide_eq_false_iff_not, Bool.not_eq_true', Bool.not_eq_false', Bool.and_eq_true, Bool.or_eq_true, Bool.and_eq_false_iff, Bool.or_eq_false_iff, beq_true, beq_false]; omega); exact ⟨m - 1, _, by omega, Wk.cut 2 rfl, i + 1, l.getD i ⟨0, 0⟩, 0 - out, by omega, hbo, by omega, (sideGo_cross hil hit hc).trans hgo, by rw [w64 (by omega), w64 (by omega)]; rfl⟩)
      | (have hc : crossP a (l.getD i ⟨0, 0⟩) p = false := (by simp only [crossP, decide_eq_true_eq, decide_eq_false_iff_not, Bool.not_eq_true', Bool.not_eq_false', Bool.and_eq_true, Bool.or_eq_true, Bool.and_eq_false_iff, Bool.or_eq_false_iff, beq_true, beq_false]; omega); exact ⟨m - 1, _, by omega, Wk.cut 2 rfl, i + 1, l.getD i ⟨0, 0⟩, out, by omega, hbo, hout, (sideGo_miss hil hit hc).trans hgo, by rw [w64 (by omega)]; rfl⟩)
  ·
   skip
   have hil : i = l.length := by omega
   subst hil
   refine tr_exit ?_
   simp only [thenE, inBlkE, Nat.reduceEqDiff, ↓reduceIte]
   refine hK4 _ ?_
   refine tr_seq fun K17 hK17 => ?_
   refine tr_region [4] rfl rfl fun K hK => ?_
   iterate 2 refine evR_p ?_
   refine evR_e hK ?_; clear hK K
   refine hK17 _ ?_
   refine tr_ret ?_
   (try simp only [thenE, inBlkE])
   simp (maxSteps := 4000000) (disch := first | assumption | omega | (simp only [go_sem, *]; done) | (simp only [go_sem, *]; omega)) only [postA, postO, resV1, fzAll, go_sem, hq, Int.reduceToNat, Nat.reduceBEq, Nat.reduceEqDiff, Nat.reduceAdd, Nat.reduceMul, Nat.reduceLeDiff, Nat.reduceLT, Nat.reduceSub, ↓reduceIte, reduceCtorEq]
   all_goals (first | (have hit : hitP a (l.getD i ⟨0, 0⟩) p = true := (by simp only [hitP, nearP, decide_eq_true_eq, decide_eq_false_iff_not, Bool.not_eq_true', Bool.not_eq_false', Bool.and_eq_true, Bool.or_eq_true, Bool.and_eq_false_iff, Bool.or_eq_false_iff, beq_true, beq_false]; omega); rw [← hgo, sideGo_hit hil hit]) | (rw [← hgo, List.drop_length]; rfl))

theorem ca49 (l : List Pl) (p : Pl) (hv : validP l = true) (hp : onMap p = true) : CallsA Try.prog 111 [.agg [.int .i64 p.x, .int .i64 p.y], .ep [.sl 2 (encP l)]] (.bool (decide (0 ≤ sideP l p))) := by
 have hq : True := trivial
 refine callsA_of_tr Try.func111 rfl (Nat.le_of_ble_eq_true rfl) ?_
 simp only [Try.results111, envOf, Nat.reduceAdd]
 refine tr_seq fun K1 hK1 => ?_
 refine tr_region [1, 2] rfl rfl fun K hK => ?_
 iterate 2 refine evR_p ?_
 refine evR_e hK ?_; clear hK K
 refine hK1 _ ?_
 refine tr_seq fun K2 hK2 => ?_
 refine tr_region [3] rfl rfl fun K hK => ?_
 iterate 2 refine evR_p ?_
 refine evR_c (hc := (ca50 l p hv hp)) (k := ?_)
 iterate 2 refine evR_p ?_
 refine evR_e hK ?_; clear hK K
 refine hK2 _ ?_
 refine tr_ret ?_
 (try simp only [thenE, inBlkE])
 simp (maxSteps := 4000000) (disch := first | assumption | omega | (simp only [go_sem, *]; done) | (simp only [go_sem, *]; omega)) only [postA, postO, resV1, fzAll, go_sem, hq, Int.reduceToNat, Nat.reduceBEq, Nat.reduceEqDiff, Nat.reduceAdd, Nat.reduceMul, Nat.reduceLeDiff, Nat.reduceLT, Nat.reduceSub, ↓reduceIte, reduceCtorEq]
 all_goals (simp)

theorem ca48 (f : FuncId) (caps : List V) (g : Nat → Nat → Bool) (hf : okF Try.prog f = true) (hcl : V.clL caps = true) (hp : ∀ x y : Nat, x < 16 → y < 16 → CallsA Try.prog f (.agg [.int .i64 (4 * (x : Int) + 2), .int .i64 (4 * (y : Int) + 2)] :: caps) (.bool (g x y))) : CallsA Try.prog 108 [.fn f caps] (.agg (cellsI (cellsG g))) := by
 have hq := hcl
 refine callsA_of_tr Try.func108 rfl (Nat.le_of_ble_eq_true rfl) ?_
 simp only [Try.results108, envOf, Nat.reduceAdd]
 refine tr_seq fun K1 hK1 => ?_
 refine tr_region [0, 2] rfl rfl fun K hK => ?_
 refine evR_p ?_
 refine evR_e hK ?_; clear hK K
 refine hK1 _ ?_
 refine tr_seq fun K2 hK2 => ?_
 refine tr_region [0, 2, 3] rfl rfl fun K hK => ?_
 refine evR_p ?_
 refine evR_e hK ?_; clear hK K
 refine hK2 _ ?_
 refine tr_seq fun K3 hK3 => ?_
 refine tr_seq fun K4 hK4 => ?_
 refine tr_region [0, 2, 3, 6] rfl rfl fun K hK => ?_
 refine evR_p ?_
 refine evR_e hK ?_; clear hK K
 refine hK4 _ ?_
 refine tr_block ?_
 -- loop 1: live [0, 2, 3, 6]
 refine tr_loopW (fun m σ => ∃ y : Nat, y + m = 16 ∧ σ = ⟨[(0, .fn f caps), (2, .ptr 0 0), (3, .ptr 1 0), (6, .int .i64 y)], [(1, .cells (cellsI (outA (fun j => rowG g j 16) y))), (0, .cells (cellsI (List.replicate 16 0)))], 2⟩) (16) ?_ ?_
 ·
  exact ⟨_, Wk.refl _, 0, by omega, by rw [outA_zero]; rfl⟩
 ·
  rintro m σ ⟨y, hi, rfl⟩ KL1 hKL1
  refine tr_seq fun K5 hK5 => ?_
  refine tr_region [0, 2, 3, 6, 7] rfl rfl fun K hK => ?_
  refine evR_p ?_
  refine evR_e hK ?_; clear hK K
  refine hK5 _ ?_
  refine tr_seq fun K6 hK6 => ?_
  refine tr_condB (fun ht1 => ?_) (fun ht1 => ?_)
  ·
   skip
   have hil : y < 16 := by omega
   refine tr_skip ?_
   (try simp only [thenE, inBlkE])
   refine hK6 _ ?_
   refine tr_seq fun K7 hK7 => ?_
   refine tr_block ?_
   refine tr_seq fun K8 hK8 => ?_
   refine tr_region [0, 2, 3, 4, 6] rfl rfl fun K hK => ?_
   iterate 2 refine evR_p ?_
   refine evR_e hK ?_; clear hK K
   refine hK8 _ ?_
   refine tr_seq fun K9 hK9 => ?_
   refine tr_region [0, 2, 3, 4, 6, 9] rfl rfl fun K hK => ?_
   refine evR_p ?_
   refine evR_e hK ?_; clear hK K
   refine hK9 _ ?_
   refine tr_block ?_
   -- loop 2: live [0, 2, 3, 4, 6, 9]
   refine tr_loopW (fun m σ => ∃ x : Nat, x + m = 16 ∧ σ = ⟨[(0, .fn f caps), (2, .ptr 0 0), (3, .ptr 1 0), (4, .int .i64 y), (6, .int .i64 y), (9, .int .i64 x)], [(1, .cells (cellsI ((outA (fun j => rowG g j 16) y).set y (rowG g y x)))), (0, .cells (cellsI (List.replicate 16 0)))], 2⟩) (16) ?_ ?_
   ·
    exact ⟨_, Wk.refl _, 0, by omega, by rw [outR_zero g hil]; rfl⟩
   ·
    rintro m2 σ ⟨x, hx, rfl⟩ KL2 hKL2
    refine tr_seq fun K10 hK10 => ?_
    refine tr_region [0, 2, 3, 4, 6, 9, 10] rfl rfl fun K hK => ?_
    refine evR_p ?_
    refine evR_e hK ?_; clear hK K
    refine hK10 _ ?_
    refine tr_seq fun K11 hK11 => ?_
    refine tr_condB (fun ht2 => ?_) (fun ht2 => ?_)
    ·
     skip
     have hxl : x < 16 := by omega
     have hw1 : IntKind.i64.wrap (4 * (x : Int)) = 4 * (x : Int) := w64 (by omega)
     have hw2 : IntKind.i64.wrap (4 * (x : Int) + 2) = 4 * (x : Int) + 2 := w64 (by omega)
     have hw3 : IntKind.i64.wrap (4 * (y : Int)) = 4 * (y : Int) := w64 (by omega)
     have hw4 : IntKind.i64.wrap (4 * (y : Int) + 2) = 4 * (y : Int) + 2 := w64 (by omega)
     replace hq := And.intro hq (And.intro hw1 (And.intro hw2 (And.intro hw3 (hw4))))
     refine tr_skip ?_
     (try simp only [thenE, inBlkE])
     refine hK11 _ ?_
     refine tr_seq fun K12 hK12 => ?_
     refine tr_block ?_
     refine tr_seq fun K13 hK13 => ?_
     refine tr_region [0, 2, 3, 4, 5, 6, 9] rfl rfl fun K hK => ?_
     iterate 2 refine evR_p ?_
     refine evR_e hK ?_; clear hK K
     refine hK13 _ ?_
     refine tr_seq fun K14 hK14 => ?_
     refine tr_region [0, 2, 3, 4, 5, 6, 9, 20] rfl rfl fun K hK => ?_
     iterate 8 refine evR_p ?_
     refine evR_c (hc := (hp x y hxl hil)) (k := ?_)
     refine evR_e hK ?_; clear hK K
     refine hK14 _ ?_
     refine tr_condB (fun ht3 => ?_) (fun ht3 => ?_)
     ·
      skip
      refine tr_draw [] [0, 2, 3, 4, 6, 9] mixed rfl (by kernel_rfl) rfl fun K hK => ?_
      iterate 8 refine evD_p ?_
      refine evD_e hK ?_; clear hK K
      refine hK12 _ ?_
      refine tr_region [0, 2, 3, 4, 6, 9] rfl rfl fun K hK => ?_
      iterate 2 refine evR_p ?_
      refine evR_e hK ?_; clear hK K
      refine hKL2 _ ?_
      exact ⟨m2 - 1, _, by omega, Wk.refl _, x + 1, by omega, by rw [w64 (by omega), rowG_succ]; first | (rw [if_pos (by assumption)]; rfl) | (rw [if_neg (by simp_all)]; rfl)⟩
     ·
      skip
      refine tr_skip ?_
      (try simp only [thenE, inBlkE])
      refine hK12 _ ?_
      refine tr_region [0, 2, 3, 4, 6, 9] rfl rfl fun K hK => ?_
      iterate 2 refine evR_p ?_
      refine evR_e hK ?_; clear hK K
      refine hKL2 _ ?_
      exact ⟨m2 - 1, _, by omega, Wk.refl _, x + 1, by omega, by rw [w64 (by omega), rowG_succ]; first | (rw [if_pos (by assumption)]; rfl) | (rw [if_neg (by simp_all)]; rfl)⟩
    ·
     skip
     have hxl : x = 16 := by omega
     subst hxl
     refine tr_exit ?_
     simp only [thenE, inBlkE, Nat.reduceEqDiff, ↓reduceIte]
     refine hK7 _ ?_
     refine tr_region [0, 2, 3, 6] rfl rfl fun K hK => ?_
     iterate 2 refine evR_p ?_
     refine evR_e hK ?_; clear hK K
     refine hKL1 _ ?_
     exact ⟨m - 1, _, by omega, Wk.refl _, y + 1, by omega, by rw [w64 (by omega), outA_set (fun j => rowG g j 16) hil]; rfl⟩
  ·
   skip
   have hil : y = 16 := by omega
   subst hil
   refine tr_exit ?_
   simp only [thenE, inBlkE, Nat.reduceEqDiff, ↓reduceIte]
   refine hK3 _ ?_
   refine tr_seq fun K15 hK15 => ?_
   refine tr_region [2] rfl rfl fun K hK => ?_
   iterate 2 refine evR_p ?_
   refine evR_e hK ?_; clear hK K
   refine hK15 _ ?_
   refine tr_ret ?_
   (try simp only [thenE, inBlkE])
   simp (maxSteps := 4000000) (disch := first | assumption | omega | (simp only [go_sem, *]; done) | (simp only [go_sem, *]; omega)) only [postA, postO, resV1, fzAll, go_sem, hq, Int.reduceToNat, Nat.reduceBEq, Nat.reduceEqDiff, Nat.reduceAdd, Nat.reduceMul, Nat.reduceLeDiff, Nat.reduceLT, Nat.reduceSub, ↓reduceIte, reduceCtorEq]
   all_goals (rfl)

theorem ca31 (l : List Pl) (hm : l.length ≤ maxLen) : CallsA Try.prog 59 [.sl 2 (encP l)] (.tup [.agg (cellsI (polyA l).1), .int .i64 (polyA l).2]) := by
 have hq : True := trivial
 refine callsA_of_tr Try.func59 rfl (Nat.le_of_ble_eq_true rfl) ?_
 simp only [Try.results59, envOf, Nat.reduceAdd]
 refine tr_seq fun K1 hK1 => ?_
 refine tr_region [1, 2] rfl rfl fun K hK => ?_
 iterate 3 refine evR_p ?_
 refine evR_e hK ?_; clear hK K
 refine hK1 _ ?_
 refine tr_seq fun K2 hK2 => ?_
 refine tr_seq fun K3 hK3 => ?_
 refine tr_region [1, 2, 6] rfl rfl fun K hK => ?_
 refine evR_p ?_
 refine evR_c (hc := (ca33 l hm)) (k := ?_)
 refine evR_p ?_
 refine evR_e hK ?_; clear hK K
 refine hK3 _ ?_
 refine tr_condB (fun ht1 => ?_) (fun ht1 => ?_)
 ·
  skip
  refine tr_seq fun K4 hK4 => ?_
  refine tr_region [2, 3] rfl rfl fun K hK => ?_
  iterate 3 refine evR_p ?_
  refine evR_e hK ?_; clear hK K
  refine hK4 _ ?_
  refine tr_ret ?_
  (try simp only [thenE, inBlkE])
  simp (maxSteps := 4000000) (disch := first | assumption | omega | (simp only [go_sem, *]; done) | (simp only [go_sem, *]; omega)) only [postA, postO, resV1, fzAll, go_sem, hq, Int.reduceToNat, Nat.reduceBEq, Nat.reduceEqDiff, Nat.reduceAdd, Nat.reduceMul, Nat.reduceLeDiff, Nat.reduceLT, Nat.reduceSub, ↓reduceIte, reduceCtorEq]
  all_goals ((simp_all [polyA, zeros16]))
 ·
  skip
  refine tr_skip ?_
  (try simp only [thenE, inBlkE])
  refine hK2 _ ?_
  refine tr_seq fun K5 hK5 => ?_
  refine tr_region [2, 3] rfl rfl fun K hK => ?_
  refine evR_p ?_
  refine evR_c (hc := (ca48 111 _ (fun x y => decide (0 ≤ sideP l (ctr x y))) okF_111 rfl (fun x y hx hy => ca49 l (ctr x y) (by simp_all) (ctr_on hx hy)))) (k := ?_)
  iterate 2 refine evR_p ?_
  refine evR_e hK ?_; clear hK K
  refine hK5 _ ?_
  refine tr_ret ?_
  (try simp only [thenE, inBlkE])
  simp (maxSteps := 4000000) (disch := first | assumption | omega | (simp only [go_sem, *]; done) | (simp only [go_sem, *]; omega)) only [postA, postO, resV1, fzAll, go_sem, hq, Int.reduceToNat, Nat.reduceBEq, Nat.reduceEqDiff, Nat.reduceAdd, Nat.reduceMul, Nat.reduceLeDiff, Nat.reduceLT, Nat.reduceSub, ↓reduceIte, reduceCtorEq]
  all_goals ((simp_all [polyA, zeros16]))

theorem ca57 (q p : Pl) (r : Int) (hq : onMap q = true) (hp : onMap p = true) (h0 : 0 ≤ r) (h1 : r ≤ 100) : CallsA Try.prog 109 [.agg [.int .i64 q.x, .int .i64 q.y], .ep [.int .i64 p.x, .int .i64 p.y], .ep [.int .i64 r]] (.bool (nearR q p r)) := by
 have hw := near_wrap hq hp h0 h1
 have hq : True := trivial
 refine callsA_of_tr Try.func109 rfl (Nat.le_of_ble_eq_true rfl) ?_
 simp only [Try.results109, envOf, Nat.reduceAdd]
 refine tr_seq fun K1 hK1 => ?_
 refine tr_region [1, 2, 3] rfl rfl fun K hK => ?_
 iterate 2 refine evR_p ?_
 refine evR_e hK ?_; clear hK K
 refine hK1 _ ?_
 refine tr_seq fun K2 hK2 => ?_
 refine tr_draw [] [2, 5, 6] mixed rfl (by kernel_rfl) rfl fun K hK => ?_
 iterate 12 refine evD_p ?_
 refine evD_e hK ?_; clear hK K
 refine hK2 _ ?_
 refine tr_seq fun K3 hK3 => ?_
 refine tr_region [4] rfl rfl fun K hK => ?_
 iterate 12 refine evR_p ?_
 refine evR_e hK ?_; clear hK K
 refine hK3 _ ?_
 refine tr_ret ?_
 (try simp only [thenE, inBlkE])
 simp (maxSteps := 4000000) (disch := first | assumption | omega | (simp only [go_sem, *]; done) | (simp only [go_sem, *]; omega)) only [postA, postO, resV1, fzAll, go_sem, hq, Int.reduceToNat, Nat.reduceBEq, Nat.reduceEqDiff, Nat.reduceAdd, Nat.reduceMul, Nat.reduceLeDiff, Nat.reduceLT, Nat.reduceSub, ↓reduceIte, reduceCtorEq]
 all_goals (simp only [hw, and_self])

theorem ca37 (p : Pl) (r : Int) : CallsA Try.prog 58 [.agg [.int .i64 p.x, .int .i64 p.y], .int .i64 r] (.tup [.agg (cellsI (discA p r).1), .int .i64 (discA p r).2]) := by
 have hq : True := trivial
 refine callsA_of_tr Try.func58 rfl (Nat.le_of_ble_eq_true rfl) ?_
 simp only [Try.results58, envOf, Nat.reduceAdd]
 refine tr_seq fun K1 hK1 => ?_
 refine tr_region [2, 3, 4] rfl rfl fun K hK => ?_
 iterate 4 refine evR_p ?_
 refine evR_e hK ?_; clear hK K
 refine hK1 _ ?_
 refine tr_seq fun K2 hK2 => ?_
 refine tr_seq fun K3 hK3 => ?_
 refine tr_region [2, 3, 4, 16] rfl rfl fun K hK => ?_
 refine evR_p ?_
 refine evR_c (hc := (ca52 p)) (k := ?_)
 iterate 2 refine evR_p ?_
 iterate 2 refine evR_g ?_
 iterate 2 refine evR_p ?_
 iterate 2 refine evR_g ?_
 refine evR_p ?_
 refine evR_e hK ?_; clear hK K
 refine hK3 _ ?_
 refine tr_condB (fun ht1 => ?_) (fun ht1 => ?_)
 ·
  skip
  refine tr_seq fun K4 hK4 => ?_
  refine tr_region [4, 5] rfl rfl fun K hK => ?_
  iterate 3 refine evR_p ?_
  refine evR_e hK ?_; clear hK K
  refine hK4 _ ?_
  refine tr_ret ?_
  (try simp only [thenE, inBlkE])
  simp (maxSteps := 4000000) (disch := first | assumption | omega | (simp only [go_sem, *]; done) | (simp only [go_sem, *]; omega)) only [postA, postO, resV1, fzAll, go_sem, hq, Int.reduceToNat, Nat.reduceBEq, Nat.reduceEqDiff, Nat.reduceAdd, Nat.reduceMul, Nat.reduceLeDiff, Nat.reduceLT, Nat.reduceSub, ↓reduceIte, reduceCtorEq]
  all_goals ((first | (rw [discA_bad (by assumption)]; simp [zeros16]; done) | (rw [discA_ok (by simp_all) (by omega) (by omega)]; done) | (rw [discA_ok (by simp_all) (by omega) (by omega)]; simp; done)))
 ·
  skip
  refine tr_skip ?_
  (try simp only [thenE, inBlkE])
  refine hK2 _ ?_
  refine tr_seq fun K5 hK5 => ?_
  refine tr_region [4, 5] rfl rfl fun K hK => ?_
  refine evR_p ?_
  refine evR_c (hc := (ca48 109 _ (fun x y => nearR (ctr x y) p r) okF_109 rfl (fun x y hx hy => ca57 (ctr x y) p r (ctr_on hx hy) (by simp_all) (by simp_all) (by simp_all)))) (k := ?_)
  iterate 2 refine evR_p ?_
  refine evR_e hK ?_; clear hK K
  refine hK5 _ ?_
  refine tr_ret ?_
  (try simp only [thenE, inBlkE])
  simp (maxSteps := 4000000) (disch := first | assumption | omega | (simp only [go_sem, *]; done) | (simp only [go_sem, *]; omega)) only [postA, postO, resV1, fzAll, go_sem, hq, Int.reduceToNat, Nat.reduceBEq, Nat.reduceEqDiff, Nat.reduceAdd, Nat.reduceMul, Nat.reduceLeDiff, Nat.reduceLT, Nat.reduceSub, ↓reduceIte, reduceCtorEq]
  all_goals ((first | (rw [discA_bad (by assumption)]; simp [zeros16]; done) | (rw [discA_ok (by simp_all) (by omega) (by omega)]; done) | (rw [discA_ok (by simp_all) (by omega) (by omega)]; simp; done)))

attribute [local go_sem] encR_length encR_getD encRw encPg lookV encI_length encI_getD
attribute [local simp] encA_length encR_length cellsI_length
section
attribute [local go_sem] encA_length encA_getD encPg encT_length encT_getD encA_one
set_option maxHeartbeats 16000000 in
theorem k15 (x : List T3) (y : List Pl) (hx : x.length ≤ maxLen) (hy : y.length ≤ maxLen) (hxo : ∀ q ∈ x, okT q) (hyo : ∀ q ∈ y, okP q) (z : Pl) (hz : okP z) : CallsA Try.prog 15 [.sl 3 (encT x), .sl 2 (encP y), .agg [.int .i64 z.x, .int .i64 z.y]] (.bool true) := by
 obtain ⟨l, hL⟩ : ∃ l, discsL x = l := ⟨_, rfl⟩
 obtain ⟨t, hT⟩ : ∃ t, targetL y = t := ⟨_, rfl⟩
 have hl : okAs l := hL ▸ discsL_ok x
 have h7 : l.length ≤ 7 := hL ▸ discsL_len x
 have ht : t.length = 16 := hT ▸ targetL_len y
 have hR : validR l t = true := hL ▸ hT ▸ made_R x y
 have hR0 := valid0 hR
 have hvM := progR_valid (show l.length ≤ 12 by omega) t
 have c40 : CallsA Try.prog 40 [.sl 3 (encT x)] (.sl 16 (encA l)) := hL ▸ k40 x hx
 have c41 : CallsA Try.prog 41 [.sl 2 (encP y)] (.agg (cellsI t)) := hT ▸ k41 y hy
 have hsh : shlW .i64 1 (l.length : Nat) = ((2 ^ l.length : Nat) : Int) := shl1 (by omega)
 have htf := cellsI_full t (cellsI (List.replicate 16 0)) (by rw [cellsI_length, ht]; rfl)
 have htk : List.take 16 (cellsI t) = cellsI t := List.take_of_length_le (by rw [cellsI_length, ht]; decide)
 obtain ⟨a, ha1, ha2⟩ := pick_cell z.x hz.1
 obtain ⟨b, hb1, hb2⟩ := pick_cell z.y hz.2
 have c44a : CallsA Try.prog 44 [.int .i64 z.x, .int .i64 16] (.int .i64 (a : Nat)) := ha1 ▸ k44 z.x 16 (by decide)
 have c44b : CallsA Try.prog 44 [.int .i64 z.y, .int .i64 16] (.int .i64 (b : Nat)) := hb1 ▸ k44 z.y 16 (by decide)
 have hxm := hx
 unfold maxLen at hxm
 have hmp : (madeP y).length ≤ maxLen := by have := madeP_length y; unfold maxLen; omega
 have c59 : CallsA Try.prog 59 [.sl 2 (encP (madeP y))] (.tup [.agg (cellsI t), .int .i64 0]) := by
  have h := ca31 (madeP y) hmp
  rw [target_fine hyo, hT] at h; exact h
 have c43 := kLeast hl ht hR
 have hlis := fun hf hh => listen hxo ht (hL.symm ▸ hR) (u := a) (v := b) hf ha2 hb2 hh
 rw [hL] at hlis
 unfold encSol2 at c43
 rw [← solveW_f, ← solveW_s, ← solveW_g] at c43
 generalize (solveB (progR l t)).1 = F at c43 hlis
 generalize (solveB (progR l t)).2.1 = S at c43 hlis
 generalize (solveB (progR l t)).2.2 = G at c43
 generalize prfS (progR l t) = P at c43
 have hvr : (progR l t).vars = (l.length : Int) := rfl
 have hlx : l.length = min 7 x.length := by rw [← hL]; simp [discsL]
 have hq := And.intro ht (And.intro hsh (And.intro htf (And.intro htk (hvr))))
 refine callsA_of_tr Try.func15 rfl (Nat.le_of_ble_eq_true rfl) ?_
 simp only [Try.results15, envOf, Nat.reduceAdd]
 refine tr_seq fun K1 hK1 => ?_
 refine tr_region [0, 1, 5] rfl rfl fun K hK => ?_
 iterate 2 refine evR_p ?_
 refine evR_e hK ?_; clear hK K
 refine hK1 _ ?_
 refine tr_seq fun K2 hK2 => ?_
 refine tr_seq fun K3 hK3 => ?_
 refine tr_region [0, 1, 5, 26] rfl rfl fun K hK => ?_
 refine evR_c (hc := k39) (k := ?_)
 refine evR_p ?_
 refine evR_e hK ?_; clear hK K
 refine hK3 _ ?_
 refine tr_condB (fun ht1 => ?_) (fun ht1 => ?_)
 ·
  skip
  (first | (exfalso; omega) | (exfalso; simp_all; done) | skip)
  all_goals
   refine tr_seq fun K4 hK4 => ?_
   refine tr_region [6] rfl rfl fun K hK => ?_
   refine evR_p ?_
   refine evR_e hK ?_; clear hK K
   refine hK4 _ ?_
   refine tr_ret ?_
   (try simp only [thenE, inBlkE])
   simp (maxSteps := 4000000) (disch := first | assumption | omega | (simp only [go_sem, *]; done) | (simp only [go_sem, *]; omega)) only [postA, postO, resV1, fzAll, go_sem, hq, Int.reduceToNat, Nat.reduceBEq, Nat.reduceEqDiff, Nat.reduceAdd, Nat.reduceMul, Nat.reduceLeDiff, Nat.reduceLT, Nat.reduceSub, ↓reduceIte, reduceCtorEq]
   all_goals (rfl)
 ·
  skip
  (first | (exfalso; omega) | (exfalso; simp_all; done) | skip)
  all_goals
   refine tr_skip ?_
   (try simp only [thenE, inBlkE])
   refine hK2 _ ?_
   refine tr_seq fun K5 hK5 => ?_
   refine tr_region [0, 1, 5, 7] rfl rfl fun K hK => ?_
   refine evR_p ?_
   refine evR_e hK ?_; clear hK K
   refine hK5 _ ?_
   refine tr_seq fun K6 hK6 => ?_
   refine tr_seq fun K7 hK7 => ?_
   refine tr_region [0, 1, 5, 7, 8] rfl rfl fun K hK => ?_
   refine evR_p ?_
   refine evR_e hK ?_; clear hK K
   refine hK7 _ ?_
   refine tr_block ?_
   -- loop 1: live [0, 1, 5, 7, 8]
   refine tr_loopW (fun m σ => ∃ i : Nat, i + m = 7 ∧ i ≤ x.length ∧ σ = ⟨[(0, .sl 3 (encT x)), (1, .sl 2 (encP y)), (5, .ptr 0 0), (7, .own 1), (8, .int .i64 (i : Nat))], [(1, .row 76 16 (encA ((x.take i).map discV))), (0, .cells [.int .i64 z.x, .int .i64 z.y])], 2⟩) (7) ?_ ?_
   ·
    exact ⟨_, Wk.nilslot 76 16 7 rfl, 0, by omega, by omega, rfl⟩
   ·
    rintro m σ ⟨i, hi, hil0, rfl⟩ KL1 hKL1
    refine tr_seq fun K8 hK8 => ?_
    refine tr_seq fun K9 hK9 => ?_
    refine tr_region [0, 1, 5, 7, 8, 34] rfl rfl fun K hK => ?_
    iterate 5 refine evR_p ?_
    iterate 2 refine evR_g ?_
    refine evR_p ?_
    refine evR_e hK ?_; clear hK K
    refine hK9 _ ?_
    refine tr_condB (fun ht2 => ?_) (fun ht2 => ?_)
    ·
     skip
     (first | (exfalso; omega) | (exfalso; simp_all; done) | skip)
     all_goals
      have hil : i < x.length := by omega
      have hti : ((x.take i).map discV).length = i := by simp; omega
      have hok : okT (x.getD i t30) := hxo _ (getD_mem hil)
      have c58 : CallsA Try.prog 58 [.agg [.int .i64 (mastP (x.getD i t30)).x, .int .i64 (mastP (x.getD i t30)).y], .int .i64 (mastR (x.getD i t30))] (.tup [.agg (cellsI (discV (x.getD i t30))), .int .i64 0]) := by
       have h := ca37 (mastP (x.getD i t30)) (mastR (x.getD i t30))
       rw [disc_fine hok] at h; exact h
      have hdl := discV_len (x.getD i t30)
      have hrf := cellsI_full (discV (x.getD i t30)) (cellsI (List.replicate 16 0)) (by rw [cellsI_length, hdl]; rfl)
      have hrk : List.take 16 (cellsI (discV (x.getD i t30))) = cellsI (discV (x.getD i t30)) := List.take_of_length_le (by rw [cellsI_length, hdl]; decide)
      replace hq := And.intro hq (And.intro hil (And.intro hti (And.intro hdl (And.intro hrf (hrk)))))
      refine tr_skip ?_
      (try simp only [thenE, inBlkE])
      refine hK8 _ ?_
      refine tr_seq fun K10 hK10 => ?_
      refine tr_block ?_
      refine tr_seq fun K11 hK11 => ?_
      refine tr_region [0, 1, 5, 7, 8, 9, 10] rfl rfl fun K hK => ?_
      iterate 4 refine evR_p ?_
      refine evR_c (hc := (k57 (x.getD i t30))) (k := ?_)
      iterate 6 refine evR_p ?_
      refine evR_e hK ?_; clear hK K
      refine hK11 _ ?_
      refine tr_seq fun K12 hK12 => ?_
      refine tr_region [0, 1, 5, 7, 8, 11, 12] rfl rfl fun K hK => ?_
      iterate 2 refine evR_p ?_
      refine evR_c (hc := c58) (k := ?_)
      iterate 6 refine evR_p ?_
      refine evR_e hK ?_; clear hK K
      refine hK12 _ ?_
      refine tr_seq fun K13 hK13 => ?_
      refine tr_seq fun K14 hK14 => ?_
      refine tr_region [0, 1, 5, 7, 8, 11, 52] rfl rfl fun K hK => ?_
      iterate 2 refine evR_p ?_
      refine evR_e hK ?_; clear hK K
      refine hK14 _ ?_
      refine tr_condB (fun ht3 => ?_) (fun ht3 => ?_)
      ·
       skip
       (first | (exfalso; omega) | (exfalso; simp_all; done) | skip)
       all_goals
        refine tr_seq fun K15 hK15 => ?_
        refine tr_region [6] rfl rfl fun K hK => ?_
        refine evR_p ?_
        refine evR_e hK ?_; clear hK K
        refine hK15 _ ?_
        refine tr_ret ?_
        (try simp only [thenE, inBlkE])
        simp (maxSteps := 4000000) (disch := first | assumption | omega | (simp only [go_sem, *]; done) | (simp only [go_sem, *]; omega)) only [postA, postO, resV1, fzAll, go_sem, hq, Int.reduceToNat, Nat.reduceBEq, Nat.reduceEqDiff, Nat.reduceAdd, Nat.reduceMul, Nat.reduceLeDiff, Nat.reduceLT, Nat.reduceSub, ↓reduceIte, reduceCtorEq]
        all_goals (rfl)
      ·
       skip
       (first | (exfalso; omega) | (exfalso; simp_all; done) | skip)
       all_goals
        refine tr_skip ?_
        (try simp only [thenE, inBlkE])
        refine hK13 _ ?_
        refine tr_region [0, 1, 5, 7, 8] rfl rfl fun K hK => ?_
        iterate 2 refine evR_p ?_
        refine evR_bs ?_
        iterate 2 refine evR_p ?_
        refine evR_e hK ?_; clear hK K
        refine hK10 _ ?_
        refine tr_region [0, 1, 5, 7, 8] rfl rfl fun K hK => ?_
        iterate 3 refine evR_p ?_
        refine evR_e hK ?_; clear hK K
        refine hKL1 _ ?_
        exact ⟨m - 1, _, by omega, (Wk.trans (Wk.ren 4 1 (Nat.le_of_ble_eq_true rfl) (Nat.le_of_ble_eq_true rfl) (by simp [St.noSt, St.ren, St.cutOK, St.cut, AObj.no, AObj.upto, AObj.ren, V.no, V.upto, V.ren, V.noL, V.uptoL, V.renL, cellsI_uptoL, cellsI_noA, cellsI_renA, enC_uptoL])) (Wk.cut 2 (by simp [St.noSt, St.ren, St.cutOK, St.cut, AObj.no, AObj.upto, AObj.ren, V.no, V.upto, V.ren, V.noL, V.uptoL, V.renL, cellsI_uptoL, cellsI_noA, cellsI_renA, enC_uptoL]))), i + 1, by omega, by omega, by rw [w64 (x := (i : Int) + 1) (by omega), discs_snoc hil]; rfl⟩
    ·
     skip
     (first | (exfalso; omega) | (exfalso; simp_all; done) | skip)
     all_goals
      have hdn := discs_done (l := x) (i := i) hil0 (by omega) (by first | omega | (simp_all; omega) | assumption)
      rw [hL] at hdn
      replace hq := And.intro hq hdn
      refine tr_exit ?_
      simp only [thenE, inBlkE, Nat.reduceEqDiff, ↓reduceIte]
      refine hK6 _ ?_
      refine tr_seq fun K16 hK16 => ?_
      refine tr_region [0, 5, 7, 13, 14] rfl rfl fun K hK => ?_
      refine evR_p ?_
      refine evR_c (hc := (ca29 y hy)) (k := ?_)
      refine evR_c (hc := c59) (k := ?_)
      iterate 6 refine evR_p ?_
      refine evR_e hK ?_; clear hK K
      refine hK16 _ ?_
      refine tr_seq fun K17 hK17 => ?_
      refine tr_fz [.own 1] (by simp (maxSteps := 4000000) (disch := first | assumption | omega | (simp only [go_sem, *]; done) | (simp only [go_sem, *]; omega)) only [go_sem, hq, Int.reduceToNat, Nat.reduceBEq, Nat.reduceEqDiff, Nat.reduceAdd, Nat.reduceMul, Nat.reduceLeDiff, Nat.reduceLT, Nat.reduceSub, ↓reduceIte, reduceCtorEq]; (try rfl)) ?_
      refine tr_region [0, 5, 7, 13, 14, 15, 16] rfl rfl fun K hK => ?_
      iterate 2 refine evR_p ?_
      refine evR_c (hc := c43) (k := ?_)
      iterate 6 refine evR_p ?_
      refine evR_e hK ?_; clear hK K
      refine hK17 _ ?_
      refine tr_seq fun K18 hK18 => ?_
      refine tr_region [0, 5, 7, 13, 14, 15, 16, 17, 18] rfl rfl fun K hK => ?_
      iterate 2 refine evR_p ?_
      refine evR_c (hc := (k49 l hl t ht hR)) (k := ?_)
      iterate 6 refine evR_p ?_
      refine evR_e hK ?_; clear hK K
      refine hK18 _ ?_
      refine tr_seq fun K19 hK19 => ?_
      refine tr_seq fun K20 hK20 => ?_
      refine tr_region [0, 5, 7, 13, 15, 91] rfl rfl fun K hK => ?_
      iterate 3 refine evR_p ?_
      iterate 2 refine evR_g ?_
      iterate 2 refine evR_p ?_
      iterate 2 refine evR_g ?_
      iterate 2 refine evR_p ?_
      iterate 5 refine evR_g ?_
      refine evR_p ?_
      refine evR_e hK ?_; clear hK K
      refine hK20 _ ?_
      refine tr_condB (fun ht4 => ?_) (fun ht4 => ?_)
      ·
       skip
       (first | (exfalso; omega) | (exfalso; simp_all; done) | skip)
       all_goals
        refine tr_seq fun K21 hK21 => ?_
        refine tr_region [6] rfl rfl fun K hK => ?_
        refine evR_p ?_
        refine evR_e hK ?_; clear hK K
        refine hK21 _ ?_
        refine tr_ret ?_
        (try simp only [thenE, inBlkE])
        simp (maxSteps := 4000000) (disch := first | assumption | omega | (simp only [go_sem, *]; done) | (simp only [go_sem, *]; omega)) only [postA, postO, resV1, fzAll, go_sem, hq, Int.reduceToNat, Nat.reduceBEq, Nat.reduceEqDiff, Nat.reduceAdd, Nat.reduceMul, Nat.reduceLeDiff, Nat.reduceLT, Nat.reduceSub, ↓reduceIte, reduceCtorEq]
        all_goals (rfl)
      ·
       skip
       (first | (exfalso; omega) | (exfalso; simp_all; done) | skip)
       all_goals
        refine tr_skip ?_
        (try simp only [thenE, inBlkE])
        refine hK19 _ ?_
        refine tr_seq fun K22 hK22 => ?_
        refine tr_region [0, 5, 7, 13, 15, 19] rfl rfl fun K hK => ?_
        iterate 2 refine evR_p ?_
        refine evR_c (hc := c44a) (k := ?_)
        refine evR_p ?_
        refine evR_e hK ?_; clear hK K
        refine hK22 _ ?_
        refine tr_seq fun K23 hK23 => ?_
        refine tr_region [0, 7, 13, 15, 19, 20] rfl rfl fun K hK => ?_
        iterate 2 refine evR_p ?_
        refine evR_c (hc := c44b) (k := ?_)
        refine evR_p ?_
        refine evR_e hK ?_; clear hK K
        refine hK23 _ ?_
        refine tr_seq fun K24 hK24 => ?_
        refine tr_seq fun K25 hK25 => ?_
        refine tr_region [0, 7, 15, 19, 20, 107] rfl rfl fun K hK => ?_
        iterate 4 refine evR_p ?_
        iterate 3 refine evR_g ?_
        refine evR_gc (hc := (ca25 t ht (a : Nat) (b : Nat))) (k := ?_)
        refine evR_g ?_
        refine evR_p ?_
        refine evR_e hK ?_; clear hK K
        refine hK25 _ ?_
        refine tr_condB (fun ht5 => ?_) (fun ht5 => ?_)
        ·
         skip
         (first | (exfalso; omega) | (exfalso; simp_all; done) | skip)
         all_goals
          refine tr_seq fun K26 hK26 => ?_
          refine tr_region [6] rfl rfl fun K hK => ?_
          refine evR_p ?_
          refine evR_e hK ?_; clear hK K
          refine hK26 _ ?_
          refine tr_ret ?_
          (try simp only [thenE, inBlkE])
          simp (maxSteps := 4000000) (disch := first | assumption | omega | (simp only [go_sem, *]; done) | (simp only [go_sem, *]; omega)) only [postA, postO, resV1, fzAll, go_sem, hq, Int.reduceToNat, Nat.reduceBEq, Nat.reduceEqDiff, Nat.reduceAdd, Nat.reduceMul, Nat.reduceLeDiff, Nat.reduceLT, Nat.reduceSub, ↓reduceIte, reduceCtorEq]
          all_goals (rfl)
        ·
         skip
         (first | (exfalso; omega) | (exfalso; simp_all; done) | skip)
         all_goals
          refine tr_skip ?_
          (try simp only [thenE, inBlkE])
          refine hK24 _ ?_
          refine tr_seq fun K27 hK27 => ?_
          refine tr_region [0, 7, 15, 21] rfl rfl fun K hK => ?_
          iterate 2 refine evR_p ?_
          refine evR_c (hc := (ca39 (a : Nat) (b : Nat) (by omega) (by omega))) (k := ?_)
          iterate 2 refine evR_p ?_
          refine evR_e hK ?_; clear hK K
          refine hK27 _ ?_
          refine tr_seq fun K28 hK28 => ?_
          refine tr_seq fun K29 hK29 => ?_
          refine tr_region [0, 7, 15, 21, 22] rfl rfl fun K hK => ?_
          refine evR_p ?_
          refine evR_e hK ?_; clear hK K
          refine hK29 _ ?_
          refine tr_block ?_
          -- loop 2: live [0, 7, 15, 21, 22]
          refine tr_loopW (fun m σ => ∃ i : Nat, i + m = l.length ∧ (∀ j, j < i → (decide (Int.tmod (shrW .i64 S (j : Nat)) 2 = 1) && nearR (mastP (x.getD j t30)) (ctr a b) (mastR (x.getD j t30))) = false) ∧ σ = ⟨[(0, .sl 3 (encT x)), (7, .sl 16 (encA l)), (15, .ptr 3 0), (21, .ptr 5 0), (22, .int .i64 (i : Nat))], [(5, .cells [.int .i64 (4 * (a : Int) + 2), .int .i64 (4 * (b : Int) + 2)]), (3, .cells [.bool F, .int .i64 S, .int .i64 G, .sl 4 (encSgs P)])], 6⟩) (l.length) ?_ ?_
          ·
           exact ⟨_, Wk.drop (fun k => k == 3 || k == 5), 0, by omega, (by intro j hj; omega), rfl⟩
          ·
           rintro m2 σ ⟨i, hi, hpi, rfl⟩ KL2 hKL2
           refine tr_seq fun K30 hK30 => ?_
           refine tr_seq fun K31 hK31 => ?_
           refine tr_region [0, 7, 15, 21, 22, 114] rfl rfl fun K hK => ?_
           iterate 4 refine evR_p ?_
           refine evR_e hK ?_; clear hK K
           refine hK31 _ ?_
           refine tr_condB (fun ht6 => ?_) (fun ht6 => ?_)
           ·
            skip
            (first | (exfalso; omega) | (exfalso; simp_all; done) | skip)
            all_goals
             have hil : i < x.length := by omega
             have hok : okT (x.getD i t30) := hxo _ (getD_mem hil)
             obtain ⟨hm1, hm2, hm3⟩ := mast_ok hok
             have hnw := near_wrap6 hm1 (ctr_on ha2 hb2) (show 0 ≤ mastR (x.getD i t30) by omega) (by omega)
             simp only [ctr] at hnw
             replace hq := And.intro hq (And.intro hil (hnw))
             refine tr_skip ?_
             (try simp only [thenE, inBlkE])
             refine hK30 _ ?_
             refine tr_seq fun K32 hK32 => ?_
             refine tr_block ?_
             refine tr_seq fun K33 hK33 => ?_
             refine tr_region [0, 7, 15, 21, 22, 23, 24] rfl rfl fun K hK => ?_
             iterate 4 refine evR_p ?_
             refine evR_c (hc := (k57 (x.getD i t30))) (k := ?_)
             iterate 6 refine evR_p ?_
             refine evR_e hK ?_; clear hK K
             refine hK33 _ ?_
             refine tr_seq fun K34 hK34 => ?_
             refine tr_region [0, 7, 15, 21, 22, 159] rfl rfl fun K hK => ?_
             iterate 7 refine evR_p ?_
             iterate 27 refine evR_g ?_
             refine evR_p ?_
             refine evR_e hK ?_; clear hK K
             refine hK34 _ ?_
             refine tr_condB (fun ht7 => ?_) (fun ht7 => ?_)
             ·
              skip
              (first | (exfalso; omega) | (exfalso; simp_all; done) | skip)
              all_goals
               refine tr_seq fun K35 hK35 => ?_
               refine tr_region [6] rfl rfl fun K hK => ?_
               refine evR_p ?_
               refine evR_e hK ?_; clear hK K
               refine hK35 _ ?_
               refine tr_ret ?_
               (try simp only [thenE, inBlkE])
               simp (maxSteps := 4000000) (disch := first | assumption | omega | (simp only [go_sem, *]; done) | (simp only [go_sem, *]; omega)) only [postA, postO, resV1, fzAll, go_sem, hq, Int.reduceToNat, Nat.reduceBEq, Nat.reduceEqDiff, Nat.reduceAdd, Nat.reduceMul, Nat.reduceLeDiff, Nat.reduceLT, Nat.reduceSub, ↓reduceIte, reduceCtorEq]
               all_goals (rfl)
             ·
              skip
              (first | (exfalso; omega) | (exfalso; simp_all; done) | skip)
              all_goals
               refine tr_skip ?_
               (try simp only [thenE, inBlkE])
               refine hK32 _ ?_
               refine tr_region [0, 7, 15, 21, 22] rfl rfl fun K hK => ?_
               iterate 3 refine evR_p ?_
               refine evR_e hK ?_; clear hK K
               refine hKL2 _ ?_
               exact ⟨m2 - 1, _, by omega, Wk.cut 6 (by simp [St.cutOK, AObj.upto, V.upto, V.uptoL, cellsI_uptoL, enC_uptoL, List.all_cons, List.all_nil, List.filter_cons, List.filter_nil, Nat.blt_eq, Nat.reduceLT, Nat.lt_irrefl, decide_true, decide_false, Bool.and_self, Bool.and_true, Bool.true_and, if_true, if_false, ↓reduceIte, Bool.false_eq_true, cellsI_uptoL]), i + 1, by omega, (fun j hj => by by_cases e : j = i; (subst e; have h7 := ht7; simp [nearR, ctr] at h7 ⊢; intro hbt; rcases h7 with h7 | h7; exact absurd hbt h7; exact h7); exact hpi j (by omega)), by rw [w64 (x := (i : Int) + 1) (by omega)]; rfl⟩
           ·
            skip
            (first | (exfalso; omega) | (exfalso; simp_all; done) | skip)
            all_goals
             exfalso
             obtain ⟨w, hw1, hw2, j, hj1, hj2, hj3⟩ := hlis (by simp_all) (by simp_all)
             have hbad := hpi j (by omega)
             rw [hw1, bit_rem w (i := j) (by omega), hj2, hj3] at hbad
             cases hbad
            all_goals
              refine tr_exit ?_
              simp only [thenE, inBlkE, Nat.reduceEqDiff, ↓reduceIte]
              refine hK28 _ ?_
              refine tr_seq fun K36 hK36 => ?_
              refine tr_region [6] rfl rfl fun K hK => ?_
              refine evR_p ?_
              refine evR_e hK ?_; clear hK K
              refine hK36 _ ?_
              refine tr_ret ?_
              (try simp only [thenE, inBlkE])
              simp (maxSteps := 4000000) (disch := first | assumption | omega | (simp only [go_sem, *]; done) | (simp only [go_sem, *]; omega)) only [postA, postO, resV1, fzAll, go_sem, hq, Int.reduceToNat, Nat.reduceBEq, Nat.reduceEqDiff, Nat.reduceAdd, Nat.reduceMul, Nat.reduceLeDiff, Nat.reduceLT, Nat.reduceSub, ↓reduceIte, reduceCtorEq]
              all_goals (rfl)
end

end Go.Proofs.Ytfamkbofdamkkaa
namespace Go.Proofs.Ytfamkbofdamkkaa
open Go.ChangeShapes Go.WideShapes Go.ChangeAt Go.RowKit
theorem Try.own : ownKnob Try.prog.godebug = none := by kernel_rfl
theorem Try.laidOut : laidOutB Try.prog = true := by kernel_rfl
section
variable {H : Type} {enc : TypeId × Value → H} {w : World}
theorem okI_of_wf {n : Int} (h : (Lit.int .i64 n).wf = true) : okI n := by
  simp [Lit.wf, IntKind.min, IntKind.max, IntKind.signed, IntKind.bits] at h
  unfold okI; omega
theorem dec3 : Dec enc Try.prog w 65 (fun t : T3 => [V.int .i64 t.p, V.int .i64 t.q, V.int .i64 t.r]) okT :=
  (dec_array (n := 3) (sz := 1) Try.underlying65 (by kernel_rfl) (by kernel_rfl) (dec_int Try.underlying3)).turn (fun xs => ⟨xs.getD 0 0, xs.getD 1 0, xs.getD 2 0⟩) fun xs h => by
    obtain ⟨h1, h2⟩ := h
    match xs, h1 with
    | [x, y, z], _ => exact ⟨rfl, okI_of_wf (h2 x (by simp)), okI_of_wf (h2 y (by simp)), okI_of_wf (h2 z (by simp))⟩
def okG (n : Nat) (a : List Int) : Prop := a.length = n ∧ ∀ c ∈ a, okI c
end
set_option linter.unusedVariables false
set_option linter.unusedSimpArgs false
section
variable {H : Type} {enc : TypeId × Value → H} {w : World}
theorem dec2 : Dec enc Try.prog w 90 (fun p : Pl => [V.int .i64 p.x, V.int .i64 p.y]) okP :=
  (dec_array (n := 2) (sz := 1) Try.underlying90 (by kernel_rfl) (by kernel_rfl) (dec_int Try.underlying3)).turn (fun xs => ⟨xs.getD 0 0, xs.getD 1 0⟩) fun xs h => by
    obtain ⟨h1, h2⟩ := h
    match xs, h1 with
    | [x, y], _ => exact ⟨rfl, okI_of_wf (h2 x (by simp)), okI_of_wf (h2 y (by simp))⟩
end
end Go.Proofs.Ytfamkbofdamkkaa
