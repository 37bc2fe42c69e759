/- Texts of this proof, put together. -/
import Derived.Test.YtfamkbofdamkkaaKVb
import Derived.Test.YtfamkbofdamkkaaKVc
import Derived.Test.YtfamkbofdamkkaaKVe
import Derived.Test.YtfamkbofdamkkaaKVd
import Derived.Test.YtfamkbofdamkkaaChecked
namespace Go.Proofs.Ytfamkbofdamkkaa
open Go.RowKit
set_option linter.unusedVariables false
set_option linter.unusedSimpArgs false
set_option maxRecDepth 100000
attribute [local go_sem] Nat.zero_add Nat.add_zero Nat.mul_one eq_self ne_eq not_true_eq_false not_false_eq_true decide_true decide_false decide_not Bool.false_eq_true List.filter_cons List.filter_nil true_and and_true beq_false beq_true Bool.not_true Bool.not_false Bool.and_true Bool.true_and Option.getD_some Option.getD_none imp_self implies_true Int.toNat_natCast List.cons_append List.nil_append List.map_cons List.map_nil List.length_cons List.length_nil List.getD_cons_zero List.getD_cons_succ List.drop_zero List.drop_succ_cons List.take_succ_cons List.take_zero
attribute [local go_sem] shL isSh Option.isNone_none Option.isNone_some Option.isSome_none lowN lowQ lowM isAl appOwn unw appF isE isO stpO notIn St.bare evO evDO isEff stp St.get St.slot St.put List.lookup un unL ofVal gof nth pickV pkB_false pkB_true binV unV loadV idxV fldV partV buildV fillV lenV sliV appV appR rowsV winV V.parts V.okp V.sc Mem.look_cons Mem.look_nil V.cl V.clL AObj.clo fzAll exps St.fz Mem.fz V.fz V.fzL AObj.fz Option.isSome_some Option.isSome_none Bool.or_true Bool.true_or Bool.or_false Bool.false_or false_and and_false false_or or_false arT_104 arT_121 arT_160 arT_161 arT_22 arT_23 arT_24 arT_25 arT_28 arT_29 arT_30 arT_40 arT_42 arT_52 arT_60 arT_65 arT_72 arT_73 arT_76 arT_9 arT_90 boolT_182 boolT_25 boolT_3 boolT_35 boolT_4 boolT_76 flatT_182 flatT_25 flatT_3 flatT_35 flatT_4 flatT_76 intT_133 intT_169 intT_171 intT_188 intT_3 intT_5 lay_104 lay_112 lay_138 lay_141 lay_153 lay_160 lay_161 lay_164 lay_188 lay_23 lay_24 lay_25 lay_27 lay_28 lay_3 lay_30 lay_34 lay_4 lay_49 lay_52 lay_54 lay_56 lay_65 lay_67 lay_73 lay_76 lay_90 lay_99 mapT_112 okF_10 okF_100 okF_101 okF_102 okF_103 okF_104 okF_105 okF_106 okF_107 okF_108 okF_109 okF_11 okF_110 okF_111 okF_112 okF_113 okF_114 okF_115 okF_116 okF_117 okF_118 okF_119 okF_12 okF_120 okF_121 okF_122 okF_123 okF_124 okF_125 okF_126 okF_127 okF_128 okF_129 okF_13 okF_130 okF_131 okF_132 okF_133 okF_134 okF_135 okF_136 okF_137 okF_138 okF_139 okF_14 okF_140 okF_141 okF_142 okF_143 okF_144 okF_145 okF_146 okF_147 okF_148 okF_149 okF_15 okF_150 okF_151 okF_152 okF_153 okF_154 okF_155 okF_156 okF_157 okF_158 okF_159 okF_16 okF_160 okF_161 okF_162 okF_163 okF_164 okF_165 okF_166 okF_167 okF_168 okF_169 okF_17 okF_170 okF_171 okF_172 okF_173 okF_174 okF_175 okF_176 okF_177 okF_18 okF_19 okF_20 okF_21 okF_22 okF_23 okF_24 okF_25 okF_26 okF_27 okF_28 okF_29 okF_3 okF_30 okF_31 okF_32 okF_33 okF_34 okF_35 okF_36 okF_37 okF_38 okF_39 okF_4 okF_40 okF_41 okF_42 okF_43 okF_44 okF_45 okF_46 okF_47 okF_48 okF_49 okF_5 okF_50 okF_51 okF_52 okF_53 okF_54 okF_55 okF_56 okF_57 okF_58 okF_59 okF_6 okF_60 okF_61 okF_62 okF_63 okF_64 okF_65 okF_66 okF_67 okF_68 okF_69 okF_7 okF_70 okF_71 okF_72 okF_73 okF_74 okF_75 okF_76 okF_77 okF_78 okF_79 okF_8 okF_80 okF_81 okF_82 okF_83 okF_84 okF_85 okF_86 okF_87 okF_88 okF_89 okF_9 okF_90 okF_91 okF_92 okF_93 okF_94 okF_95 okF_96 okF_97 okF_98 okF_99 plT_138 plT_153 plT_157 plT_161 plT_27 plT_34 plT_54 plT_56 plT_67 plT_76 plT_90 plT_99 slT_104 slT_121 slT_160 slT_161 slT_22 slT_23 slT_24 slT_25 slT_28 slT_29 slT_30 slT_40 slT_42 slT_52 slT_60 slT_65 slT_72 slT_73 slT_76 slT_90 stT_138_0 stT_138_1 stT_153_0 stT_157_0 stT_157_1 stT_157_2 stT_157_3 stT_27_0 stT_27_1 stT_27_2 stT_34_0 stT_34_1 stT_34_2 stT_34_3 stT_54_0 stT_54_1 stT_54_2 stT_54_3 stT_56_0 stT_56_1 stT_67_1 stT_67_4 stT_67_5 stT_99_0 stT_99_1 strT_160 strT_76 strT_9 zeroT_112 zeroT_138 zeroT_153 zeroT_157 zeroT_160 zeroT_161 zeroT_188 zeroT_27 zeroT_3 zeroT_30 zeroT_34 zeroT_4 zeroT_49 zeroT_54 zeroT_56 zeroT_65 zeroT_67 zeroT_76 zeroT_90 zeroT_99
attribute [local go_sem] List.getElem?_cons_zero List.getElem?_cons_succ List.zip_cons_cons List.zip_nil_left List.zip_nil_right Bool.false_and Bool.and_false List.length_append List.length_set List.length_replicate List.all_cons List.all_nil encI_length encI_getD encR_length encR_getD encRw encPg spl shp AObj.shp rowM isSt isRpS isRd csh AObj.csh forall_const imp_self
attribute [local go_sem] encSg encW encSgs_length encWs_length encSgs_getD encWs_getD lookV lkM putM
attribute [local simp] encI_length encR_length cellsI_length encSgs_length encWs_length
theorem k67 (c n : Int) (hn : 0 < n) : CallsA Try.prog 67 [.int .i64 c, .int .i64 n] (.int .i64 (pickW c n)) := by
 have hq : True := trivial
 refine callsA_of_tr Try.func67 rfl (Nat.le_of_ble_eq_true rfl) ?_
 simp only [Try.results67, envOf, Nat.reduceAdd]
 refine tr_seq fun K1 hK1 => ?_
 refine tr_region [0, 1] rfl rfl fun K hK => ?_
 refine evR_p ?_
 refine evR_e hK ?_; clear hK K
 refine hK1 _ ?_
 refine tr_seq fun K2 hK2 => ?_
 refine tr_seq fun K3 hK3 => ?_
 refine tr_region [0, 1, 6] rfl rfl fun K hK => ?_
 iterate 2 refine evR_p ?_
 refine evR_e hK ?_; clear hK K
 refine hK3 _ ?_
 refine tr_condB (fun ht1 => ?_) (fun ht1 => ?_)
 ·
  skip
  refine tr_region [0, 1] rfl rfl fun K hK => ?_
  iterate 4 refine evR_p ?_
  refine evR_e hK ?_; clear hK K
  refine hK2 _ ?_
  refine tr_seq fun K4 hK4 => ?_
  refine tr_region [4] rfl rfl fun K hK => ?_
  iterate 4 refine evR_p ?_
  refine evR_e hK ?_; clear hK K
  refine hK4 _ ?_
  refine tr_ret ?_
  (try simp only [thenE, inBlkE])
  simp (maxSteps := 4000000) (disch := first | assumption | omega | (simp only [go_sem, *]; done) | (simp only [go_sem, *]; omega)) only [postA, postO, resV1, fzAll, go_sem, hq, Int.reduceToNat, Nat.reduceBEq, Nat.reduceEqDiff, Nat.reduceAdd, Nat.reduceMul, Nat.reduceLeDiff, Nat.reduceLT, Nat.reduceSub, ↓reduceIte, reduceCtorEq]
  all_goals (simp [pickW, *])
 ·
  skip
  refine tr_skip ?_
  (try simp only [thenE, inBlkE])
  refine hK2 _ ?_
  refine tr_seq fun K5 hK5 => ?_
  refine tr_region [4] rfl rfl fun K hK => ?_
  iterate 4 refine evR_p ?_
  refine evR_e hK ?_; clear hK K
  refine hK5 _ ?_
  refine tr_ret ?_
  (try simp only [thenE, inBlkE])
  simp (maxSteps := 4000000) (disch := first | assumption | omega | (simp only [go_sem, *]; done) | (simp only [go_sem, *]; omega)) only [postA, postO, resV1, fzAll, go_sem, hq, Int.reduceToNat, Nat.reduceBEq, Nat.reduceEqDiff, Nat.reduceAdd, Nat.reduceMul, Nat.reduceLeDiff, Nat.reduceLT, Nat.reduceSub, ↓reduceIte, reduceCtorEq]
  all_goals (simp [pickW, *])

section
attribute [local go_sem] List.map_set encSgs_fz encSgs_cl encSgs_row encSgs_set encSgs_take encWs_set List.set_set cellsI_length cellsI_getD cellsI_dropD cellsI_sc cellsI_cl cellsI_winT cellsI_take cellsI_fzL encWs_app1 encSg List.nil_append List.replicate_succ List.replicate_zero List.set_cons_zero List.set_cons_succ
set_option maxHeartbeats 16000000 in
theorem k19n (l : List Sg) (hl0 : 0 < l.length) (hll : l.length ≤ 100000) (hws : ∀ s ∈ l, s.ws.length ≤ 100000) (z : List Int) (hz4 : z.length = 4) (hz : ∀ x ∈ z, okI x) : CallsA Try.prog 19 [.sl 4 (encSgs l), .agg (cellsI z)] (.sl 4 (encSgs (bentW l z))) := by
 have ok : ∀ i, i < 4 → okI (z.getD i 0) := fun i hi => hz _ (getD_mem (by omega))
 obtain ⟨kn, hkn, hkl⟩ : ∃ k : Nat, pickW (z.getD 0 0) (l.length : Nat) = k ∧ k < l.length := by
  have := pickW_rangeL (z.getD 0 0) (n := (l.length : Nat)) (by omega) (ok 0 (by omega))
  exact ⟨(pickW (z.getD 0 0) (l.length : Nat)).toNat, by omega, by omega⟩
 obtain ⟨jn, hj, hjl⟩ : ∃ k : Nat, pickW (z.getD 2 0) (l.length : Nat) = k ∧ k < l.length := by
  have := pickW_rangeL (z.getD 2 0) (n := (l.length : Nat)) (by omega) (ok 2 (by omega))
  exact ⟨(pickW (z.getD 2 0) (l.length : Nat)).toNat, by omega, by omega⟩
 obtain ⟨s, hs⟩ : ∃ s, l.getD kn sg0 = s := ⟨_, rfl⟩
 obtain ⟨q1, hq1⟩ : ∃ q, pickW (z.getD 1 0) 9 = q := ⟨_, rfl⟩
 have hsw : s.ws.length ≤ 100000 := hs ▸ hws _ (getD_mem hkl)
 have r0 := pickW_rangeL (z.getD 2 0) (n := 9) (by decide) (ok 2 (by omega))
 have r1 := pickW_rangeL (z.getD 2 0) (n := 1003) (by decide) (ok 2 (by omega))
 have r2 := pickW_rangeL (z.getD 3 0) (n := 5) (by decide) (ok 3 (by omega))
 have hw0 : IntKind.i64.wrap (pickW (z.getD 2 0) 9 - 1) = pickW (z.getD 2 0) 9 - 1 := w64 (by omega)
 have hw1 : IntKind.i64.wrap ((l.length : Int) + 1) = (l.length : Int) + 1 := w64 (by omega)
 have hw3 : IntKind.i64.wrap (pickW (z.getD 2 0) 1003 - 1) = pickW (z.getD 2 0) 1003 - 1 := w64 (by omega)
 have hw4 : IntKind.i64.wrap (1 + pickW (z.getD 3 0) 5) = 1 + pickW (z.getD 3 0) 5 := w64 (by omega)
 have hwj : IntKind.i64.wrap ((jn : Int) + 1) = ((jn + 1 : Nat) : Int) := by rw [w64 (by omega)]; omega
 have hw5 : min (jn + 1) l.length = jn + 1 := by omega
 have hq := And.intro hz4 (And.intro hl0 (And.intro hkn (And.intro hkl (And.intro hs (And.intro hq1 (And.intro hj (And.intro hjl (And.intro hwj (And.intro hw0 (And.intro hw1 (And.intro hw3 (And.intro hw4 (hw5)))))))))))))
 refine callsA_of_tr Try.func19 rfl (Nat.le_of_ble_eq_true rfl) ?_
 simp only [Try.results19, envOf, Nat.reduceAdd]
 refine tr_seq fun K1 hK1 => ?_
 refine tr_region [0, 3] rfl rfl fun K hK => ?_
 iterate 2 refine evR_p ?_
 refine evR_e hK ?_; clear hK K
 refine hK1 _ ?_
 refine tr_seq fun K2 hK2 => ?_
 refine tr_region [3, 5] rfl rfl fun K hK => ?_
 refine evR_bo ?_
 iterate 3 refine evR_p ?_
 refine evR_e hK ?_; clear hK K
 refine hK2 _ ?_
 refine tr_seq fun K3 hK3 => ?_
 refine tr_seq fun K4 hK4 => ?_
 refine tr_region [3, 5, 12] rfl rfl fun K hK => ?_
 iterate 3 refine evR_p ?_
 refine evR_e hK ?_; clear hK K
 refine hK4 _ ?_
 refine tr_condB (fun ht1 => ?_) (fun ht1 => ?_)
 ·
  skip
  (first | (exfalso; omega) | (exfalso; simp_all; done) | skip)
  all_goals
   refine tr_seq fun K5 hK5 => ?_
   refine tr_region [4] rfl rfl fun K hK => ?_
   iterate 2 refine evR_p ?_
   refine evR_e hK ?_; clear hK K
   refine hK5 _ ?_
   refine tr_ret ?_
   (try simp only [thenE, inBlkE])
   simp (maxSteps := 4000000) (disch := first | assumption | omega | (simp only [go_sem, *]; done) | (simp only [go_sem, *]; omega)) only [postA, postO, resV1, fzAll, go_sem, hq, Int.reduceToNat, Nat.reduceBEq, Nat.reduceEqDiff, Nat.reduceAdd, Nat.reduceMul, Nat.reduceLeDiff, Nat.reduceLT, Nat.reduceSub, ↓reduceIte, reduceCtorEq]
   all_goals (first | (rw [bentW_6 (by rw [hq1]; assumption) (by omega), hj, show ((jn : Int) + 1).toNat = jn + 1 from by omega]; have e9 : l.set kn ⟨s.var, s.no, s.yes, s.ws⟩ = l := (by have := set_getD (l := l) (k := kn) (d := sg0); rw [hs] at this; exact this); rw [e9]; done) | (rw [bentW_n (by rw [hq1]; omega) (by omega), hkn, Int.toNat_natCast, hs, bentS, hq1]; repeat (first | rw [if_pos (by omega)] | rw [if_neg (by omega)]); try rfl))
 ·
  skip
  (first | (exfalso; omega) | (exfalso; simp_all; done) | skip)
  all_goals
   refine tr_skip ?_
   (try simp only [thenE, inBlkE])
   refine hK3 _ ?_
   refine tr_seq fun K6 hK6 => ?_
   refine tr_region [3, 5, 6] rfl rfl fun K hK => ?_
   iterate 5 refine evR_p ?_
   refine evR_c (hc := (k67 _ _ (by omega))) (k := ?_)
   iterate 2 refine evR_p ?_
   refine evR_e hK ?_; clear hK K
   refine hK6 _ ?_
   refine tr_seq fun K7 hK7 => ?_
   refine tr_wk (Wk.open (i := 2) rfl) ?_
   try simp only [List.map_cons, List.map_nil, Nat.reduceEqDiff, ↓reduceIte, List.set_cons_zero, List.set_cons_succ, Nat.reduceAdd]
   refine tr_region [3, 5, 6] rfl rfl fun K hK => ?_
   refine evR_p ?_
   refine evR_bo ?_
   iterate 8 refine evR_p ?_
   refine evR_e hK ?_; clear hK K
   refine hK7 _ ?_
   refine tr_seq fun K8 hK8 => ?_
   refine tr_seq fun K9 hK9 => ?_
   refine tr_region [3, 5, 6, 32] rfl rfl fun K hK => ?_
   iterate 2 refine evR_p ?_
   refine evR_c (hc := (k67 _ _ (by omega))) (k := ?_)
   refine evR_e hK ?_; clear hK K
   refine hK9 _ ?_
   refine tr_block ?_
   refine tr_seq fun K10 hK10 => ?_
   refine tr_region [3, 5, 6, 32, 33] rfl rfl fun K hK => ?_
   iterate 2 refine evR_p ?_
   refine evR_e hK ?_; clear hK K
   refine hK10 _ ?_
   refine tr_condB (fun ht2 => ?_) (fun ht2 => ?_)
   ·
    skip
    (first | (exfalso; omega) | (exfalso; simp_all; done) | skip)
    all_goals
     refine tr_region [5] rfl rfl fun K hK => ?_
     iterate 3 refine evR_p ?_
     refine evR_c (hc := (k67 _ _ (by omega))) (k := ?_)
     iterate 4 refine evR_p ?_
     refine evR_e hK ?_; clear hK K
     refine hK8 _ ?_
     refine tr_seq fun K11 hK11 => ?_
     refine tr_fz [.own 4, .own 5] (by simp (maxSteps := 4000000) (disch := first | assumption | omega | (simp only [go_sem, *]; done) | (simp only [go_sem, *]; omega)) only [go_sem, hq, Int.reduceToNat, Nat.reduceBEq, Nat.reduceEqDiff, Nat.reduceAdd, Nat.reduceMul, Nat.reduceLeDiff, Nat.reduceLT, Nat.reduceSub, ↓reduceIte, reduceCtorEq]; (try rfl)) ?_
     refine tr_region [4] rfl rfl fun K hK => ?_
     iterate 2 refine evR_p ?_
     refine evR_e hK ?_; clear hK K
     refine hK11 _ ?_
     refine tr_ret ?_
     (try simp only [thenE, inBlkE])
     simp (maxSteps := 4000000) (disch := first | assumption | omega | (simp only [go_sem, *]; done) | (simp only [go_sem, *]; omega)) only [postA, postO, resV1, fzAll, go_sem, hq, Int.reduceToNat, Nat.reduceBEq, Nat.reduceEqDiff, Nat.reduceAdd, Nat.reduceMul, Nat.reduceLeDiff, Nat.reduceLT, Nat.reduceSub, ↓reduceIte, reduceCtorEq]
     all_goals (first | (rw [bentW_6 (by rw [hq1]; assumption) (by omega), hj, show ((jn : Int) + 1).toNat = jn + 1 from by omega]; have e9 : l.set kn ⟨s.var, s.no, s.yes, s.ws⟩ = l := (by have := set_getD (l := l) (k := kn) (d := sg0); rw [hs] at this; exact this); rw [e9]; done) | (rw [bentW_n (by rw [hq1]; omega) (by omega), hkn, Int.toNat_natCast, hs, bentS, hq1]; repeat (first | rw [if_pos (by omega)] | rw [if_neg (by omega)]); try rfl))
   ·
    skip
    (first | (exfalso; omega) | (exfalso; simp_all; done) | skip)
    all_goals
     refine tr_seq fun K12 hK12 => ?_
     refine tr_region [3, 5, 6, 32, 42] rfl rfl fun K hK => ?_
     iterate 2 refine evR_p ?_
     refine evR_e hK ?_; clear hK K
     refine hK12 _ ?_
     refine tr_condB (fun ht3 => ?_) (fun ht3 => ?_)
     ·
      skip
      (first | (exfalso; omega) | (exfalso; simp_all; done) | skip)
      all_goals
       refine tr_region [5] rfl rfl fun K hK => ?_
       iterate 6 refine evR_p ?_
       refine evR_c (hc := (k67 _ _ (by omega))) (k := ?_)
       iterate 3 refine evR_p ?_
       refine evR_e hK ?_; clear hK K
       refine hK8 _ ?_
       refine tr_seq fun K13 hK13 => ?_
       refine tr_fz [.own 4, .own 5] (by simp (maxSteps := 4000000) (disch := first | assumption | omega | (simp only [go_sem, *]; done) | (simp only [go_sem, *]; omega)) only [go_sem, hq, Int.reduceToNat, Nat.reduceBEq, Nat.reduceEqDiff, Nat.reduceAdd, Nat.reduceMul, Nat.reduceLeDiff, Nat.reduceLT, Nat.reduceSub, ↓reduceIte, reduceCtorEq]; (try rfl)) ?_
       refine tr_region [4] rfl rfl fun K hK => ?_
       iterate 2 refine evR_p ?_
       refine evR_e hK ?_; clear hK K
       refine hK13 _ ?_
       refine tr_ret ?_
       (try simp only [thenE, inBlkE])
       simp (maxSteps := 4000000) (disch := first | assumption | omega | (simp only [go_sem, *]; done) | (simp only [go_sem, *]; omega)) only [postA, postO, resV1, fzAll, go_sem, hq, Int.reduceToNat, Nat.reduceBEq, Nat.reduceEqDiff, Nat.reduceAdd, Nat.reduceMul, Nat.reduceLeDiff, Nat.reduceLT, Nat.reduceSub, ↓reduceIte, reduceCtorEq]
       all_goals (first | (rw [bentW_6 (by rw [hq1]; assumption) (by omega), hj, show ((jn : Int) + 1).toNat = jn + 1 from by omega]; have e9 : l.set kn ⟨s.var, s.no, s.yes, s.ws⟩ = l := (by have := set_getD (l := l) (k := kn) (d := sg0); rw [hs] at this; exact this); rw [e9]; done) | (rw [bentW_n (by rw [hq1]; omega) (by omega), hkn, Int.toNat_natCast, hs, bentS, hq1]; repeat (first | rw [if_pos (by omega)] | rw [if_neg (by omega)]); try rfl))
     ·
      skip
      (first | (exfalso; omega) | (exfalso; simp_all; done) | skip)
      all_goals
       refine tr_seq fun K14 hK14 => ?_
       refine tr_region [3, 5, 6, 32, 53] rfl rfl fun K hK => ?_
       iterate 2 refine evR_p ?_
       refine evR_e hK ?_; clear hK K
       refine hK14 _ ?_
       refine tr_condB (fun ht4 => ?_) (fun ht4 => ?_)
       ·
        skip
        (first | (exfalso; omega) | (exfalso; simp_all; done) | skip)
        all_goals
         refine tr_region [5] rfl rfl fun K hK => ?_
         iterate 6 refine evR_p ?_
         refine evR_c (hc := (k67 _ _ (by omega))) (k := ?_)
         iterate 3 refine evR_p ?_
         refine evR_e hK ?_; clear hK K
         refine hK8 _ ?_
         refine tr_seq fun K15 hK15 => ?_
         refine tr_fz [.own 4, .own 5] (by simp (maxSteps := 4000000) (disch := first | assumption | omega | (simp only [go_sem, *]; done) | (simp only [go_sem, *]; omega)) only [go_sem, hq, Int.reduceToNat, Nat.reduceBEq, Nat.reduceEqDiff, Nat.reduceAdd, Nat.reduceMul, Nat.reduceLeDiff, Nat.reduceLT, Nat.reduceSub, ↓reduceIte, reduceCtorEq]; (try rfl)) ?_
         refine tr_region [4] rfl rfl fun K hK => ?_
         iterate 2 refine evR_p ?_
         refine evR_e hK ?_; clear hK K
         refine hK15 _ ?_
         refine tr_ret ?_
         (try simp only [thenE, inBlkE])
         simp (maxSteps := 4000000) (disch := first | assumption | omega | (simp only [go_sem, *]; done) | (simp only [go_sem, *]; omega)) only [postA, postO, resV1, fzAll, go_sem, hq, Int.reduceToNat, Nat.reduceBEq, Nat.reduceEqDiff, Nat.reduceAdd, Nat.reduceMul, Nat.reduceLeDiff, Nat.reduceLT, Nat.reduceSub, ↓reduceIte, reduceCtorEq]
         all_goals (first | (rw [bentW_6 (by rw [hq1]; assumption) (by omega), hj, show ((jn : Int) + 1).toNat = jn + 1 from by omega]; have e9 : l.set kn ⟨s.var, s.no, s.yes, s.ws⟩ = l := (by have := set_getD (l := l) (k := kn) (d := sg0); rw [hs] at this; exact this); rw [e9]; done) | (rw [bentW_n (by rw [hq1]; omega) (by omega), hkn, Int.toNat_natCast, hs, bentS, hq1]; repeat (first | rw [if_pos (by omega)] | rw [if_neg (by omega)]); try rfl))
       ·
        skip
        (first | (exfalso; omega) | (exfalso; simp_all; done) | skip)
        all_goals
         refine tr_seq fun K16 hK16 => ?_
         refine tr_region [3, 5, 6, 32, 64] rfl rfl fun K hK => ?_
         iterate 2 refine evR_p ?_
         refine evR_e hK ?_; clear hK K
         refine hK16 _ ?_
         refine tr_condB (fun ht5 => ?_) (fun ht5 => ?_)
         ·
          skip
          (first | (exfalso; omega) | (exfalso; simp_all; done) | skip)
          all_goals
           refine tr_seq fun K17 hK17 => ?_
           refine tr_region [3, 5, 6, 71] rfl rfl fun K hK => ?_
           iterate 6 refine evR_p ?_
           refine evR_e hK ?_; clear hK K
           refine hK17 _ ?_
           refine tr_condB (fun ht6 => ?_) (fun ht6 => ?_)
           ·
            skip
            (first | (exfalso; omega) | (exfalso; simp_all; done) | skip)
            all_goals
             refine tr_draw [] [5] mixed rfl (by kernel_rfl) rfl fun K hK => ?_
             iterate 6 refine evD_p ?_
             refine evD_c (hc := (k67 _ _ (by omega))) (k := ?_)
             iterate 3 refine evD_p ?_
             refine evD_e hK ?_; clear hK K
             refine hK8 _ ?_
             refine tr_seq fun K18 hK18 => ?_
             refine tr_fz [.own 4, .own 5] (by simp (maxSteps := 4000000) (disch := first | assumption | omega | (simp only [go_sem, *]; done) | (simp only [go_sem, *]; omega)) only [go_sem, hq, Int.reduceToNat, Nat.reduceBEq, Nat.reduceEqDiff, Nat.reduceAdd, Nat.reduceMul, Nat.reduceLeDiff, Nat.reduceLT, Nat.reduceSub, ↓reduceIte, reduceCtorEq]; (try rfl)) ?_
             refine tr_region [4] rfl rfl fun K hK => ?_
             iterate 2 refine evR_p ?_
             refine evR_e hK ?_; clear hK K
             refine hK18 _ ?_
             refine tr_ret ?_
             (try simp only [thenE, inBlkE])
             simp (maxSteps := 4000000) (disch := first | assumption | omega | (simp only [go_sem, *]; done) | (simp only [go_sem, *]; omega)) only [postA, postO, resV1, fzAll, go_sem, hq, Int.reduceToNat, Nat.reduceBEq, Nat.reduceEqDiff, Nat.reduceAdd, Nat.reduceMul, Nat.reduceLeDiff, Nat.reduceLT, Nat.reduceSub, ↓reduceIte, reduceCtorEq]
             all_goals (first | (rw [bentW_6 (by rw [hq1]; assumption) (by omega), hj, show ((jn : Int) + 1).toNat = jn + 1 from by omega]; have e9 : l.set kn ⟨s.var, s.no, s.yes, s.ws⟩ = l := (by have := set_getD (l := l) (k := kn) (d := sg0); rw [hs] at this; exact this); rw [e9]; done) | (rw [bentW_n (by rw [hq1]; omega) (by omega), hkn, Int.toNat_natCast, hs, bentS, hq1]; repeat (first | rw [if_pos (by omega)] | rw [if_neg (by omega)]); try rfl))
           ·
            skip
            (first | (exfalso; omega) | (exfalso; simp_all; done) | skip)
            all_goals
             refine tr_skip ?_
             (try simp only [thenE, inBlkE])
             refine hK8 _ ?_
             refine tr_seq fun K19 hK19 => ?_
             refine tr_fz [.own 4, .own 5] (by simp (maxSteps := 4000000) (disch := first | assumption | omega | (simp only [go_sem, *]; done) | (simp only [go_sem, *]; omega)) only [go_sem, hq, Int.reduceToNat, Nat.reduceBEq, Nat.reduceEqDiff, Nat.reduceAdd, Nat.reduceMul, Nat.reduceLeDiff, Nat.reduceLT, Nat.reduceSub, ↓reduceIte, reduceCtorEq]; (try rfl)) ?_
             refine tr_region [4] rfl rfl fun K hK => ?_
             iterate 2 refine evR_p ?_
             refine evR_e hK ?_; clear hK K
             refine hK19 _ ?_
             refine tr_ret ?_
             (try simp only [thenE, inBlkE])
             simp (maxSteps := 4000000) (disch := first | assumption | omega | (simp only [go_sem, *]; done) | (simp only [go_sem, *]; omega)) only [postA, postO, resV1, fzAll, go_sem, hq, Int.reduceToNat, Nat.reduceBEq, Nat.reduceEqDiff, Nat.reduceAdd, Nat.reduceMul, Nat.reduceLeDiff, Nat.reduceLT, Nat.reduceSub, ↓reduceIte, reduceCtorEq]
             all_goals (first | (rw [bentW_6 (by rw [hq1]; assumption) (by omega), hj, show ((jn : Int) + 1).toNat = jn + 1 from by omega]; have e9 : l.set kn ⟨s.var, s.no, s.yes, s.ws⟩ = l := (by have := set_getD (l := l) (k := kn) (d := sg0); rw [hs] at this; exact this); rw [e9]; done) | (rw [bentW_n (by rw [hq1]; omega) (by omega), hkn, Int.toNat_natCast, hs, bentS, hq1]; repeat (first | rw [if_pos (by omega)] | rw [if_neg (by omega)]); try rfl))
         ·
          skip
          (first | (exfalso; omega) | (exfalso; simp_all; done) | skip)
          all_goals
           refine tr_seq fun K20 hK20 => ?_
           refine tr_region [3, 5, 6, 32, 81] rfl rfl fun K hK => ?_
           iterate 2 refine evR_p ?_
           refine evR_e hK ?_; clear hK K
           refine hK20 _ ?_
           refine tr_condB (fun ht7 => ?_) (fun ht7 => ?_)
           ·
            skip
            (first | (exfalso; omega) | (exfalso; simp_all; done) | skip)
            all_goals
             refine tr_seq fun K21 hK21 => ?_
             refine tr_region [3, 5, 6, 88] rfl rfl fun K hK => ?_
             iterate 6 refine evR_p ?_
             refine evR_e hK ?_; clear hK K
             refine hK21 _ ?_
             refine tr_condB (fun ht8 => ?_) (fun ht8 => ?_)
             ·
              skip
              (first | (exfalso; omega) | (exfalso; simp_all; done) | skip)
              all_goals
               refine tr_draw [] [5] mixed rfl (by kernel_rfl) rfl fun K hK => ?_
               iterate 6 refine evD_p ?_
               refine evD_c (hc := (k67 _ _ (by omega))) (k := ?_)
               iterate 4 refine evD_p ?_
               refine evD_e hK ?_; clear hK K
               refine hK8 _ ?_
               refine tr_seq fun K22 hK22 => ?_
               refine tr_fz [.own 4, .own 5] (by simp (maxSteps := 4000000) (disch := first | assumption | omega | (simp only [go_sem, *]; done) | (simp only [go_sem, *]; omega)) only [go_sem, hq, Int.reduceToNat, Nat.reduceBEq, Nat.reduceEqDiff, Nat.reduceAdd, Nat.reduceMul, Nat.reduceLeDiff, Nat.reduceLT, Nat.reduceSub, ↓reduceIte, reduceCtorEq]; (try rfl)) ?_
               refine tr_region [4] rfl rfl fun K hK => ?_
               iterate 2 refine evR_p ?_
               refine evR_e hK ?_; clear hK K
               refine hK22 _ ?_
               refine tr_ret ?_
               (try simp only [thenE, inBlkE])
               simp (maxSteps := 4000000) (disch := first | assumption | omega | (simp only [go_sem, *]; done) | (simp only [go_sem, *]; omega)) only [postA, postO, resV1, fzAll, go_sem, hq, Int.reduceToNat, Nat.reduceBEq, Nat.reduceEqDiff, Nat.reduceAdd, Nat.reduceMul, Nat.reduceLeDiff, Nat.reduceLT, Nat.reduceSub, ↓reduceIte, reduceCtorEq]
               all_goals (first | (rw [bentW_6 (by rw [hq1]; assumption) (by omega), hj, show ((jn : Int) + 1).toNat = jn + 1 from by omega]; have e9 : l.set kn ⟨s.var, s.no, s.yes, s.ws⟩ = l := (by have := set_getD (l := l) (k := kn) (d := sg0); rw [hs] at this; exact this); rw [e9]; done) | (rw [bentW_n (by rw [hq1]; omega) (by omega), hkn, Int.toNat_natCast, hs, bentS, hq1]; repeat (first | rw [if_pos (by omega)] | rw [if_neg (by omega)]); try rfl))
             ·
              skip
              (first | (exfalso; omega) | (exfalso; simp_all; done) | skip)
              all_goals
               refine tr_skip ?_
               (try simp only [thenE, inBlkE])
               refine hK8 _ ?_
               refine tr_seq fun K23 hK23 => ?_
               refine tr_fz [.own 4, .own 5] (by simp (maxSteps := 4000000) (disch := first | assumption | omega | (simp only [go_sem, *]; done) | (simp only [go_sem, *]; omega)) only [go_sem, hq, Int.reduceToNat, Nat.reduceBEq, Nat.reduceEqDiff, Nat.reduceAdd, Nat.reduceMul, Nat.reduceLeDiff, Nat.reduceLT, Nat.reduceSub, ↓reduceIte, reduceCtorEq]; (try rfl)) ?_
               refine tr_region [4] rfl rfl fun K hK => ?_
               iterate 2 refine evR_p ?_
               refine evR_e hK ?_; clear hK K
               refine hK23 _ ?_
               refine tr_ret ?_
               (try simp only [thenE, inBlkE])
               simp (maxSteps := 4000000) (disch := first | assumption | omega | (simp only [go_sem, *]; done) | (simp only [go_sem, *]; omega)) only [postA, postO, resV1, fzAll, go_sem, hq, Int.reduceToNat, Nat.reduceBEq, Nat.reduceEqDiff, Nat.reduceAdd, Nat.reduceMul, Nat.reduceLeDiff, Nat.reduceLT, Nat.reduceSub, ↓reduceIte, reduceCtorEq]
               all_goals (first | (rw [bentW_6 (by rw [hq1]; assumption) (by omega), hj, show ((jn : Int) + 1).toNat = jn + 1 from by omega]; have e9 : l.set kn ⟨s.var, s.no, s.yes, s.ws⟩ = l := (by have := set_getD (l := l) (k := kn) (d := sg0); rw [hs] at this; exact this); rw [e9]; done) | (rw [bentW_n (by rw [hq1]; omega) (by omega), hkn, Int.toNat_natCast, hs, bentS, hq1]; repeat (first | rw [if_pos (by omega)] | rw [if_neg (by omega)]); try rfl))
           ·
            skip
            (first | (exfalso; omega) | (exfalso; simp_all; done) | skip)
            all_goals
             refine tr_seq fun K24 hK24 => ?_
             refine tr_region [3, 5, 6, 32, 99] rfl rfl fun K hK => ?_
             iterate 2 refine evR_p ?_
             refine evR_e hK ?_; clear hK K
             refine hK24 _ ?_
             refine tr_condB (fun ht9 => ?_) (fun ht9 => ?_)
             ·
              skip
              (first | (exfalso; omega) | (exfalso; simp_all; done) | skip)
              all_goals
               refine tr_draw [114] [5] mixed rfl (by kernel_rfl) rfl fun K hK => ?_
               iterate 7 refine evD_p ?_
               refine evD_c (hc := (k67 _ _ (by omega))) (k := ?_)
               iterate 2 refine evD_p ?_
               refine evD_c (hc := (k67 _ _ (by omega))) (k := ?_)
               iterate 2 refine evD_p ?_
               refine evD_bs ?_
               iterate 4 refine evD_p ?_
               refine evD_e hK ?_; clear hK K
               refine hK8 _ ?_
               refine tr_seq fun K25 hK25 => ?_
               refine tr_fz [.own 4, .own 5] (by simp (maxSteps := 4000000) (disch := first | assumption | omega | (simp only [go_sem, *]; done) | (simp only [go_sem, *]; omega)) only [go_sem, hq, Int.reduceToNat, Nat.reduceBEq, Nat.reduceEqDiff, Nat.reduceAdd, Nat.reduceMul, Nat.reduceLeDiff, Nat.reduceLT, Nat.reduceSub, ↓reduceIte, reduceCtorEq]; (try rfl)) ?_
               refine tr_region [4] rfl rfl fun K hK => ?_
               iterate 2 refine evR_p ?_
               refine evR_e hK ?_; clear hK K
               refine hK25 _ ?_
               refine tr_ret ?_
               (try simp only [thenE, inBlkE])
               simp (maxSteps := 4000000) (disch := first | assumption | omega | (simp only [go_sem, *]; done) | (simp only [go_sem, *]; omega)) only [postA, postO, resV1, fzAll, go_sem, hq, Int.reduceToNat, Nat.reduceBEq, Nat.reduceEqDiff, Nat.reduceAdd, Nat.reduceMul, Nat.reduceLeDiff, Nat.reduceLT, Nat.reduceSub, ↓reduceIte, reduceCtorEq]
               all_goals (first | (rw [bentW_6 (by rw [hq1]; assumption) (by omega), hj, show ((jn : Int) + 1).toNat = jn + 1 from by omega]; have e9 : l.set kn ⟨s.var, s.no, s.yes, s.ws⟩ = l := (by have := set_getD (l := l) (k := kn) (d := sg0); rw [hs] at this; exact this); rw [e9]; done) | (rw [bentW_n (by rw [hq1]; omega) (by omega), hkn, Int.toNat_natCast, hs, bentS, hq1]; repeat (first | rw [if_pos (by omega)] | rw [if_neg (by omega)]); try rfl))
             ·
              skip
              (first | (exfalso; omega) | (exfalso; simp_all; done) | skip)
              all_goals
               refine tr_seq fun K26 hK26 => ?_
               refine tr_region [3, 5, 6, 32, 118] rfl rfl fun K hK => ?_
               iterate 2 refine evR_p ?_
               refine evR_e hK ?_; clear hK K
               refine hK26 _ ?_
               refine tr_condB (fun ht10 => ?_) (fun ht10 => ?_)
               ·
                skip
                (first | (exfalso; omega) | (exfalso; simp_all; done) | skip)
                all_goals
                 refine tr_fz [.own 4, .own 2] (by simp (maxSteps := 4000000) (disch := first | assumption | omega | (simp only [go_sem, *]; done) | (simp only [go_sem, *]; omega)) only [go_sem, hq, Int.reduceToNat, Nat.reduceBEq, Nat.reduceEqDiff, Nat.reduceAdd, Nat.reduceMul, Nat.reduceLeDiff, Nat.reduceLT, Nat.reduceSub, ↓reduceIte, reduceCtorEq]; (try rfl)) ?_
                 refine tr_region [5] rfl rfl fun K hK => ?_
                 iterate 5 refine evR_p ?_
                 refine evR_c (hc := (k67 _ _ (by omega))) (k := ?_)
                 iterate 3 refine evR_p ?_
                 refine evR_e hK ?_; clear hK K
                 refine hK8 _ ?_
                 refine tr_seq fun K27 hK27 => ?_
                 refine tr_fz [.own 4, .own 5] (by simp (maxSteps := 4000000) (disch := first | assumption | omega | (simp only [go_sem, *]; done) | (simp only [go_sem, *]; omega)) only [go_sem, hq, Int.reduceToNat, Nat.reduceBEq, Nat.reduceEqDiff, Nat.reduceAdd, Nat.reduceMul, Nat.reduceLeDiff, Nat.reduceLT, Nat.reduceSub, ↓reduceIte, reduceCtorEq]; (try rfl)) ?_
                 refine tr_region [4] rfl rfl fun K hK => ?_
                 iterate 2 refine evR_p ?_
                 refine evR_e hK ?_; clear hK K
                 refine hK27 _ ?_
                 refine tr_ret ?_
                 (try simp only [thenE, inBlkE])
                 simp (maxSteps := 4000000) (disch := first | assumption | omega | (simp only [go_sem, *]; done) | (simp only [go_sem, *]; omega)) only [postA, postO, resV1, fzAll, go_sem, hq, Int.reduceToNat, Nat.reduceBEq, Nat.reduceEqDiff, Nat.reduceAdd, Nat.reduceMul, Nat.reduceLeDiff, Nat.reduceLT, Nat.reduceSub, ↓reduceIte, reduceCtorEq]
                 all_goals (first | (rw [bentW_6 (by rw [hq1]; assumption) (by omega), hj, show ((jn : Int) + 1).toNat = jn + 1 from by omega]; have e9 : l.set kn ⟨s.var, s.no, s.yes, s.ws⟩ = l := (by have := set_getD (l := l) (k := kn) (d := sg0); rw [hs] at this; exact this); rw [e9]; done) | (rw [bentW_n (by rw [hq1]; omega) (by omega), hkn, Int.toNat_natCast, hs, bentS, hq1]; repeat (first | rw [if_pos (by omega)] | rw [if_neg (by omega)]); try rfl))
               ·
                skip
                (first | (exfalso; omega) | (exfalso; simp_all; done) | skip)
                all_goals
                 refine tr_seq fun K28 hK28 => ?_
                 refine tr_region [5, 6, 128] rfl rfl fun K hK => ?_
                 iterate 2 refine evR_p ?_
                 refine evR_e hK ?_; clear hK K
                 refine hK28 _ ?_
                 refine tr_condB (fun ht11 => ?_) (fun ht11 => ?_)
                 ·
                  skip
                  (first | (exfalso; omega) | (exfalso; simp_all; done) | skip)
                  all_goals
                   refine tr_draw [] [5] mixed rfl (by kernel_rfl) rfl fun K hK => ?_
                   iterate 16 refine evD_p ?_
                   refine evD_e hK ?_; clear hK K
                   refine hK8 _ ?_
                   refine tr_seq fun K29 hK29 => ?_
                   refine tr_fz [.own 4, .own 5] (by simp (maxSteps := 4000000) (disch := first | assumption | omega | (simp only [go_sem, *]; done) | (simp only [go_sem, *]; omega)) only [go_sem, hq, Int.reduceToNat, Nat.reduceBEq, Nat.reduceEqDiff, Nat.reduceAdd, Nat.reduceMul, Nat.reduceLeDiff, Nat.reduceLT, Nat.reduceSub, ↓reduceIte, reduceCtorEq]; (try rfl)) ?_
                   refine tr_region [4] rfl rfl fun K hK => ?_
                   iterate 2 refine evR_p ?_
                   refine evR_e hK ?_; clear hK K
                   refine hK29 _ ?_
                   refine tr_ret ?_
                   (try simp only [thenE, inBlkE])
                   simp (maxSteps := 4000000) (disch := first | assumption | omega | (simp only [go_sem, *]; done) | (simp only [go_sem, *]; omega)) only [postA, postO, resV1, fzAll, go_sem, hq, Int.reduceToNat, Nat.reduceBEq, Nat.reduceEqDiff, Nat.reduceAdd, Nat.reduceMul, Nat.reduceLeDiff, Nat.reduceLT, Nat.reduceSub, ↓reduceIte, reduceCtorEq]
                   all_goals (first | (rw [bentW_6 (by rw [hq1]; assumption) (by omega), hj, show ((jn : Int) + 1).toNat = jn + 1 from by omega]; have e9 : l.set kn ⟨s.var, s.no, s.yes, s.ws⟩ = l := (by have := set_getD (l := l) (k := kn) (d := sg0); rw [hs] at this; exact this); rw [e9]; done) | (rw [bentW_n (by rw [hq1]; omega) (by omega), hkn, Int.toNat_natCast, hs, bentS, hq1]; repeat (first | rw [if_pos (by omega)] | rw [if_neg (by omega)]); try rfl))
                 ·
                  skip
                  (first | (exfalso; omega) | (exfalso; simp_all; done) | skip)
                  all_goals
                   refine tr_skip ?_
                   (try simp only [thenE, inBlkE])
                   refine hK8 _ ?_
                   refine tr_seq fun K30 hK30 => ?_
                   refine tr_fz [.own 4, .own 5] (by simp (maxSteps := 4000000) (disch := first | assumption | omega | (simp only [go_sem, *]; done) | (simp only [go_sem, *]; omega)) only [go_sem, hq, Int.reduceToNat, Nat.reduceBEq, Nat.reduceEqDiff, Nat.reduceAdd, Nat.reduceMul, Nat.reduceLeDiff, Nat.reduceLT, Nat.reduceSub, ↓reduceIte, reduceCtorEq]; (try rfl)) ?_
                   refine tr_region [4] rfl rfl fun K hK => ?_
                   iterate 2 refine evR_p ?_
                   refine evR_e hK ?_; clear hK K
                   refine hK30 _ ?_
                   refine tr_ret ?_
                   (try simp only [thenE, inBlkE])
                   simp (maxSteps := 4000000) (disch := first | assumption | omega | (simp only [go_sem, *]; done) | (simp only [go_sem, *]; omega)) only [postA, postO, resV1, fzAll, go_sem, hq, Int.reduceToNat, Nat.reduceBEq, Nat.reduceEqDiff, Nat.reduceAdd, Nat.reduceMul, Nat.reduceLeDiff, Nat.reduceLT, Nat.reduceSub, ↓reduceIte, reduceCtorEq]
                   all_goals (first | (rw [bentW_6 (by rw [hq1]; assumption) (by omega), hj, show ((jn : Int) + 1).toNat = jn + 1 from by omega]; have e9 : l.set kn ⟨s.var, s.no, s.yes, s.ws⟩ = l := (by have := set_getD (l := l) (k := kn) (d := sg0); rw [hs] at this; exact this); rw [e9]; done) | (rw [bentW_n (by rw [hq1]; omega) (by omega), hkn, Int.toNat_natCast, hs, bentS, hq1]; repeat (first | rw [if_pos (by omega)] | rw [if_neg (by omega)]); try rfl))
end

section
attribute [local go_sem] List.length_nil cellsI_length cellsI_sc List.replicate_zero List.nil_append
theorem k19z (z : List Int) (hz4 : z.length = 4) : CallsA Try.prog 19 [.sl 4 (encSgs []), .agg (cellsI z)] (.sl 4 (encSgs [])) := by
 have hq := hz4
 refine callsA_of_tr Try.func19 rfl (Nat.le_of_ble_eq_true rfl) ?_
 simp only [Try.results19, envOf, Nat.reduceAdd]
 refine tr_seq fun K1 hK1 => ?_
 refine tr_region [0, 3] rfl rfl fun K hK => ?_
 iterate 2 refine evR_p ?_
 refine evR_e hK ?_; clear hK K
 refine hK1 _ ?_
 refine tr_seq fun K2 hK2 => ?_
 refine tr_region [3, 5] rfl rfl fun K hK => ?_
 refine evR_bo ?_
 iterate 3 refine evR_p ?_
 refine evR_e hK ?_; clear hK K
 refine hK2 _ ?_
 refine tr_seq fun K3 hK3 => ?_
 refine tr_seq fun K4 hK4 => ?_
 refine tr_region [3, 5, 12] rfl rfl fun K hK => ?_
 iterate 3 refine evR_p ?_
 refine evR_e hK ?_; clear hK K
 refine hK4 _ ?_
 refine tr_condB (fun ht1 => ?_) (fun ht1 => ?_)
 ·
  skip
  (first | (exfalso; omega) | (exfalso; simp_all; done) | skip)
  all_goals
   refine tr_seq fun K5 hK5 => ?_
   refine tr_region [4] rfl rfl fun K hK => ?_
   iterate 2 refine evR_p ?_
   refine evR_e hK ?_; clear hK K
   refine hK5 _ ?_
   refine tr_ret ?_
   (try simp only [thenE, inBlkE])
   simp (maxSteps := 4000000) (disch := first | assumption | omega | (simp only [go_sem, *]; done) | (simp only [go_sem, *]; omega)) only [postA, postO, resV1, fzAll, go_sem, hq, Int.reduceToNat, Nat.reduceBEq, Nat.reduceEqDiff, Nat.reduceAdd, Nat.reduceMul, Nat.reduceLeDiff, Nat.reduceLT, Nat.reduceSub, ↓reduceIte, reduceCtorEq]
   all_goals (rfl)
 ·
  skip
  (first | (exfalso; omega) | (exfalso; simp_all; done) | skip)
  all_goals
   refine tr_skip ?_
   (try simp only [thenE, inBlkE])
   refine hK3 _ ?_
   refine tr_seq fun K6 hK6 => ?_
   refine tr_region [3, 5, 6] rfl rfl fun K hK => ?_
   iterate 5 refine evR_p ?_
   refine evR_c (hc := (k67 _ _ (by omega))) (k := ?_)
   iterate 2 refine evR_p ?_
   refine evR_e hK ?_; clear hK K
   refine hK6 _ ?_
   refine tr_seq fun K7 hK7 => ?_
   refine tr_region [3, 5, 6] rfl rfl fun K hK => ?_
   refine evR_p ?_
   refine evR_bo ?_
   iterate 8 refine evR_p ?_
   refine evR_e hK ?_; clear hK K
   refine hK7 _ ?_
   refine tr_seq fun K8 hK8 => ?_
   refine tr_seq fun K9 hK9 => ?_
   refine tr_region [3, 5, 6, 32] rfl rfl fun K hK => ?_
   iterate 2 refine evR_p ?_
   refine evR_c (hc := (k67 _ _ (by omega))) (k := ?_)
   refine evR_e hK ?_; clear hK K
   refine hK9 _ ?_
   refine tr_block ?_
   refine tr_seq fun K10 hK10 => ?_
   refine tr_region [3, 5, 6, 32, 33] rfl rfl fun K hK => ?_
   iterate 2 refine evR_p ?_
   refine evR_e hK ?_; clear hK K
   refine hK10 _ ?_
   refine tr_condB (fun ht2 => ?_) (fun ht2 => ?_)
   ·
    skip
    (first | (exfalso; omega) | (exfalso; simp_all; done) | skip)
    all_goals
     refine tr_region [5] rfl rfl fun K hK => ?_
     iterate 3 refine evR_p ?_
     refine evR_c (hc := (k67 _ _ (by omega))) (k := ?_)
     iterate 4 refine evR_p ?_
     refine evR_e hK ?_; clear hK K
     refine hK8 _ ?_
     refine tr_seq fun K11 hK11 => ?_
     refine tr_region [4] rfl rfl fun K hK => ?_
     iterate 2 refine evR_p ?_
     refine evR_e hK ?_; clear hK K
     refine hK11 _ ?_
     refine tr_ret ?_
     (try simp only [thenE, inBlkE])
     simp (maxSteps := 4000000) (disch := first | assumption | omega | (simp only [go_sem, *]; done) | (simp only [go_sem, *]; omega)) only [postA, postO, resV1, fzAll, go_sem, hq, Int.reduceToNat, Nat.reduceBEq, Nat.reduceEqDiff, Nat.reduceAdd, Nat.reduceMul, Nat.reduceLeDiff, Nat.reduceLT, Nat.reduceSub, ↓reduceIte, reduceCtorEq]
     all_goals (rfl)
   ·
    skip
    (first | (exfalso; omega) | (exfalso; simp_all; done) | skip)
    all_goals
     refine tr_seq fun K12 hK12 => ?_
     refine tr_region [3, 5, 6, 32, 42] rfl rfl fun K hK => ?_
     iterate 2 refine evR_p ?_
     refine evR_e hK ?_; clear hK K
     refine hK12 _ ?_
     refine tr_condB (fun ht3 => ?_) (fun ht3 => ?_)
     ·
      skip
      (first | (exfalso; omega) | (exfalso; simp_all; done) | skip)
      all_goals
       refine tr_region [5] rfl rfl fun K hK => ?_
       iterate 6 refine evR_p ?_
       refine evR_c (hc := (k67 _ _ (by omega))) (k := ?_)
       iterate 3 refine evR_p ?_
       refine evR_e hK ?_; clear hK K
       refine hK8 _ ?_
       refine tr_seq fun K13 hK13 => ?_
       refine tr_region [4] rfl rfl fun K hK => ?_
       iterate 2 refine evR_p ?_
       refine evR_e hK ?_; clear hK K
       refine hK13 _ ?_
       refine tr_ret ?_
       (try simp only [thenE, inBlkE])
       simp (maxSteps := 4000000) (disch := first | assumption | omega | (simp only [go_sem, *]; done) | (simp only [go_sem, *]; omega)) only [postA, postO, resV1, fzAll, go_sem, hq, Int.reduceToNat, Nat.reduceBEq, Nat.reduceEqDiff, Nat.reduceAdd, Nat.reduceMul, Nat.reduceLeDiff, Nat.reduceLT, Nat.reduceSub, ↓reduceIte, reduceCtorEq]
       all_goals (rfl)
     ·
      skip
      (first | (exfalso; omega) | (exfalso; simp_all; done) | skip)
      all_goals
       refine tr_seq fun K14 hK14 => ?_
       refine tr_region [3, 5, 6, 32, 53] rfl rfl fun K hK => ?_
       iterate 2 refine evR_p ?_
       refine evR_e hK ?_; clear hK K
       refine hK14 _ ?_
       refine tr_condB (fun ht4 => ?_) (fun ht4 => ?_)
       ·
        skip
        (first | (exfalso; omega) | (exfalso; simp_all; done) | skip)
        all_goals
         refine tr_region [5] rfl rfl fun K hK => ?_
         iterate 6 refine evR_p ?_
         refine evR_c (hc := (k67 _ _ (by omega))) (k := ?_)
         iterate 3 refine evR_p ?_
         refine evR_e hK ?_; clear hK K
         refine hK8 _ ?_
         refine tr_seq fun K15 hK15 => ?_
         refine tr_region [4] rfl rfl fun K hK => ?_
         iterate 2 refine evR_p ?_
         refine evR_e hK ?_; clear hK K
         refine hK15 _ ?_
         refine tr_ret ?_
         (try simp only [thenE, inBlkE])
         simp (maxSteps := 4000000) (disch := first | assumption | omega | (simp only [go_sem, *]; done) | (simp only [go_sem, *]; omega)) only [postA, postO, resV1, fzAll, go_sem, hq, Int.reduceToNat, Nat.reduceBEq, Nat.reduceEqDiff, Nat.reduceAdd, Nat.reduceMul, Nat.reduceLeDiff, Nat.reduceLT, Nat.reduceSub, ↓reduceIte, reduceCtorEq]
         all_goals (rfl)
       ·
        skip
        (first | (exfalso; omega) | (exfalso; simp_all; done) | skip)
        all_goals
         refine tr_seq fun K16 hK16 => ?_
         refine tr_region [3, 5, 6, 32, 64] rfl rfl fun K hK => ?_
         iterate 2 refine evR_p ?_
         refine evR_e hK ?_; clear hK K
         refine hK16 _ ?_
         refine tr_condB (fun ht5 => ?_) (fun ht5 => ?_)
         ·
          skip
          (first | (exfalso; omega) | (exfalso; simp_all; done) | skip)
          all_goals
           refine tr_seq fun K17 hK17 => ?_
           refine tr_region [3, 5, 6, 71] rfl rfl fun K hK => ?_
           iterate 6 refine evR_p ?_
           refine evR_e hK ?_; clear hK K
           refine hK17 _ ?_
           refine tr_condB (fun ht6 => ?_) (fun ht6 => ?_)
           ·
            skip
            (first | (exfalso; omega) | (exfalso; simp_all; done) | skip)
            all_goals
             refine tr_draw [] [5] mixed rfl (by kernel_rfl) rfl fun K hK => ?_
             iterate 6 refine evD_p ?_
             refine evD_c (hc := (k67 _ _ (by omega))) (k := ?_)
             iterate 3 refine evD_p ?_
             refine evD_e hK ?_; clear hK K
             refine hK8 _ ?_
             refine tr_seq fun K18 hK18 => ?_
             refine tr_region [4] rfl rfl fun K hK => ?_
             iterate 2 refine evR_p ?_
             refine evR_e hK ?_; clear hK K
             refine hK18 _ ?_
             refine tr_ret ?_
             (try simp only [thenE, inBlkE])
             simp (maxSteps := 4000000) (disch := first | assumption | omega | (simp only [go_sem, *]; done) | (simp only [go_sem, *]; omega)) only [postA, postO, resV1, fzAll, go_sem, hq, Int.reduceToNat, Nat.reduceBEq, Nat.reduceEqDiff, Nat.reduceAdd, Nat.reduceMul, Nat.reduceLeDiff, Nat.reduceLT, Nat.reduceSub, ↓reduceIte, reduceCtorEq]
             all_goals (rfl)
           ·
            skip
            (first | (exfalso; omega) | (exfalso; simp_all; done) | skip)
            all_goals
             refine tr_skip ?_
             (try simp only [thenE, inBlkE])
             refine hK8 _ ?_
             refine tr_seq fun K19 hK19 => ?_
             refine tr_region [4] rfl rfl fun K hK => ?_
             iterate 2 refine evR_p ?_
             refine evR_e hK ?_; clear hK K
             refine hK19 _ ?_
             refine tr_ret ?_
             (try simp only [thenE, inBlkE])
             simp (maxSteps := 4000000) (disch := first | assumption | omega | (simp only [go_sem, *]; done) | (simp only [go_sem, *]; omega)) only [postA, postO, resV1, fzAll, go_sem, hq, Int.reduceToNat, Nat.reduceBEq, Nat.reduceEqDiff, Nat.reduceAdd, Nat.reduceMul, Nat.reduceLeDiff, Nat.reduceLT, Nat.reduceSub, ↓reduceIte, reduceCtorEq]
             all_goals (rfl)
         ·
          skip
          (first | (exfalso; omega) | (exfalso; simp_all; done) | skip)
          all_goals
           refine tr_seq fun K20 hK20 => ?_
           refine tr_region [3, 5, 6, 32, 81] rfl rfl fun K hK => ?_
           iterate 2 refine evR_p ?_
           refine evR_e hK ?_; clear hK K
           refine hK20 _ ?_
           refine tr_condB (fun ht7 => ?_) (fun ht7 => ?_)
           ·
            skip
            (first | (exfalso; omega) | (exfalso; simp_all; done) | skip)
            all_goals
             refine tr_seq fun K21 hK21 => ?_
             refine tr_region [3, 5, 6, 88] rfl rfl fun K hK => ?_
             iterate 6 refine evR_p ?_
             refine evR_e hK ?_; clear hK K
             refine hK21 _ ?_
             refine tr_condB (fun ht8 => ?_) (fun ht8 => ?_)
             ·
              skip
              (first | (exfalso; omega) | (exfalso; simp_all; done) | skip)
              all_goals
               refine tr_draw [] [5] mixed rfl (by kernel_rfl) rfl fun K hK => ?_
               iterate 6 refine evD_p ?_
               refine evD_c (hc := (k67 _ _ (by omega))) (k := ?_)
               iterate 4 refine evD_p ?_
               refine evD_e hK ?_; clear hK K
               refine hK8 _ ?_
               refine tr_seq fun K22 hK22 => ?_
               refine tr_region [4] rfl rfl fun K hK => ?_
               iterate 2 refine evR_p ?_
               refine evR_e hK ?_; clear hK K
               refine hK22 _ ?_
               refine tr_ret ?_
               (try simp only [thenE, inBlkE])
               simp (maxSteps := 4000000) (disch := first | assumption | omega | (simp only [go_sem, *]; done) | (simp only [go_sem, *]; omega)) only [postA, postO, resV1, fzAll, go_sem, hq, Int.reduceToNat, Nat.reduceBEq, Nat.reduceEqDiff, Nat.reduceAdd, Nat.reduceMul, Nat.reduceLeDiff, Nat.reduceLT, Nat.reduceSub, ↓reduceIte, reduceCtorEq]
               all_goals (rfl)
             ·
              skip
              (first | (exfalso; omega) | (exfalso; simp_all; done) | skip)
              all_goals
               refine tr_skip ?_
               (try simp only [thenE, inBlkE])
               refine hK8 _ ?_
               refine tr_seq fun K23 hK23 => ?_
               refine tr_region [4] rfl rfl fun K hK => ?_
               iterate 2 refine evR_p ?_
               refine evR_e hK ?_; clear hK K
               refine hK23 _ ?_
               refine tr_ret ?_
               (try simp only [thenE, inBlkE])
               simp (maxSteps := 4000000) (disch := first | assumption | omega | (simp only [go_sem, *]; done) | (simp only [go_sem, *]; omega)) only [postA, postO, resV1, fzAll, go_sem, hq, Int.reduceToNat, Nat.reduceBEq, Nat.reduceEqDiff, Nat.reduceAdd, Nat.reduceMul, Nat.reduceLeDiff, Nat.reduceLT, Nat.reduceSub, ↓reduceIte, reduceCtorEq]
               all_goals (rfl)
           ·
            skip
            (first | (exfalso; omega) | (exfalso; simp_all; done) | skip)
            all_goals
             refine tr_seq fun K24 hK24 => ?_
             refine tr_region [3, 5, 6, 32, 99] rfl rfl fun K hK => ?_
             iterate 2 refine evR_p ?_
             refine evR_e hK ?_; clear hK K
             refine hK24 _ ?_
             refine tr_condB (fun ht9 => ?_) (fun ht9 => ?_)
             ·
              skip
              (first | (exfalso; omega) | (exfalso; simp_all; done) | skip)
              all_goals
               refine tr_draw [114] [5] mixed rfl (by kernel_rfl) rfl fun K hK => ?_
               iterate 7 refine evD_p ?_
               refine evD_c (hc := (k67 _ _ (by omega))) (k := ?_)
               iterate 2 refine evD_p ?_
               refine evD_c (hc := (k67 _ _ (by omega))) (k := ?_)
               iterate 2 refine evD_p ?_
               refine evD_bs ?_
               iterate 4 refine evD_p ?_
               refine evD_e hK ?_; clear hK K
               refine hK8 _ ?_
               refine tr_seq fun K25 hK25 => ?_
               refine tr_region [4] rfl rfl fun K hK => ?_
               iterate 2 refine evR_p ?_
               refine evR_e hK ?_; clear hK K
               refine hK25 _ ?_
               refine tr_ret ?_
               (try simp only [thenE, inBlkE])
               simp (maxSteps := 4000000) (disch := first | assumption | omega | (simp only [go_sem, *]; done) | (simp only [go_sem, *]; omega)) only [postA, postO, resV1, fzAll, go_sem, hq, Int.reduceToNat, Nat.reduceBEq, Nat.reduceEqDiff, Nat.reduceAdd, Nat.reduceMul, Nat.reduceLeDiff, Nat.reduceLT, Nat.reduceSub, ↓reduceIte, reduceCtorEq]
               all_goals (rfl)
             ·
              skip
              (first | (exfalso; omega) | (exfalso; simp_all; done) | skip)
              all_goals
               refine tr_seq fun K26 hK26 => ?_
               refine tr_region [3, 5, 6, 32, 118] rfl rfl fun K hK => ?_
               iterate 2 refine evR_p ?_
               refine evR_e hK ?_; clear hK K
               refine hK26 _ ?_
               refine tr_condB (fun ht10 => ?_) (fun ht10 => ?_)
               ·
                skip
                (first | (exfalso; omega) | (exfalso; simp_all; done) | skip)
                all_goals
                 refine tr_region [5] rfl rfl fun K hK => ?_
                 iterate 5 refine evR_p ?_
                 refine evR_c (hc := (k67 _ _ (by omega))) (k := ?_)
                 iterate 3 refine evR_p ?_
                 refine evR_e hK ?_; clear hK K
                 refine hK8 _ ?_
                 refine tr_seq fun K27 hK27 => ?_
                 refine tr_region [4] rfl rfl fun K hK => ?_
                 iterate 2 refine evR_p ?_
                 refine evR_e hK ?_; clear hK K
                 refine hK27 _ ?_
                 refine tr_ret ?_
                 (try simp only [thenE, inBlkE])
                 simp (maxSteps := 4000000) (disch := first | assumption | omega | (simp only [go_sem, *]; done) | (simp only [go_sem, *]; omega)) only [postA, postO, resV1, fzAll, go_sem, hq, Int.reduceToNat, Nat.reduceBEq, Nat.reduceEqDiff, Nat.reduceAdd, Nat.reduceMul, Nat.reduceLeDiff, Nat.reduceLT, Nat.reduceSub, ↓reduceIte, reduceCtorEq]
                 all_goals (rfl)
               ·
                skip
                (first | (exfalso; omega) | (exfalso; simp_all; done) | skip)
                all_goals
                 refine tr_seq fun K28 hK28 => ?_
                 refine tr_region [5, 6, 128] rfl rfl fun K hK => ?_
                 iterate 2 refine evR_p ?_
                 refine evR_e hK ?_; clear hK K
                 refine hK28 _ ?_
                 refine tr_condB (fun ht11 => ?_) (fun ht11 => ?_)
                 ·
                  skip
                  (first | (exfalso; omega) | (exfalso; simp_all; done) | skip)
                  all_goals
                   refine tr_draw [] [5] mixed rfl (by kernel_rfl) rfl fun K hK => ?_
                   iterate 16 refine evD_p ?_
                   refine evD_e hK ?_; clear hK K
                   refine hK8 _ ?_
                   refine tr_seq fun K29 hK29 => ?_
                   refine tr_region [4] rfl rfl fun K hK => ?_
                   iterate 2 refine evR_p ?_
                   refine evR_e hK ?_; clear hK K
                   refine hK29 _ ?_
                   refine tr_ret ?_
                   (try simp only [thenE, inBlkE])
                   simp (maxSteps := 4000000) (disch := first | assumption | omega | (simp only [go_sem, *]; done) | (simp only [go_sem, *]; omega)) only [postA, postO, resV1, fzAll, go_sem, hq, Int.reduceToNat, Nat.reduceBEq, Nat.reduceEqDiff, Nat.reduceAdd, Nat.reduceMul, Nat.reduceLeDiff, Nat.reduceLT, Nat.reduceSub, ↓reduceIte, reduceCtorEq]
                   all_goals (rfl)
                 ·
                  skip
                  (first | (exfalso; omega) | (exfalso; simp_all; done) | skip)
                  all_goals
                   refine tr_skip ?_
                   (try simp only [thenE, inBlkE])
                   refine hK8 _ ?_
                   refine tr_seq fun K30 hK30 => ?_
                   refine tr_region [4] rfl rfl fun K hK => ?_
                   iterate 2 refine evR_p ?_
                   refine evR_e hK ?_; clear hK K
                   refine hK30 _ ?_
                   refine tr_ret ?_
                   (try simp only [thenE, inBlkE])
                   simp (maxSteps := 4000000) (disch := first | assumption | omega | (simp only [go_sem, *]; done) | (simp only [go_sem, *]; omega)) only [postA, postO, resV1, fzAll, go_sem, hq, Int.reduceToNat, Nat.reduceBEq, Nat.reduceEqDiff, Nat.reduceAdd, Nat.reduceMul, Nat.reduceLeDiff, Nat.reduceLT, Nat.reduceSub, ↓reduceIte, reduceCtorEq]
                   all_goals (rfl)
end
theorem k19 (l : List Sg) (hll : l.length ≤ 100000) (hws : ∀ s ∈ l, s.ws.length ≤ 100000) (z : List Int) (hz4 : z.length = 4) (hz : ∀ x ∈ z, okI x) : CallsA Try.prog 19 [.sl 4 (encSgs l), .agg (cellsI z)] (.sl 4 (encSgs (bentW l z))) := by
 by_cases h : l.length = 0
 ·
  have e : l = [] := List.eq_nil_of_length_eq_zero h
  subst e
  exact k19z z hz4
 ·
  exact k19n l (by omega) hll hws z hz4 hz

theorem k38 (ws : List Wt) : CallsA Try.prog 38 [.sl 2 (encWs ws)] (.agg (encSg (lf ws))) := by
 have hq : True := trivial
 refine callsA_of_tr Try.func38 rfl (Nat.le_of_ble_eq_true rfl) ?_
 simp only [Try.results38, envOf, Nat.reduceAdd]
 refine tr_seq fun K1 hK1 => ?_
 refine tr_region [0, 2] rfl rfl fun K hK => ?_
 refine evR_p ?_
 refine evR_e hK ?_; clear hK K
 refine hK1 _ ?_
 refine tr_seq fun K2 hK2 => ?_
 refine tr_region [2] rfl rfl fun K hK => ?_
 iterate 3 refine evR_p ?_
 refine evR_e hK ?_; clear hK K
 refine hK2 _ ?_
 refine tr_ret ?_
 (try simp only [thenE, inBlkE])
 simp (maxSteps := 4000000) (disch := first | assumption | omega | (simp only [go_sem, *]; done) | (simp only [go_sem, *]; omega)) only [postA, postO, resV1, fzAll, go_sem, hq, Int.reduceToNat, Nat.reduceBEq, Nat.reduceEqDiff, Nat.reduceAdd, Nat.reduceMul, Nat.reduceLeDiff, Nat.reduceLT, Nat.reduceSub, ↓reduceIte, reduceCtorEq]
 all_goals (rfl)

section
attribute [local go_sem] lf
set_option maxHeartbeats 16000000 in
theorem k16  : CallsA Try.prog 16 [] (.bool true) := by
 have hq : True := trivial
 refine callsA_of_tr Try.func16 rfl (Nat.le_of_ble_eq_true rfl) ?_
 simp only [Try.results16, envOf, Nat.reduceAdd]
 refine tr_seq fun K1 hK1 => ?_
 refine tr_region [] rfl rfl fun K hK => ?_
 refine evR_p ?_
 refine evR_e hK ?_; clear hK K
 refine hK1 _ ?_
 refine tr_seq fun K2 hK2 => ?_
 refine tr_region [1] rfl rfl fun K hK => ?_
 refine evR_bs ?_
 refine evR_p ?_
 refine evR_bs ?_
 refine evR_p ?_
 iterate 2 refine evR_bs ?_
 iterate 3 refine evR_p ?_
 refine evR_e hK ?_; clear hK K
 refine hK2 _ ?_
 refine tr_seq fun K3 hK3 => ?_
 refine tr_region [1, 2] rfl rfl fun K hK => ?_
 iterate 2 refine evR_p ?_
 refine evR_bs ?_
 refine evR_c (hc := (k38 [⟨0, 1⟩, ⟨1, 2⟩])) (k := ?_)
 refine evR_bs ?_
 refine evR_p ?_
 refine evR_e hK ?_; clear hK K
 refine hK3 _ ?_
 refine tr_seq fun K4 hK4 => ?_
 refine tr_region [1, 2, 3] rfl rfl fun K hK => ?_
 refine evR_p ?_
 refine evR_bs ?_
 refine evR_c (hc := (k38 [⟨0, 1⟩])) (k := ?_)
 refine evR_bs ?_
 refine evR_p ?_
 refine evR_e hK ?_; clear hK K
 refine hK4 _ ?_
 refine tr_seq fun K5 hK5 => ?_
 refine tr_region [1, 2, 3, 4] rfl rfl fun K hK => ?_
 iterate 2 refine evR_p ?_
 refine evR_bs ?_
 refine evR_c (hc := (k38 [⟨1, 1⟩])) (k := ?_)
 iterate 2 refine evR_p ?_
 refine evR_bs ?_
 refine evR_c (hc := (k38 [⟨1, 1⟩])) (k := ?_)
 refine evR_p ?_
 refine evR_bs ?_
 refine evR_c (hc := (k38 [⟨0, 1⟩])) (k := ?_)
 refine evR_bs ?_
 refine evR_p ?_
 refine evR_e hK ?_; clear hK K
 refine hK5 _ ?_
 refine tr_seq fun K6 hK6 => ?_
 refine tr_region [1, 2, 3, 4, 5] rfl rfl fun K hK => ?_
 iterate 3 refine evR_p ?_
 refine evR_e hK ?_; clear hK K
 refine hK6 _ ?_
 refine tr_seq fun K7 hK7 => ?_
 refine tr_region [1, 2, 3, 4, 5] rfl rfl fun K hK => ?_
 iterate 5 refine evR_p ?_
 refine evR_e hK ?_; clear hK K
 refine hK7 _ ?_
 refine tr_seq fun K8 hK8 => ?_
 refine tr_region [1, 2, 3, 4, 5, 6] rfl rfl fun K hK => ?_
 iterate 2 refine evR_p ?_
 refine evR_bs ?_
 refine evR_c (hc := (k38 [⟨0, 2⟩, ⟨1, 1⟩])) (k := ?_)
 refine evR_bs ?_
 refine evR_p ?_
 refine evR_e hK ?_; clear hK K
 refine hK8 _ ?_
 refine tr_seq fun K9 hK9 => ?_
 refine tr_region [1, 2, 3, 4, 5, 6, 7, 8] rfl rfl fun K hK => ?_
 refine evR_p ?_
 refine evR_c (hc := s22) (k := ?_)
 iterate 5 refine evR_p ?_
 refine evR_e hK ?_; clear hK K
 refine hK9 _ ?_
 refine tr_seq fun K10 hK10 => ?_
 refine tr_region [1, 2, 3, 5, 6, 7, 8, 9] rfl rfl fun K hK => ?_
 iterate 2 refine evR_p ?_
 refine evR_c (hc := s24_1) (k := ?_)
 refine evR_p ?_
 iterate 2 refine evR_g ?_
 refine evR_gc (hc := s24_2) (k := ?_)
 refine evR_g ?_
 iterate 2 refine evR_p ?_
 iterate 2 refine evR_g ?_
 refine evR_gc (hc := s24_3) (k := ?_)
 iterate 2 refine evR_p ?_
 iterate 2 refine evR_g ?_
 refine evR_gc (hc := s26_1) (k := ?_)
 refine evR_g ?_
 iterate 2 refine evR_p ?_
 iterate 2 refine evR_g ?_
 refine evR_gc (hc := s26_2) (k := ?_)
 refine evR_g ?_
 iterate 2 refine evR_p ?_
 iterate 2 refine evR_g ?_
 refine evR_gc (hc := s26_N) (k := ?_)
 refine evR_g ?_
 iterate 2 refine evR_p ?_
 refine evR_g ?_
 refine evR_gc (hc := s26_E) (k := ?_)
 refine evR_g ?_
 iterate 2 refine evR_p ?_
 refine evR_e hK ?_; clear hK K
 refine hK10 _ ?_
 refine tr_seq fun K11 hK11 => ?_
 refine tr_region [0] rfl rfl fun K hK => ?_
 iterate 2 refine evR_p ?_
 iterate 2 refine evR_g ?_
 refine evR_gc (hc := s32_6) (k := ?_)
 iterate 2 refine evR_p ?_
 iterate 2 refine evR_g ?_
 refine evR_gc (hc := s32_5) (k := ?_)
 refine evR_g ?_
 iterate 2 refine evR_p ?_
 iterate 2 refine evR_g ?_
 refine evR_gc (hc := s24_G) (k := ?_)
 refine evR_g ?_
 iterate 2 refine evR_p ?_
 iterate 2 refine evR_g ?_
 refine evR_gc (hc := s29_1) (k := ?_)
 refine evR_g ?_
 refine evR_gc (hc := (c19 [0, 1] [0, 1] (by simp [maxLen]) (by simp [maxLen]))) (k := ?_)
 iterate 2 refine evR_p ?_
 iterate 2 refine evR_g ?_
 refine evR_gc (hc := s29_2) (k := ?_)
 iterate 2 refine evR_g ?_
 iterate 2 refine evR_p ?_
 iterate 2 refine evR_g ?_
 iterate 2 refine evR_p ?_
 iterate 2 refine evR_g ?_
 iterate 2 refine evR_p ?_
 refine evR_e hK ?_; clear hK K
 refine hK11 _ ?_
 refine tr_ret ?_
 (try simp only [thenE, inBlkE])
 simp (maxSteps := 4000000) (disch := first | assumption | omega | (simp only [go_sem, *]; done) | (simp only [go_sem, *]; omega)) only [postA, postO, resV1, fzAll, go_sem, hq, Int.reduceToNat, Nat.reduceBEq, Nat.reduceEqDiff, Nat.reduceAdd, Nat.reduceMul, Nat.reduceLeDiff, Nat.reduceLT, Nat.reduceSub, ↓reduceIte, reduceCtorEq]
 all_goals (rfl)
end

section
attribute [local go_sem] encWs_take encSgs_app1 List.replicate_succ List.replicate_zero List.set_cons_zero
set_option maxHeartbeats 4000000 in
theorem k21 (l : List Sg) (hl : l.length ≤ maxLen) (hw : ∀ s ∈ l, s.ws.length ≤ maxLen) : CallsA Try.prog 21 [.sl 4 (encSgs l)] (.sl 4 (encSgs (fewS l))) := by
 unfold maxLen at hl hw
 have hq : True := trivial
 refine callsA_of_tr Try.func21 rfl (Nat.le_of_ble_eq_true rfl) ?_
 simp only [Try.results21, envOf, Nat.reduceAdd]
 refine tr_seq fun K1 hK1 => ?_
 refine tr_region [0] rfl rfl fun K hK => ?_
 refine evR_p ?_
 refine evR_e hK ?_; clear hK K
 refine hK1 _ ?_
 refine tr_seq fun K2 hK2 => ?_
 refine tr_region [0, 3] rfl rfl fun K hK => ?_
 refine evR_p ?_
 refine evR_e hK ?_; clear hK K
 refine hK2 _ ?_
 refine tr_seq fun K3 hK3 => ?_
 refine tr_seq fun K4 hK4 => ?_
 refine tr_region [0, 3, 4] rfl rfl fun K hK => ?_
 refine evR_p ?_
 refine evR_e hK ?_; clear hK K
 refine hK4 _ ?_
 refine tr_block ?_
 -- loop 1: live [0, 3, 4]
 refine tr_loopW (fun m σ => ∃ i : Nat, i + m = min l.length 40 ∧ σ = ⟨[(0, .sl 4 (encSgs l)), (3, .own 0), (4, .int .i64 (i : Nat))], [(0, .row 54 4 (encSgs ((l.take i).map (cutS 9))))], 1⟩) (min l.length 40) ?_ ?_
 ·
  exact ⟨_, Wk.nilslot 54 4 3 rfl, 0, by omega, rfl⟩
 ·
  rintro m σ ⟨i, hi, rfl⟩ KL1 hKL1
  refine tr_seq fun K5 hK5 => ?_
  refine tr_seq fun K6 hK6 => ?_
  refine tr_region [0, 3, 4, 13] rfl rfl fun K hK => ?_
  iterate 5 refine evR_p ?_
  iterate 2 refine evR_g ?_
  refine evR_p ?_
  refine evR_e hK ?_; clear hK K
  refine hK6 _ ?_
  refine tr_condB (fun ht1 => ?_) (fun ht1 => ?_)
  ·
   skip
   have hil : i < l.length := by omega
   have hwi := hw _ (getD_mem (d := sg0) hil)
   have hmc := minV_range (l.getD i sg0).ws.length 9 (by omega)
   have htc : (l.getD i sg0).ws.take (minV ((l.getD i sg0).ws.length : Int) 9).toNat = (l.getD i sg0).ws.take 9 := take_min _ 9
   have hcl : ((l.take i).map (cutS 9)).length = i := by simp; omega
   replace hq := And.intro hq (And.intro hil (And.intro hmc (And.intro htc (hcl))))
   refine tr_skip ?_
   (try simp only [thenE, inBlkE])
   refine hK5 _ ?_
   refine tr_seq fun K7 hK7 => ?_
   refine tr_block ?_
   refine tr_seq fun K8 hK8 => ?_
   refine tr_region [0, 3, 4, 5] rfl rfl fun K hK => ?_
   iterate 6 refine evR_p ?_
   refine evR_e hK ?_; clear hK K
   refine hK8 _ ?_
   refine tr_seq fun K9 hK9 => ?_
   refine tr_region [0, 3, 4, 5] rfl rfl fun K hK => ?_
   iterate 9 refine evR_p ?_
   refine evR_e hK ?_; clear hK K
   refine hK9 _ ?_
   refine tr_region [0, 3, 4] rfl rfl fun K hK => ?_
   iterate 2 refine evR_p ?_
   refine evR_bs ?_
   iterate 2 refine evR_p ?_
   refine evR_e hK ?_; clear hK K
   refine hK7 _ ?_
   refine tr_region [0, 3, 4] rfl rfl fun K hK => ?_
   iterate 3 refine evR_p ?_
   refine evR_e hK ?_; clear hK K
   refine hKL1 _ ?_
   exact ⟨m - 1, _, by omega, (Wk.trans (Wk.ren 2 0 (Nat.le_of_ble_eq_true rfl) (Nat.le_of_ble_eq_true rfl) (by simp [St.noSt, St.ren, St.cutOK, St.cut, AObj.no, AObj.upto, AObj.ren, V.no, V.upto, V.ren, V.noL, V.uptoL, V.renL, cellsI_uptoL, encSg, encW])) (Wk.cut 1 (by simp [St.noSt, St.ren, St.cutOK, St.cut, AObj.no, AObj.upto, AObj.ren, V.no, V.upto, V.ren, V.noL, V.uptoL, V.renL, cellsI_uptoL, encSg, encW]))), i + 1, by omega, by rw [w64 (x := (i : Int) + 1) (by omega), cutS_succ 9 hil]; rfl⟩
  ·
   skip
   have hil : i = min l.length 40 := by omega
   subst hil
   refine tr_exit ?_
   simp only [thenE, inBlkE, Nat.reduceEqDiff, ↓reduceIte]
   refine hK3 _ ?_
   refine tr_seq fun K10 hK10 => ?_
   refine tr_region [2] rfl rfl fun K hK => ?_
   iterate 2 refine evR_p ?_
   refine evR_e hK ?_; clear hK K
   refine hK10 _ ?_
   refine tr_ret ?_
   (try simp only [thenE, inBlkE])
   simp (maxSteps := 4000000) (disch := first | assumption | omega | (simp only [go_sem, *]; done) | (simp only [go_sem, *]; omega)) only [postA, postO, resV1, fzAll, go_sem, hq, Int.reduceToNat, Nat.reduceBEq, Nat.reduceEqDiff, Nat.reduceAdd, Nat.reduceMul, Nat.reduceLeDiff, Nat.reduceLT, Nat.reduceSub, ↓reduceIte, reduceCtorEq]
   all_goals ((rw [fewS_min]; done))
end

section
attribute [local go_sem] encSol2 cellsI_fzL List.replicate_zero encT_length cellsI_length cellsI_getD cellsI_sc cellsI_cl cellsI_winT cellsI_take encSos_length encPfs_length encSos_getD encPfs_getD cellsI_getD cellsI_dropD cellsI_winT cellsI_take cellsI_fzL List.drop_zero List.replicate_succ List.set_cons_zero List.set_cons_succ
set_option maxHeartbeats 32000000 in
theorem k5 (a : Int) (x y : List T3) (g : List Int) (ha : okI a) (hxl : x.length ≤ maxLen) (hx : ∀ t ∈ x, okT t) (hyl : y.length ≤ maxLen) (hy : ∀ t ∈ y, okT t) (hgl : g.length = 8) (hg : ∀ c ∈ g, okI c) (za zb : List Int) (hza : za.length = 4) (hzb : zb.length = 4) (hka : ∀ c ∈ za, okI c) (hkb : ∀ c ∈ zb, okI c) (st : List Sg) (hst : st.length ≤ maxLen) (hsw : ∀ s ∈ st, s.ws.length ≤ maxLen) (n : Int) : CallsA Try.prog 5 [.int .i64 a, .sl 3 (encT x), .sl 3 (encT y), .agg (cellsI g), .agg (cellsI za ++ cellsI zb), .sl 4 (encSgs st), .int .i64 n] (.bool true) := by
 obtain ⟨M, hM⟩ : ∃ M, madeW a x g = M := ⟨_, rfl⟩
 have hv : validB M = true := hM ▸ made_valid ha hx hg
 have hr8 : M.rows.length ≤ 8 := hM ▸ made_rows a x g
 have hc11 := c11 a x g ha hxl hgl
 rw [hM] at hc11
 obtain ⟨q0, q1, q2, q3, q4, q5⟩ := validB_all hv
 have hpM := okPr_valid hv
 have hfM := okPf_prf hv
 have hc11y := c11 a y g ha hyl hgl
 have hvy : validB (madeW a y g) = true := made_valid ha hy hg
 obtain ⟨Y, hY⟩ : ∃ Y, madeW a y g = Y := ⟨_, rfl⟩
 rw [hY] at hc11y hvy
 obtain ⟨zq, hz1, hqz, hq1, hq2⟩ := zz_take hza hzb
 rw [hz1]
 have hch := (choice_max hv).2
 obtain ⟨PL, hPL⟩ : ∃ PL, [M, Y] = PL := ⟨_, rfl⟩
 have hPl : encSos [M, Y] = encSos PL := by rw [hPL]
 have hPn : PL.length = 2 := by rw [← hPL]; rfl
 have hPv : ∀ i, i < 2 → validB (PL.getD i pg0) = true := fun i hi => by
  rw [← hPL]
  match i, hi with
  | 0, _ => exact hv
  | 1, _ => exact hvy
 have hq := And.intro hgl (And.intro hqz (And.intro hq1 (And.intro hq2 (hPl))))
 refine callsA_of_tr Try.func5 rfl (Nat.le_of_ble_eq_true rfl) ?_
 simp only [Try.results5, envOf, Nat.reduceAdd]
 refine tr_seq fun K1 hK1 => ?_
 refine tr_region [0, 1, 2, 5, 6, 10, 11] rfl rfl fun K hK => ?_
 iterate 3 refine evR_p ?_
 refine evR_e hK ?_; clear hK K
 refine hK1 _ ?_
 refine tr_seq fun K2 hK2 => ?_
 refine tr_region [0, 1, 2, 5, 6, 10, 11, 15] rfl rfl fun K hK => ?_
 refine evR_c (hc := k16) (k := ?_)
 refine evR_p ?_
 refine evR_e hK ?_; clear hK K
 refine hK2 _ ?_
 refine tr_seq fun K3 hK3 => ?_
 refine tr_seq fun K4 hK4 => ?_
 refine tr_region [0, 1, 2, 5, 6, 10, 11, 15, 33] rfl rfl fun K hK => ?_
 iterate 2 refine evR_p ?_
 refine evR_e hK ?_; clear hK K
 refine hK4 _ ?_
 refine tr_condB (fun ht1 => ?_) (fun ht1 => ?_)
 ·
  skip
  (first | (exfalso; omega) | (exfalso; simp_all; done) | skip)
  all_goals
   refine tr_seq fun K5 hK5 => ?_
   refine tr_region [14] rfl rfl fun K hK => ?_
   refine evR_p ?_
   refine evR_e hK ?_; clear hK K
   refine hK5 _ ?_
   refine tr_ret ?_
   (try simp only [thenE, inBlkE])
   simp (maxSteps := 4000000) (disch := first | assumption | omega | (simp only [go_sem, *]; done) | (simp only [go_sem, *]; omega)) only [postA, postO, resV1, fzAll, go_sem, hq, Int.reduceToNat, Nat.reduceBEq, Nat.reduceEqDiff, Nat.reduceAdd, Nat.reduceMul, Nat.reduceLeDiff, Nat.reduceLT, Nat.reduceSub, ↓reduceIte, reduceCtorEq]
   all_goals (rfl)
 ·
  skip
  (first | (exfalso; omega) | (exfalso; simp_all; done) | skip)
  all_goals
   refine tr_skip ?_
   (try simp only [thenE, inBlkE])
   refine hK3 _ ?_
   refine tr_seq fun K6 hK6 => ?_
   refine tr_region [0, 2, 5, 6, 10, 11, 15, 16] rfl rfl fun K hK => ?_
   iterate 3 refine evR_p ?_
   refine evR_c (hc := hc11) (k := ?_)
   iterate 2 refine evR_p ?_
   refine evR_e hK ?_; clear hK K
   refine hK6 _ ?_
   refine tr_seq fun K7 hK7 => ?_
   refine tr_region [0, 2, 5, 6, 10, 11, 15, 16, 17, 18] rfl rfl fun K hK => ?_
   refine evR_p ?_
   refine evR_c (hc := (s18 hv)) (k := ?_)
   iterate 6 refine evR_p ?_
   refine evR_e hK ?_; clear hK K
   refine hK7 _ ?_
   refine tr_seq fun K8 hK8 => ?_
   refine tr_region [5, 6, 11, 15, 16, 17, 18, 19, 20] rfl rfl fun K hK => ?_
   iterate 3 refine evR_p ?_
   refine evR_c (hc := hc11y) (k := ?_)
   refine evR_c (hc := (s18 hvy)) (k := ?_)
   iterate 6 refine evR_p ?_
   refine evR_e hK ?_; clear hK K
   refine hK8 _ ?_
   refine tr_seq fun K9 hK9 => ?_
   refine tr_region [5, 6, 11, 15, 16, 17, 18, 19, 20, 21, 22] rfl rfl fun K hK => ?_
   refine evR_p ?_
   refine evR_c (hc := (c16 M hpM.r hpM.g hpM.c hv)) (k := ?_)
   iterate 5 refine evR_p ?_
   refine evR_e hK ?_; clear hK K
   refine hK9 _ ?_
   refine tr_seq fun K10 hK10 => ?_
   refine tr_seq fun K11 hK11 => ?_
   refine tr_region [5, 6, 11, 15, 16, 17, 19, 21, 65] rfl rfl fun K hK => ?_
   iterate 3 refine evR_p ?_
   iterate 2 refine evR_g ?_
   iterate 2 refine evR_p ?_
   iterate 2 refine evR_g ?_
   refine evR_p ?_
   refine evR_e hK ?_; clear hK K
   refine hK11 _ ?_
   refine tr_condB (fun ht2 => ?_) (fun ht2 => ?_)
   ·
    skip
    (first | (exfalso; omega) | (exfalso; simp_all; done) | skip)
    all_goals
     refine tr_seq fun K12 hK12 => ?_
     refine tr_region [14] rfl rfl fun K hK => ?_
     refine evR_p ?_
     refine evR_e hK ?_; clear hK K
     refine hK12 _ ?_
     refine tr_ret ?_
     (try simp only [thenE, inBlkE])
     simp (maxSteps := 4000000) (disch := first | assumption | omega | (simp only [go_sem, *]; done) | (simp only [go_sem, *]; omega)) only [postA, postO, resV1, fzAll, go_sem, hq, Int.reduceToNat, Nat.reduceBEq, Nat.reduceEqDiff, Nat.reduceAdd, Nat.reduceMul, Nat.reduceLeDiff, Nat.reduceLT, Nat.reduceSub, ↓reduceIte, reduceCtorEq]
     all_goals (rfl)
   ·
    skip
    (first | (exfalso; omega) | (exfalso; simp_all; done) | skip)
    all_goals
     refine tr_skip ?_
     (try simp only [thenE, inBlkE])
     refine hK10 _ ?_
     refine tr_seq fun K13 hK13 => ?_
     refine tr_seq fun K14 hK14 => ?_
     refine tr_region [5, 6, 11, 15, 16, 21, 68, 69, 70] rfl rfl fun K hK => ?_
     iterate 2 refine evR_p ?_
     refine evR_bs ?_
     iterate 2 refine evR_p ?_
     refine evR_e hK ?_; clear hK K
     refine hK14 _ ?_
     refine tr_block ?_
     -- loop 1: live [5, 6, 11, 15, 16, 21, 68, 69, 70]
     refine tr_loopW (fun m σ => ∃ i : Nat, i + m = 2 ∧ σ = ⟨[(5, .sl 4 (encSgs st)), (6, .int .i64 n), (11, .ptr 1 0), (15, .bool true), (16, .ptr 2 0), (21, .sl 1 (encI (choiceL M))), (68, .sl 4 (encSos PL)), (69, .int .i64 2), (70, .int .i64 (i : Nat))], [(2, .cells [.int .i64 M.vars, .sl 6 (encR M.rows), .sl 1 (encI M.gain)]), (1, .cells (cellsI zq))], 3⟩) (2) ?_ ?_
     ·
      exact ⟨_, Wk.trans (Wk.drop (fun k => k == 1 || k == 2)) (Wk.cut 3 (by simp [St.cutOK, AObj.upto, V.upto, V.uptoL, cellsI_uptoL, List.all_cons, List.all_nil, List.filter_cons, List.filter_nil, Nat.blt_eq, Nat.reduceLT, Nat.lt_irrefl, decide_true, decide_false, Bool.and_self, Bool.and_true, Bool.true_and, if_true, if_false, ↓reduceIte, Bool.false_eq_true, encSg, encW, cellsI_uptoL])), 0, by omega, by first | rfl | (rw [← hPl]; rfl)⟩
     ·
      rintro m σ ⟨i, hi, rfl⟩ KL1 hKL1
      refine tr_seq fun K15 hK15 => ?_
      refine tr_region [5, 6, 11, 15, 16, 21, 68, 69, 70, 71] rfl rfl fun K hK => ?_
      refine evR_p ?_
      refine evR_e hK ?_; clear hK K
      refine hK15 _ ?_
      refine tr_seq fun K16 hK16 => ?_
      refine tr_condB (fun ht3 => ?_) (fun ht3 => ?_)
      ·
       skip
       (first | (exfalso; omega) | (exfalso; simp_all; done) | skip)
       all_goals
        have hil : i < PL.length := by omega
        have hvP := hPv i (by omega)
        obtain ⟨P, hP⟩ : ∃ P, PL.getD i pg0 = P := ⟨_, rfl⟩
        rw [hP] at hvP
        have hpl := prf_len hvP
        have hp0 := prf_ws P
        have hp1 : (prfS P).length ≤ 100000 := by omega
        have hp2 : ∀ s ∈ prfS P, s.ws.length ≤ 100000 := fun s hs => by have := hp0 s hs; omega
        have hp3 : (bentW (prfS P) za).length ≤ 100000 := by have := bentW_len (l := prfS P) (z := za); omega
        have hp4 : ∀ s ∈ bentW (prfS P) za, s.ws.length ≤ 100000 := fun s hs => by have := bentW_ws (z := za) hp0 s hs; omega
        have hQ0 := pfs_ok hvP za zb st
        obtain ⟨QL, hQL⟩ : ∃ QL, [prfS P, bentW (prfS P) za, bentW (bentW (prfS P) za) zb, fewS st] = QL := ⟨_, rfl⟩
        have hQl : encPfs [prfS P, bentW (prfS P) za, bentW (bentW (prfS P) za) zb, fewS st] = encPfs QL := by rw [hQL]
        have hQn : QL.length = 4 := by rw [← hQL]; rfl
        rw [hQL] at hQ0
        replace hq := And.intro hq (And.intro hil (hP))
        refine tr_skip ?_
        (try simp only [thenE, inBlkE])
        refine hK16 _ ?_
        refine tr_seq fun K17 hK17 => ?_
        refine tr_block ?_
        refine tr_seq fun K18 hK18 => ?_
        refine tr_region [5, 6, 11, 15, 16, 21, 24, 68, 69, 70] rfl rfl fun K hK => ?_
        iterate 4 refine evR_p ?_
        refine evR_e hK ?_; clear hK K
        refine hK18 _ ?_
        refine tr_seq fun K19 hK19 => ?_
        refine tr_region [5, 6, 11, 15, 16, 21, 24, 25, 68, 69, 70] rfl rfl fun K hK => ?_
        iterate 4 refine evR_p ?_
        refine evR_c (hc := (k19 (prfS P) hp1 hp2 za hza hka)) (k := ?_)
        refine evR_p ?_
        refine evR_e hK ?_; clear hK K
        refine hK19 _ ?_
        refine tr_seq fun K20 hK20 => ?_
        refine tr_draw [88] [5, 6, 11, 15, 16, 21, 24, 68, 69, 70, 88, 89, 90] mixed rfl (by kernel_rfl) rfl fun K hK => ?_
        iterate 6 refine evD_p ?_
        refine evD_c (hc := (k19 (bentW (prfS P) za) hp3 hp4 zb hzb hkb)) (k := ?_)
        refine evD_p ?_
        refine evD_c (hc := (k21 st hst hsw)) (k := ?_)
        refine evD_bs ?_
        iterate 2 refine evD_p ?_
        refine evD_e hK ?_; clear hK K
        refine hK20 _ ?_
        refine tr_block ?_
        -- loop 2: live [5, 6, 11, 15, 16, 21, 24, 68, 69, 70, 88, 89, 90]
        refine tr_loopW (fun m σ => ∃ j : Nat, j + m = 4 ∧ σ = ⟨[(5, .sl 4 (encSgs st)), (6, .int .i64 n), (11, .ptr 1 0), (15, .bool true), (16, .ptr 2 0), (21, .sl 1 (encI (choiceL M))), (24, .ptr 3 0), (68, .sl 4 (encSos PL)), (69, .int .i64 2), (70, .int .i64 (i : Nat)), (88, .sl 1 (encPfs QL)), (89, .int .i64 4), (90, .int .i64 (j : Nat))], [(3, .cells [.bool (solveW P).found, .int .i64 (solveW P).set, .int .i64 (solveW P).gain, .sl 4 (encSgs (prfS P))]), (2, .cells [.int .i64 M.vars, .sl 6 (encR M.rows), .sl 1 (encI M.gain)]), (1, .cells (cellsI zq))], 4⟩) (4) ?_ ?_
        ·
         exact ⟨_, Wk.refl _, 0, by omega, by first | rfl | (rw [← hQl]; rfl)⟩
        ·
         rintro m2 σ ⟨j, hj, rfl⟩ KL2 hKL2
         refine tr_seq fun K21 hK21 => ?_
         refine tr_region [5, 6, 11, 15, 16, 21, 24, 68, 69, 70, 88, 89, 90, 91] rfl rfl fun K hK => ?_
         refine evR_p ?_
         refine evR_e hK ?_; clear hK K
         refine hK21 _ ?_
         refine tr_seq fun K22 hK22 => ?_
         refine tr_condB (fun ht4 => ?_) (fun ht4 => ?_)
         ·
          skip
          (first | (exfalso; omega) | (exfalso; simp_all; done) | skip)
          all_goals
           have hjl : j < QL.length := by omega
           have hfQ := hQ0 j (by omega)
           obtain ⟨Q, hQ⟩ : ∃ Q, QL.getD j [] = Q := ⟨_, rfl⟩
           rw [hQ] at hfQ
           have hnr : ¬ (refutesW M Q = true ∧ 0 < ((choiceL M).length : Int)) := fun h => by have := sound_ref hv h.1; omega
           obtain ⟨ML, hML⟩ : ∃ ML, [(solveW P).gain, IntKind.i64.wrap (IntKind.i64.wrap ((solveW P).gain + pickW n 20) - 10)] = ML := ⟨_, rfl⟩
           have hMn : ML.length = 2 := by rw [← hML]; rfl
           have hMl : encI [(solveW P).gain, IntKind.i64.wrap (IntKind.i64.wrap ((solveW P).gain + pickW n 20) - 10)] = encI ML := by rw [hML]
           replace hq := And.intro hq (And.intro hjl (hQ))
           refine tr_skip ?_
           (try simp only [thenE, inBlkE])
           refine hK22 _ ?_
           refine tr_seq fun K23 hK23 => ?_
           refine tr_block ?_
           refine tr_seq fun K24 hK24 => ?_
           refine tr_region [5, 6, 11, 15, 16, 21, 24, 27, 68, 69, 70, 88, 89, 90] rfl rfl fun K hK => ?_
           iterate 3 refine evR_p ?_
           refine evR_e hK ?_; clear hK K
           refine hK24 _ ?_
           refine tr_seq fun K25 hK25 => ?_
           refine tr_seq fun K26 hK26 => ?_
           refine tr_region [5, 6, 11, 15, 16, 21, 24, 27, 68, 69, 70, 88, 89, 90, 101] rfl rfl fun K hK => ?_
           iterate 2 refine evR_p ?_
           refine evR_c (hc := (s24 hpM hfQ)) (k := ?_)
           refine evR_p ?_
           iterate 3 refine evR_g ?_
           refine evR_p ?_
           refine evR_e hK ?_; clear hK K
           refine hK26 _ ?_
           refine tr_condB (fun ht5 => ?_) (fun ht5 => ?_)
           ·
            skip
            (first | (exfalso; omega) | (exfalso; simp_all; done) | skip)
            all_goals
             refine tr_seq fun K27 hK27 => ?_
             refine tr_region [14] rfl rfl fun K hK => ?_
             refine evR_p ?_
             refine evR_e hK ?_; clear hK K
             refine hK27 _ ?_
             refine tr_ret ?_
             (try simp only [thenE, inBlkE])
             simp (maxSteps := 4000000) (disch := first | assumption | omega | (simp only [go_sem, *]; done) | (simp only [go_sem, *]; omega)) only [postA, postO, resV1, fzAll, go_sem, hq, Int.reduceToNat, Nat.reduceBEq, Nat.reduceEqDiff, Nat.reduceAdd, Nat.reduceMul, Nat.reduceLeDiff, Nat.reduceLT, Nat.reduceSub, ↓reduceIte, reduceCtorEq]
             all_goals (rfl)
           ·
            skip
            (first | (exfalso; omega) | (exfalso; simp_all; done) | skip)
            all_goals
             refine tr_skip ?_
             (try simp only [thenE, inBlkE])
             refine hK25 _ ?_
             refine tr_seq fun K28 hK28 => ?_
             refine tr_draw [110] [5, 6, 11, 15, 16, 21, 24, 27, 68, 69, 70, 88, 89, 90, 110, 111, 112] mixed rfl (by kernel_rfl) rfl fun K hK => ?_
             iterate 5 refine evD_p ?_
             refine evD_c (hc := (c12 n 20 (by decide))) (k := ?_)
             iterate 2 refine evD_p ?_
             refine evD_bs ?_
             iterate 2 refine evD_p ?_
             refine evD_e hK ?_; clear hK K
             refine hK28 _ ?_
             refine tr_block ?_
             -- loop 3: live [5, 6, 11, 15, 16, 21, 24, 27, 68, 69, 70, 88, 89, 90, 110, 111, 112]
             refine tr_loopW (fun m σ => ∃ k : Nat, k + m = 2 ∧ σ = ⟨[(5, .sl 4 (encSgs st)), (6, .int .i64 n), (11, .ptr 1 0), (15, .bool true), (16, .ptr 2 0), (21, .sl 1 (encI (choiceL M))), (24, .ptr 3 0), (27, .sl 4 (encSgs Q)), (68, .sl 4 (encSos PL)), (69, .int .i64 2), (70, .int .i64 (i : Nat)), (88, .sl 1 (encPfs QL)), (89, .int .i64 4), (90, .int .i64 (j : Nat)), (110, .sl 1 (encI ML)), (111, .int .i64 2), (112, .int .i64 (k : Nat))], [(3, .cells [.bool (solveW P).found, .int .i64 (solveW P).set, .int .i64 (solveW P).gain, .sl 4 (encSgs (prfS P))]), (2, .cells [.int .i64 M.vars, .sl 6 (encR M.rows), .sl 1 (encI M.gain)]), (1, .cells (cellsI zq))], 4⟩) (2) ?_ ?_
             ·
              exact ⟨_, Wk.refl _, 0, by omega, by first | rfl | (rw [← hMl]; rfl)⟩
             ·
              rintro m3 σ ⟨k, hk, rfl⟩ KL3 hKL3
              refine tr_seq fun K29 hK29 => ?_
              refine tr_region [5, 6, 11, 15, 16, 21, 24, 27, 68, 69, 70, 88, 89, 90, 110, 111, 112, 113] rfl rfl fun K hK => ?_
              refine evR_p ?_
              refine evR_e hK ?_; clear hK K
              refine hK29 _ ?_
              refine tr_seq fun K30 hK30 => ?_
              refine tr_condB (fun ht6 => ?_) (fun ht6 => ?_)
              ·
               skip
               (first | (exfalso; omega) | (exfalso; simp_all; done) | skip)
               all_goals
                have hkl : k < ML.length := by omega
                obtain ⟨mm, hmm⟩ : ∃ mm, ML.getD k 0 = mm := ⟨_, rfl⟩
                have hbd := fun h => sound_bnd hv (l := Q) (g := mm) h
                replace hq := And.intro hq (And.intro hkl (hmm))
                refine tr_skip ?_
                (try simp only [thenE, inBlkE])
                refine hK30 _ ?_
                refine tr_seq fun K31 hK31 => ?_
                refine tr_block ?_
                refine tr_seq fun K32 hK32 => ?_
                refine tr_region [5, 6, 11, 15, 16, 21, 24, 27, 29, 68, 69, 70, 88, 89, 90, 110, 111, 112] rfl rfl fun K hK => ?_
                iterate 3 refine evR_p ?_
                refine evR_e hK ?_; clear hK K
                refine hK32 _ ?_
                refine tr_seq fun K33 hK33 => ?_
                refine tr_seq fun K34 hK34 => ?_
                refine tr_region [5, 6, 11, 15, 16, 21, 24, 27, 29, 68, 69, 70, 88, 89, 90, 110, 111, 112, 120] rfl rfl fun K hK => ?_
                iterate 3 refine evR_p ?_
                refine evR_c (hc := (s32 hpM hfQ _)) (k := ?_)
                refine evR_p ?_
                refine evR_e hK ?_; clear hK K
                refine hK34 _ ?_
                refine tr_condB (fun ht7 => ?_) (fun ht7 => ?_)
                ·
                 skip
                 (first | (exfalso; omega) | (exfalso; simp_all; done) | skip)
                 all_goals
                  refine tr_exit ?_
                  simp only [thenE, inBlkE, Nat.reduceEqDiff, ↓reduceIte]
                  refine hK31 _ ?_
                  refine tr_region [5, 6, 11, 15, 16, 21, 24, 27, 68, 69, 70, 88, 89, 90, 110, 111, 112] rfl rfl fun K hK => ?_
                  iterate 2 refine evR_p ?_
                  refine evR_e hK ?_; clear hK K
                  refine hKL3 _ ?_
                  exact ⟨m3 - 1, _, by omega, Wk.refl _, k + 1, by omega, by rw [w64 (x := (k : Int) + 1) (by omega)]; rfl⟩
                ·
                 skip
                 (first | (exfalso; omega) | (exfalso; simp_all; done) | skip)
                 all_goals
                  refine tr_skip ?_
                  (try simp only [thenE, inBlkE])
                  refine hK33 _ ?_
                  refine tr_seq fun K35 hK35 => ?_
                  refine tr_region [5, 6, 11, 15, 16, 21, 24, 27, 29, 30, 68, 69, 70, 88, 89, 90, 110, 111, 112] rfl rfl fun K hK => ?_
                  refine evR_p ?_
                  refine evR_e hK ?_; clear hK K
                  refine hK35 _ ?_
                  refine tr_block ?_
                  -- loop 4: live [5, 6, 11, 15, 16, 21, 24, 27, 29, 30, 68, 69, 70, 88, 89, 90, 110, 111, 112]
                  refine tr_loopW (fun m σ => ∃ c : Nat, c + m = (choiceL M).length ∧ σ = ⟨[(5, .sl 4 (encSgs st)), (6, .int .i64 n), (11, .ptr 1 0), (15, .bool true), (16, .ptr 2 0), (21, .sl 1 (encI (choiceL M))), (24, .ptr 3 0), (27, .sl 4 (encSgs Q)), (29, .int .i64 mm), (30, .int .i64 (c : Nat)), (68, .sl 4 (encSos PL)), (69, .int .i64 2), (70, .int .i64 (i : Nat)), (88, .sl 1 (encPfs QL)), (89, .int .i64 4), (90, .int .i64 (j : Nat)), (110, .sl 1 (encI ML)), (111, .int .i64 2), (112, .int .i64 (k : Nat))], [(3, .cells [.bool (solveW P).found, .int .i64 (solveW P).set, .int .i64 (solveW P).gain, .sl 4 (encSgs (prfS P))]), (2, .cells [.int .i64 M.vars, .sl 6 (encR M.rows), .sl 1 (encI M.gain)]), (1, .cells (cellsI zq))], 4⟩) ((choiceL M).length) ?_ ?_
                  ·
                   exact ⟨_, Wk.refl _, 0, by omega, rfl⟩
                  ·
                   rintro m4 σ ⟨c, hc, rfl⟩ KL4 hKL4
                   refine tr_seq fun K36 hK36 => ?_
                   refine tr_seq fun K37 hK37 => ?_
                   refine tr_region [5, 6, 11, 15, 16, 21, 24, 27, 29, 30, 68, 69, 70, 88, 89, 90, 110, 111, 112, 124] rfl rfl fun K hK => ?_
                   iterate 4 refine evR_p ?_
                   refine evR_e hK ?_; clear hK K
                   refine hK37 _ ?_
                   refine tr_condB (fun ht8 => ?_) (fun ht8 => ?_)
                   ·
                    skip
                    (first | (exfalso; omega) | (exfalso; simp_all; done) | skip)
                    all_goals
                     have hcl : c < (choiceL M).length := by omega
                     have hgm := hbd (by first | exact ht7 | (simpa using ht7)) _ (getD_mem (d := 0) hcl)
                     replace hq := And.intro hq (hcl)
                     refine tr_skip ?_
                     (try simp only [thenE, inBlkE])
                     refine hK36 _ ?_
                     refine tr_seq fun K38 hK38 => ?_
                     refine tr_block ?_
                     refine tr_seq fun K39 hK39 => ?_
                     refine tr_draw [] [5, 6, 11, 15, 16, 21, 24, 27, 29, 30, 68, 69, 70, 88, 89, 90, 110, 111, 112, 134] mixed rfl (by kernel_rfl) rfl fun K hK => ?_
                     iterate 5 refine evD_p ?_
                     refine evD_c (hc := (c24 M hpM.r hpM.g hpM.c _)) (k := ?_)
                     iterate 2 refine evD_p ?_
                     refine evD_e hK ?_; clear hK K
                     refine hK39 _ ?_
                     refine tr_condB (fun ht9 => ?_) (fun ht9 => ?_)
                     ·
                      skip
                      (first | (exfalso; omega) | (exfalso; simp_all; done) | skip)
                      all_goals
                       refine tr_seq fun K40 hK40 => ?_
                       refine tr_region [14] rfl rfl fun K hK => ?_
                       refine evR_p ?_
                       refine evR_e hK ?_; clear hK K
                       refine hK40 _ ?_
                       refine tr_ret ?_
                       (try simp only [thenE, inBlkE])
                       simp (maxSteps := 4000000) (disch := first | assumption | omega | (simp only [go_sem, *]; done) | (simp only [go_sem, *]; omega)) only [postA, postO, resV1, fzAll, go_sem, hq, Int.reduceToNat, Nat.reduceBEq, Nat.reduceEqDiff, Nat.reduceAdd, Nat.reduceMul, Nat.reduceLeDiff, Nat.reduceLT, Nat.reduceSub, ↓reduceIte, reduceCtorEq]
                       all_goals (rfl)
                     ·
                      skip
                      (first | (exfalso; omega) | (exfalso; simp_all; done) | skip)
                      all_goals
                       refine tr_skip ?_
                       (try simp only [thenE, inBlkE])
                       refine hK38 _ ?_
                       refine tr_region [5, 6, 11, 15, 16, 21, 24, 27, 29, 30, 68, 69, 70, 88, 89, 90, 110, 111, 112] rfl rfl fun K hK => ?_
                       iterate 3 refine evR_p ?_
                       refine evR_e hK ?_; clear hK K
                       refine hKL4 _ ?_
                       exact ⟨m4 - 1, _, by omega, Wk.refl _, c + 1, by omega, by rw [w64 (x := (c : Int) + 1) (by omega)]; rfl⟩
                   ·
                    skip
                    (first | (exfalso; omega) | (exfalso; simp_all; done) | skip)
                    all_goals
                     have hcl : c = (choiceL M).length := by omega
                     subst hcl
                     refine tr_exit ?_
                     simp only [thenE, inBlkE, Nat.reduceEqDiff, ↓reduceIte]
                     refine hK31 _ ?_
                     refine tr_region [5, 6, 11, 15, 16, 21, 24, 27, 68, 69, 70, 88, 89, 90, 110, 111, 112] rfl rfl fun K hK => ?_
                     iterate 2 refine evR_p ?_
                     refine evR_e hK ?_; clear hK K
                     refine hKL3 _ ?_
                     exact ⟨m3 - 1, _, by omega, Wk.refl _, k + 1, by omega, by rw [w64 (x := (k : Int) + 1) (by omega)]; rfl⟩
              ·
               skip
               (first | (exfalso; omega) | (exfalso; simp_all; done) | skip)
               all_goals
                have hkl : k = 2 := by omega
                subst hkl
                refine tr_exit ?_
                simp only [thenE, inBlkE, Nat.reduceEqDiff, ↓reduceIte]
                refine hK23 _ ?_
                refine tr_region [5, 6, 11, 15, 16, 21, 24, 68, 69, 70, 88, 89, 90] rfl rfl fun K hK => ?_
                iterate 2 refine evR_p ?_
                refine evR_e hK ?_; clear hK K
                refine hKL2 _ ?_
                exact ⟨m2 - 1, _, by omega, Wk.refl _, j + 1, by omega, by rw [w64 (x := (j : Int) + 1) (by omega)]; rfl⟩
         ·
          skip
          (first | (exfalso; omega) | (exfalso; simp_all; done) | skip)
          all_goals
           have hjl : j = 4 := by omega
           subst hjl
           refine tr_exit ?_
           simp only [thenE, inBlkE, Nat.reduceEqDiff, ↓reduceIte]
           refine hK17 _ ?_
           refine tr_region [5, 6, 11, 15, 16, 21, 68, 69, 70] rfl rfl fun K hK => ?_
           iterate 2 refine evR_p ?_
           refine evR_e hK ?_; clear hK K
           refine hKL1 _ ?_
           exact ⟨m - 1, _, by omega, Wk.cut 3 (by simp [St.cutOK, AObj.upto, V.upto, V.uptoL, cellsI_uptoL, List.all_cons, List.all_nil, List.filter_cons, List.filter_nil, Nat.blt_eq, Nat.reduceLT, Nat.lt_irrefl, decide_true, decide_false, Bool.and_self, Bool.and_true, Bool.true_and, if_true, if_false, ↓reduceIte, Bool.false_eq_true, encSg, encW, cellsI_uptoL]), i + 1, by omega, by rw [w64 (x := (i : Int) + 1) (by omega)]; rfl⟩
      ·
       skip
       (first | (exfalso; omega) | (exfalso; simp_all; done) | skip)
       all_goals
        have hil : i = 2 := by omega
        subst hil
        refine tr_exit ?_
        simp only [thenE, inBlkE, Nat.reduceEqDiff, ↓reduceIte]
        refine hK13 _ ?_
        refine tr_seq fun K41 hK41 => ?_
        refine tr_region [14] rfl rfl fun K hK => ?_
        iterate 2 refine evR_p ?_
        refine evR_e hK ?_; clear hK K
        refine hK41 _ ?_
        refine tr_ret ?_
        (try simp only [thenE, inBlkE])
        simp (maxSteps := 4000000) (disch := first | assumption | omega | (simp only [go_sem, *]; done) | (simp only [go_sem, *]; omega)) only [postA, postO, resV1, fzAll, go_sem, hq, Int.reduceToNat, Nat.reduceBEq, Nat.reduceEqDiff, Nat.reduceAdd, Nat.reduceMul, Nat.reduceLeDiff, Nat.reduceLT, Nat.reduceSub, ↓reduceIte, reduceCtorEq]
        all_goals (rfl)
end

section
attribute [local go_sem] encSol2 cellsI_fzL List.replicate_zero encT_length cellsI_length cellsI_getD cellsI_sc cellsI_cl cellsI_winT cellsI_take encPs_length encPfs_length encPs_getD encPfs_getD cellsI_getD cellsI_dropD cellsI_winT cellsI_take cellsI_fzL List.drop_zero List.replicate_succ List.set_cons_zero List.set_cons_succ
set_option maxHeartbeats 32000000 in
theorem k3 (a : Int) (x : List T3) (g : List Int) (ha : okI a) (hxl : x.length ≤ maxLen) (hx : ∀ t ∈ x, okT t) (hgl : g.length = 8) (hg : ∀ c ∈ g, okI c) (rw : Pg) (hrw : rw.rows.length ≤ maxLen ∧ rw.gain.length ≤ maxLen ∧ ∀ r ∈ rw.rows, r.coef.length ≤ maxLen) (za zb : List Int) (hza : za.length = 4) (hzb : zb.length = 4) (hka : ∀ c ∈ za, okI c) (hkb : ∀ c ∈ zb, okI c) (st : List Sg) (hst : st.length ≤ maxLen) (hsw : ∀ s ∈ st, s.ws.length ≤ maxLen) (n : Int) : CallsA Try.prog 3 [.int .i64 a, .sl 3 (encT x), .agg (cellsI g), .agg (encPg rw), .agg (cellsI za ++ cellsI zb), .sl 4 (encSgs st), .int .i64 n] (.bool true) := by
 obtain ⟨M, hM⟩ : ∃ M, madeW a x g = M := ⟨_, rfl⟩
 have hv : validB M = true := hM ▸ made_valid ha hx hg
 have hr8 : M.rows.length ≤ 8 := hM ▸ made_rows a x g
 have hc11 := c11 a x g ha hxl hgl
 rw [hM] at hc11
 obtain ⟨q0, q1, q2, q3, q4, q5⟩ := validB_all hv
 have hpM := okPr_valid hv
 have hfM := okPf_prf hv
 obtain ⟨zq, hz1, hqz, hq1, hq2⟩ := zz_take hza hzb
 rw [hz1]
 have hpl := prf_len hv
 have hp0 := prf_ws M
 have hp1 : (prfS M).length ≤ 100000 := by omega
 have hp2 : ∀ s ∈ prfS M, s.ws.length ≤ 100000 := fun s hs => by have := hp0 s hs; omega
 have hp3 : (bentW (prfS M) za).length ≤ 100000 := by have := bentW_len (l := prfS M) (z := za); omega
 have hp4 : ∀ s ∈ bentW (prfS M) za, s.ws.length ≤ 100000 := fun s hs => by have := bentW_ws (z := za) hp0 s hs; omega
 obtain ⟨PL, hPL⟩ : ∃ PL, [M, someP rw] = PL := ⟨_, rfl⟩
 have hPl : encPs [M, someP rw] = encPs PL := by rw [hPL]
 have hPn : PL.length = 2 := by rw [← hPL]; rfl
 have hPv : ∀ i, i < 2 → okPr (PL.getD i pg0) := fun i hi => by
  rw [← hPL]
  match i, hi with
  | 0, _ => exact hpM
  | 1, _ => exact okPr_some rw
 have hQ0 := pfs_ok hv za zb st
 obtain ⟨QL, hQL⟩ : ∃ QL, [prfS M, bentW (prfS M) za, bentW (bentW (prfS M) za) zb, fewS st] = QL := ⟨_, rfl⟩
 have hQl : encPfs [prfS M, bentW (prfS M) za, bentW (bentW (prfS M) za) zb, fewS st] = encPfs QL := by rw [hQL]
 have hQn : QL.length = 4 := by rw [← hQL]; rfl
 rw [hQL] at hQ0
 obtain ⟨ML, hML⟩ : ∃ ML, [n, (solveW M).gain, IntKind.i64.wrap (IntKind.i64.wrap ((solveW M).gain + pickW n 7) - 3)] = ML := ⟨_, rfl⟩
 have hMn : ML.length = 3 := by rw [← hML]; rfl
 have hMl : encI [n, (solveW M).gain, IntKind.i64.wrap (IntKind.i64.wrap ((solveW M).gain + pickW n 7) - 3)] = encI ML := by rw [hML]
 have hq := And.intro hgl (And.intro hqz (And.intro hq1 (And.intro hq2 (hPl))))
 refine callsA_of_tr Try.func3 rfl (Nat.le_of_ble_eq_true rfl) ?_
 simp only [Try.results3, envOf, Nat.reduceAdd]
 refine tr_seq fun K1 hK1 => ?_
 refine tr_region [0, 1, 5, 6, 9, 10, 11] rfl rfl fun K hK => ?_
 iterate 4 refine evR_p ?_
 refine evR_e hK ?_; clear hK K
 refine hK1 _ ?_
 refine tr_seq fun K2 hK2 => ?_
 refine tr_region [0, 1, 5, 6, 9, 10, 11, 15] rfl rfl fun K hK => ?_
 refine evR_c (hc := k16) (k := ?_)
 refine evR_p ?_
 refine evR_e hK ?_; clear hK K
 refine hK2 _ ?_
 refine tr_seq fun K3 hK3 => ?_
 refine tr_seq fun K4 hK4 => ?_
 refine tr_region [0, 1, 5, 6, 9, 10, 11, 15, 32] rfl rfl fun K hK => ?_
 iterate 2 refine evR_p ?_
 refine evR_e hK ?_; clear hK K
 refine hK4 _ ?_
 refine tr_condB (fun ht1 => ?_) (fun ht1 => ?_)
 ·
  skip
  (first | (exfalso; omega) | (exfalso; simp_all; done) | skip)
  all_goals
   refine tr_seq fun K5 hK5 => ?_
   refine tr_region [14] rfl rfl fun K hK => ?_
   refine evR_p ?_
   refine evR_e hK ?_; clear hK K
   refine hK5 _ ?_
   refine tr_ret ?_
   (try simp only [thenE, inBlkE])
   simp (maxSteps := 4000000) (disch := first | assumption | omega | (simp only [go_sem, *]; done) | (simp only [go_sem, *]; omega)) only [postA, postO, resV1, fzAll, go_sem, hq, Int.reduceToNat, Nat.reduceBEq, Nat.reduceEqDiff, Nat.reduceAdd, Nat.reduceMul, Nat.reduceLeDiff, Nat.reduceLT, Nat.reduceSub, ↓reduceIte, reduceCtorEq]
   all_goals (rfl)
 ·
  skip
  (first | (exfalso; omega) | (exfalso; simp_all; done) | skip)
  all_goals
   refine tr_skip ?_
   (try simp only [thenE, inBlkE])
   refine hK3 _ ?_
   refine tr_seq fun K6 hK6 => ?_
   refine tr_region [5, 6, 10, 11, 15, 16] rfl rfl fun K hK => ?_
   iterate 3 refine evR_p ?_
   refine evR_c (hc := hc11) (k := ?_)
   iterate 2 refine evR_p ?_
   refine evR_e hK ?_; clear hK K
   refine hK6 _ ?_
   refine tr_seq fun K7 hK7 => ?_
   refine tr_region [5, 6, 10, 11, 15, 16, 17, 18] rfl rfl fun K hK => ?_
   refine evR_p ?_
   refine evR_c (hc := (s18 hv)) (k := ?_)
   iterate 6 refine evR_p ?_
   refine evR_e hK ?_; clear hK K
   refine hK7 _ ?_
   refine tr_seq fun K8 hK8 => ?_
   refine tr_seq fun K9 hK9 => ?_
   refine tr_region [5, 6, 10, 11, 15, 16, 17, 43] rfl rfl fun K hK => ?_
   iterate 2 refine evR_p ?_
   refine evR_e hK ?_; clear hK K
   refine hK9 _ ?_
   refine tr_condB (fun ht2 => ?_) (fun ht2 => ?_)
   ·
    skip
    (first | (exfalso; omega) | (exfalso; simp_all; done) | skip)
    all_goals
     refine tr_seq fun K10 hK10 => ?_
     refine tr_region [14] rfl rfl fun K hK => ?_
     refine evR_p ?_
     refine evR_e hK ?_; clear hK K
     refine hK10 _ ?_
     refine tr_ret ?_
     (try simp only [thenE, inBlkE])
     simp (maxSteps := 4000000) (disch := first | assumption | omega | (simp only [go_sem, *]; done) | (simp only [go_sem, *]; omega)) only [postA, postO, resV1, fzAll, go_sem, hq, Int.reduceToNat, Nat.reduceBEq, Nat.reduceEqDiff, Nat.reduceAdd, Nat.reduceMul, Nat.reduceLeDiff, Nat.reduceLT, Nat.reduceSub, ↓reduceIte, reduceCtorEq]
     all_goals (rfl)
   ·
    skip
    (first | (exfalso; omega) | (exfalso; simp_all; done) | skip)
    all_goals
     refine tr_skip ?_
     (try simp only [thenE, inBlkE])
     refine hK8 _ ?_
     refine tr_seq fun K11 hK11 => ?_
     refine tr_region [5, 6, 10, 11, 15, 16, 17, 19] rfl rfl fun K hK => ?_
     iterate 4 refine evR_p ?_
     refine evR_c (hc := (k19 (prfS M) hp1 hp2 za hza hka)) (k := ?_)
     refine evR_p ?_
     refine evR_e hK ?_; clear hK K
     refine hK11 _ ?_
     refine tr_seq fun K12 hK12 => ?_
     refine tr_seq fun K13 hK13 => ?_
     refine tr_draw [52] [5, 6, 11, 15, 17, 19, 52, 53, 54] mixed rfl (by kernel_rfl) rfl fun K hK => ?_
     iterate 2 refine evD_p ?_
     refine evD_c (hc := (k20 rw hrw.1 hrw.2.1 hrw.2.2)) (k := ?_)
     refine evD_bs ?_
     iterate 2 refine evD_p ?_
     refine evD_e hK ?_; clear hK K
     refine hK13 _ ?_
     refine tr_block ?_
     -- loop 1: live [5, 6, 11, 15, 17, 19, 52, 53, 54]
     refine tr_loopW (fun m σ => ∃ i : Nat, i + m = 2 ∧ σ = ⟨[(5, .sl 4 (encSgs st)), (6, .int .i64 n), (11, .ptr 2 0), (15, .bool true), (17, .ptr 4 0), (19, .sl 4 (encSgs (bentW (prfS M) za))), (52, .sl 3 (encPs PL)), (53, .int .i64 2), (54, .int .i64 (i : Nat))], [(4, .cells [.bool (solveW M).found, .int .i64 (solveW M).set, .int .i64 (solveW M).gain, .sl 4 (encSgs (prfS M))]), (2, .cells (cellsI zq))], 5⟩) (2) ?_ ?_
     ·
      exact ⟨_, Wk.trans (Wk.drop (fun k => k == 2 || k == 4)) (Wk.cut 5 (by simp [St.cutOK, AObj.upto, V.upto, V.uptoL, cellsI_uptoL, List.all_cons, List.all_nil, List.filter_cons, List.filter_nil, Nat.blt_eq, Nat.reduceLT, Nat.lt_irrefl, decide_true, decide_false, Bool.and_self, Bool.and_true, Bool.true_and, if_true, if_false, ↓reduceIte, Bool.false_eq_true, encSg, encW, cellsI_uptoL])), 0, by omega, by first | rfl | (rw [← hPl]; rfl)⟩
     ·
      rintro m σ ⟨i, hi, rfl⟩ KL1 hKL1
      refine tr_seq fun K14 hK14 => ?_
      refine tr_region [5, 6, 11, 15, 17, 19, 52, 53, 54, 55] rfl rfl fun K hK => ?_
      refine evR_p ?_
      refine evR_e hK ?_; clear hK K
      refine hK14 _ ?_
      refine tr_seq fun K15 hK15 => ?_
      refine tr_condB (fun ht3 => ?_) (fun ht3 => ?_)
      ·
       skip
       (first | (exfalso; omega) | (exfalso; simp_all; done) | skip)
       all_goals
        have hil : i < PL.length := by omega
        have hpP := hPv i (by omega)
        obtain ⟨P, hP⟩ : ∃ P, PL.getD i pg0 = P := ⟨_, rfl⟩
        rw [hP] at hpP
        replace hq := And.intro hq (And.intro hil (hP))
        refine tr_skip ?_
        (try simp only [thenE, inBlkE])
        refine hK15 _ ?_
        refine tr_seq fun K16 hK16 => ?_
        refine tr_block ?_
        refine tr_seq fun K17 hK17 => ?_
        refine tr_region [5, 6, 11, 15, 17, 19, 21, 52, 53, 54] rfl rfl fun K hK => ?_
        iterate 4 refine evR_p ?_
        refine evR_e hK ?_; clear hK K
        refine hK17 _ ?_
        refine tr_seq fun K18 hK18 => ?_
        refine tr_draw [67] [5, 6, 11, 15, 17, 19, 21, 52, 53, 54, 67, 68, 69] mixed rfl (by kernel_rfl) rfl fun K hK => ?_
        iterate 6 refine evD_p ?_
        refine evD_c (hc := (k19 (bentW (prfS M) za) hp3 hp4 zb hzb hkb)) (k := ?_)
        refine evD_p ?_
        refine evD_c (hc := (k21 st hst hsw)) (k := ?_)
        refine evD_bs ?_
        iterate 2 refine evD_p ?_
        refine evD_e hK ?_; clear hK K
        refine hK18 _ ?_
        refine tr_block ?_
        -- loop 2: live [5, 6, 11, 15, 17, 19, 21, 52, 53, 54, 67, 68, 69]
        refine tr_loopW (fun m σ => ∃ j : Nat, j + m = 4 ∧ σ = ⟨[(5, .sl 4 (encSgs st)), (6, .int .i64 n), (11, .ptr 2 0), (15, .bool true), (17, .ptr 4 0), (19, .sl 4 (encSgs (bentW (prfS M) za))), (21, .ptr 5 0), (52, .sl 3 (encPs PL)), (53, .int .i64 2), (54, .int .i64 (i : Nat)), (67, .sl 1 (encPfs QL)), (68, .int .i64 4), (69, .int .i64 (j : Nat))], [(5, .cells [.int .i64 P.vars, .sl 6 (encR P.rows), .sl 1 (encI P.gain)]), (4, .cells [.bool (solveW M).found, .int .i64 (solveW M).set, .int .i64 (solveW M).gain, .sl 4 (encSgs (prfS M))]), (2, .cells (cellsI zq))], 6⟩) (4) ?_ ?_
        ·
         exact ⟨_, Wk.refl _, 0, by omega, by first | rfl | (rw [← hQl]; rfl)⟩
        ·
         rintro m2 σ ⟨j, hj, rfl⟩ KL2 hKL2
         refine tr_seq fun K19 hK19 => ?_
         refine tr_region [5, 6, 11, 15, 17, 19, 21, 52, 53, 54, 67, 68, 69, 70] rfl rfl fun K hK => ?_
         refine evR_p ?_
         refine evR_e hK ?_; clear hK K
         refine hK19 _ ?_
         refine tr_seq fun K20 hK20 => ?_
         refine tr_condB (fun ht4 => ?_) (fun ht4 => ?_)
         ·
          skip
          (first | (exfalso; omega) | (exfalso; simp_all; done) | skip)
          all_goals
           have hjl : j < QL.length := by omega
           have hfQ := hQ0 j (by omega)
           obtain ⟨Q, hQ⟩ : ∃ Q, QL.getD j [] = Q := ⟨_, rfl⟩
           rw [hQ] at hfQ
           replace hq := And.intro hq (And.intro hjl (hQ))
           refine tr_skip ?_
           (try simp only [thenE, inBlkE])
           refine hK20 _ ?_
           refine tr_seq fun K21 hK21 => ?_
           refine tr_block ?_
           refine tr_seq fun K22 hK22 => ?_
           refine tr_region [5, 6, 11, 15, 17, 19, 21, 23, 52, 53, 54, 67, 68, 69] rfl rfl fun K hK => ?_
           iterate 3 refine evR_p ?_
           refine evR_e hK ?_; clear hK K
           refine hK22 _ ?_
           refine tr_seq fun K23 hK23 => ?_
           refine tr_region [5, 6, 11, 15, 17, 19, 21, 23, 24, 25, 52, 53, 54, 67, 68, 69] rfl rfl fun K hK => ?_
           refine evR_p ?_
           refine evR_c (hc := (k22 Q hfQ.len)) (k := ?_)
           iterate 5 refine evR_p ?_
           refine evR_e hK ?_; clear hK K
           refine hK23 _ ?_
           refine tr_seq fun K24 hK24 => ?_
           refine tr_region [5, 6, 11, 15, 17, 19, 21, 23, 24, 25, 26, 27, 52, 53, 54, 67, 68, 69] rfl rfl fun K hK => ?_
           refine evR_p ?_
           refine evR_c (hc := (k23 Q hfQ.len)) (k := ?_)
           iterate 5 refine evR_p ?_
           refine evR_e hK ?_; clear hK K
           refine hK24 _ ?_
           refine tr_seq fun K25 hK25 => ?_
           refine tr_seq fun K26 hK26 => ?_
           refine tr_draw [] [5, 6, 11, 15, 17, 19, 21, 23, 52, 53, 54, 67, 68, 69, 118] mixed rfl (by kernel_rfl) rfl fun K hK => ?_
           iterate 2 refine evD_p ?_
           refine evD_c (hc := (s24 hpP hfQ)) (k := ?_)
           iterate 2 refine evD_p ?_
           refine evD_c (hc := (k25 P hpP Q hfQ)) (k := ?_)
           iterate 2 refine evD_p ?_
           iterate 2 refine evD_g ?_
           refine evD_gc (hc := (s26 hpP hfQ)) (k := ?_)
           iterate 2 refine evD_g ?_
           refine evD_gc (hc := (k27 P hpP Q hfQ)) (k := ?_)
           refine evD_g ?_
           iterate 2 refine evD_p ?_
           iterate 2 refine evD_g ?_
           refine evD_gc (hc := (s29 hpP hfQ)) (k := ?_)
           iterate 2 refine evD_g ?_
           refine evD_gc (hc := (k30 P hpP Q hfQ)) (k := ?_)
           refine evD_gc (hc := (s28 _ _ _ _)) (k := ?_)
           refine evD_g ?_
           iterate 2 refine evD_p ?_
           iterate 3 refine evD_g ?_
           iterate 2 refine evD_p ?_
           iterate 3 refine evD_g ?_
           refine evD_p ?_
           refine evD_e hK ?_; clear hK K
           refine hK26 _ ?_
           refine tr_condB (fun ht5 => ?_) (fun ht5 => ?_)
           ·
            skip
            (first | (exfalso; omega) | (exfalso; simp_all; done) | skip)
            all_goals
             refine tr_seq fun K27 hK27 => ?_
             refine tr_region [14] rfl rfl fun K hK => ?_
             refine evR_p ?_
             refine evR_e hK ?_; clear hK K
             refine hK27 _ ?_
             refine tr_ret ?_
             (try simp only [thenE, inBlkE])
             simp (maxSteps := 4000000) (disch := first | assumption | omega | (simp only [go_sem, *]; done) | (simp only [go_sem, *]; omega)) only [postA, postO, resV1, fzAll, go_sem, hq, Int.reduceToNat, Nat.reduceBEq, Nat.reduceEqDiff, Nat.reduceAdd, Nat.reduceMul, Nat.reduceLeDiff, Nat.reduceLT, Nat.reduceSub, ↓reduceIte, reduceCtorEq]
             all_goals (rfl)
           ·
            skip
            (first | (exfalso; omega) | (exfalso; simp_all; done) | skip)
            all_goals
             refine tr_skip ?_
             (try simp only [thenE, inBlkE])
             refine hK25 _ ?_
             refine tr_seq fun K28 hK28 => ?_
             refine tr_draw [128] [5, 6, 11, 15, 17, 19, 21, 23, 52, 53, 54, 67, 68, 69, 128, 129, 130] mixed rfl (by kernel_rfl) rfl fun K hK => ?_
             iterate 6 refine evD_p ?_
             refine evD_c (hc := (c12 n 7 (by decide))) (k := ?_)
             iterate 2 refine evD_p ?_
             refine evD_bs ?_
             iterate 2 refine evD_p ?_
             refine evD_e hK ?_; clear hK K
             refine hK28 _ ?_
             refine tr_block ?_
             -- loop 3: live [5, 6, 11, 15, 17, 19, 21, 23, 52, 53, 54, 67, 68, 69, 128, 129, 130]
             refine tr_loopW (fun m σ => ∃ k : Nat, k + m = 3 ∧ σ = ⟨[(5, .sl 4 (encSgs st)), (6, .int .i64 n), (11, .ptr 2 0), (15, .bool true), (17, .ptr 4 0), (19, .sl 4 (encSgs (bentW (prfS M) za))), (21, .ptr 5 0), (23, .sl 4 (encSgs Q)), (52, .sl 3 (encPs PL)), (53, .int .i64 2), (54, .int .i64 (i : Nat)), (67, .sl 1 (encPfs QL)), (68, .int .i64 4), (69, .int .i64 (j : Nat)), (128, .sl 1 (encI ML)), (129, .int .i64 3), (130, .int .i64 (k : Nat))], [(5, .cells [.int .i64 P.vars, .sl 6 (encR P.rows), .sl 1 (encI P.gain)]), (4, .cells [.bool (solveW M).found, .int .i64 (solveW M).set, .int .i64 (solveW M).gain, .sl 4 (encSgs (prfS M))]), (2, .cells (cellsI zq))], 6⟩) (3) ?_ ?_
             ·
              exact ⟨_, Wk.refl _, 0, by omega, by first | rfl | (rw [← hMl]; rfl)⟩
             ·
              rintro m3 σ ⟨k, hk, rfl⟩ KL3 hKL3
              refine tr_seq fun K29 hK29 => ?_
              refine tr_region [5, 6, 11, 15, 17, 19, 21, 23, 52, 53, 54, 67, 68, 69, 128, 129, 130, 131] rfl rfl fun K hK => ?_
              refine evR_p ?_
              refine evR_e hK ?_; clear hK K
              refine hK29 _ ?_
              refine tr_seq fun K30 hK30 => ?_
              refine tr_condB (fun ht6 => ?_) (fun ht6 => ?_)
              ·
               skip
               (first | (exfalso; omega) | (exfalso; simp_all; done) | skip)
               all_goals
                have hkl : k < ML.length := by omega
                obtain ⟨mm, hmm⟩ : ∃ mm, ML.getD k 0 = mm := ⟨_, rfl⟩
                replace hq := And.intro hq (And.intro hkl (hmm))
                refine tr_skip ?_
                (try simp only [thenE, inBlkE])
                refine hK30 _ ?_
                refine tr_seq fun K31 hK31 => ?_
                refine tr_block ?_
                refine tr_seq fun K32 hK32 => ?_
                refine tr_region [5, 6, 11, 15, 17, 19, 21, 23, 29, 52, 53, 54, 67, 68, 69, 128, 129, 130] rfl rfl fun K hK => ?_
                iterate 3 refine evR_p ?_
                refine evR_e hK ?_; clear hK K
                refine hK32 _ ?_
                refine tr_seq fun K33 hK33 => ?_
                refine tr_draw [] [5, 6, 11, 15, 17, 19, 21, 23, 52, 53, 54, 67, 68, 69, 128, 129, 130, 142] mixed rfl (by kernel_rfl) rfl fun K hK => ?_
                iterate 3 refine evD_p ?_
                refine evD_c (hc := (s32 hpP hfQ _)) (k := ?_)
                iterate 3 refine evD_p ?_
                refine evD_c (hc := (k33 P hpP Q hfQ _)) (k := ?_)
                refine evD_p ?_
                refine evD_e hK ?_; clear hK K
                refine hK33 _ ?_
                refine tr_condB (fun ht7 => ?_) (fun ht7 => ?_)
                ·
                 skip
                 (first | (exfalso; omega) | (exfalso; simp_all; done) | skip)
                 all_goals
                  refine tr_seq fun K34 hK34 => ?_
                  refine tr_region [14] rfl rfl fun K hK => ?_
                  refine evR_p ?_
                  refine evR_e hK ?_; clear hK K
                  refine hK34 _ ?_
                  refine tr_ret ?_
                  (try simp only [thenE, inBlkE])
                  simp (maxSteps := 4000000) (disch := first | assumption | omega | (simp only [go_sem, *]; done) | (simp only [go_sem, *]; omega)) only [postA, postO, resV1, fzAll, go_sem, hq, Int.reduceToNat, Nat.reduceBEq, Nat.reduceEqDiff, Nat.reduceAdd, Nat.reduceMul, Nat.reduceLeDiff, Nat.reduceLT, Nat.reduceSub, ↓reduceIte, reduceCtorEq]
                  all_goals (rfl)
                ·
                 skip
                 (first | (exfalso; omega) | (exfalso; simp_all; done) | skip)
                 all_goals
                  refine tr_skip ?_
                  (try simp only [thenE, inBlkE])
                  refine hK31 _ ?_
                  refine tr_region [5, 6, 11, 15, 17, 19, 21, 23, 52, 53, 54, 67, 68, 69, 128, 129, 130] rfl rfl fun K hK => ?_
                  iterate 2 refine evR_p ?_
                  refine evR_e hK ?_; clear hK K
                  refine hKL3 _ ?_
                  exact ⟨m3 - 1, _, by omega, Wk.refl _, k + 1, by omega, by rw [w64 (x := (k : Int) + 1) (by omega)]; rfl⟩
              ·
               skip
               (first | (exfalso; omega) | (exfalso; simp_all; done) | skip)
               all_goals
                have hkl : k = 3 := by omega
                subst hkl
                refine tr_exit ?_
                simp only [thenE, inBlkE, Nat.reduceEqDiff, ↓reduceIte]
                refine hK21 _ ?_
                refine tr_region [5, 6, 11, 15, 17, 19, 21, 52, 53, 54, 67, 68, 69] rfl rfl fun K hK => ?_
                iterate 2 refine evR_p ?_
                refine evR_e hK ?_; clear hK K
                refine hKL2 _ ?_
                exact ⟨m2 - 1, _, by omega, Wk.refl _, j + 1, by omega, by rw [w64 (x := (j : Int) + 1) (by omega)]; rfl⟩
         ·
          skip
          (first | (exfalso; omega) | (exfalso; simp_all; done) | skip)
          all_goals
           have hjl : j = 4 := by omega
           subst hjl
           refine tr_exit ?_
           simp only [thenE, inBlkE, Nat.reduceEqDiff, ↓reduceIte]
           refine hK16 _ ?_
           refine tr_region [5, 6, 11, 15, 17, 19, 52, 53, 54] rfl rfl fun K hK => ?_
           iterate 2 refine evR_p ?_
           refine evR_e hK ?_; clear hK K
           refine hKL1 _ ?_
           exact ⟨m - 1, _, by omega, Wk.cut 5 (by simp [St.cutOK, AObj.upto, V.upto, V.uptoL, cellsI_uptoL, List.all_cons, List.all_nil, List.filter_cons, List.filter_nil, Nat.blt_eq, Nat.reduceLT, Nat.lt_irrefl, decide_true, decide_false, Bool.and_self, Bool.and_true, Bool.true_and, if_true, if_false, ↓reduceIte, Bool.false_eq_true, encSg, encW, cellsI_uptoL]), i + 1, by omega, by rw [w64 (x := (i : Int) + 1) (by omega)]; rfl⟩
      ·
       skip
       (first | (exfalso; omega) | (exfalso; simp_all; done) | skip)
       all_goals
        have hil : i = 2 := by omega
        subst hil
        refine tr_exit ?_
        simp only [thenE, inBlkE, Nat.reduceEqDiff, ↓reduceIte]
        refine hK12 _ ?_
        refine tr_seq fun K35 hK35 => ?_
        refine tr_region [14] rfl rfl fun K hK => ?_
        iterate 2 refine evR_p ?_
        refine evR_e hK ?_; clear hK K
        refine hK35 _ ?_
        refine tr_ret ?_
        (try simp only [thenE, inBlkE])
        simp (maxSteps := 4000000) (disch := first | assumption | omega | (simp only [go_sem, *]; done) | (simp only [go_sem, *]; omega)) only [postA, postO, resV1, fzAll, go_sem, hq, Int.reduceToNat, Nat.reduceBEq, Nat.reduceEqDiff, Nat.reduceAdd, Nat.reduceMul, Nat.reduceLeDiff, Nat.reduceLT, Nat.reduceSub, ↓reduceIte, reduceCtorEq]
        all_goals (rfl)
end

end Go.Proofs.Ytfamkbofdamkkaa
namespace Go.Proofs.Ytfamkbofdamkkaa
open Go.ChangeShapes Go.WideShapes Go.ChangeAt Go.RowKit
theorem Try.own : ownKnob Try.prog.godebug = none := by kernel_rfl
theorem Try.laidOut : laidOutB Try.prog = true := by kernel_rfl
section
variable {H : Type} {enc : TypeId × Value → H} {w : World}
theorem okI_of_wf {n : Int} (h : (Lit.int .i64 n).wf = true) : okI n := by
  simp [Lit.wf, IntKind.min, IntKind.max, IntKind.signed, IntKind.bits] at h
  unfold okI; omega
theorem dec3 : Dec enc Try.prog w 65 (fun t : T3 => [V.int .i64 t.p, V.int .i64 t.q, V.int .i64 t.r]) okT :=
  (dec_array (n := 3) (sz := 1) Try.underlying65 (by kernel_rfl) (by kernel_rfl) (dec_int Try.underlying3)).turn (fun xs => ⟨xs.getD 0 0, xs.getD 1 0, xs.getD 2 0⟩) fun xs h => by
    obtain ⟨h1, h2⟩ := h
    match xs, h1 with
    | [x, y, z], _ => exact ⟨rfl, okI_of_wf (h2 x (by simp)), okI_of_wf (h2 y (by simp)), okI_of_wf (h2 z (by simp))⟩
def okG (n : Nat) (a : List Int) : Prop := a.length = n ∧ ∀ c ∈ a, okI c
theorem decG {t : TypeId} {n : Nat} (ht : Try.prog.underlying t = some (.array n 3)) (h1 : Try.prog.cellsOf 3 = 1) (h2 : Try.prog.cellsOf t = n * 1) : Dec enc Try.prog w t (fun a : List Int => cellsI a) (okG n) :=
  (dec_array (n := n) (sz := 1) ht h1 h2 (dec_int Try.underlying3)).turn (fun xs => xs) fun xs h => ⟨by show xs.map (V.int .i64) = _; exact List.map_eq_flatMap, h.1, fun c hc => okI_of_wf (h.2 c hc)⟩
theorem dec8 : Dec enc Try.prog w 23 (fun a : List Int => cellsI a) (okG 8) := decG Try.underlying23 (by kernel_rfl) (by kernel_rfl)
end
set_option linter.unusedVariables false
set_option linter.unusedSimpArgs false
section
variable {H : Type} {enc : TypeId × Value → H} {P : Program} {w : World}

/-- The fields of a struct of n cells from the cell 'off' on. -/
def DecFs (enc : TypeId × Value → H) (P : Program) (w : World) {α : Type} (n off : Nat) (fs : List Field) (ec : α → List V) (Q : α → Prop) : Prop :=
  ∀ (fuel : Nat) (cs : List Value), cs.length = n → (∀ f ∈ fs, ∃ x, DataW.trod enc P w 0 (fun _ => true) true fuel f.type ((cs.drop f.offset).take (P.cellsOf f.type)) = some x) → ∃ a, Q a ∧ Rd w (cs.drop off) (ec a)

theorem decFs_nil {n : Nat} : DecFs enc P w n n [] (fun _ : Unit => []) fun _ => True := by
  intro fuel cs hl _
  exact ⟨(), trivial, by rw [List.drop_eq_nil_of_le (by omega)]; exact Rd.nil⟩
theorem decFs_cons {α β : Type} {n off : Nat} {f : Field} {fs : List Field} {m : Nat} {ea : α → List V} {eb : β → List V} {Qa : α → Prop} {Qb : β → Prop}
    (ho : f.offset = off) (hm : P.cellsOf f.type = m) (ha : Dec enc P w f.type ea Qa) (hb : DecFs enc P w n (off + m) fs eb Qb) :
    DecFs enc P w n off (f :: fs) (fun p : α × β => ea p.1 ++ eb p.2) fun p => Qa p.1 ∧ Qb p.2 := by
  intro fuel cs hl h
  obtain ⟨x, hx⟩ := h f (by simp)
  obtain ⟨a, qa, ra⟩ := ha _ _ _ hx
  obtain ⟨b, qb, rb⟩ := hb fuel cs hl fun g hg => h g (List.mem_cons_of_mem _ hg)
  refine ⟨(a, b), ⟨qa, qb⟩, ?_⟩
  have := ra.append rb
  rw [ho, hm] at this
  have e : List.take m (List.drop off cs) ++ List.drop (off + m) cs = List.drop off cs := by
    rw [← List.drop_drop, List.take_append_drop]
  rw [e] at this
  exact this
theorem dec_struct {α : Type} {t : TypeId} {fs : Array Field} {n : Nat} {ec : α → List V} {Q : α → Prop} (ht : P.underlying t = some (.struct fs)) (hn : P.cellsOf t = n) (h : DecFs enc P w n 0 fs.toList ec Q) : Dec enc P w t ec Q := by
  intro fuel cs x hx
  obtain ⟨xs, k, rfl, rfl, hl, hxl, hi⟩ := DataW.trod_struct ht hx
  obtain ⟨a, qa, ra⟩ := h k cs (by rw [hl, hn]) fun f hf => by
    obtain ⟨i, hil, rfl⟩ := List.mem_iff_getElem.1 hf
    have hil' : i < fs.size := by simpa using hil
    have := hi i fs[i] (by simp [hil'])
    rw [List.getElem?_eq_getElem (by omega)] at this
    exact ⟨_, by simpa using this⟩
  exact ⟨a, qa, by simpa using ra⟩

theorem rel_row {α : Type} {e : TypeId} {sz n : Nat} {ec : α → List V} {Q : α → Prop} (hs : P.cellsOf e = sz) (hd : Dec enc P w e ec Q) {b off len cap : Nat} (hl : len ≤ cap) (hm : cap ≤ maxLen)
    (hel : ∀ i, i < len → ∃ cs' x, w.cells? 0 ((⟨b, off, none⟩ : Addr).add (i * P.cellsOf e)) (P.cellsOf e) = some cs' ∧ DataW.trod enc P w 0 (fun _ => true) true n e cs' = some x) :
    ∃ asx : List α, (∀ a ∈ asx, Q a) ∧ asx.length = len ∧ Rel w (fun _ => False) (fun _ => 0) (fun _ => undef) 0 true (.sl sz (asx.map ec)) (.slice (some ⟨b, off, none⟩) len cap) := by
  obtain ⟨asx, k1, k2, k3⟩ := hd.choose (fun i => ((w.cells? 0 ((⟨b, off, none⟩ : Addr).add (i * P.cellsOf e)) (P.cellsOf e)).getD [])) len fun i hi => by
    obtain ⟨cs', x, q1, q2⟩ := hel i hi
    rw [q1]; exact ⟨_, _, q2⟩
  refine ⟨asx, k2, k1, ?_⟩
  have rows : ∀ i (hi : i < asx.length), ((asx.map ec).getD i []) = ec asx[i] := fun i hi => by simp [List.getD, hi]
  have key : ∀ i (hi : i < asx.length), ∃ cs', Rd w cs' (ec asx[i]) ∧ cs'.length = sz ∧ ∀ j, j < sz → w.cell? ⟨b, off + (i * sz + j), none⟩ = some (cs'.getD j undef) := fun i hi => by
    obtain ⟨cs', x, q1, q2⟩ := hel i (by omega)
    have := k3 i hi
    simp only [q1, Option.getD_some] at this
    obtain ⟨hl', hc'⟩ := cells_get q1
    rw [hs] at hl' hc'
    refine ⟨cs', this, hl', fun j hj => ?_⟩
    rw [← hc' j hj]
    congr 1
    unfold Addr.add
    by_cases hi0 : i * sz = 0
    · by_cases hj0 : j = 0 <;> simp [hi0, hj0]
    · by_cases hj0 : j = 0 <;> simp [hi0, hj0, Nat.add_assoc]
  refine .sl true sz (asx.map ec) b off len cap (fun i j => ((w.cell? ⟨b, off + (i * sz + j), none⟩).getD undef)) (by simp [k1]) hl hm ?_ ?_ ?_ ?_
  · intro i hi
    have hi' : i < asx.length := by simpa using hi
    obtain ⟨cs', q1, q2, q3⟩ := key i hi'
    rw [rows i hi', q1.1, q2]
  · intro i j hi hj
    have hi' : i < asx.length := by simpa using hi
    obtain ⟨cs', q1, q2, q3⟩ := key i hi'
    rw [rows i hi']
    exact (q1.2 j (by rw [q1.1]; omega)).1
  · intro i j hi hj
    have hi' : i < asx.length := by simpa using hi
    obtain ⟨cs', q1, q2, q3⟩ := key i hi'
    simp only [q3 j hj, Option.getD_some]
    exact ⟨trivial, id⟩
  · intro i j hi hj
    have hi' : i < asx.length := by simpa using hi
    obtain ⟨cs', q1, q2, q3⟩ := key i hi'
    rw [rows i hi']
    simp only [q3 j hj, Option.getD_some]
    exact (q1.2 j (by rw [q1.1]; omega)).2

/-- A slice within. -/
theorem dec_slice {α : Type} {t e : TypeId} {sz : Nat} {ec : α → List V} {Q : α → Prop} (ht : P.underlying t = some (.slice e)) (hs : P.cellsOf e = sz) (hz : 0 < sz) (hd : Dec enc P w e ec Q) :
    Dec enc P w t (fun asx : List α => [.sl sz (asx.map ec)]) fun asx => asx.length ≤ maxLen ∧ ∀ a ∈ asx, Q a := by
  intro fuel cs x hf
  rcases Deep.open_slice ht hf with ⟨rfl, -⟩ | ⟨a, len, cap, m, n, D, Pl, rfl, -, hl, hm, hme, -, hel⟩
  · exact ⟨[], ⟨by simp, fun a ha => by simp at ha⟩, Rd.one rfl (.slnil _ _ _)⟩
  · simp only [if_true] at hme
    subst hme
    by_cases hc : m = 0
    · have : len = 0 := by omega
      subst hc; subst this
      exact ⟨[], ⟨by simp, fun a ha => by simp at ha⟩, Rd.one rfl (.slnil _ _ _)⟩
    · have hsp : a.spot = none := by
        obtain ⟨cs', q1, -⟩ := hel 0 (by omega)
        obtain ⟨-, hc'⟩ := cells_get q1
        have := hc' 0 (by omega)
        simp only [Nat.zero_mul, Addr.add, if_true] at this
        unfold World.cell? at this
        split at this
        · split at this
          · cases this
          · simpa using ‹¬ a.spot.isSome = true›
        · cases this
      obtain ⟨b, off, spot⟩ := a
      simp only at hsp
      subst hsp
      obtain ⟨asx, q, e1, hr⟩ := rel_row hs hd hl hm fun i hi => by
        obtain ⟨cs', q1, q2⟩ := hel i (by omega)
        exact ⟨cs', _, q1, q2⟩
      exact ⟨asx, ⟨by omega, q⟩, Rd.one rfl hr⟩
end
end Go.Proofs.Ytfamkbofdamkkaa
namespace Go.Proofs.Ytfamkbofdamkkaa
open Go.ChangeShapes Go.WideShapes Go.ChangeAt Go.RowKit
section
variable {H : Type} {enc : TypeId × Value → H} {w : World}
theorem dec4 : Dec enc Try.prog w 28 (fun a : List Int => cellsI a) (okG 4) := decG Try.underlying28 (by kernel_rfl) (by kernel_rfl)
theorem decWt : Dec enc Try.prog w 56 encW fun _ => True :=
  (dec_struct (n := 2) Try.underlying56 (by kernel_rfl)
    (decFs_cons (m := 1) rfl (by kernel_rfl) (dec_int Try.underlying3) (decFs_cons (m := 1) rfl (by kernel_rfl) (dec_int Try.underlying3) decFs_nil))).turn
    (fun x => ⟨x.1, x.2.1⟩) fun x h => ⟨rfl, trivial⟩
theorem decSg : Dec enc Try.prog w 54 encSg fun s => s.ws.length ≤ maxLen :=
  (dec_struct (n := 4) Try.underlying54 (by kernel_rfl)
    (decFs_cons (m := 1) rfl (by kernel_rfl) (dec_int Try.underlying3) (decFs_cons (m := 1) rfl (by kernel_rfl) (dec_int Try.underlying3) (decFs_cons (m := 1) rfl (by kernel_rfl) (dec_int Try.underlying3)
      (decFs_cons (m := 1) rfl (by kernel_rfl) (dec_slice (sz := 2) Try.underlying52 (by kernel_rfl) (by decide) decWt) decFs_nil))))).turn
    (fun x => ⟨x.1, x.2.1, x.2.2.1, x.2.2.2.1⟩) fun x h => ⟨rfl, h.2.2.2.1.1⟩
theorem decI : Dec enc Try.prog w 25 (fun l : List Int => [V.sl 1 (encI l)]) fun l => l.length ≤ maxLen ∧ ∀ c ∈ l, okI c :=
  (dec_slice (sz := 1) Try.underlying25 (by kernel_rfl) (by decide) (dec_int Try.underlying3)).turn (fun xs => xs) fun xs h => ⟨rfl, h.1, fun c hc => okI_of_wf (h.2 c hc)⟩
theorem decRw : Dec enc Try.prog w 67 encRw fun r => r.coef.length ≤ maxLen :=
  (dec_struct (n := 6) Try.underlying67 (by kernel_rfl)
    (decFs_cons (m := 1) rfl (by kernel_rfl) (dec_int Try.underlying3) (decFs_cons (m := 1) rfl (by kernel_rfl) (dec_int Try.underlying3) (decFs_cons (m := 1) rfl (by kernel_rfl) (dec_int Try.underlying3)
      (decFs_cons (m := 1) rfl (by kernel_rfl) (dec_int Try.underlying3) (decFs_cons (m := 1) rfl (by kernel_rfl) decI (decFs_cons (m := 1) rfl (by kernel_rfl) (dec_int Try.underlying3) decFs_nil))))))).turn
    (fun x => ⟨x.1, x.2.1, x.2.2.1, x.2.2.2.1, x.2.2.2.2.1, x.2.2.2.2.2.1⟩) fun x h => ⟨rfl, h.2.2.2.2.1.1⟩
theorem decPg : Dec enc Try.prog w 27 encPg fun p => p.rows.length ≤ maxLen ∧ p.gain.length ≤ maxLen ∧ ∀ r ∈ p.rows, r.coef.length ≤ maxLen :=
  (dec_struct (n := 3) Try.underlying27 (by kernel_rfl)
    (decFs_cons (m := 1) rfl (by kernel_rfl) (dec_int Try.underlying3) (decFs_cons (m := 1) rfl (by kernel_rfl) (dec_slice (sz := 6) Try.underlying24 (by kernel_rfl) (by decide) decRw) (decFs_cons (m := 1) rfl (by kernel_rfl) decI decFs_nil)))).turn
    (fun x => ⟨x.1, x.2.1, x.2.2.1⟩) fun x h => ⟨rfl, h.2.1.1, h.2.2.1.1, h.2.1.2⟩
/-- Two lists of four numbers. -/
theorem dec24 : Dec enc Try.prog w 29 (fun z : List Int × List Int => cellsI z.1 ++ cellsI z.2) (fun z => okG 4 z.1 ∧ okG 4 z.2) :=
  (dec_array (n := 2) (sz := 4) Try.underlying29 (by kernel_rfl) (by kernel_rfl) dec4).turn (fun xs => (xs.getD 0 [], xs.getD 1 [])) fun xs h => by
    obtain ⟨h1, h2⟩ := h
    match xs, h1 with
    | [x, y], _ => exact ⟨by simp, h2 x (by simp), h2 y (by simp)⟩
end
end Go.Proofs.Ytfamkbofdamkkaa
