/- Texts of this proof, put together. -/
import Derived.Test.YtfamkbofdamkkaaKVb
import Derived.Test.YtfamkbofdamkkaaKVc
import Derived.Test.YtfamkbofdamkkaaKVd
namespace Go.Proofs.Ytfamkbofdamkkaa
open Go.RowKit
set_option linter.unusedVariables false
set_option linter.unusedSimpArgs false
set_option maxRecDepth 100000
attribute [local go_sem] Nat.zero_add Nat.add_zero Nat.mul_one eq_self ne_eq not_true_eq_false not_false_eq_true decide_true decide_false decide_not Bool.false_eq_true List.filter_cons List.filter_nil true_and and_true beq_false beq_true Bool.not_true Bool.not_false Bool.and_true Bool.true_and Option.getD_some Option.getD_none imp_self implies_true Int.toNat_natCast List.cons_append List.nil_append List.map_cons List.map_nil List.length_cons List.length_nil List.getD_cons_zero List.getD_cons_succ List.drop_zero List.drop_succ_cons List.take_succ_cons List.take_zero
attribute [local go_sem] shL isSh Option.isNone_none Option.isNone_some Option.isSome_none lowN lowQ lowM isAl appOwn unw appF isE isO stpO notIn St.bare evO evDO isEff stp St.get St.slot St.put List.lookup un unL ofVal gof nth pickV pkB_false pkB_true binV unV loadV idxV fldV partV buildV fillV lenV sliV appV appR rowsV winV V.parts V.okp V.sc Mem.look_cons Mem.look_nil V.cl V.clL AObj.clo fzAll exps St.fz Mem.fz V.fz V.fzL AObj.fz Option.isSome_some Option.isSome_none Bool.or_true Bool.true_or Bool.or_false Bool.false_or false_and and_false false_or or_false arT_22 arT_23 arT_25 arT_24 arT_40 arT_30  arT_65 arT_28 arT_90  arT_52 boolT_25 boolT_3 boolT_35 boolT_4  flatT_25 flatT_3 flatT_35 flatT_4  intT_3 intT_133 lay_23 lay_25 lay_67 lay_24 lay_27 lay_3 lay_49 lay_30 lay_34 lay_4 lay_65 lay_52 lay_54 lay_56 lay_141 lay_164  okF_17 okF_31  okF_36 okF_18 okF_34 okF_63  okF_28 okF_50 okF_69 okF_51  okF_35       okF_37   okF_71  okF_65  okF_62 okF_77 okF_79  okF_80 okF_81 okF_64 okF_66 okF_76 okF_113 okF_96 okF_97 okF_98 okF_82  okF_99 okF_119 okF_120 okF_78 okF_100 okF_101 okF_83 okF_84 okF_125 okF_126  okF_127 okF_128 okF_129 okF_130 okF_114 okF_124 okF_140 okF_141 okF_142 okF_143  okF_131 okF_132 okF_144 okF_158 okF_155 okF_159   plT_67 plT_27 plT_34 plT_54 plT_56 slT_22 slT_23 slT_25 slT_24 slT_40 slT_30  slT_65 slT_28 slT_90  slT_52  stT_67_1   stT_67_4 stT_67_5 stT_27_0 stT_27_1 stT_27_2 stT_34_0 stT_34_1 stT_34_2 stT_34_3 stT_54_0 stT_54_1 stT_54_2 stT_54_3 stT_56_0 stT_56_1  zeroT_67 zeroT_27 zeroT_3 zeroT_49 zeroT_30 zeroT_34 zeroT_65  zeroT_54 zeroT_56
attribute [local go_sem] List.getElem?_cons_zero List.getElem?_cons_succ List.zip_cons_cons List.zip_nil_left List.zip_nil_right Bool.false_and Bool.and_false List.length_append List.length_set List.length_replicate List.all_cons List.all_nil encI_length encI_getD encR_length encR_getD encRw encPg spl shp AObj.shp rowM isSt isRpS isRd csh AObj.csh forall_const imp_self
attribute [local simp] encI_length encR_length
theorem c74 (x : Int) : CallsA Try.prog 155 [.int .i64 x] (.bool false) := by
 have hq : True := trivial
 refine callsA_of_tr Try.func155 rfl (Nat.le_of_ble_eq_true rfl) ?_
 simp only [Try.results155, envOf, Nat.reduceAdd]
 refine tr_seq fun K1 hK1 => ?_
 refine tr_region [0] rfl rfl fun K hK => ?_
 refine evR_p ?_
 refine evR_e hK ?_; clear hK K
 refine hK1 _ ?_
 refine tr_seq fun K2 hK2 => ?_
 refine tr_region [2] rfl rfl fun K hK => ?_
 iterate 4 refine evR_p ?_
 refine evR_e hK ?_; clear hK K
 refine hK2 _ ?_
 refine tr_ret ?_
 (try simp only [thenE, inBlkE])
 simp (maxSteps := 4000000) (disch := first | assumption | omega | (simp only [go_sem, *]; done) | (simp only [go_sem, *]; omega)) only [postA, postO, resV1, fzAll, go_sem, hq, Int.reduceToNat, Nat.reduceBEq, Nat.reduceEqDiff, Nat.reduceAdd, Nat.reduceMul, Nat.reduceLeDiff, Nat.reduceLT, Nat.reduceSub, ↓reduceIte, reduceCtorEq]
 all_goals (simp)

theorem c70 (x y : Int) : CallsA Try.prog 131 [.int .i64 x, .int .i64 y] (.bool (decide (x < y))) := by
 have hq : True := trivial
 refine callsA_of_tr Try.func131 rfl (Nat.le_of_ble_eq_true rfl) ?_
 simp only [Try.results131, envOf, Nat.reduceAdd]
 refine tr_seq fun K1 hK1 => ?_
 refine tr_region [0, 1] rfl rfl fun K hK => ?_
 refine evR_p ?_
 refine evR_e hK ?_; clear hK K
 refine hK1 _ ?_
 refine tr_seq fun K2 hK2 => ?_
 refine tr_region [4] rfl rfl fun K hK => ?_
 refine evR_p ?_
 refine evR_c (hc := (c74 _)) (k := ?_)
 refine evR_p ?_
 refine evR_g ?_
 refine evR_gc (hc := (c74 _)) (k := ?_)
 refine evR_g ?_
 iterate 2 refine evR_p ?_
 iterate 3 refine evR_g ?_
 iterate 2 refine evR_p ?_
 refine evR_e hK ?_; clear hK K
 refine hK2 _ ?_
 refine tr_ret ?_
 (try simp only [thenE, inBlkE])
 simp (maxSteps := 4000000) (disch := first | assumption | omega | (simp only [go_sem, *]; done) | (simp only [go_sem, *]; omega)) only [postA, postO, resV1, fzAll, go_sem, hq, Int.reduceToNat, Nat.reduceBEq, Nat.reduceEqDiff, Nat.reduceAdd, Nat.reduceMul, Nat.reduceLeDiff, Nat.reduceLT, Nat.reduceSub, ↓reduceIte, reduceCtorEq]
 all_goals (simp)

section
attribute [local go_sem] List.replicate_zero
end
section
attribute [local go_sem] encR_one
end

end Go.Proofs.Ytfamkbofdamkkaa
namespace Go.Proofs.Ytfamkbofdamkkaa
open Go.RowKit
set_option linter.unusedVariables false
set_option linter.unusedSimpArgs false
def encSol2 (p : Pg) : List V := [.bool (solveW p).found, .int .i64 (solveW p).set, .int .i64 (solveW p).gain, .sl 4 (encSgs (prfS p))]
theorem sol_le (p : Pg) : V.Le (.tup [.agg (encSol (solveW p)), .int .i64 0]) (.tup [.agg (encSol2 p), .int .i64 0]) :=
  .tup (.cons (.agg (.cons (.refl _) (.cons (.refl _) (.cons (.refl _) (.cons (encS_le _) .nil))))) (.cons (.refl _) .nil))
/-- A proof that is no longer than any of these is. -/
structure okPf (l : List Sg) : Prop where
  len : l.length ≤ maxLen
  ws : ∀ s ∈ l, s.ws.length ≤ maxLen
theorem okPf.at {l : List Sg} (h : okPf l) : ∀ k, k < l.length → ∀ s, l.getD k sg0 = s → s.ws.length ≤ maxLen := fun k hk s hs => by
  subst hs; exact h.ws _ (getD_mem hk)
/-- A program that is no longer than any of these is. -/
structure okPr (p : Pg) : Prop where
  rows : p.rows.length ≤ 400
  gain : p.gain.length ≤ 1000
  coef : ∀ r ∈ p.rows, r.coef.length ≤ 1000
theorem okPr_valid {p : Pg} (hv : validB p = true) : okPr p := by
  obtain ⟨q0, q1, q2, q3, q4, q5⟩ := validB_all hv
  exact ⟨by omega, by omega, fun r hr => by have := (q5 r hr).1; omega⟩
section
variable {p : Pg} (hp : okPr p) {l : List Sg} (hl : okPf l)
include hp
theorem okPr.r : p.rows.length ≤ maxLen := by have := hp.rows; unfold maxLen; omega
theorem okPr.g : p.gain.length ≤ maxLen := by have := hp.gain; unfold maxLen; omega
theorem okPr.c : ∀ r ∈ p.rows, r.coef.length ≤ maxLen := fun r hr => by have := hp.coef r hr; unfold maxLen; omega
include hl
theorem s24 : CallsA Try.prog 24 [.agg (encPg p), .sl 4 (encSgs l)] (.bool (refutesW p l)) := k24 p hp.r hp.g hp.c l hl.len hl.at
theorem s26 : CallsA Try.prog 26 [.agg (encPg p), .sl 4 (encSgs l)] (.int .i64 (wrongW p l)) := k26 p hp.r hp.g hp.c l hl.len hl.at
theorem s32 (n : Int) : CallsA Try.prog 32 [.agg (encPg p), .sl 4 (encSgs l), .int .i64 n] (.bool (boundsW p l n)) := k32 p hp.r hp.g hp.c l hl.len hl.at hp.gain (by have := hp.rows; omega) n
theorem s29 : CallsA Try.prog 29 [.agg (encPg p), .sl 4 (encSgs l)] (.sl 1 (encI (usedI p l))) := k29 p hp.r hp.g hp.c l hl.len hl.at
end
theorem usedI_len (p : Pg) (l : List Sg) : (usedI p l).length ≤ 300 := by
  rcases usedV_cases p p.rows l with h | ⟨es, h⟩
  · rw [usedI_nm h]; simp
  · obtain ⟨h1, h2, h3⟩ := usedI_fm h
    have := h2.len
    rw [h1, sortU, List.length_mergeSort, keyU, List.length_map]; omega
theorem usedI_max (p : Pg) (l : List Sg) : (usedI p l).length ≤ maxLen := by have := usedI_len p l; unfold maxLen; omega
theorem s28 (p q : Pg) (l m : List Sg) : CallsA Try.prog 28 [.sl 1 (encI (usedI p l)), .sl 1 (encI (usedI q m))] (.bool (decide (usedI p l = usedI q m))) := c19 _ _ (usedI_max _ _) (usedI_max _ _)
theorem okPf_prf {p : Pg} (hv : validB p = true) : okPf (prfS p) := ⟨by have := prf_len hv; unfold maxLen; omega, fun s hs => by have := prf_ws p s hs; unfold maxLen; omega⟩
set_option maxRecDepth 100000
attribute [local go_sem] Nat.zero_add Nat.add_zero Nat.mul_one eq_self ne_eq not_true_eq_false not_false_eq_true decide_true decide_false decide_not Bool.false_eq_true List.filter_cons List.filter_nil true_and and_true beq_false beq_true Bool.not_true Bool.not_false Bool.and_true Bool.true_and Option.getD_some Option.getD_none imp_self implies_true Int.toNat_natCast List.cons_append List.nil_append List.map_cons List.map_nil List.length_cons List.length_nil List.getD_cons_zero List.getD_cons_succ List.drop_zero List.drop_succ_cons List.take_succ_cons List.take_zero
attribute [local go_sem] shL isSh Option.isNone_none Option.isNone_some Option.isSome_none lowN lowQ lowM isAl appOwn unw appF isE isO stpO notIn St.bare evO evDO isEff stp St.get St.slot St.put List.lookup un unL ofVal gof nth pickV pkB_false pkB_true binV unV loadV idxV fldV partV buildV fillV lenV sliV appV appR rowsV winV V.parts V.okp V.sc Mem.look_cons Mem.look_nil V.cl V.clL AObj.clo fzAll exps St.fz Mem.fz V.fz V.fzL AObj.fz Option.isSome_some Option.isSome_none Bool.or_true Bool.true_or Bool.or_false Bool.false_or false_and and_false false_or or_false arT_22 arT_23 arT_25 arT_24 arT_40 arT_30  arT_65 arT_28 arT_90  arT_52 boolT_25 boolT_3 boolT_35 boolT_4  flatT_25 flatT_3 flatT_35 flatT_4  intT_3 intT_133 lay_23 lay_25 lay_67 lay_24 lay_27 lay_3 lay_49 lay_30 lay_34 lay_4 lay_65 lay_52 lay_54 lay_56 lay_141 lay_164  okF_17 okF_31  okF_36 okF_18 okF_34 okF_63  okF_28 okF_50 okF_69 okF_51  okF_35       okF_37   okF_71  okF_65  okF_62 okF_77 okF_79  okF_80 okF_81 okF_64 okF_66 okF_76 okF_113 okF_96 okF_97 okF_98 okF_82  okF_99 okF_119 okF_120 okF_78 okF_100 okF_101 okF_83 okF_84 okF_125 okF_126  okF_127 okF_128 okF_129 okF_130 okF_114 okF_124 okF_140 okF_141 okF_142 okF_143  okF_131 okF_132 okF_144 okF_158 okF_155 okF_159   plT_67 plT_27 plT_34 plT_54 plT_56 slT_22 slT_23 slT_25 slT_24 slT_40 slT_30  slT_65 slT_28 slT_90  slT_52  stT_67_1   stT_67_4 stT_67_5 stT_27_0 stT_27_1 stT_27_2 stT_34_0 stT_34_1 stT_34_2 stT_34_3 stT_54_0 stT_54_1 stT_54_2 stT_54_3 stT_56_0 stT_56_1  zeroT_67 zeroT_27 zeroT_3 zeroT_49 zeroT_30 zeroT_34 zeroT_65  zeroT_54 zeroT_56
attribute [local go_sem] List.getElem?_cons_zero List.getElem?_cons_succ List.zip_cons_cons List.zip_nil_left List.zip_nil_right Bool.false_and Bool.and_false List.length_append List.length_set List.length_replicate List.all_cons List.all_nil encI_length encI_getD encR_length encR_getD encRw encPg spl shp AObj.shp rowM isSt isRpS isRd csh AObj.csh forall_const imp_self
attribute [local simp] encI_length encR_length cellsI_length
section
attribute [local go_sem] encI_rep encI_set encI_getD
theorem c35 (p : Pg) (hg : p.gain.length ≤ 1000) (gn : Int) : CallsA Try.prog 65 [.agg (encPg p), .int .i64 gn] (.agg (encRw (goalR p gn))) := by
 have hq : True := trivial
 refine callsA_of_tr Try.func65 rfl (Nat.le_of_ble_eq_true rfl) ?_
 simp only [Try.results65, envOf, Nat.reduceAdd]
 refine tr_seq fun K1 hK1 => ?_
 refine tr_region [1, 2, 4] rfl rfl fun K hK => ?_
 iterate 2 refine evR_p ?_
 refine evR_e hK ?_; clear hK K
 refine hK1 _ ?_
 refine tr_seq fun K2 hK2 => ?_
 refine tr_region [2, 4, 5] rfl rfl fun K hK => ?_
 iterate 10 refine evR_p ?_
 refine evR_e hK ?_; clear hK K
 refine hK2 _ ?_
 refine tr_seq fun K3 hK3 => ?_
 refine tr_seq fun K4 hK4 => ?_
 refine tr_region [2, 4, 5, 6] rfl rfl fun K hK => ?_
 refine evR_p ?_
 refine evR_e hK ?_; clear hK K
 refine hK4 _ ?_
 refine tr_block ?_
 -- loop 1: live [2, 4, 5, 6]
 refine tr_loopW (fun m σ => ∃ i : Nat, i + m = p.gain.length ∧ σ = ⟨[(2, .ptr 0 0), (4, .ptr 1 0), (5, .ptr 3 0), (6, .int .i64 (i : Nat))], [(3, .cells [.int .i64 0, .int .i64 0, .int .i64 0, .int .i64 0, .own 2, .int .i64 (IntKind.i64.wrap (IntKind.i64.wrap (0 - gn) - 1))]), (2, .row 3 1 (encI (negP p.gain i))), (1, .cells [.int .i64 0, .int .i64 0, .int .i64 0, .int .i64 0, .nsl, .int .i64 0]), (0, .cells (encPg p))], 4⟩) (p.gain.length) ?_ ?_
 ·
  exact ⟨_, Wk.refl _, 0, by omega, by rw [negP_0]; rfl⟩
 ·
  rintro m σ ⟨i, hi, rfl⟩ KL1 hKL1
  have hnl : (negP p.gain i).length = p.gain.length := negP_length (by omega)
  refine tr_seq fun K5 hK5 => ?_
  refine tr_seq fun K6 hK6 => ?_
  refine tr_region [2, 4, 5, 6, 19] rfl rfl fun K hK => ?_
  iterate 5 refine evR_p ?_
  refine evR_e hK ?_; clear hK K
  refine hK6 _ ?_
  refine tr_condB (fun ht1 => ?_) (fun ht1 => ?_)
  ·
   skip
   have hil : i < p.gain.length := by omega
   replace hq := And.intro hq (And.intro hil (hnl))
   refine tr_skip ?_
   (try simp only [thenE, inBlkE])
   refine hK5 _ ?_
   refine tr_seq fun K7 hK7 => ?_
   refine tr_block ?_
   refine tr_draw [] [2, 4, 5, 6] mixed rfl (by kernel_rfl) rfl fun K hK => ?_
   iterate 11 refine evD_p ?_
   refine evD_e hK ?_; clear hK K
   refine hK7 _ ?_
   refine tr_region [2, 4, 5, 6] rfl rfl fun K hK => ?_
   iterate 3 refine evR_p ?_
   refine evR_e hK ?_; clear hK K
   refine hKL1 _ ?_
   exact ⟨m - 1, _, by omega, Wk.refl _, i + 1, by omega, by rw [w64 (x := (i : Int) + 1) (by omega), negP_set hil]; rfl⟩
  ·
   skip
   have hil : i = p.gain.length := by omega
   subst hil
   rw [negP_end]
   refine tr_exit ?_
   simp only [thenE, inBlkE, Nat.reduceEqDiff, ↓reduceIte]
   refine hK3 _ ?_
   refine tr_seq fun K8 hK8 => ?_
   refine tr_region [4] rfl rfl fun K hK => ?_
   iterate 2 refine evR_p ?_
   refine evR_e hK ?_; clear hK K
   refine hK8 _ ?_
   refine tr_ret ?_
   (try simp only [thenE, inBlkE])
   simp (maxSteps := 4000000) (disch := first | assumption | omega | (simp only [go_sem, *]; done) | (simp only [go_sem, *]; omega)) only [postA, postO, resV1, fzAll, go_sem, hq, Int.reduceToNat, Nat.reduceBEq, Nat.reduceEqDiff, Nat.reduceAdd, Nat.reduceMul, Nat.reduceLeDiff, Nat.reduceLT, Nat.reduceSub, ↓reduceIte, reduceCtorEq]
   all_goals (rfl)
end

theorem c42 (l : List Int) (set : Int) (hm : l.length ≤ maxLen) : CallsA Try.prog 64 [.sl 1 (encI l), .int .i64 set] (.int .i64 (totG l set l.length)) := by
 unfold maxLen at hm
 have hq : True := trivial
 refine callsA_of_tr Try.func64 rfl (Nat.le_of_ble_eq_true rfl) ?_
 simp only [Try.results64, envOf, Nat.reduceAdd]
 refine tr_seq fun K1 hK1 => ?_
 refine tr_region [0, 1] rfl rfl fun K hK => ?_
 refine evR_p ?_
 refine evR_e hK ?_; clear hK K
 refine hK1 _ ?_
 refine tr_seq fun K2 hK2 => ?_
 refine tr_region [0, 1, 5] rfl rfl fun K hK => ?_
 refine evR_p ?_
 refine evR_e hK ?_; clear hK K
 refine hK2 _ ?_
 refine tr_seq fun K3 hK3 => ?_
 refine tr_seq fun K4 hK4 => ?_
 refine tr_region [0, 1, 5, 6] rfl rfl fun K hK => ?_
 refine evR_p ?_
 refine evR_e hK ?_; clear hK K
 refine hK4 _ ?_
 refine tr_block ?_
 -- loop 1: live [0, 1, 5, 6]
 refine tr_loopW (fun m σ => ∃ i : Nat, i + m = l.length ∧ σ = ⟨[(0, .sl 1 (encI l)), (1, .int .i64 set), (5, .int .i64 (totG l set i)), (6, .int .i64 (i : Nat))], [], 0⟩) (l.length) ?_ ?_
 ·
  exact ⟨_, Wk.refl _, 0, by omega, rfl⟩
 ·
  rintro m σ ⟨i, hi, rfl⟩ KL1 hKL1
  refine tr_seq fun K5 hK5 => ?_
  refine tr_seq fun K6 hK6 => ?_
  refine tr_region [0, 1, 5, 6, 10] rfl rfl fun K hK => ?_
  iterate 4 refine evR_p ?_
  refine evR_e hK ?_; clear hK K
  refine hK6 _ ?_
  refine tr_condB (fun ht1 => ?_) (fun ht1 => ?_)
  ·
   skip
   have hil : i < l.length := by omega
   replace hq := And.intro hq (hil)
   refine tr_skip ?_
   (try simp only [thenE, inBlkE])
   refine hK5 _ ?_
   refine tr_seq fun K7 hK7 => ?_
   refine tr_block ?_
   refine tr_draw [] [0, 1, 5, 6] mixed rfl (by kernel_rfl) rfl fun K hK => ?_
   iterate 12 refine evD_p ?_
   refine evD_e hK ?_; clear hK K
   refine hK7 _ ?_
   refine tr_region [0, 1, 5, 6] rfl rfl fun K hK => ?_
   iterate 3 refine evR_p ?_
   refine evR_e hK ?_; clear hK K
   refine hKL1 _ ?_
   exact ⟨m - 1, _, by omega, Wk.refl _, i + 1, by omega, by rw [w64 (x := (i : Int) + 1) (by omega)]; rfl⟩
  ·
   skip
   have hil : i = l.length := by omega
   subst hil
   refine tr_exit ?_
   simp only [thenE, inBlkE, Nat.reduceEqDiff, ↓reduceIte]
   refine hK3 _ ?_
   refine tr_seq fun K8 hK8 => ?_
   refine tr_region [4] rfl rfl fun K hK => ?_
   iterate 2 refine evR_p ?_
   refine evR_e hK ?_; clear hK K
   refine hK8 _ ?_
   refine tr_ret ?_
   (try simp only [thenE, inBlkE])
   simp (maxSteps := 4000000) (disch := first | assumption | omega | (simp only [go_sem, *]; done) | (simp only [go_sem, *]; omega)) only [postA, postO, resV1, fzAll, go_sem, hq, Int.reduceToNat, Nat.reduceBEq, Nat.reduceEqDiff, Nat.reduceAdd, Nat.reduceMul, Nat.reduceLeDiff, Nat.reduceLT, Nat.reduceSub, ↓reduceIte, reduceCtorEq]
   all_goals (rfl)

theorem c51 (l : List Int) (hm : l.length ≤ maxLen) : CallsA Try.prog 119 [.sl 1 (encI l)] (.bool (coefB l)) := by
 unfold maxLen at hm
 have hq : True := trivial
 refine callsA_of_tr Try.func119 rfl (Nat.le_of_ble_eq_true rfl) ?_
 simp only [Try.results119, envOf, Nat.reduceAdd]
 refine tr_seq fun K1 hK1 => ?_
 refine tr_region [0] rfl rfl fun K hK => ?_
 refine evR_p ?_
 refine evR_e hK ?_; clear hK K
 refine hK1 _ ?_
 refine tr_seq fun K2 hK2 => ?_
 refine tr_seq fun K3 hK3 => ?_
 refine tr_region [0, 3] rfl rfl fun K hK => ?_
 refine evR_p ?_
 refine evR_e hK ?_; clear hK K
 refine hK3 _ ?_
 refine tr_block ?_
 -- loop 1: live [0, 3]
 refine tr_loopW (fun m σ => ∃ i : Nat, i + m = l.length ∧ (∀ j, j < i → -1000000000 ≤ l.getD j 0 ∧ l.getD j 0 ≤ 1000000000) ∧ σ = ⟨[(0, .sl 1 (encI l)), (3, .int .i64 (i : Nat))], [], 0⟩) (l.length) ?_ ?_
 ·
  exact ⟨_, Wk.refl _, 0, by omega, (by intro j hj; omega), rfl⟩
 ·
  rintro m σ ⟨i, hi, hb, rfl⟩ KL1 hKL1
  refine tr_seq fun K4 hK4 => ?_
  refine tr_seq fun K5 hK5 => ?_
  refine tr_region [0, 3, 7] rfl rfl fun K hK => ?_
  iterate 4 refine evR_p ?_
  refine evR_e hK ?_; clear hK K
  refine hK5 _ ?_
  refine tr_condB (fun ht1 => ?_) (fun ht1 => ?_)
  ·
   skip
   have hil : i < l.length := by omega
   replace hq := And.intro hq (hil)
   refine tr_skip ?_
   (try simp only [thenE, inBlkE])
   refine hK4 _ ?_
   refine tr_seq fun K6 hK6 => ?_
   refine tr_block ?_
   refine tr_seq fun K7 hK7 => ?_
   refine tr_region [0, 3, 21] rfl rfl fun K hK => ?_
   iterate 6 refine evR_p ?_
   iterate 5 refine evR_g ?_
   refine evR_p ?_
   refine evR_e hK ?_; clear hK K
   refine hK7 _ ?_
   refine tr_condB (fun ht2 => ?_) (fun ht2 => ?_)
   ·
    skip
    refine tr_seq fun K8 hK8 => ?_
    refine tr_region [2] rfl rfl fun K hK => ?_
    refine evR_p ?_
    refine evR_e hK ?_; clear hK K
    refine hK8 _ ?_
    refine tr_ret ?_
    (try simp only [thenE, inBlkE])
    simp (maxSteps := 4000000) (disch := first | assumption | omega | (simp only [go_sem, *]; done) | (simp only [go_sem, *]; omega)) only [postA, postO, resV1, fzAll, go_sem, hq, Int.reduceToNat, Nat.reduceBEq, Nat.reduceEqDiff, Nat.reduceAdd, Nat.reduceMul, Nat.reduceLeDiff, Nat.reduceLT, Nat.reduceSub, ↓reduceIte, reduceCtorEq]
    all_goals ((first | (rw [coefB_no hil ht2]; done) | (rw [coefB_yes hb]; done)))
   ·
    skip
    refine tr_skip ?_
    (try simp only [thenE, inBlkE])
    refine hK6 _ ?_
    refine tr_region [0, 3] rfl rfl fun K hK => ?_
    iterate 3 refine evR_p ?_
    refine evR_e hK ?_; clear hK K
    refine hKL1 _ ?_
    exact ⟨m - 1, _, by omega, Wk.refl _, i + 1, by omega, (fun j hj => (by rcases Nat.lt_or_ge j i with h | h; exact hb j h; (have : j = i := (by omega)); subst this; omega)), by rw [w64 (x := (i : Int) + 1) (by omega)]; rfl⟩
  ·
   skip
   have hil : i = l.length := by omega
   subst hil
   refine tr_exit ?_
   simp only [thenE, inBlkE, Nat.reduceEqDiff, ↓reduceIte]
   refine hK2 _ ?_
   refine tr_seq fun K9 hK9 => ?_
   refine tr_region [2] rfl rfl fun K hK => ?_
   refine evR_p ?_
   refine evR_e hK ?_; clear hK K
   refine hK9 _ ?_
   refine tr_ret ?_
   (try simp only [thenE, inBlkE])
   simp (maxSteps := 4000000) (disch := first | assumption | omega | (simp only [go_sem, *]; done) | (simp only [go_sem, *]; omega)) only [postA, postO, resV1, fzAll, go_sem, hq, Int.reduceToNat, Nat.reduceBEq, Nat.reduceEqDiff, Nat.reduceAdd, Nat.reduceMul, Nat.reduceLeDiff, Nat.reduceLT, Nat.reduceSub, ↓reduceIte, reduceCtorEq]
   all_goals ((first | (rw [coefB_no hil ht2]; done) | (rw [coefB_yes hb]; done)))

theorem c52 (r : Rw) (hm : r.coef.length ≤ maxLen) (v : Int) : CallsA Try.prog 120 [.agg (encRw r), .int .i64 v] (.bool (rightB r v)) := by
 have hq : True := trivial
 refine callsA_of_tr Try.func120 rfl (Nat.le_of_ble_eq_true rfl) ?_
 simp only [Try.results120, envOf, Nat.reduceAdd]
 refine tr_seq fun K1 hK1 => ?_
 refine tr_region [1, 2] rfl rfl fun K hK => ?_
 iterate 2 refine evR_p ?_
 refine evR_e hK ?_; clear hK K
 refine hK1 _ ?_
 refine tr_seq fun K2 hK2 => ?_
 refine tr_region [4] rfl rfl fun K hK => ?_
 iterate 6 refine evR_p ?_
 iterate 2 refine evR_g ?_
 refine evR_gc (hc := (c51 _ hm)) (k := ?_)
 iterate 2 refine evR_p ?_
 iterate 3 refine evR_g ?_
 iterate 2 refine evR_p ?_
 iterate 3 refine evR_g ?_
 iterate 2 refine evR_p ?_
 refine evR_e hK ?_; clear hK K
 refine hK2 _ ?_
 refine tr_ret ?_
 (try simp only [thenE, inBlkE])
 simp (maxSteps := 4000000) (disch := first | assumption | omega | (simp only [go_sem, *]; done) | (simp only [go_sem, *]; omega)) only [postA, postO, resV1, fzAll, go_sem, hq, Int.reduceToNat, Nat.reduceBEq, Nat.reduceEqDiff, Nat.reduceAdd, Nat.reduceMul, Nat.reduceLeDiff, Nat.reduceLT, Nat.reduceSub, ↓reduceIte, reduceCtorEq]
 all_goals (simp [rightB, isInB, Bool.and_assoc])

theorem c21 (p : Pg) (hr : p.rows.length ≤ maxLen) (hg : p.gain.length ≤ maxLen) (hc : ∀ r ∈ p.rows, r.coef.length ≤ maxLen) : CallsA Try.prog 69 [.agg (encPg p)] (.bool (validB p)) := by
 have hr0 := hr
 unfold maxLen at hr0
 have hq : True := trivial
 refine callsA_of_tr Try.func69 rfl (Nat.le_of_ble_eq_true rfl) ?_
 simp only [Try.results69, envOf, Nat.reduceAdd]
 refine tr_seq fun K1 hK1 => ?_
 refine tr_region [1] rfl rfl fun K hK => ?_
 iterate 2 refine evR_p ?_
 refine evR_e hK ?_; clear hK K
 refine hK1 _ ?_
 refine tr_seq fun K2 hK2 => ?_
 refine tr_seq fun K3 hK3 => ?_
 refine tr_region [1, 31] rfl rfl fun K hK => ?_
 iterate 4 refine evR_p ?_
 iterate 3 refine evR_g ?_
 iterate 2 refine evR_p ?_
 iterate 4 refine evR_g ?_
 iterate 2 refine evR_p ?_
 iterate 6 refine evR_g ?_
 iterate 2 refine evR_p ?_
 iterate 2 refine evR_g ?_
 refine evR_gc (hc := (c51 _ hg)) (k := ?_)
 refine evR_g ?_
 refine evR_p ?_
 refine evR_e hK ?_; clear hK K
 refine hK3 _ ?_
 refine tr_condB (fun ht1 => ?_) (fun ht1 => ?_)
 ·
  skip
  refine tr_seq fun K4 hK4 => ?_
  refine tr_region [2] rfl rfl fun K hK => ?_
  refine evR_p ?_
  refine evR_e hK ?_; clear hK K
  refine hK4 _ ?_
  refine tr_ret ?_
  (try simp only [thenE, inBlkE])
  simp (maxSteps := 4000000) (disch := first | assumption | omega | (simp only [go_sem, *]; done) | (simp only [go_sem, *]; omega)) only [postA, postO, resV1, fzAll, go_sem, hq, Int.reduceToNat, Nat.reduceBEq, Nat.reduceEqDiff, Nat.reduceAdd, Nat.reduceMul, Nat.reduceLeDiff, Nat.reduceLT, Nat.reduceSub, ↓reduceIte, reduceCtorEq]
  all_goals ((first | (rw [valid_yes ht1 hb]; done) | (rw [valid_row_no hil ht3]; done) | (rw [valid_no ht1]; done)))
 ·
  skip
  refine tr_skip ?_
  (try simp only [thenE, inBlkE])
  refine hK2 _ ?_
  refine tr_seq fun K5 hK5 => ?_
  refine tr_seq fun K6 hK6 => ?_
  refine tr_region [1, 3] rfl rfl fun K hK => ?_
  refine evR_p ?_
  refine evR_e hK ?_; clear hK K
  refine hK6 _ ?_
  refine tr_block ?_
  -- loop 1: live [1, 3]
  refine tr_loopW (fun m σ => ∃ i : Nat, i + m = p.rows.length ∧ (∀ j, j < i → rightB (p.rows.getD j rw0) p.vars = true) ∧ σ = ⟨[(1, .ptr 0 0), (3, .int .i64 (i : Nat))], [(0, .cells (encPg p))], 1⟩) (p.rows.length) ?_ ?_
  ·
   exact ⟨_, Wk.refl _, 0, by omega, (by intro j hj; omega), rfl⟩
  ·
   rintro m σ ⟨i, hi, hb, rfl⟩ KL1 hKL1
   refine tr_seq fun K7 hK7 => ?_
   refine tr_seq fun K8 hK8 => ?_
   refine tr_region [1, 3, 36] rfl rfl fun K hK => ?_
   iterate 5 refine evR_p ?_
   refine evR_e hK ?_; clear hK K
   refine hK8 _ ?_
   refine tr_condB (fun ht2 => ?_) (fun ht2 => ?_)
   ·
    skip
    have hil : i < p.rows.length := by omega
    replace hq := And.intro hq (hil)
    refine tr_skip ?_
    (try simp only [thenE, inBlkE])
    refine hK7 _ ?_
    refine tr_seq fun K9 hK9 => ?_
    refine tr_block ?_
    refine tr_seq fun K10 hK10 => ?_
    refine tr_draw [] [1, 3, 47] mixed rfl (by kernel_rfl) rfl fun K hK => ?_
    iterate 7 refine evD_p ?_
    refine evD_c (hc := (c52 (p.rows.getD i rw0) (hc _ (getD_mem hil)) _)) (k := ?_)
    refine evD_p ?_
    refine evD_e hK ?_; clear hK K
    refine hK10 _ ?_
    refine tr_condB (fun ht3 => ?_) (fun ht3 => ?_)
    ·
     skip
     refine tr_seq fun K11 hK11 => ?_
     refine tr_region [2] rfl rfl fun K hK => ?_
     refine evR_p ?_
     refine evR_e hK ?_; clear hK K
     refine hK11 _ ?_
     refine tr_ret ?_
     (try simp only [thenE, inBlkE])
     simp (maxSteps := 4000000) (disch := first | assumption | omega | (simp only [go_sem, *]; done) | (simp only [go_sem, *]; omega)) only [postA, postO, resV1, fzAll, go_sem, hq, Int.reduceToNat, Nat.reduceBEq, Nat.reduceEqDiff, Nat.reduceAdd, Nat.reduceMul, Nat.reduceLeDiff, Nat.reduceLT, Nat.reduceSub, ↓reduceIte, reduceCtorEq]
     all_goals ((first | (rw [valid_yes ht1 hb]; done) | (rw [valid_row_no hil ht3]; done) | (rw [valid_no ht1]; done)))
    ·
     skip
     refine tr_skip ?_
     (try simp only [thenE, inBlkE])
     refine hK9 _ ?_
     refine tr_region [1, 3] rfl rfl fun K hK => ?_
     iterate 3 refine evR_p ?_
     refine evR_e hK ?_; clear hK K
     refine hKL1 _ ?_
     exact ⟨m - 1, _, by omega, Wk.refl _, i + 1, by omega, (fun j hj => (by rcases Nat.lt_or_ge j i with h | h; exact hb j h; (have : j = i := (by omega)); subst this; assumption)), by rw [w64 (x := (i : Int) + 1) (by omega)]; rfl⟩
   ·
    skip
    have hil : i = p.rows.length := by omega
    subst hil
    refine tr_exit ?_
    simp only [thenE, inBlkE, Nat.reduceEqDiff, ↓reduceIte]
    refine hK5 _ ?_
    refine tr_seq fun K12 hK12 => ?_
    refine tr_region [2] rfl rfl fun K hK => ?_
    refine evR_p ?_
    refine evR_e hK ?_; clear hK K
    refine hK12 _ ?_
    refine tr_ret ?_
    (try simp only [thenE, inBlkE])
    simp (maxSteps := 4000000) (disch := first | assumption | omega | (simp only [go_sem, *]; done) | (simp only [go_sem, *]; omega)) only [postA, postO, resV1, fzAll, go_sem, hq, Int.reduceToNat, Nat.reduceBEq, Nat.reduceEqDiff, Nat.reduceAdd, Nat.reduceMul, Nat.reduceLeDiff, Nat.reduceLT, Nat.reduceSub, ↓reduceIte, reduceCtorEq]
    all_goals ((first | (rw [valid_yes ht1 hb]; done) | (rw [valid_row_no hil ht3]; done) | (rw [valid_no ht1]; done)))

theorem c45 (p : Pg) (hr : p.rows.length ≤ maxLen) (hg : p.gain.length ≤ maxLen) (hc : ∀ r ∈ p.rows, r.coef.length ≤ maxLen) (set : Int) (hch : choiceB p set = true) : CallsA Try.prog 113 [.agg (encPg p), .int .i64 set] (.bool (allKept p.rows set)) := by
 have hr3 := choiceB_rows hch
 have hq : True := trivial
 refine callsA_of_tr Try.func113 rfl (Nat.le_of_ble_eq_true rfl) ?_
 simp only [Try.results113, envOf, Nat.reduceAdd]
 refine tr_seq fun K1 hK1 => ?_
 refine tr_region [1, 2] rfl rfl fun K hK => ?_
 iterate 2 refine evR_p ?_
 refine evR_e hK ?_; clear hK K
 refine hK1 _ ?_
 refine tr_seq fun K2 hK2 => ?_
 refine tr_seq fun K3 hK3 => ?_
 refine tr_region [1, 2, 5] rfl rfl fun K hK => ?_
 refine evR_p ?_
 refine evR_e hK ?_; clear hK K
 refine hK3 _ ?_
 refine tr_block ?_
 -- loop 1: live [1, 2, 5]
 refine tr_loopW (fun m σ => ∃ i : Nat, i + m = p.rows.length ∧ (∀ j, j < i → keptB (p.rows.getD j rw0) set = true) ∧ σ = ⟨[(1, .int .i64 set), (2, .ptr 0 0), (5, .int .i64 (i : Nat))], [(0, .cells (encPg p))], 1⟩) (p.rows.length) ?_ ?_
 ·
  exact ⟨_, Wk.refl _, 0, by omega, (by intro j hj; omega), rfl⟩
 ·
  rintro m σ ⟨i, hi, hb, rfl⟩ KL1 hKL1
  refine tr_seq fun K4 hK4 => ?_
  refine tr_seq fun K5 hK5 => ?_
  refine tr_region [1, 2, 5, 10] rfl rfl fun K hK => ?_
  iterate 5 refine evR_p ?_
  refine evR_e hK ?_; clear hK K
  refine hK5 _ ?_
  refine tr_condB (fun ht1 => ?_) (fun ht1 => ?_)
  ·
   skip
   have hil : i < p.rows.length := by omega
   have hkp := row_kept hch hil
   replace hq := And.intro hq (hil)
   refine tr_skip ?_
   (try simp only [thenE, inBlkE])
   refine hK4 _ ?_
   refine tr_seq fun K6 hK6 => ?_
   refine tr_block ?_
   refine tr_seq fun K7 hK7 => ?_
   refine tr_draw [] [1, 2, 5, 27] mixed rfl (by kernel_rfl) rfl fun K hK => ?_
   iterate 7 refine evD_p ?_
   refine evD_c (hc := (c42 _ _ (hc _ (getD_mem hil)))) (k := ?_)
   iterate 7 refine evD_p ?_
   refine evD_e hK ?_; clear hK K
   refine hK7 _ ?_
   refine tr_condB (fun ht2 => ?_) (fun ht2 => ?_)
   ·
    skip
    refine tr_seq fun K8 hK8 => ?_
    refine tr_region [4] rfl rfl fun K hK => ?_
    refine evR_p ?_
    refine evR_e hK ?_; clear hK K
    refine hK8 _ ?_
    refine tr_ret ?_
    (try simp only [thenE, inBlkE])
    simp (maxSteps := 4000000) (disch := first | assumption | omega | (simp only [go_sem, *]; done) | (simp only [go_sem, *]; omega)) only [postA, postO, resV1, fzAll, go_sem, hq, Int.reduceToNat, Nat.reduceBEq, Nat.reduceEqDiff, Nat.reduceAdd, Nat.reduceMul, Nat.reduceLeDiff, Nat.reduceLT, Nat.reduceSub, ↓reduceIte, reduceCtorEq]
    all_goals ((first | (rw [allKept_yes hb]; done) | (rw [allKept_no hil (by rw [hkp, decide_eq_true ht2]; rfl)]; done)))
   ·
    skip
    refine tr_skip ?_
    (try simp only [thenE, inBlkE])
    refine hK6 _ ?_
    refine tr_region [1, 2, 5] rfl rfl fun K hK => ?_
    iterate 3 refine evR_p ?_
    refine evR_e hK ?_; clear hK K
    refine hKL1 _ ?_
    exact ⟨m - 1, _, by omega, Wk.refl _, i + 1, by omega, (fun j hj => (by rcases Nat.lt_or_ge j i with h | h; exact hb j h; (have : j = i := (by omega)); subst this; rw [hkp, decide_eq_false ht2]; rfl)), by rw [w64 (x := (i : Int) + 1) (by omega)]; rfl⟩
  ·
   skip
   have hil : i = p.rows.length := by omega
   subst hil
   refine tr_exit ?_
   simp only [thenE, inBlkE, Nat.reduceEqDiff, ↓reduceIte]
   refine hK2 _ ?_
   refine tr_seq fun K9 hK9 => ?_
   refine tr_region [4] rfl rfl fun K hK => ?_
   refine evR_p ?_
   refine evR_e hK ?_; clear hK K
   refine hK9 _ ?_
   refine tr_ret ?_
   (try simp only [thenE, inBlkE])
   simp (maxSteps := 4000000) (disch := first | assumption | omega | (simp only [go_sem, *]; done) | (simp only [go_sem, *]; omega)) only [postA, postO, resV1, fzAll, go_sem, hq, Int.reduceToNat, Nat.reduceBEq, Nat.reduceEqDiff, Nat.reduceAdd, Nat.reduceMul, Nat.reduceLeDiff, Nat.reduceLT, Nat.reduceSub, ↓reduceIte, reduceCtorEq]
   all_goals ((first | (rw [allKept_yes hb]; done) | (rw [allKept_no hil (by rw [hkp, decide_eq_true ht2]; rfl)]; done)))

theorem c17 (p : Pg) (hr : p.rows.length ≤ maxLen) (hg : p.gain.length ≤ maxLen) (hc : ∀ r ∈ p.rows, r.coef.length ≤ maxLen) (hv : validB p = true) : CallsA Try.prog 63 [.agg (encPg p)] (.tup [.sl 1 (encI (choiceL p)), .int .i64 0]) := by
 obtain ⟨v, hv1, hv2, hv3, hv4⟩ := vars_pow hv
 have hv5 : shlW .i64 1 p.vars = ((2 ^ v : Nat) : Int) := by rw [hv1]; exact hv3
 have hq := And.intro hv (hv5)
 refine callsA_of_tr Try.func63 rfl (Nat.le_of_ble_eq_true rfl) ?_
 simp only [Try.results63, envOf, Nat.reduceAdd]
 refine tr_seq fun K1 hK1 => ?_
 refine tr_region [1] rfl rfl fun K hK => ?_
 iterate 3 refine evR_p ?_
 refine evR_e hK ?_; clear hK K
 refine hK1 _ ?_
 refine tr_seq fun K2 hK2 => ?_
 refine tr_seq fun K3 hK3 => ?_
 refine tr_region [1, 8] rfl rfl fun K hK => ?_
 refine evR_p ?_
 refine evR_c (hc := (c21 p hr hg hc)) (k := ?_)
 refine evR_p ?_
 refine evR_e hK ?_; clear hK K
 refine hK3 _ ?_
 refine tr_condB (fun ht1 => ?_) (fun ht1 => ?_)
 ·
  skip
  (first | (exfalso; simp_all; done) | skip)
  all_goals
   refine tr_seq fun K4 hK4 => ?_
   refine tr_region [2, 3] rfl rfl fun K hK => ?_
   iterate 2 refine evR_p ?_
   refine evR_e hK ?_; clear hK K
   refine hK4 _ ?_
   refine tr_ret ?_
   (try simp only [thenE, inBlkE])
   simp (maxSteps := 4000000) (disch := first | assumption | omega | (simp only [go_sem, *]; done) | (simp only [go_sem, *]; omega)) only [postA, postO, resV1, fzAll, go_sem, hq, Int.reduceToNat, Nat.reduceBEq, Nat.reduceEqDiff, Nat.reduceAdd, Nat.reduceMul, Nat.reduceLeDiff, Nat.reduceLT, Nat.reduceSub, ↓reduceIte, reduceCtorEq]
   all_goals ((unfold choiceL; rw [hv1]; rfl))
 ·
  skip
  (first | (exfalso; simp_all; done) | skip)
  all_goals
   refine tr_skip ?_
   (try simp only [thenE, inBlkE])
   refine hK2 _ ?_
   refine tr_seq fun K5 hK5 => ?_
   refine tr_region [1, 4] rfl rfl fun K hK => ?_
   refine evR_p ?_
   refine evR_e hK ?_; clear hK K
   refine hK5 _ ?_
   refine tr_seq fun K6 hK6 => ?_
   refine tr_seq fun K7 hK7 => ?_
   refine tr_region [1, 4, 5] rfl rfl fun K hK => ?_
   refine evR_p ?_
   refine evR_e hK ?_; clear hK K
   refine hK7 _ ?_
   refine tr_block ?_
   -- loop 1: live [1, 4, 5]
   refine tr_loopW (fun m σ => ∃ i : Nat, i + m = 2 ^ v ∧ σ = ⟨[(1, .ptr 0 0), (4, .own 1), (5, .int .i64 (i : Nat))], [(1, .row 3 1 (encI (chL p.rows i))), (0, .cells (encPg p))], 2⟩) (2 ^ v) ?_ ?_
   ·
    exact ⟨_, Wk.nilslot 3 1 4 rfl, 0, by omega, rfl⟩
   ·
    rintro m σ ⟨i, hi, rfl⟩ KL1 hKL1
    have hcl := chL_length p.rows i
    refine tr_seq fun K8 hK8 => ?_
    refine tr_seq fun K9 hK9 => ?_
    refine tr_region [1, 4, 5, 13] rfl rfl fun K hK => ?_
    iterate 5 refine evR_p ?_
    refine evR_e hK ?_; clear hK K
    refine hK9 _ ?_
    refine tr_condB (fun ht2 => ?_) (fun ht2 => ?_)
    ·
     skip
     (first | (exfalso; simp_all; done) | skip)
     all_goals
      have hil : i < 2 ^ v := by omega
      replace hq := And.intro hq (hil)
      refine tr_skip ?_
      (try simp only [thenE, inBlkE])
      refine hK8 _ ?_
      refine tr_seq fun K10 hK10 => ?_
      refine tr_block ?_
      refine tr_seq fun K11 hK11 => ?_
      refine tr_region [1, 4, 5, 18] rfl rfl fun K hK => ?_
      iterate 2 refine evR_p ?_
      refine evR_c (hc := (c45 p hr hg hc (i : Nat) (choice_in hv hv1 hil))) (k := ?_)
      refine evR_e hK ?_; clear hK K
      refine hK11 _ ?_
      refine tr_condB (fun ht3 => ?_) (fun ht3 => ?_)
      ·
       skip
       (first | (exfalso; simp_all; done) | skip)
       all_goals
        refine tr_region [1, 4, 5] rfl rfl fun K hK => ?_
        iterate 2 refine evR_p ?_
        refine evR_bs ?_
        iterate 2 refine evR_p ?_
        refine evR_e hK ?_; clear hK K
        refine hK10 _ ?_
        refine tr_region [1, 4, 5] rfl rfl fun K hK => ?_
        iterate 3 refine evR_p ?_
        refine evR_e hK ?_; clear hK K
        refine hKL1 _ ?_
        first
         | exact ⟨m - 1, _, by omega, (Wk.trans (Wk.ren 2 1 (Nat.le_of_ble_eq_true rfl) (Nat.le_of_ble_eq_true rfl) rfl) (Wk.cut 2 rfl)), i + 1, by omega, by rw [w64 (x := (i : Int) + 1) (by omega), chL_t ht3, encI_snoc]; rfl⟩
         | exact ⟨m - 1, _, by omega, Wk.refl _, i + 1, by omega, by rw [w64 (x := (i : Int) + 1) (by omega), chL_f ht3]; rfl⟩
      ·
       skip
       (first | (exfalso; simp_all; done) | skip)
       all_goals
        refine tr_skip ?_
        (try simp only [thenE, inBlkE])
        refine hK10 _ ?_
        refine tr_region [1, 4, 5] rfl rfl fun K hK => ?_
        iterate 3 refine evR_p ?_
        refine evR_e hK ?_; clear hK K
        refine hKL1 _ ?_
        first
         | exact ⟨m - 1, _, by omega, (Wk.trans (Wk.ren 2 1 (Nat.le_of_ble_eq_true rfl) (Nat.le_of_ble_eq_true rfl) rfl) (Wk.cut 2 rfl)), i + 1, by omega, by rw [w64 (x := (i : Int) + 1) (by omega), chL_t ht3, encI_snoc]; rfl⟩
         | exact ⟨m - 1, _, by omega, Wk.refl _, i + 1, by omega, by rw [w64 (x := (i : Int) + 1) (by omega), chL_f ht3]; rfl⟩
    ·
     skip
     (first | (exfalso; simp_all; done) | skip)
     all_goals
      have hil : i = 2 ^ v := by omega
      subst hil
      refine tr_exit ?_
      simp only [thenE, inBlkE, Nat.reduceEqDiff, ↓reduceIte]
      refine hK6 _ ?_
      refine tr_seq fun K12 hK12 => ?_
      refine tr_region [2, 3] rfl rfl fun K hK => ?_
      iterate 3 refine evR_p ?_
      refine evR_e hK ?_; clear hK K
      refine hK12 _ ?_
      refine tr_ret ?_
      (try simp only [thenE, inBlkE])
      simp (maxSteps := 4000000) (disch := first | assumption | omega | (simp only [go_sem, *]; done) | (simp only [go_sem, *]; omega)) only [postA, postO, resV1, fzAll, go_sem, hq, Int.reduceToNat, Nat.reduceBEq, Nat.reduceEqDiff, Nat.reduceAdd, Nat.reduceMul, Nat.reduceLeDiff, Nat.reduceLT, Nat.reduceSub, ↓reduceIte, reduceCtorEq]
      all_goals ((unfold choiceL; rw [hv1]; rfl))

theorem c64 (r : Rw) (hm : r.coef.length ≤ maxLen) (d set : Int) : CallsA Try.prog 114 [.agg (encRw r), .int .i64 d, .int .i64 set] (.int .i64 (lrG r.coef d set r.coef.length)) := by
 have hm0 := hm
 unfold maxLen at hm0
 have hq : True := trivial
 refine callsA_of_tr Try.func114 rfl (Nat.le_of_ble_eq_true rfl) ?_
 simp only [Try.results114, envOf, Nat.reduceAdd]
 refine tr_seq fun K1 hK1 => ?_
 refine tr_region [1, 2, 3] rfl rfl fun K hK => ?_
 iterate 2 refine evR_p ?_
 refine evR_e hK ?_; clear hK K
 refine hK1 _ ?_
 refine tr_seq fun K2 hK2 => ?_
 refine tr_region [1, 2, 3, 7] rfl rfl fun K hK => ?_
 refine evR_p ?_
 refine evR_e hK ?_; clear hK K
 refine hK2 _ ?_
 refine tr_seq fun K3 hK3 => ?_
 refine tr_seq fun K4 hK4 => ?_
 refine tr_region [1, 2, 3, 7, 8] rfl rfl fun K hK => ?_
 refine evR_p ?_
 refine evR_e hK ?_; clear hK K
 refine hK4 _ ?_
 refine tr_block ?_
 -- loop 1: live [1, 2, 3, 7, 8]
 refine tr_loopW (fun m σ => ∃ i : Nat, i + m = r.coef.length ∧ σ = ⟨[(1, .int .i64 d), (2, .int .i64 set), (3, .ptr 0 0), (7, .int .i64 (lrG r.coef d set i)), (8, .int .i64 (i : Nat))], [(0, .cells (encRw r))], 1⟩) (r.coef.length) ?_ ?_
 ·
  exact ⟨_, Wk.refl _, 0, by omega, rfl⟩
 ·
  rintro m σ ⟨i, hi, rfl⟩ KL1 hKL1
  refine tr_seq fun K5 hK5 => ?_
  refine tr_seq fun K6 hK6 => ?_
  refine tr_region [1, 2, 3, 7, 8, 13] rfl rfl fun K hK => ?_
  iterate 5 refine evR_p ?_
  refine evR_e hK ?_; clear hK K
  refine hK6 _ ?_
  refine tr_condB (fun ht1 => ?_) (fun ht1 => ?_)
  ·
   skip
   have hil : i < r.coef.length := by omega
   replace hq := And.intro hq (hil)
   refine tr_skip ?_
   (try simp only [thenE, inBlkE])
   refine hK5 _ ?_
   refine tr_seq fun K7 hK7 => ?_
   refine tr_block ?_
   refine tr_seq fun K8 hK8 => ?_
   refine tr_region [1, 2, 3, 7, 8, 18] rfl rfl fun K hK => ?_
   iterate 3 refine evR_p ?_
   refine evR_e hK ?_; clear hK K
   refine hK8 _ ?_
   refine tr_condB (fun ht2 => ?_) (fun ht2 => ?_)
   ·
    skip
    refine tr_draw [] [1, 2, 3, 7, 8] mixed rfl (by kernel_rfl) rfl fun K hK => ?_
    iterate 13 refine evD_p ?_
    refine evD_e hK ?_; clear hK K
    refine hK7 _ ?_
    refine tr_region [1, 2, 3, 7, 8] rfl rfl fun K hK => ?_
    iterate 3 refine evR_p ?_
    refine evR_e hK ?_; clear hK K
    refine hKL1 _ ?_
    first
     | exact ⟨m - 1, _, by omega, Wk.refl _, i + 1, by omega, by rw [w64 (x := (i : Int) + 1) (by omega), lrG_1 ht2]; rfl⟩
     | exact ⟨m - 1, _, by omega, Wk.refl _, i + 1, by omega, by rw [w64 (x := (i : Int) + 1) (by omega), lrG_2 ht2 ht3]; rfl⟩
     | exact ⟨m - 1, _, by omega, Wk.refl _, i + 1, by omega, by rw [w64 (x := (i : Int) + 1) (by omega), lrG_3 ht2 ht3]; rfl⟩
   ·
    skip
    refine tr_seq fun K9 hK9 => ?_
    refine tr_region [1, 2, 3, 7, 8, 36] rfl rfl fun K hK => ?_
    iterate 6 refine evR_p ?_
    refine evR_e hK ?_; clear hK K
    refine hK9 _ ?_
    refine tr_condB (fun ht3 => ?_) (fun ht3 => ?_)
    ·
     skip
     refine tr_region [1, 2, 3, 7, 8] rfl rfl fun K hK => ?_
     iterate 8 refine evR_p ?_
     refine evR_e hK ?_; clear hK K
     refine hK7 _ ?_
     refine tr_region [1, 2, 3, 7, 8] rfl rfl fun K hK => ?_
     iterate 3 refine evR_p ?_
     refine evR_e hK ?_; clear hK K
     refine hKL1 _ ?_
     first
      | exact ⟨m - 1, _, by omega, Wk.refl _, i + 1, by omega, by rw [w64 (x := (i : Int) + 1) (by omega), lrG_1 ht2]; rfl⟩
      | exact ⟨m - 1, _, by omega, Wk.refl _, i + 1, by omega, by rw [w64 (x := (i : Int) + 1) (by omega), lrG_2 ht2 ht3]; rfl⟩
      | exact ⟨m - 1, _, by omega, Wk.refl _, i + 1, by omega, by rw [w64 (x := (i : Int) + 1) (by omega), lrG_3 ht2 ht3]; rfl⟩
    ·
     skip
     refine tr_skip ?_
     (try simp only [thenE, inBlkE])
     refine hK7 _ ?_
     refine tr_region [1, 2, 3, 7, 8] rfl rfl fun K hK => ?_
     iterate 3 refine evR_p ?_
     refine evR_e hK ?_; clear hK K
     refine hKL1 _ ?_
     first
      | exact ⟨m - 1, _, by omega, Wk.refl _, i + 1, by omega, by rw [w64 (x := (i : Int) + 1) (by omega), lrG_1 ht2]; rfl⟩
      | exact ⟨m - 1, _, by omega, Wk.refl _, i + 1, by omega, by rw [w64 (x := (i : Int) + 1) (by omega), lrG_2 ht2 ht3]; rfl⟩
      | exact ⟨m - 1, _, by omega, Wk.refl _, i + 1, by omega, by rw [w64 (x := (i : Int) + 1) (by omega), lrG_3 ht2 ht3]; rfl⟩
  ·
   skip
   have hil : i = r.coef.length := by omega
   subst hil
   refine tr_exit ?_
   simp only [thenE, inBlkE, Nat.reduceEqDiff, ↓reduceIte]
   refine hK3 _ ?_
   refine tr_seq fun K10 hK10 => ?_
   refine tr_region [6] rfl rfl fun K hK => ?_
   iterate 2 refine evR_p ?_
   refine evR_e hK ?_; clear hK K
   refine hK10 _ ?_
   refine tr_ret ?_
   (try simp only [thenE, inBlkE])
   simp (maxSteps := 4000000) (disch := first | assumption | omega | (simp only [go_sem, *]; done) | (simp only [go_sem, *]; omega)) only [postA, postO, resV1, fzAll, go_sem, hq, Int.reduceToNat, Nat.reduceBEq, Nat.reduceEqDiff, Nat.reduceAdd, Nat.reduceMul, Nat.reduceLeDiff, Nat.reduceLT, Nat.reduceSub, ↓reduceIte, reduceCtorEq]
   all_goals (rfl)

section
attribute [local go_sem] encS_leaf encS_two encS_length encS_getD encSt encS_set3 plO_at List.length_append
set_option maxHeartbeats 8000000 in
theorem c43s (rows : List Rw) (hrl : rows.length ≤ 1000) (hm : ∀ r ∈ rows, r.coef.length ≤ maxLen) (v : Nat) (hv : v ≤ 12) (hrow : okRws rows v) (n d s : Nat) (hd : d + n = v) (hs : s < 2 ^ d) (hinf : infN rows n d ((s : Nat) : Int)) (out : List Stp) (ho : out.length + 2 ^ (n + 1) ≤ 100000) (ih : ∀ (m : Nat), m + 1 = n → ∀ (s : Nat) (out : List Stp), s < 2 ^ (d + 1) → infN rows m (d + 1) ((s : Nat) : Int) → out.length + 2 ^ (m + 1) ≤ 100000 → CallsM Try.prog 66 [.own 0, .sl 6 (encR rows), .int .i64 ((d + 1 : Nat) : Int), .int .i64 ((s : Nat) : Int)] [(0, .row 54 4 (encS out))] 1 (.own 1) [(1, .row 54 4 (encS (growN rows m (d + 1) ((s : Nat) : Int) out)))] 2) : CallsM Try.prog 66 [.own 0, .sl 6 (encR rows), .int .i64 ((d : Nat) : Int), .int .i64 ((s : Nat) : Int)] ([(0, .row 54 4 (encS out))]) (1) (.own 1) ([(1, .row 54 4 (encS (growN rows n d ((s : Nat) : Int) out)))]) (2) := by
 have hw1 : IntKind.i64.wrap ((d : Int) + 1) = ((d + 1 : Nat) : Int) := w64 (by omega)
 have hpd : 2 ^ d ≤ 2 ^ 12 := Nat.pow_le_pow_right (by omega) (by omega)
 have hsh : shlW .i64 1 (d : Nat) = ((2 ^ d : Nat) : Int) := shl1 (by omega)
 have hw2 : IntKind.i64.wrap ((s : Int) + ((2 ^ d : Nat) : Int)) = ((s + 2 ^ d : Nat) : Int) := by rw [w64 (by omega)]; omega
 have hov := lrG_over hv hrow (d := d) (s := s) (by omega) hs
 have hp2 : 2 ≤ 2 ^ (n + 1) := (by have := Nat.one_le_two_pow (n := n); rw [Nat.pow_succ]; omega)
 have hw3 : IntKind.i64.wrap ((out.length : Int) + 1) = ((out.length + 1 : Nat) : Int) := w64 (by omega)
 have hmax : rows.length ≤ 1000 := hrl
 unfold maxLen at hm
 have hq := And.intro hw1 (And.intro hsh (And.intro hw2 (hw3)))
 refine callsM_of_tr Try.func66 rfl (Nat.le_of_ble_eq_true rfl) (Nat.le_of_ble_eq_true rfl) (Nat.le_of_ble_eq_true rfl) ?_
 simp only [Try.results66, envOf, gh, gv, List.cons_append, List.nil_append, Nat.reduceAdd]
 refine tr_seq fun K1 hK1 => ?_
 refine tr_region [0, 1, 2, 3, 1000000] rfl rfl fun K hK => ?_
 refine evR_p ?_
 refine evR_e hK ?_; clear hK K
 refine hK1 _ ?_
 refine tr_seq fun K2 hK2 => ?_
 refine tr_seq fun K3 hK3 => ?_
 refine tr_region [0, 1, 2, 3, 9, 1000000] rfl rfl fun K hK => ?_
 refine evR_p ?_
 refine evR_e hK ?_; clear hK K
 refine hK3 _ ?_
 refine tr_block ?_
 -- loop 1: live [0, 1, 2, 3, 9]
 refine tr_loopW (fun m σ => ∃ i : Nat, i + m = rows.length ∧ (∀ j, j < i → overB d s (rows.getD j rw0) = false) ∧ σ = ⟨[(0, .own 0), (1, .sl 6 (encR rows)), (2, .int .i64 (d : Nat)), (3, .int .i64 (s : Nat)), (9, .int .i64 (i : Nat)), (1000000, .own 0)], [(0, .row 54 4 (encS out))], 1⟩) (rows.length) ?_ ?_
 ·
  exact ⟨_, Wk.refl _, 0, by omega, (by intro j hj; omega), rfl⟩
 ·
  rintro m σ ⟨i, hi, hb, rfl⟩ KL1 hKL1
  refine tr_seq fun K4 hK4 => ?_
  refine tr_seq fun K5 hK5 => ?_
  refine tr_region [0, 1, 2, 3, 9, 14, 1000000] rfl rfl fun K hK => ?_
  iterate 4 refine evR_p ?_
  refine evR_e hK ?_; clear hK K
  refine hK5 _ ?_
  refine tr_condB (fun ht1 => ?_) (fun ht1 => ?_)
  ·
   skip
   have hil : i < rows.length := by omega
   have hoi := hov _ (getD_mem (d := rw0) hil)
   replace hq := And.intro hq (hil)
   refine tr_skip ?_
   (try simp only [thenE, inBlkE])
   refine hK4 _ ?_
   refine tr_seq fun K6 hK6 => ?_
   refine tr_block ?_
   refine tr_seq fun K7 hK7 => ?_
   refine tr_draw [] [0, 1, 2, 3, 9, 29, 1000000] mixed rfl (by kernel_rfl) rfl fun K hK => ?_
   iterate 6 refine evD_p ?_
   refine evD_c (hc := (c64 (rows.getD i rw0) (hm _ (getD_mem hil)) (d : Nat) (s : Nat))) (k := ?_)
   iterate 6 refine evD_p ?_
   refine evD_e hK ?_; clear hK K
   refine hK7 _ ?_
   refine tr_condB (fun ht2 => ?_) (fun ht2 => ?_)
   ·
    skip
    refine tr_seq fun K8 hK8 => ?_
    refine tr_region [8, 1000000] rfl rfl fun K hK => ?_
    iterate 3 refine evR_p ?_
    refine evR_bs ?_
    refine evR_p ?_
    refine evR_bs ?_
    iterate 2 refine evR_p ?_
    refine evR_e hK ?_; clear hK K
    refine hK8 _ ?_
    refine tr_ret ?_
    (try simp only [thenE, inBlkE])
    all_goals first | refine ⟨_, (Wk.trans (Wk.ren 3 1 (Nat.le_of_ble_eq_true rfl) (Nat.le_of_ble_eq_true rfl) rfl) (Wk.cut 2 rfl)), ?_⟩ | refine ⟨_, Wk.refl _, ?_⟩
    simp (maxSteps := 4000000) (disch := first | assumption | omega | (simp only [go_sem, *]; done) | (simp only [go_sem, *]; omega)) only [postM, ghOK, gv, St.ren, St.cut, V.ren, V.renL, AObj.ren, Nat.blt_eq, resV1, go_sem, hq, Int.reduceToNat, Nat.reduceBEq, Nat.reduceEqDiff, Nat.reduceAdd, Nat.reduceMul, Nat.reduceLeDiff, Nat.reduceLT, Nat.reduceSub, ↓reduceIte, reduceCtorEq]
    all_goals ((first | (have hix := idxOf_at (overB d s) rw0 rows i hil hb (by rw [← hoi]; exact decide_eq_true ht2); rw [growN_leaf (by rw [hix]; omega), hix]; done) | (subst hnm; rw [plO_fin hs (by omega) hneg]; done)))
   ·
    skip
    refine tr_skip ?_
    (try simp only [thenE, inBlkE])
    refine hK6 _ ?_
    refine tr_region [0, 1, 2, 3, 9, 1000000] rfl rfl fun K hK => ?_
    iterate 3 refine evR_p ?_
    refine evR_e hK ?_; clear hK K
    refine hKL1 _ ?_
    exact ⟨m - 1, _, by omega, Wk.refl _, i + 1, by omega, (fun j hj => (by rcases Nat.lt_or_ge j i with h | h; exact hb j h; (have : j = i := (by omega)); subst this; rw [← hoi]; exact decide_eq_false ht2)), by rw [w64 (x := (i : Int) + 1) (by omega)]; rfl⟩
  ·
   skip
   have hil : i = rows.length := by omega
   subst hil
   have hneg := idx_neg hb
   obtain ⟨m', hnm, hi1, hi2⟩ := infN_step hinf hneg
   rw [setBit_nat hs (by omega)] at hi2
   have hg1 := growN_length rows m' (d + 1) s (out ++ [⟨d, 0, 0, none⟩])
   have hgl := plO_length rows m' d s out
   simp only [List.length_append, List.length_cons, List.length_nil] at hg1
   have hpn : 2 ^ (n + 1) = 2 * 2 ^ (m' + 1) := by subst hnm; rw [Nat.pow_succ (n := 2) (m := m' + 1)]; omega
   have hob := plO_at rows m' d s out
   have hplo : growN rows m' (d + 1) (s : Nat) (out ++ [⟨d, (out.length + 1 : Nat), 0, none⟩]) = plO rows m' d s out := rfl
   have hpll : out.length < (plO rows m' d s out).length := by omega
   replace hq := And.intro hq (And.intro hob (And.intro hplo hpll))
   refine tr_exit ?_
   simp only [thenE, inBlkE, Nat.reduceEqDiff, ↓reduceIte]
   refine hK2 _ ?_
   refine tr_seq fun K9 hK9 => ?_
   refine tr_region [0, 1, 2, 3, 10, 1000000] rfl rfl fun K hK => ?_
   iterate 3 refine evR_p ?_
   refine evR_e hK ?_; clear hK K
   refine hK9 _ ?_
   refine tr_seq fun K10 hK10 => ?_
   refine tr_region [0, 1, 2, 3, 10, 1000000] rfl rfl fun K hK => ?_
   iterate 5 refine evR_p ?_
   refine evR_bs ?_
   iterate 2 refine evR_p ?_
   refine evR_e hK ?_; clear hK K
   refine hK10 _ ?_
   refine tr_seq fun K11 hK11 => ?_
   refine tr_region [0, 1, 2, 3, 10, 1000000] rfl rfl fun K hK => ?_
   iterate 5 refine evR_p ?_
   refine evR_stepX fun Kq hKq => Or.inr ?_
   simp (maxSteps := 4000000) (disch := first | assumption | omega | (simp only [go_sem, *]; done) | (simp only [go_sem, *]; omega)) only [stpM, go_sem, hq, Int.reduceToNat, Nat.reduceBEq, Nat.reduceEqDiff, Nat.reduceAdd, Nat.reduceMul, Nat.reduceLeDiff, Nat.reduceLT, Nat.reduceSub, ↓reduceIte, reduceCtorEq]
   refine ⟨[1], ?_⟩
   simp (maxSteps := 4000000) (disch := first | assumption | omega | (simp only [go_sem, *]; done) | (simp only [go_sem, *]; omega)) only [V.mapL, V.map, gJ, footJ, inJ, AObj.map, ndJ, ltJ, V.domL, V.dom, AObj.dom, kC, kR, AObj.isC, hJ, backJ, List.any_cons, List.any_nil, Nat.ble_eq, Nat.blt_eq, Nat.reduceLT, Nat.reduceLeDiff, Bool.or_true, Bool.true_or, Bool.or_false, Bool.false_or, Bool.and_self, go_sem, hq, Int.reduceToNat, Nat.reduceBEq, Nat.reduceEqDiff, Nat.reduceAdd, Nat.reduceMul, Nat.reduceLeDiff, Nat.reduceLT, Nat.reduceSub, ↓reduceIte, reduceCtorEq]
   refine ⟨_, _, _, (ih m' hnm s (out ++ [⟨d, (out.length + 1 : Nat), 0, none⟩]) (by rw [Nat.pow_succ]; omega) hi1 (by simp only [List.length_append, List.length_cons, List.length_nil]; omega)), ?_⟩
   simp (maxSteps := 4000000) (disch := first | assumption | omega | (simp only [go_sem, *]; done) | (simp only [go_sem, *]; omega)) only [V.mapL, V.map, gJ, footJ, inJ, AObj.map, ndJ, ltJ, V.domL, V.dom, AObj.dom, kC, kR, AObj.isC, hJ, backJ, List.any_cons, List.any_nil, Nat.ble_eq, Nat.blt_eq, Nat.reduceLT, Nat.reduceLeDiff, Bool.or_true, Bool.true_or, Bool.or_false, Bool.false_or, Bool.and_self, go_sem, hq, Int.reduceToNat, Nat.reduceBEq, Nat.reduceEqDiff, Nat.reduceAdd, Nat.reduceMul, Nat.reduceLeDiff, Nat.reduceLT, Nat.reduceSub, ↓reduceIte, reduceCtorEq]
   (repeat (refine And.intro (by first | assumption | omega | decide | (simp; done) | (simp; omega) | (have hq := hvv hgt; omega) | (have hq := hvv hgt.1; omega) | (simp_all; done)) ?_))
   refine hKq _ ?_; clear hKq Kq
   refine evR_p ?_
   refine evR_e hK ?_; clear hK K
   refine hK11 _ ?_
   refine tr_seq fun K12 hK12 => ?_
   refine tr_region [0, 1, 2, 3, 1000000] rfl rfl fun K hK => ?_
   iterate 7 refine evR_p ?_
   refine evR_e hK ?_; clear hK K
   refine hK12 _ ?_
   refine tr_seq fun K13 hK13 => ?_
   refine tr_region [8, 1000000] rfl rfl fun K hK => ?_
   iterate 8 refine evR_p ?_
   refine evR_stepX fun Kq hKq => Or.inr ?_
   simp (maxSteps := 4000000) (disch := first | assumption | omega | (simp only [go_sem, *]; done) | (simp only [go_sem, *]; omega)) only [stpM, go_sem, hq, Int.reduceToNat, Nat.reduceBEq, Nat.reduceEqDiff, Nat.reduceAdd, Nat.reduceMul, Nat.reduceLeDiff, Nat.reduceLT, Nat.reduceSub, ↓reduceIte, reduceCtorEq]
   refine ⟨[2], ?_⟩
   simp (maxSteps := 4000000) (disch := first | assumption | omega | (simp only [go_sem, *]; done) | (simp only [go_sem, *]; omega)) only [V.mapL, V.map, gJ, footJ, inJ, AObj.map, ndJ, ltJ, V.domL, V.dom, AObj.dom, kC, kR, AObj.isC, hJ, backJ, List.any_cons, List.any_nil, Nat.ble_eq, Nat.blt_eq, Nat.reduceLT, Nat.reduceLeDiff, Bool.or_true, Bool.true_or, Bool.or_false, Bool.false_or, Bool.and_self, go_sem, hq, Int.reduceToNat, Nat.reduceBEq, Nat.reduceEqDiff, Nat.reduceAdd, Nat.reduceMul, Nat.reduceLeDiff, Nat.reduceLT, Nat.reduceSub, ↓reduceIte, reduceCtorEq]
   refine ⟨_, _, _, (ih m' hnm (s + 2 ^ d) ((plO rows m' d s out).set out.length ⟨d, (out.length + 1 : Nat), ((plO rows m' d s out).length : Nat), none⟩) (by rw [Nat.pow_succ]; omega) hi2 (by rw [List.length_set]; omega)), ?_⟩
   simp (maxSteps := 4000000) (disch := first | assumption | omega | (simp only [go_sem, *]; done) | (simp only [go_sem, *]; omega)) only [V.mapL, V.map, gJ, footJ, inJ, AObj.map, ndJ, ltJ, V.domL, V.dom, AObj.dom, kC, kR, AObj.isC, hJ, backJ, List.any_cons, List.any_nil, Nat.ble_eq, Nat.blt_eq, Nat.reduceLT, Nat.reduceLeDiff, Bool.or_true, Bool.true_or, Bool.or_false, Bool.false_or, Bool.and_self, go_sem, hq, Int.reduceToNat, Nat.reduceBEq, Nat.reduceEqDiff, Nat.reduceAdd, Nat.reduceMul, Nat.reduceLeDiff, Nat.reduceLT, Nat.reduceSub, ↓reduceIte, reduceCtorEq]
   (repeat (refine And.intro (by first | assumption | omega | decide | (simp; done) | (simp; omega) | (have hq := hvv hgt; omega) | (have hq := hvv hgt.1; omega) | (simp_all; done)) ?_))
   refine hKq _ ?_; clear hKq Kq
   refine evR_p ?_
   refine evR_e hK ?_; clear hK K
   refine hK13 _ ?_
   refine tr_ret ?_
   (try simp only [thenE, inBlkE])
   all_goals first | refine ⟨_, (Wk.trans (Wk.ren 3 1 (Nat.le_of_ble_eq_true rfl) (Nat.le_of_ble_eq_true rfl) rfl) (Wk.cut 2 rfl)), ?_⟩ | refine ⟨_, Wk.refl _, ?_⟩
   simp (maxSteps := 4000000) (disch := first | assumption | omega | (simp only [go_sem, *]; done) | (simp only [go_sem, *]; omega)) only [postM, ghOK, gv, St.ren, St.cut, V.ren, V.renL, AObj.ren, Nat.blt_eq, resV1, go_sem, hq, Int.reduceToNat, Nat.reduceBEq, Nat.reduceEqDiff, Nat.reduceAdd, Nat.reduceMul, Nat.reduceLeDiff, Nat.reduceLT, Nat.reduceSub, ↓reduceIte, reduceCtorEq]
   all_goals ((first | (have hix := idxOf_at (overB d s) rw0 rows i hil hb (by rw [← hoi]; exact decide_eq_true ht2); rw [growN_leaf (by rw [hix]; omega), hix]; done) | (subst hnm; rw [plO_fin hs (by omega) hneg]; done)))
end
theorem c43 (rows : List Rw) (hrl : rows.length ≤ 1000) (hm : ∀ r ∈ rows, r.coef.length ≤ maxLen) (v : Nat) (hv : v ≤ 12) (hrow : okRws rows v) : ∀ (n d s : Nat) (out : List Stp), d + n = v → s < 2 ^ d → infN rows n d ((s : Nat) : Int) → out.length + 2 ^ (n + 1) ≤ 100000 → CallsM Try.prog 66 [.own 0, .sl 6 (encR rows), .int .i64 ((d : Nat) : Int), .int .i64 ((s : Nat) : Int)] [(0, .row 54 4 (encS out))] 1 (.own 1) [(1, .row 54 4 (encS (growN rows n d ((s : Nat) : Int) out)))] 2 := by
 intro n
 induction n with
 | zero => intro d s out hd hs hi ho; exact c43s rows hrl hm v hv hrow 0 d s hd hs hi out ho (fun m hm => by omega)
 | succ n ihn =>
  intro d s out hd hs hi ho
  refine c43s rows hrl hm v hv hrow (n + 1) d s hd hs hi out ho (fun m hm s' out' h1 h2 h3 => ?_)
  have : m = n := by omega
  subst this
  exact ihn (d + 1) s' out' (by omega) h1 h2 h3

section
attribute [local go_sem] encS_leaf0 encS_two0 encS_length encS_getD encSt encS_set3
set_option maxHeartbeats 8000000 in
theorem c43u (rows : List Rw) (hrl : rows.length ≤ 1000) (hm : ∀ r ∈ rows, r.coef.length ≤ maxLen) (v : Nat) (hv : v ≤ 12) (hrow : okRws rows v) (n d s : Nat) (hd : d + n = v) (hs : s < 2 ^ d) (hinf : infN rows n d ((s : Nat) : Int)) : CallsA Try.prog 66 [.nsl, .sl 6 (encR rows), .int .i64 ((d : Nat) : Int), .int .i64 ((s : Nat) : Int)] (.sl 4 (encS (growN rows n d ((s : Nat) : Int) []))) := by
 have hw1 : IntKind.i64.wrap ((d : Int) + 1) = ((d + 1 : Nat) : Int) := w64 (by omega)
 have hpd : 2 ^ d ≤ 2 ^ 12 := Nat.pow_le_pow_right (by omega) (by omega)
 have hsh : shlW .i64 1 (d : Nat) = ((2 ^ d : Nat) : Int) := shl1 (by omega)
 have hw2 : IntKind.i64.wrap ((s : Int) + ((2 ^ d : Nat) : Int)) = ((s + 2 ^ d : Nat) : Int) := by rw [w64 (by omega)]; omega
 have hov := lrG_over hv hrow (d := d) (s := s) (by omega) hs
 have hp2 : 2 ≤ 2 ^ (n + 1) := (by have := Nat.one_le_two_pow (n := n); rw [Nat.pow_succ]; omega)
 have hmax : rows.length ≤ 1000 := hrl
 unfold maxLen at hm
 have hw0 : IntKind.i64.wrap (0 + 1) = 1 := by decide
 have hpnn : 2 ^ (n + 1) ≤ 2 ^ 13 := Nat.pow_le_pow_right (by omega) (by omega)
 have hq := And.intro hw1 (And.intro hsh (And.intro hw2 (hw0)))
 refine callsA_of_tr Try.func66 rfl (Nat.le_of_ble_eq_true rfl) ?_
 simp only [Try.results66, envOf, Nat.reduceAdd]
 refine tr_seq fun K1 hK1 => ?_
 refine tr_region [0, 1, 2, 3] rfl rfl fun K hK => ?_
 refine evR_p ?_
 refine evR_e hK ?_; clear hK K
 refine hK1 _ ?_
 refine tr_seq fun K2 hK2 => ?_
 refine tr_seq fun K3 hK3 => ?_
 refine tr_region [0, 1, 2, 3, 9] rfl rfl fun K hK => ?_
 refine evR_p ?_
 refine evR_e hK ?_; clear hK K
 refine hK3 _ ?_
 refine tr_block ?_
 -- loop 1: live [0, 1, 2, 3, 9]
 refine tr_loopW (fun m σ => ∃ i : Nat, i + m = rows.length ∧ (∀ j, j < i → overB d s (rows.getD j rw0) = false) ∧ σ = ⟨[(0, .nsl), (1, .sl 6 (encR rows)), (2, .int .i64 (d : Nat)), (3, .int .i64 (s : Nat)), (9, .int .i64 (i : Nat))], [], 0⟩) (rows.length) ?_ ?_
 ·
  exact ⟨_, Wk.refl _, 0, by omega, (by intro j hj; omega), rfl⟩
 ·
  rintro m σ ⟨i, hi, hb, rfl⟩ KL1 hKL1
  refine tr_seq fun K4 hK4 => ?_
  refine tr_seq fun K5 hK5 => ?_
  refine tr_region [0, 1, 2, 3, 9, 14] rfl rfl fun K hK => ?_
  iterate 4 refine evR_p ?_
  refine evR_e hK ?_; clear hK K
  refine hK5 _ ?_
  refine tr_condB (fun ht1 => ?_) (fun ht1 => ?_)
  ·
   skip
   have hil : i < rows.length := by omega
   have hoi := hov _ (getD_mem (d := rw0) hil)
   replace hq := And.intro hq (hil)
   refine tr_skip ?_
   (try simp only [thenE, inBlkE])
   refine hK4 _ ?_
   refine tr_seq fun K6 hK6 => ?_
   refine tr_block ?_
   refine tr_seq fun K7 hK7 => ?_
   refine tr_draw [] [0, 1, 2, 3, 9, 29] mixed rfl (by kernel_rfl) rfl fun K hK => ?_
   iterate 6 refine evD_p ?_
   refine evD_c (hc := (c64 (rows.getD i rw0) (by unfold maxLen; exact hm _ (getD_mem hil)) (d : Nat) (s : Nat))) (k := ?_)
   iterate 6 refine evD_p ?_
   refine evD_e hK ?_; clear hK K
   refine hK7 _ ?_
   refine tr_condB (fun ht2 => ?_) (fun ht2 => ?_)
   ·
    skip
    refine tr_seq fun K8 hK8 => ?_
    refine tr_region [8] rfl rfl fun K hK => ?_
    iterate 3 refine evR_p ?_
    refine evR_bs ?_
    refine evR_p ?_
    refine evR_bs ?_
    iterate 2 refine evR_p ?_
    refine evR_e hK ?_; clear hK K
    refine hK8 _ ?_
    refine tr_ret ?_
    (try simp only [thenE, inBlkE])
    simp (maxSteps := 4000000) (disch := first | assumption | omega | (simp only [go_sem, *]; done) | (simp only [go_sem, *]; omega)) only [postA, postO, resV1, fzAll, go_sem, hq, Int.reduceToNat, Nat.reduceBEq, Nat.reduceEqDiff, Nat.reduceAdd, Nat.reduceMul, Nat.reduceLeDiff, Nat.reduceLT, Nat.reduceSub, ↓reduceIte, reduceCtorEq]
    all_goals ((first | (have hix := idxOf_at (overB d s) rw0 rows i hil hb (by rw [← hoi]; exact decide_eq_true ht2); rw [growN_leaf (by rw [hix]; omega), hix]; done) | (have hix := idxOf_at (overB d s) rw0 rows i hil hb (by rw [← hoi]; exact decide_eq_true ht2); rw [growN_leaf (by rw [hix]; omega), hix]; rfl) | (subst hnm; rw [← plO_fin hs (by omega) hneg]; rfl)))
   ·
    skip
    refine tr_skip ?_
    (try simp only [thenE, inBlkE])
    refine hK6 _ ?_
    refine tr_region [0, 1, 2, 3, 9] rfl rfl fun K hK => ?_
    iterate 3 refine evR_p ?_
    refine evR_e hK ?_; clear hK K
    refine hKL1 _ ?_
    exact ⟨m - 1, _, by omega, Wk.refl _, i + 1, by omega, (fun j hj => (by rcases Nat.lt_or_ge j i with h | h; exact hb j h; (have : j = i := (by omega)); subst this; rw [← hoi]; exact decide_eq_false ht2)), by rw [w64 (x := (i : Int) + 1) (by omega)]; rfl⟩
  ·
   skip
   have hil : i = rows.length := by omega
   subst hil
   have hneg := idx_neg hb
   obtain ⟨m', hnm, hi1, hi2⟩ := infN_step hinf hneg
   rw [setBit_nat hs (by omega)] at hi2
   have hg1 := growN_length rows m' (d + 1) s ([] ++ [⟨d, 0, 0, none⟩])
   have hgl := plO_length rows m' d s []
   simp only [List.length_append, List.length_cons, List.length_nil] at hg1
   have hpn : 2 ^ (n + 1) = 2 * 2 ^ (m' + 1) := by subst hnm; rw [Nat.pow_succ (n := 2) (m := m' + 1)]; omega
   have hob : (plO rows m' d s []).getD 0 stp0 = ⟨d, 1, 0, none⟩ := plO_at rows m' d s []
   have hplo : growN rows m' (d + 1) (s : Nat) [⟨d, 1, 0, none⟩] = plO rows m' d s [] := rfl
   have hpll : 0 < (plO rows m' d s []).length := by omega
   replace hq := And.intro hq (And.intro hob (And.intro hplo hpll))
   refine tr_exit ?_
   simp only [thenE, inBlkE, Nat.reduceEqDiff, ↓reduceIte]
   refine hK2 _ ?_
   refine tr_seq fun K9 hK9 => ?_
   refine tr_region [0, 1, 2, 3, 10] rfl rfl fun K hK => ?_
   iterate 3 refine evR_p ?_
   refine evR_e hK ?_; clear hK K
   refine hK9 _ ?_
   refine tr_seq fun K10 hK10 => ?_
   refine tr_region [0, 1, 2, 3, 10] rfl rfl fun K hK => ?_
   iterate 5 refine evR_p ?_
   refine evR_bs ?_
   iterate 2 refine evR_p ?_
   refine evR_e hK ?_; clear hK K
   refine hK10 _ ?_
   refine tr_seq fun K11 hK11 => ?_
   refine tr_region [0, 1, 2, 3, 10] rfl rfl fun K hK => ?_
   iterate 5 refine evR_p ?_
   refine evR_stepX fun Kq hKq => Or.inr ?_
   simp (maxSteps := 4000000) (disch := first | assumption | omega | (simp only [go_sem, *]; done) | (simp only [go_sem, *]; omega)) only [stpM, go_sem, hq, Int.reduceToNat, Nat.reduceBEq, Nat.reduceEqDiff, Nat.reduceAdd, Nat.reduceMul, Nat.reduceLeDiff, Nat.reduceLT, Nat.reduceSub, ↓reduceIte, reduceCtorEq]
   refine ⟨[1], ?_⟩
   simp (maxSteps := 4000000) (disch := first | assumption | omega | (simp only [go_sem, *]; done) | (simp only [go_sem, *]; omega)) only [V.mapL, V.map, gJ, footJ, inJ, AObj.map, ndJ, ltJ, V.domL, V.dom, AObj.dom, kC, kR, AObj.isC, hJ, backJ, List.any_cons, List.any_nil, Nat.ble_eq, Nat.blt_eq, Nat.reduceLT, Nat.reduceLeDiff, Bool.or_true, Bool.true_or, Bool.or_false, Bool.false_or, Bool.and_self, go_sem, hq, Int.reduceToNat, Nat.reduceBEq, Nat.reduceEqDiff, Nat.reduceAdd, Nat.reduceMul, Nat.reduceLeDiff, Nat.reduceLT, Nat.reduceSub, ↓reduceIte, reduceCtorEq]
   refine ⟨_, _, _, (c43 rows hrl (by unfold maxLen; exact hm) v hv hrow m' (d + 1) s [⟨d, 1, 0, none⟩] (by omega) (by rw [Nat.pow_succ]; omega) hi1 (by simp only [List.length_cons, List.length_nil]; omega)), ?_⟩
   simp (maxSteps := 4000000) (disch := first | assumption | omega | (simp only [go_sem, *]; done) | (simp only [go_sem, *]; omega)) only [V.mapL, V.map, gJ, footJ, inJ, AObj.map, ndJ, ltJ, V.domL, V.dom, AObj.dom, kC, kR, AObj.isC, hJ, backJ, List.any_cons, List.any_nil, Nat.ble_eq, Nat.blt_eq, Nat.reduceLT, Nat.reduceLeDiff, Bool.or_true, Bool.true_or, Bool.or_false, Bool.false_or, Bool.and_self, go_sem, hq, Int.reduceToNat, Nat.reduceBEq, Nat.reduceEqDiff, Nat.reduceAdd, Nat.reduceMul, Nat.reduceLeDiff, Nat.reduceLT, Nat.reduceSub, ↓reduceIte, reduceCtorEq]
   (repeat (refine And.intro (by first | assumption | omega | decide | (simp; done) | (simp; omega) | (have hq := hvv hgt; omega) | (have hq := hvv hgt.1; omega) | (simp_all; done)) ?_))
   refine hKq _ ?_; clear hKq Kq
   refine evR_p ?_
   refine evR_e hK ?_; clear hK K
   refine hK11 _ ?_
   refine tr_seq fun K12 hK12 => ?_
   refine tr_region [0, 1, 2, 3] rfl rfl fun K hK => ?_
   iterate 7 refine evR_p ?_
   refine evR_e hK ?_; clear hK K
   refine hK12 _ ?_
   refine tr_seq fun K13 hK13 => ?_
   refine tr_region [8] rfl rfl fun K hK => ?_
   iterate 8 refine evR_p ?_
   refine evR_stepX fun Kq hKq => Or.inr ?_
   simp (maxSteps := 4000000) (disch := first | assumption | omega | (simp only [go_sem, *]; done) | (simp only [go_sem, *]; omega)) only [stpM, go_sem, hq, Int.reduceToNat, Nat.reduceBEq, Nat.reduceEqDiff, Nat.reduceAdd, Nat.reduceMul, Nat.reduceLeDiff, Nat.reduceLT, Nat.reduceSub, ↓reduceIte, reduceCtorEq]
   refine ⟨[2], ?_⟩
   simp (maxSteps := 4000000) (disch := first | assumption | omega | (simp only [go_sem, *]; done) | (simp only [go_sem, *]; omega)) only [V.mapL, V.map, gJ, footJ, inJ, AObj.map, ndJ, ltJ, V.domL, V.dom, AObj.dom, kC, kR, AObj.isC, hJ, backJ, List.any_cons, List.any_nil, Nat.ble_eq, Nat.blt_eq, Nat.reduceLT, Nat.reduceLeDiff, Bool.or_true, Bool.true_or, Bool.or_false, Bool.false_or, Bool.and_self, go_sem, hq, Int.reduceToNat, Nat.reduceBEq, Nat.reduceEqDiff, Nat.reduceAdd, Nat.reduceMul, Nat.reduceLeDiff, Nat.reduceLT, Nat.reduceSub, ↓reduceIte, reduceCtorEq]
   refine ⟨_, _, _, (c43 rows hrl (by unfold maxLen; exact hm) v hv hrow m' (d + 1) (s + 2 ^ d) ((plO rows m' d s []).set 0 ⟨d, 1, ((plO rows m' d s []).length : Nat), none⟩) (by omega) (by rw [Nat.pow_succ]; omega) hi2 (by rw [List.length_set]; omega)), ?_⟩
   simp (maxSteps := 4000000) (disch := first | assumption | omega | (simp only [go_sem, *]; done) | (simp only [go_sem, *]; omega)) only [V.mapL, V.map, gJ, footJ, inJ, AObj.map, ndJ, ltJ, V.domL, V.dom, AObj.dom, kC, kR, AObj.isC, hJ, backJ, List.any_cons, List.any_nil, Nat.ble_eq, Nat.blt_eq, Nat.reduceLT, Nat.reduceLeDiff, Bool.or_true, Bool.true_or, Bool.or_false, Bool.false_or, Bool.and_self, go_sem, hq, Int.reduceToNat, Nat.reduceBEq, Nat.reduceEqDiff, Nat.reduceAdd, Nat.reduceMul, Nat.reduceLeDiff, Nat.reduceLT, Nat.reduceSub, ↓reduceIte, reduceCtorEq]
   (repeat (refine And.intro (by first | assumption | omega | decide | (simp; done) | (simp; omega) | (have hq := hvv hgt; omega) | (have hq := hvv hgt.1; omega) | (simp_all; done)) ?_))
   refine hKq _ ?_; clear hKq Kq
   refine evR_p ?_
   refine evR_e hK ?_; clear hK K
   refine hK13 _ ?_
   refine tr_ret ?_
   (try simp only [thenE, inBlkE])
   simp (maxSteps := 4000000) (disch := first | assumption | omega | (simp only [go_sem, *]; done) | (simp only [go_sem, *]; omega)) only [postA, postO, resV1, fzAll, go_sem, hq, Int.reduceToNat, Nat.reduceBEq, Nat.reduceEqDiff, Nat.reduceAdd, Nat.reduceMul, Nat.reduceLeDiff, Nat.reduceLT, Nat.reduceSub, ↓reduceIte, reduceCtorEq]
   all_goals ((first | (have hix := idxOf_at (overB d s) rw0 rows i hil hb (by rw [← hoi]; exact decide_eq_true ht2); rw [growN_leaf (by rw [hix]; omega), hix]; done) | (have hix := idxOf_at (overB d s) rw0 rows i hil hb (by rw [← hoi]; exact decide_eq_true ht2); rw [growN_leaf (by rw [hix]; omega), hix]; rfl) | (subst hnm; rw [← plO_fin hs (by omega) hneg]; rfl)))
end

section
attribute [local go_sem] encR_one List.replicate_zero List.nil_append
set_option maxHeartbeats 4000000 in
theorem c15 (p : Pg) (hr : p.rows.length ≤ maxLen) (hg : p.gain.length ≤ maxLen) (hc : ∀ r ∈ p.rows, r.coef.length ≤ maxLen) (hv : validB p = true) : CallsA Try.prog 18 [.agg (encPg p)] (.tup [.agg (encSol (solveW p)), .int .i64 0]) := by
 obtain ⟨q0, q1, q2, q3, q4, q5⟩ := validB_all hv
 have hcm := (choice_max hv).2
 obtain ⟨v, hv1, hv2, hv3, hv4⟩ := vars_pow hv
 have hG : (solveB p).1 = true → -12000000000 ≤ (solveB p).2.2 ∧ (solveB p).2.2 ≤ 12000000000 := fun hf => by obtain ⟨s, -, -, -, h1, h2⟩ := solveB_gain hv hf; exact ⟨h1, h2⟩
 have hsol : (solveB p).1 = true → CallsA Try.prog 66 [.nsl, .sl 6 (encR (p.rows ++ [goalW p (solveB p).2.2])), .int .i64 0, .int .i64 0] (.sl 4 (encS (solveW p).proof)) := fun hf => by
  have hi := solve_inf hv
  rw [solRows_t hf] at hi
  have := c43u (p.rows ++ [goalW p (solveB p).2.2]) (by rw [List.length_append]; simp; omega) (fun r hr => by have := (okRws_goal hv _ r hr).1; unfold maxLen; omega) p.vars.toNat (by omega) (okRws_goal hv _) p.vars.toNat 0 0 (by omega) (by simp) hi
  simpa [solveW, solRows_t hf] using this
 have hsol0 : (solveB p).1 = false → CallsA Try.prog 66 [.nsl, .sl 6 (encR p.rows), .int .i64 0, .int .i64 0] (.sl 4 (encS (solveW p).proof)) := fun hf => by
  have hi := solve_inf hv
  rw [solRows_f hf] at hi
  have := c43u p.rows (by omega) hc p.vars.toNat (by omega) (okRws_rows hv) p.vars.toNat 0 0 (by omega) (by simp) hi
  simpa [solveW, solRows_f hf] using this
 have h35 : (solveB p).1 = true → CallsA Try.prog 65 [.agg (encPg p), .int .i64 (solveB p).2.2] (.agg (encRw (goalW p (solveB p).2.2))) := fun hf => by
  have := c35 p (by omega) (solveB p).2.2
  rwa [goalR_eq (by have := hG hf; omega)] at this
 have hq := hv
 refine callsA_of_tr Try.func18 rfl (Nat.le_of_ble_eq_true rfl) ?_
 simp only [Try.results18, envOf, Nat.reduceAdd]
 refine tr_seq fun K1 hK1 => ?_
 refine tr_region [1, 2] rfl rfl fun K hK => ?_
 iterate 3 refine evR_p ?_
 refine evR_e hK ?_; clear hK K
 refine hK1 _ ?_
 refine tr_seq fun K2 hK2 => ?_
 refine tr_region [1, 2, 4, 5] rfl rfl fun K hK => ?_
 refine evR_p ?_
 refine evR_c (hc := (c17 p hr hg hc hv)) (k := ?_)
 iterate 5 refine evR_p ?_
 refine evR_e hK ?_; clear hK K
 refine hK2 _ ?_
 refine tr_seq fun K3 hK3 => ?_
 refine tr_seq fun K4 hK4 => ?_
 refine tr_region [1, 2, 4, 16] rfl rfl fun K hK => ?_
 iterate 2 refine evR_p ?_
 refine evR_e hK ?_; clear hK K
 refine hK4 _ ?_
 refine tr_condB (fun ht1 => ?_) (fun ht1 => ?_)
 ·
  skip
  (first | (exfalso; simp_all; done) | skip)
  all_goals
   refine tr_seq fun K5 hK5 => ?_
   refine tr_region [2, 3] rfl rfl fun K hK => ?_
   iterate 3 refine evR_p ?_
   refine evR_e hK ?_; clear hK K
   refine hK5 _ ?_
   refine tr_ret ?_
   (try simp only [thenE, inBlkE])
   simp (maxSteps := 4000000) (disch := first | assumption | omega | (simp only [go_sem, *]; done) | (simp only [go_sem, *]; omega)) only [postA, postO, resV1, fzAll, go_sem, hq, Int.reduceToNat, Nat.reduceBEq, Nat.reduceEqDiff, Nat.reduceAdd, Nat.reduceMul, Nat.reduceLeDiff, Nat.reduceLT, Nat.reduceSub, ↓reduceIte, reduceCtorEq]
   all_goals (rfl)
 ·
  skip
  (first | (exfalso; simp_all; done) | skip)
  all_goals
   refine tr_skip ?_
   (try simp only [thenE, inBlkE])
   refine hK3 _ ?_
   refine tr_seq fun K6 hK6 => ?_
   refine tr_region [1, 2, 4, 6] rfl rfl fun K hK => ?_
   iterate 3 refine evR_p ?_
   refine evR_e hK ?_; clear hK K
   refine hK6 _ ?_
   refine tr_seq fun K7 hK7 => ?_
   refine tr_seq fun K8 hK8 => ?_
   refine tr_region [1, 2, 4, 6, 7] rfl rfl fun K hK => ?_
   iterate 4 refine evR_p ?_
   refine evR_e hK ?_; clear hK K
   refine hK8 _ ?_
   refine tr_block ?_
   -- loop 1: live [1, 2, 4, 6, 7]
   refine tr_loopW (fun m σ => ∃ i : Nat, i = m ∧ i ≤ (choiceL p).length ∧ σ = ⟨[(1, .ptr 0 0), (2, .ptr 1 0), (4, .sl 1 (encI (choiceL p))), (6, .ptr 2 0), (7, .int .i64 ((i : Int) - 1))], [(2, .cells [.bool (bestR p.gain ((choiceL p).drop i)).1, .int .i64 (bestR p.gain ((choiceL p).drop i)).2.1, .int .i64 (bestR p.gain ((choiceL p).drop i)).2.2, .nsl]), (1, .cells [.bool false, .int .i64 0, .int .i64 0, .nsl]), (0, .cells (encPg p))], 3⟩) ((choiceL p).length) ?_ ?_
   ·
    exact ⟨_, Wk.refl _, _, rfl, Nat.le_refl _, by rw [bestR_end (Nat.le_refl _), w64 (x := ((choiceL p).length : Int) - 1) (by omega)]; rfl⟩
   ·
    rintro m σ ⟨i, rfl, hi, rfl⟩ KL1 hKL1
    refine tr_seq fun K9 hK9 => ?_
    refine tr_seq fun K10 hK10 => ?_
    refine tr_region [1, 2, 4, 6, 7, 23] rfl rfl fun K hK => ?_
    iterate 2 refine evR_p ?_
    refine evR_e hK ?_; clear hK K
    refine hK10 _ ?_
    refine tr_condB (fun ht2 => ?_) (fun ht2 => ?_)
    ·
     skip
     (first | (exfalso; simp_all; done) | skip)
     all_goals
      obtain ⟨k, rfl⟩ : ∃ k, i = k + 1 := ⟨i - 1, by omega⟩
      have hkl : k < (choiceL p).length := by omega
      have hk1 : ((k + 1 : Nat) : Int) - 1 = (k : Int) := by omega
      have hgt := choice_tot hv hkl
      have hgk := hgt
      replace hq := And.intro hq (And.intro hkl (And.intro hk1 (hgk)))
      refine tr_skip ?_
      (try simp only [thenE, inBlkE])
      refine hK9 _ ?_
      refine tr_seq fun K11 hK11 => ?_
      refine tr_block ?_
      refine tr_seq fun K12 hK12 => ?_
      refine tr_draw [] [1, 2, 4, 6, 7, 8] mixed rfl (by kernel_rfl) rfl fun K hK => ?_
      iterate 6 refine evD_p ?_
      refine evD_c (hc := (c42 _ _ hg)) (k := ?_)
      refine evD_p ?_
      refine evD_e hK ?_; clear hK K
      refine hK12 _ ?_
      refine tr_seq fun K13 hK13 => ?_
      refine tr_region [1, 2, 4, 6, 7, 8, 41] rfl rfl fun K hK => ?_
      iterate 4 refine evR_p ?_
      iterate 4 refine evR_g ?_
      refine evR_p ?_
      refine evR_e hK ?_; clear hK K
      refine hK13 _ ?_
      refine tr_condB (fun ht3 => ?_) (fun ht3 => ?_)
      ·
       skip
       (first | (exfalso; simp_all; done) | skip)
       all_goals
        refine tr_seq fun K14 hK14 => ?_
        refine tr_region [1, 2, 4, 6, 7, 8] rfl rfl fun K hK => ?_
        iterate 2 refine evR_p ?_
        refine evR_e hK ?_; clear hK K
        refine hK14 _ ?_
        refine tr_seq fun K15 hK15 => ?_
        refine tr_region [1, 2, 4, 6, 7, 8] rfl rfl fun K hK => ?_
        iterate 6 refine evR_p ?_
        refine evR_e hK ?_; clear hK K
        refine hK15 _ ?_
        refine tr_region [1, 2, 4, 6, 7] rfl rfl fun K hK => ?_
        iterate 3 refine evR_p ?_
        refine evR_e hK ?_; clear hK K
        refine hK11 _ ?_
        refine tr_region [1, 2, 4, 6, 7] rfl rfl fun K hK => ?_
        iterate 3 refine evR_p ?_
        refine evR_e hK ?_; clear hK K
        refine hKL1 _ ?_
        first
         | exact ⟨k, _, by omega, Wk.refl _, k, rfl, by omega, by rw [w64 (x := (k : Int) - 1) (by omega), best_back hkl ht3]; rfl⟩
         | exact ⟨k, _, by omega, Wk.refl _, k, rfl, by omega, by rw [w64 (x := (k : Int) - 1) (by omega), best_keep hkl ht3]; rfl⟩
      ·
       skip
       (first | (exfalso; simp_all; done) | skip)
       all_goals
        refine tr_skip ?_
        (try simp only [thenE, inBlkE])
        refine hK11 _ ?_
        refine tr_region [1, 2, 4, 6, 7] rfl rfl fun K hK => ?_
        iterate 3 refine evR_p ?_
        refine evR_e hK ?_; clear hK K
        refine hKL1 _ ?_
        first
         | exact ⟨k, _, by omega, Wk.refl _, k, rfl, by omega, by rw [w64 (x := (k : Int) - 1) (by omega), best_back hkl ht3]; rfl⟩
         | exact ⟨k, _, by omega, Wk.refl _, k, rfl, by omega, by rw [w64 (x := (k : Int) - 1) (by omega), best_keep hkl ht3]; rfl⟩
    ·
     skip
     (first | (exfalso; simp_all; done) | skip)
     all_goals
      have hil : i = 0 := by omega
      subst hil
      rw [best_all]
      refine tr_exit ?_
      simp only [thenE, inBlkE, Nat.reduceEqDiff, ↓reduceIte]
      refine hK7 _ ?_
      refine tr_seq fun K16 hK16 => ?_
      refine tr_region [1, 2, 6, 9] rfl rfl fun K hK => ?_
      refine evR_bo ?_
      iterate 4 refine evR_p ?_
      refine evR_e hK ?_; clear hK K
      refine hK16 _ ?_
      refine tr_seq fun K17 hK17 => ?_
      refine tr_seq fun K18 hK18 => ?_
      refine tr_region [1, 2, 6, 9, 55] rfl rfl fun K hK => ?_
      iterate 2 refine evR_p ?_
      refine evR_e hK ?_; clear hK K
      refine hK18 _ ?_
      refine tr_condB (fun ht4 => ?_) (fun ht4 => ?_)
      ·
       skip
       (first | (exfalso; simp_all; done) | skip)
       all_goals
        refine tr_region [2, 6, 9] rfl rfl fun K hK => ?_
        iterate 4 refine evR_p ?_
        refine evR_c (hc := (h35 (by assumption))) (k := ?_)
        refine evR_bs ?_
        iterate 2 refine evR_p ?_
        refine evR_e hK ?_; clear hK K
        refine hK17 _ ?_
        refine tr_seq fun K19 hK19 => ?_
        refine tr_region [2, 6] rfl rfl fun K hK => ?_
        refine evR_p ?_
        refine evR_c (hc := (hsol (by assumption))) (k := ?_)
        iterate 2 refine evR_p ?_
        refine evR_e hK ?_; clear hK K
        refine hK19 _ ?_
        refine tr_seq fun K20 hK20 => ?_
        refine tr_region [2, 3] rfl rfl fun K hK => ?_
        iterate 3 refine evR_p ?_
        refine evR_e hK ?_; clear hK K
        refine hK20 _ ?_
        refine tr_ret ?_
        (try simp only [thenE, inBlkE])
        simp (maxSteps := 4000000) (disch := first | assumption | omega | (simp only [go_sem, *]; done) | (simp only [go_sem, *]; omega)) only [postA, postO, resV1, fzAll, go_sem, hq, Int.reduceToNat, Nat.reduceBEq, Nat.reduceEqDiff, Nat.reduceAdd, Nat.reduceMul, Nat.reduceLeDiff, Nat.reduceLT, Nat.reduceSub, ↓reduceIte, reduceCtorEq]
        all_goals (rfl)
      ·
       skip
       (first | (exfalso; simp_all; done) | skip)
       all_goals
        refine tr_skip ?_
        (try simp only [thenE, inBlkE])
        refine hK17 _ ?_
        refine tr_seq fun K21 hK21 => ?_
        refine tr_region [2, 6] rfl rfl fun K hK => ?_
        refine evR_p ?_
        refine evR_c (hc := (hsol0 (by assumption))) (k := ?_)
        iterate 2 refine evR_p ?_
        refine evR_e hK ?_; clear hK K
        refine hK21 _ ?_
        refine tr_seq fun K22 hK22 => ?_
        refine tr_region [2, 3] rfl rfl fun K hK => ?_
        iterate 3 refine evR_p ?_
        refine evR_e hK ?_; clear hK K
        refine hK22 _ ?_
        refine tr_ret ?_
        (try simp only [thenE, inBlkE])
        simp (maxSteps := 4000000) (disch := first | assumption | omega | (simp only [go_sem, *]; done) | (simp only [go_sem, *]; omega)) only [postA, postO, resV1, fzAll, go_sem, hq, Int.reduceToNat, Nat.reduceBEq, Nat.reduceEqDiff, Nat.reduceAdd, Nat.reduceMul, Nat.reduceLeDiff, Nat.reduceLT, Nat.reduceSub, ↓reduceIte, reduceCtorEq]
        all_goals (rfl)
end

end Go.Proofs.Ytfamkbofdamkkaa
namespace Go.Proofs.Ytfamkbofdamkkaa
open Go.RowKit
set_option linter.unusedVariables false
set_option linter.unusedSimpArgs false
section
variable {cx : Cx} {mem : Mem} {nx : Nat} {ι : Nat → Nat} {ρ : Nat → Value} {w : World}
theorem ML.reobj (hm : ML cx mem nx ι ρ w) {i : Nat} {o o' : AObj} (hin0 : (i, o) ∈ mem) (hb : blk ι ρ (i, o') = blk ι ρ (i, o)) (ho : OR w (OO cx.X mem ι ρ) ι ρ nx i o → OR w (OO cx.X mem ι ρ) ι ρ nx i o') :
    ML cx (mem.map fun p => if p.1 = i then (i, o') else p) nx ι ρ w ∧ ∀ b, OO cx.X (mem.map fun p => if p.1 = i then (i, o') else p) ι ρ b → OO cx.X mem ι ρ b := by
  have hin : ∀ q, q ∈ (mem.map fun p => if p.1 = i then (i, o') else p) → ∃ p ∈ mem, q = (if p.1 = i then (i, o') else p) ∧ blk ι ρ q = blk ι ρ p ∧ q.1 = p.1 := by
    intro q hq
    obtain ⟨p, hp, rfl⟩ := List.mem_map.1 hq
    refine ⟨p, hp, rfl, ?_⟩
    by_cases hpid : p.1 = i
    · have : p = (i, o) := hm.keys p hp _ hin0 hpid
      subst this; simp [hb]
    · simp [hpid]
  have hO : ∀ b, OO cx.X (mem.map fun p => if p.1 = i then (i, o') else p) ι ρ b → OO cx.X mem ι ρ b := by
    rintro b (hx | ⟨q, hq, hqb⟩)
    · exact .inl hx
    · obtain ⟨p, hp, -, hpb, -⟩ := hin q hq
      exact .inr ⟨p, hp, by rw [← hpb]; exact hqb⟩
  have hk : ∀ c v x, Rel w (OO cx.X mem ι ρ) ι ρ nx c v x → Rel w (OO cx.X (mem.map fun p => if p.1 = i then (i, o') else p) ι ρ) ι ρ nx c v x := fun c v x hr =>
    hr.mono (fun a y hc hno => ⟨hc, fun hn => hno (hO _ hn)⟩) (fun _ _ => ⟨rfl, rfl⟩) (Nat.le_refl _)
  refine ⟨⟨hm.os, hm.tape, hm.output, hm.size, hm.old, ?_, ?_, ?_, ?_, hm.xlt, ?_⟩, hO⟩
  · intro p hp q hq e
    obtain ⟨p', hp', rfl, -, e1⟩ := hin p hp
    obtain ⟨q', hq', rfl, -, e2⟩ := hin q hq
    have : p' = q' := hm.keys p' hp' q' hq' (by rw [← e1, ← e2]; exact e)
    rw [this]
  · intro p hp; obtain ⟨p', hp', -, -, e1⟩ := hin p hp; rw [e1]; exact hm.lt p' hp'
  · intro p hp b hpb; obtain ⟨p', hp', -, e1, -⟩ := hin p hp; rw [e1] at hpb; exact hm.own p' hp' b hpb
  · intro p hp q hq b hpb hqb
    obtain ⟨p', hp', rfl, e1, -⟩ := hin p hp
    obtain ⟨q', hq', rfl, e2, -⟩ := hin q hq
    have : p' = q' := hm.inj p' hp' q' hq' b (by rw [← e1]; exact hpb) (by rw [← e2]; exact hqb)
    rw [this]
  · intro q hq
    obtain ⟨p, hp, rfl, -, -⟩ := hin q hq
    by_cases hpid : p.1 = i
    · have : p = (i, o) := hm.keys p hp _ hin0 hpid
      subst this
      simp only [if_true]
      exact OR.mono hk rfl rfl (fun _ _ => rfl) (ho (hm.obj _ hp))
    · simp only [hpid, if_false]
      exact OR.mono hk rfl rfl (fun _ _ => rfl) (hm.obj p hp)
end
theorem s18 {p : Pg} (hv : validB p = true) : CallsA Try.prog 18 [.agg (encPg p)] (.tup [.agg (encSol2 p), .int .i64 0]) := by
  obtain ⟨a, b, c⟩ := valid_max hv
  exact (c15 p a b c hv).le (sol_le p)
theorem encWs_fzL (i : Nat) (o : AObj) (s : Sg) : V.fzL i o (encSg s) = encSg s := by simp [encSg, V.fzL, V.fz]
theorem encSgs_fz (i : Nat) (o : AObj) (l : List Sg) : (encSgs l).map (V.fzL i o) = encSgs l := by
  simp only [encSgs, List.map_map]
  exact List.map_congr_left fun s _ => encWs_fzL i o s
theorem encSgs_cl (l : List Sg) : (encSgs l).all V.clL = true := by
  rw [List.all_eq_true]
  intro r hr
  obtain ⟨s, -, rfl⟩ := List.mem_map.1 hr
  rfl
theorem encSgs_row (a : List Sg) (k : Nat) (r : List V) (h : k < a.length) : ((encSgs a).set k r).getD k [] = r := by simp [List.getD, encSgs_length, h]
theorem encSgs_app1 (a : List Sg) (v no yes : Int) (ws : List Wt) : encSgs a ++ [[V.int .i64 v, V.int .i64 no, V.int .i64 yes, V.sl 2 (encWs ws)]] = encSgs (a ++ [⟨v, no, yes, ws⟩]) := by rw [encSgs_snoc]; rfl
theorem encWs_app1 (a : List Wt) (x y : Int) : encWs a ++ [[V.int .i64 x, V.int .i64 y]] = encWs (a ++ [⟨x, y⟩]) := by simp [encWs, encW]
def encSos (l : List Pg) : List (List V) := l.map encSol2
theorem encSos_length (l : List Pg) : (encSos l).length = l.length := by simp [encSos]
theorem encSos_getD (l : List Pg) (k : Nat) (h : k < l.length) : (encSos l).getD k [] = encSol2 (l.getD k pg0) := by simp [encSos, List.getD, h]
def encPfs (l : List (List Sg)) : List (List V) := l.map fun x => [V.sl 4 (encSgs x)]
theorem encPfs_length (l : List (List Sg)) : (encPfs l).length = l.length := by simp [encPfs]
theorem encPfs_getD (l : List (List Sg)) (k : Nat) (h : k < l.length) : (encPfs l).getD k [] = [V.sl 4 (encSgs (l.getD k []))] := by simp [encPfs, List.getD, h]
def cutS (n : Nat) (s : Sg) : Sg := ⟨s.var, s.no, s.yes, s.ws.take n⟩
def fewS (l : List Sg) : List Sg := (l.take 40).map (cutS 9)
theorem cutS_succ {l : List Sg} {i : Nat} (n : Nat) (h : i < l.length) : (l.take (i + 1)).map (cutS n) = (l.take i).map (cutS n) ++ [cutS n (l.getD i sg0)] := take_snoc _ _ h
theorem fewS_min (l : List Sg) : (l.take (min l.length 40)).map (cutS 9) = fewS l := by
  unfold fewS
  congr 1
  rw [← List.take_take, List.take_of_length_le (l := l.take 40) (by simp; omega)]
theorem encWs_take (a : List Wt) (n : Nat) : (encWs a).take n = encWs (a.take n) := by simp [encWs, List.map_take]
theorem okPf_few (l : List Sg) : okPf (fewS l) := by
  refine ⟨?_, fun s hs => ?_⟩
  · have : (fewS l).length ≤ 40 := by simp [fewS]; omega
    unfold maxLen; omega
  · simp only [fewS, List.mem_map] at hs
    obtain ⟨t, -, rfl⟩ := hs
    have : (cutS 9 t).ws.length ≤ 9 := by simp [cutS]; omega
    unfold maxLen; omega
theorem okPf_bent {l : List Sg} (h1 : l.length ≤ 8192) (h2 : ∀ s ∈ l, s.ws.length ≤ 2000) : okPf l := ⟨by unfold maxLen; omega, fun s hs => by have := h2 s hs; unfold maxLen; omega⟩
theorem zz_take {za zb : List Int} (h1 : za.length = 4) (h2 : zb.length = 4) : ∃ zq : List Int, cellsI za ++ cellsI zb = cellsI zq ∧ zq.length = 8 ∧ List.take 4 (cellsI zq) = cellsI za ∧ List.take 4 (List.drop 4 (cellsI zq)) = cellsI zb := by
  have e : cellsI za ++ cellsI zb = cellsI (za ++ zb) := by simp [cellsI]
  refine ⟨za ++ zb, e, by simp [h1, h2], ?_, ?_⟩
  · rw [← e, List.take_left' (by rw [cellsI_length, h1])]
  · rw [← e, List.drop_left' (by rw [cellsI_length, h1]), List.take_of_length_le (by rw [cellsI_length, h2]; exact Nat.le_refl _)]
/-- The proofs that the laws on Bent go through. -/
theorem pfs_ok {p : Pg} (hv : validB p = true) (z1 z2 : List Int) (st : List Sg) : ∀ k, k < 4 → okPf ([prfS p, bentW (prfS p) z1, bentW (bentW (prfS p) z1) z2, fewS st].getD k []) := by
  have hpl := prf_len hv
  have hw0 := prf_ws p
  have hw1 := bentW_ws (z := z1) hw0
  have hw2 := bentW_ws (z := z2) hw1
  have hl1 := bentW_len (l := prfS p) (z := z1)
  have hl2 := bentW_len (l := bentW (prfS p) z1) (z := z2)
  intro k hk
  match k, hk with
  | 0, _ => exact okPf_prf hv
  | 1, _ => exact okPf_bent (by show (bentW _ _).length ≤ 8192; omega) (fun s hs => by have := hw1 s hs; omega)
  | 2, _ => exact okPf_bent (by show (bentW _ _).length ≤ 8192; omega) (fun s hs => by have := hw2 s hs; omega)
  | 3, _ => exact okPf_few st
/-- What holds is true. -/
theorem sound_ref {p : Pg} (hv : validB p = true) {l : List Sg} (h : refutesW p l = true) : (choiceL p).length = 0 := by
  obtain ⟨v, hv1, -⟩ := vars_pow hv
  rw [List.length_eq_zero_iff]
  refine List.eq_nil_iff_forall_not_mem.2 fun x hx => ?_
  obtain ⟨s, -, hs, hk⟩ := mem_choiceL.1 hx
  have ev : p.vars.toNat = v := by omega
  rw [ev] at hs
  rw [refutes_true h hv1 hs] at hk; cases hk
theorem sound_bnd {p : Pg} (hv : validB p = true) {l : List Sg} {g : Int} (h : boundsW p l g = true) : ∀ x ∈ choiceL p, gainW p x ≤ g := by
  obtain ⟨v, hv1, -⟩ := vars_pow hv
  intro x hx
  obtain ⟨s, rfl, hs, hk⟩ := mem_choiceL.1 hx
  have ev : p.vars.toNat = v := by omega
  rw [ev] at hs
  rw [(gain_in hv hv1 hs).1]
  exact bounds_true h hv1 hs hk
theorem wrong_rw {p : Pg} {l : List Sg} (hv : validB p = true) (hl : l.length ≤ 8192) (h0 : ¬ l.length = 0) : rwX p.vars p.rows l l.length 0 zero12 = wrongW p l := by
  unfold wrongW wrkP rwX
  rw [if_neg h0, hv]
  have e : decide ((l.length : Int) ≤ 8192) = true := by simp; omega
  rw [e]; simp only [Bool.and_self, if_true]; cases wrkN p.vars p.rows l l.length 0 zero12 <;> rfl
theorem wrong_nil {p : Pg} {l : List Sg} (hv : validB p = true) (h0 : l.length = 0) : wrongW p l = 0 := by
  unfold wrongW wrkP
  rw [if_pos h0, hv, h0]; rfl
theorem wrong_out {p : Pg} {l : List Sg} (h : ¬ (validB p = true ∧ l.length ≤ 8192)) : wrongW p l = -2 := by
  unfold wrongW
  cases hv : validB p
  · rfl
  · have e : decide ((l.length : Int) ≤ 8192) = false := by simp; rw [hv] at h; simp at h; omega
    rw [e]; rfl
theorem bounds_rw {p : Pg} {l : List Sg} {g : Int} (hv : validB p = true) (hl : l.length ≤ 8192) (h0 : ¬ l.length = 0) (hg : isInB g (-12000000000) 12000000000 = true) : decide (rwX p.vars (p.rows ++ [goalW p g]) l l.length 0 zero12 = -1) = boundsW p l g := by
  unfold boundsW wrkP rwX
  rw [if_neg h0, hv, hg]
  have e : decide ((l.length : Int) ≤ 8192) = true := by simp; omega
  rw [e]; simp only [Bool.true_and]
  cases wrkN p.vars (p.rows ++ [goalW p g]) l l.length 0 zero12 <;> simp
theorem bounds_no {p : Pg} {l : List Sg} {g : Int} (h : ¬ (((validB p = true ∧ l.length ≤ 8192) ∧ ¬ l.length = 0) ∧ isInB g (-12000000000) 12000000000 = true)) : boundsW p l g = false := by
  rw [Bool.eq_false_iff]
  intro hb
  unfold boundsW at hb
  simp only [Bool.and_eq_true, decide_eq_true_eq] at hb
  obtain ⟨h1, h2, h3, h4⟩ := hb
  refine h ⟨⟨⟨h2, by omega⟩, fun h0 => ?_⟩, h1⟩
  unfold wrkP at h4; rw [if_pos h0] at h4; cases h4
/-! #### rows that are marked -/
def encB (us : List Bool) : List (List V) := us.map fun b => [V.bool b]
theorem encB_length (us : List Bool) : (encB us).length = us.length := by simp [encB]
theorem encB_getD (us : List Bool) (k : Nat) (h : k < us.length) : (encB us).getD k [] = [V.bool (us.getD k false)] := by simp [encB, List.getD, h]
theorem encB_set (us : List Bool) (k : Nat) (b : Bool) : (encB us).set k [V.bool b] = encB (us.set k b) := by simp [encB, List.map_set]
theorem encB_rep (n : Nat) : List.replicate n [V.bool false] = encB (List.replicate n false) := by simp [encB]
def markT (us : List Bool) (ws : List Wt) : Nat → List Bool
  | 0 => us
  | i + 1 => (markT us ws i).set (ws.getD i wt0).rw.toNat true
def markN (l : List Sg) : Nat → Nat → List Bool → List Bool
  | 0, _, us => us
  | n + 1, k, us => if (l.getD k sg0).var = -1 then markT us (l.getD k sg0).ws (l.getD k sg0).ws.length else markN l n (l.getD k sg0).yes.toNat (markN l n (l.getD k sg0).no.toNat us)
theorem markT_length (us : List Bool) (ws : List Wt) : ∀ i, (markT us ws i).length = us.length
  | 0 => rfl
  | i + 1 => by simp only [markT, List.length_set, markT_length us ws i]
theorem markN_length (l : List Sg) : ∀ (n k : Nat) (us : List Bool), (markN l n k us).length = us.length
  | 0, _, _ => rfl
  | n + 1, k, us => by
    simp only [markN]
    split
    · exact markT_length _ _ _
    · rw [markN_length l n, markN_length l n]
def marks (N : Nat) (us : List Bool) (es : List (Int × Bool)) : Prop := us.length = N ∧ ∀ i : Nat, i < N → (us.getD i false = true ↔ (i : Int) ∈ keyU es)
theorem marks_T {N : Nat} {us : List Bool} {es : List (Int × Bool)} (h : marks N us es) {ws : List Wt} : ∀ i, (∀ j, j < i → 0 ≤ (ws.getD j wt0).rw ∧ (ws.getD j wt0).rw < N) → marks N (markT us ws i) (usedT es ws i)
  | 0, _ => h
  | i + 1, hw => by
    obtain ⟨h1, h2⟩ := marks_T h i fun j hj => hw j (by omega)
    have h3 := hw i (by omega)
    refine ⟨by simp only [markT, List.length_set]; exact h1, fun j hj => ?_⟩
    simp only [markT, usedT]
    rw [getD_upd (by rw [h1]; omega), keyU_put]
    by_cases e : j = (ws.getD i wt0).rw.toNat
    · rw [if_pos e]
      have e2 : (j : Int) = (ws.getD i wt0).rw := by omega
      constructor
      · intro _
        split
        · rw [e2]; assumption
        · rw [e2]; simp
      · intro _; rfl
    · rw [if_neg e]
      rw [h2 j hj]
      split
      · exact Iff.rfl
      · rw [List.mem_append, List.mem_singleton]
        exact ⟨Or.inl, fun h => by rcases h with h | h; · exact h
                                   · omega⟩
theorem marks_N {vars : Int} {rows : List Rw} {l : List Sg} : ∀ (n k : Nat) (d : List Int) (us : List Bool) (es : List (Int × Bool)), marks rows.length us es → wrkN vars rows l n k d = none → marks rows.length (markN l n k us) (usN l n k es)
  | 0, k, d, us, es, h, hw => by simp [wrkN] at hw
  | n + 1, k, d, us, es, h, hw => by
    simp only [wrkN] at hw
    simp only [markN, usN]
    split at hw
    · rename_i e
      rw [if_pos e, if_pos e]
      split at hw
      · rename_i hl
        have h1 := leafOk_ws hl
        exact marks_T h _ fun j hj => by have := wsOk_at h1 hj; omega
      · cases hw
    · rename_i e
      rw [if_neg e, if_neg e]
      split at hw
      · cases hw
      · split at hw
        · cases hw
        · split at hw
          · cases hw
          · rename_i h5
            exact marks_N n _ _ _ _ (marks_N n _ _ _ _ h h5) hw
def trueL (us : List Bool) : Nat → List Int
  | 0 => []
  | i + 1 => if us.getD i false = true then trueL us i ++ [(i : Int)] else trueL us i
theorem trueL_t {us : List Bool} {i : Nat} (h : us.getD i false = true) : trueL us (i + 1) = trueL us i ++ [(i : Int)] := by simp only [trueL, if_pos h]
theorem trueL_f {us : List Bool} {i : Nat} (h : us.getD i false = false) : trueL us (i + 1) = trueL us i := by simp only [trueL, h]; rfl
theorem trueL_len (us : List Bool) : ∀ i, (trueL us i).length ≤ i
  | 0 => Nat.le_refl _
  | i + 1 => by have := trueL_len us i; simp only [trueL]; split <;> (try simp) <;> omega
theorem trueL_mem (us : List Bool) {x : Int} : ∀ {n : Nat}, x ∈ trueL us n ↔ ∃ k : Nat, x = k ∧ k < n ∧ us.getD k false = true
  | 0 => by simp [trueL]
  | n + 1 => by
    have ih := trueL_mem us (x := x) (n := n)
    simp only [trueL]
    split
    · rename_i h
      rw [List.mem_append, List.mem_singleton, ih]
      constructor
      · rintro (⟨k, h1, h2, h3⟩ | h1)
        · exact ⟨k, h1, by omega, h3⟩
        · exact ⟨n, h1, by omega, h⟩
      · rintro ⟨k, h1, h2, h3⟩
        by_cases e : k = n
        · subst e; exact .inr h1
        · exact .inl ⟨k, h1, by omega, h3⟩
    · rename_i h
      rw [ih]
      constructor
      · rintro ⟨k, h1, h2, h3⟩; exact ⟨k, h1, by omega, h3⟩
      · rintro ⟨k, h1, h2, h3⟩
        by_cases e : k = n
        · subst e; exact (h h3).elim
        · exact ⟨k, h1, by omega, h3⟩
theorem srt_append {a : List Int} {x : Int} (h : srt a) (hx : ∀ y ∈ a, y < x) : srt (a ++ [x]) := by
  intro i j hij hj
  by_cases hj2 : j < a.length
  · have e1 : (a ++ [x]).getD i 0 = a.getD i 0 := by simp [List.getD, List.getElem?_append_left (show i < a.length by omega)]
    have e2 : (a ++ [x]).getD j 0 = a.getD j 0 := by simp [List.getD, List.getElem?_append_left hj2]
    rw [e1, e2]; exact h i j hij hj2
  · have hj3 : j = a.length := by simp at hj; omega
    subst hj3
    have e1 : (a ++ [x]).getD i 0 = a.getD i 0 := by simp [List.getD, List.getElem?_append_left hij]
    have e2 : (a ++ [x]).getD a.length 0 = x := by simp [List.getD]
    rw [e1, e2]; exact hx _ (getD_mem hij)
theorem trueL_srt (us : List Bool) : ∀ n, srt (trueL us n)
  | 0 => fun i j _ h => by simp [trueL] at h
  | n + 1 => by
    simp only [trueL]
    split
    · refine srt_append (trueL_srt us n) fun y hy => ?_
      obtain ⟨k, rfl, hk, -⟩ := (trueL_mem us).1 hy
      omega
    · exact trueL_srt us n
theorem srt_pair {a : List Int} (h : srt a) : a.Pairwise (· < ·) := by
  rw [List.pairwise_iff_getElem]
  intro i j hi hj hij
  have := h i j hij hj
  simpa [List.getD, hi, hj] using this
theorem srt_ext {a b : List Int} (ha : srt a) (hb : srt b) (h : ∀ x, x ∈ a ↔ x ∈ b) : a = b := by
  have pa := srt_pair ha
  have pb := srt_pair hb
  have na : a.Nodup := pa.imp fun h => by omega
  have nb : b.Nodup := pb.imp fun h => by omega
  have hp : a.Perm b := (List.perm_ext_iff_of_nodup na nb).2 h
  exact hp.eq_of_pairwise (fun x y _ _ h1 h2 => by omega) pa pb
theorem rows_ref {p : Pg} {l : List Sg} (h : refutesW p l = true) : trueL (markN l l.length 0 (List.replicate p.rows.length false)) p.rows.length = usedI p l := by
  have hn : wrkP p.vars p.rows l = none := by rw [wrong_spec] at h; simp only [Bool.and_eq_true, decide_eq_true_eq] at h; exact h.2.2
  have hn2 : wrkN p.vars p.rows l l.length 0 zero12 = none := by
    unfold wrkP at hn
    split at hn
    · cases hn
    · exact hn
  have hu := usN_ok l.length 0 zero12 [] (okU.nil _) hn2
  have hm := marks_N l.length 0 zero12 (List.replicate p.rows.length false) [] ⟨by simp, fun i hi => by simp [List.getD, hi, keyU]⟩ hn2
  rw [usedI_of h]
  refine srt_ext (trueL_srt _ _) (sortU_srt hu) fun x => ?_
  rw [trueL_mem, sortU_mem]
  constructor
  · rintro ⟨k, rfl, hk, ht⟩; exact (hm.2 k hk).1 ht
  · intro hx
    have := hu.rg x hx
    refine ⟨x.toNat, by omega, by omega, (hm.2 x.toNat (by omega)).2 ?_⟩
    rwa [Int.toNat_of_nonneg this.1]
theorem used_no {p : Pg} {l : List Sg} (h : refutesW p l = false) : usedI p l = [] := by
  rw [wrong_spec] at h
  unfold usedI
  split
  · rename_i hc
    have e1 : decide ((l.length : Int) ≤ 8192) = true := by simp; omega
    rw [hc.1, e1] at h
    simp only [Bool.true_and, decide_eq_false_iff_not] at h
    cases hw : wrkP p.vars p.rows l with
    | none => exact (h hw).elim
    | some k => rfl
  · rfl
theorem ref_none {p : Pg} {l : List Sg} (h : refutesW p l = true) : wrkN p.vars p.rows l l.length 0 zero12 = none ∧ p.rows.length ≤ 300 := by
  rw [wrong_spec] at h
  simp only [Bool.and_eq_true, decide_eq_true_eq] at h
  have hn := h.2.2
  refine ⟨?_, (validB_all h.1).2.2.1⟩
  unfold wrkP at hn
  split at hn
  · cases hn
  · exact hn
theorem leaf_good2 {rows : List Rw} {s : Sg} {d : List Int} (h1 : ((decide (s.no = 0) && decide (s.yes = 0)) && isInB (s.ws.length : Int) 1 8) = true) (h2 : ∀ i, i < s.ws.length → wtOk rows.length s.ws i = true) : leafOk rows s d = decide (mostT rows s.ws s.ws.length < lowK rows s.ws d 12) := by
  unfold leafOk wsOk
  rw [Bool.and_assoc] at h1
  rw [h1, allN_iff.2 h2]; rfl
/-- A program cut short. -/
def someP (p : Pg) : Pg := ⟨p.vars, (p.rows.take 20).map (cutR 12), p.gain.take 12⟩
theorem someP_min (p : Pg) : (p.rows.take (min p.rows.length 20)).map (cutR 12) = (p.rows.take 20).map (cutR 12) := by
  congr 1
  rw [← List.take_take, List.take_of_length_le (l := p.rows.take 20) (by simp; omega)]
theorem okPr_some (p : Pg) : okPr (someP p) := by
  refine ⟨by simp [someP]; omega, by simp [someP]; omega, fun r hr => ?_⟩
  simp only [someP, List.mem_map] at hr
  obtain ⟨t, -, rfl⟩ := hr
  simp [cutR]; omega
set_option maxRecDepth 100000
attribute [local go_sem] Nat.zero_add Nat.add_zero Nat.mul_one eq_self ne_eq not_true_eq_false not_false_eq_true decide_true decide_false decide_not Bool.false_eq_true List.filter_cons List.filter_nil true_and and_true beq_false beq_true Bool.not_true Bool.not_false Bool.and_true Bool.true_and Option.getD_some Option.getD_none imp_self implies_true Int.toNat_natCast List.cons_append List.nil_append List.map_cons List.map_nil List.length_cons List.length_nil List.getD_cons_zero List.getD_cons_succ List.drop_zero List.drop_succ_cons List.take_succ_cons List.take_zero
attribute [local go_sem] shL isSh Option.isNone_none Option.isNone_some Option.isSome_none lowN lowQ lowM isAl appOwn unw appF isE isO stpO notIn St.bare evO evDO isEff stp St.get St.slot St.put List.lookup un unL ofVal gof nth pickV pkB_false pkB_true binV unV loadV idxV fldV partV buildV fillV lenV sliV appV appR rowsV winV V.parts V.okp V.sc Mem.look_cons Mem.look_nil V.cl V.clL AObj.clo fzAll exps St.fz Mem.fz V.fz V.fzL AObj.fz Option.isSome_some Option.isSome_none Bool.or_true Bool.true_or Bool.or_false Bool.false_or false_and and_false false_or or_false arT_104 arT_121 arT_160 arT_161 arT_22 arT_23 arT_24 arT_25 arT_28 arT_29 arT_30 arT_40 arT_42 arT_52 arT_60 arT_65 arT_72 arT_73 arT_76 arT_9 arT_90 boolT_182 boolT_25 boolT_3 boolT_35 boolT_4 boolT_76 flatT_182 flatT_25 flatT_3 flatT_35 flatT_4 flatT_76 intT_133 intT_169 intT_171 intT_188 intT_3 intT_5 lay_104 lay_112 lay_138 lay_141 lay_153 lay_160 lay_161 lay_164 lay_188 lay_23 lay_24 lay_25 lay_27 lay_28 lay_3 lay_30 lay_34 lay_4 lay_49 lay_52 lay_54 lay_56 lay_65 lay_67 lay_73 lay_76 lay_90 lay_99 mapT_112 okF_10 okF_100 okF_101 okF_102 okF_103 okF_104 okF_105 okF_106 okF_107 okF_108 okF_109 okF_11 okF_110 okF_111 okF_112 okF_113 okF_114 okF_115 okF_116 okF_117 okF_118 okF_119 okF_12 okF_120 okF_121 okF_122 okF_123 okF_124 okF_125 okF_126 okF_127 okF_128 okF_129 okF_13 okF_130 okF_131 okF_132 okF_133 okF_134 okF_135 okF_136 okF_137 okF_138 okF_139 okF_14 okF_140 okF_141 okF_142 okF_143 okF_144 okF_145 okF_146 okF_147 okF_148 okF_149 okF_15 okF_150 okF_151 okF_152 okF_153 okF_154 okF_155 okF_156 okF_157 okF_158 okF_159 okF_16 okF_160 okF_161 okF_162 okF_163 okF_164 okF_165 okF_166 okF_167 okF_168 okF_169 okF_17 okF_170 okF_171 okF_172 okF_173 okF_174 okF_175 okF_176 okF_177 okF_18 okF_19 okF_20 okF_21 okF_22 okF_23 okF_24 okF_25 okF_26 okF_27 okF_28 okF_29 okF_3 okF_30 okF_31 okF_32 okF_33 okF_34 okF_35 okF_36 okF_37 okF_38 okF_39 okF_4 okF_40 okF_41 okF_42 okF_43 okF_44 okF_45 okF_46 okF_47 okF_48 okF_49 okF_5 okF_50 okF_51 okF_52 okF_53 okF_54 okF_55 okF_56 okF_57 okF_58 okF_59 okF_6 okF_60 okF_61 okF_62 okF_63 okF_64 okF_65 okF_66 okF_67 okF_68 okF_69 okF_7 okF_70 okF_71 okF_72 okF_73 okF_74 okF_75 okF_76 okF_77 okF_78 okF_79 okF_8 okF_80 okF_81 okF_82 okF_83 okF_84 okF_85 okF_86 okF_87 okF_88 okF_89 okF_9 okF_90 okF_91 okF_92 okF_93 okF_94 okF_95 okF_96 okF_97 okF_98 okF_99 plT_138 plT_153 plT_157 plT_161 plT_27 plT_34 plT_54 plT_56 plT_67 plT_76 plT_90 plT_99 slT_104 slT_121 slT_160 slT_161 slT_22 slT_23 slT_24 slT_25 slT_28 slT_29 slT_30 slT_40 slT_42 slT_52 slT_60 slT_65 slT_72 slT_73 slT_76 slT_90 stT_138_0 stT_138_1 stT_153_0 stT_157_0 stT_157_1 stT_157_2 stT_157_3 stT_27_0 stT_27_1 stT_27_2 stT_34_0 stT_34_1 stT_34_2 stT_34_3 stT_54_0 stT_54_1 stT_54_2 stT_54_3 stT_56_0 stT_56_1 stT_67_1 stT_67_4 stT_67_5 stT_99_0 stT_99_1 strT_160 strT_76 strT_9 zeroT_112 zeroT_138 zeroT_153 zeroT_157 zeroT_160 zeroT_161 zeroT_188 zeroT_27 zeroT_3 zeroT_30 zeroT_34 zeroT_4 zeroT_49 zeroT_54 zeroT_56 zeroT_65 zeroT_67 zeroT_76 zeroT_90 zeroT_99
attribute [local go_sem] List.getElem?_cons_zero List.getElem?_cons_succ List.zip_cons_cons List.zip_nil_left List.zip_nil_right Bool.false_and Bool.and_false List.length_append List.length_set List.length_replicate List.all_cons List.all_nil encI_length encI_getD encR_length encR_getD encRw encPg spl shp AObj.shp rowM isSt isRpS isRd csh AObj.csh forall_const imp_self
attribute [local go_sem] encSg encW encSgs_length encWs_length encSgs_getD encWs_getD lookV lkM putM
attribute [local simp] encI_length encR_length cellsI_length encSgs_length encWs_length
section
attribute [local go_sem] encB_length encB_getD encB_set markT_length List.drop_nil
set_option maxHeartbeats 8000000 in
theorem k74s (vars : Int) (rows : List Rw) (l : List Sg) (hwl : ∀ k, k < l.length → (l.getD k sg0).ws.length ≤ maxLen) (n : Nat) (ih : ∀ (k : Nat) (d : List Int) (us : List Bool), k < l.length → us.length = rows.length → wrkN vars rows l n k d = none → CallsM Try.prog 74 [.sl 4 (encSgs l), .int .i64 (k : Nat), .own 0] [(0, .row 4 1 (encB us))] 1 (.tup []) [(0, .row 4 1 (encB (markN l n k us)))] 1) (k : Nat) (d : List Int) (us : List Bool) (hk : k < l.length) (hul : us.length = rows.length) (hw : wrkN vars rows l (n + 1) k d = none) (s : Sg) (hs : l.getD k sg0 = s) : CallsM Try.prog 74 [.sl 4 (encSgs l), .int .i64 (k : Nat), .own 0] ([(0, .row 4 1 (encB us))]) (1) (.tup []) ([(0, .row 4 1 (encB (markN l (n + 1) k us)))]) (1) := by
 have hsw : s.ws.length ≤ maxLen := hs ▸ hwl k hk
 unfold maxLen at hsw
 have hkl : (k : Int) < l.length := by omega
 have hW := hw
 simp only [wrkN, hs] at hW
 have hleaf : s.var = -1 → ∀ j, j < s.ws.length → 0 ≤ (s.ws.getD j wt0).rw ∧ (s.ws.getD j wt0).rw < rows.length := fun e j hj => by
  rw [if_pos e] at hW
  cases hlf : leafOk rows s d with
  | false => rw [hlf] at hW; simp at hW
  | true => have := wsOk_at (leafOk_ws hlf) hj; omega
 have hcase : ¬ s.var = -1 → goesOk l s k = true ∧ wrkN vars rows l n s.no.toNat (d.set s.var.toNat (-1)) = none ∧ wrkN vars rows l n s.yes.toNat (d.set s.var.toNat 1) = none := fun e => by
  rw [if_neg e] at hW
  split at hW
  ·
   cases hW
  ·
   split at hW
   ·
    cases hW
   ·
    rename_i h2
    split at hW
    ·
     cases hW
    ·
     rename_i h3
     exact ⟨by simpa using h2, h3, hW⟩
 have cNo : ¬ s.var = -1 → CallsM Try.prog 74 [.sl 4 (encSgs l), .int .i64 s.no, .own 0] [(0, .row 4 1 (encB us))] 1 (.tup []) [(0, .row 4 1 (encB (markN l n s.no.toNat us)))] 1 := fun e => by
  obtain ⟨h1, h2, h3⟩ := hcase e
  have h4 := goes_lt.1 h1
  have h := ih s.no.toNat _ us (by omega) hul h2
  rw [show ((s.no.toNat : Nat) : Int) = s.no by omega] at h; exact h
 have cYes : ¬ s.var = -1 → CallsM Try.prog 74 [.sl 4 (encSgs l), .int .i64 s.yes, .own 0] [(0, .row 4 1 (encB (markN l n s.no.toNat us)))] 1 (.tup []) [(0, .row 4 1 (encB (markN l n s.yes.toNat (markN l n s.no.toNat us))))] 1 := fun e => by
  obtain ⟨h1, h2, h3⟩ := hcase e
  have h4 := goes_lt.1 h1
  have h := ih s.yes.toNat _ (markN l n s.no.toNat us) (by omega) (by rw [markN_length]; exact hul) h3
  rw [show ((s.yes.toNat : Nat) : Int) = s.yes by omega] at h; exact h
 have hq := And.intro hs (And.intro hk (And.intro hkl (hul)))
 refine callsM_of_tr Try.func74 rfl (Nat.le_of_ble_eq_true rfl) (Nat.le_of_ble_eq_true rfl) (Nat.le_of_ble_eq_true rfl) ?_
 simp only [Try.results74, envOf, gh, gv, List.cons_append, List.nil_append, Nat.reduceAdd]
 refine tr_seq fun K1 hK1 => ?_
 refine tr_seq fun K2 hK2 => ?_
 refine tr_region [0, 1, 2, 12, 1000000] rfl rfl fun K hK => ?_
 iterate 6 refine evR_p ?_
 refine evR_e hK ?_; clear hK K
 refine hK2 _ ?_
 refine tr_condB (fun ht1 => ?_) (fun ht1 => ?_)
 ·
  skip
  (first | (exfalso; omega) | (exfalso; simp_all; done) | skip)
  all_goals
   refine tr_seq fun K3 hK3 => ?_
   refine tr_seq fun K4 hK4 => ?_
   refine tr_region [0, 1, 2, 6, 1000000] rfl rfl fun K hK => ?_
   refine evR_p ?_
   refine evR_e hK ?_; clear hK K
   refine hK4 _ ?_
   refine tr_block ?_
   -- loop 1: live [0, 1, 2, 6]
   refine tr_loopW (fun m σ => ∃ i : Nat, i + m = s.ws.length ∧ σ = ⟨[(0, .sl 4 (encSgs l)), (1, .int .i64 (k : Nat)), (2, .own 0), (6, .int .i64 (i : Nat)), (1000000, .own 0)], [(0, .row 4 1 (encB (markT us s.ws i)))], 1⟩) (s.ws.length) ?_ ?_
   ·
    exact ⟨_, Wk.refl _, 0, by omega, rfl⟩
   ·
    rintro m σ ⟨i, hi, rfl⟩ KL1 hKL1
    refine tr_seq fun K5 hK5 => ?_
    refine tr_seq fun K6 hK6 => ?_
    refine tr_region [0, 1, 2, 6, 20, 1000000] rfl rfl fun K hK => ?_
    iterate 8 refine evR_p ?_
    refine evR_e hK ?_; clear hK K
    refine hK6 _ ?_
    refine tr_condB (fun ht2 => ?_) (fun ht2 => ?_)
    ·
     skip
     (first | (exfalso; omega) | (exfalso; simp_all; done) | skip)
     all_goals
      have hil : i < s.ws.length := by omega
      obtain ⟨hr0, hr1⟩ := hleaf ht1 i hil
      have hr2 : (s.ws.getD i wt0).rw.toNat < rows.length := by omega
      replace hq := And.intro hq (And.intro hil (And.intro hr0 (And.intro hr1 (hr2))))
      refine tr_skip ?_
      (try simp only [thenE, inBlkE])
      refine hK5 _ ?_
      refine tr_seq fun K7 hK7 => ?_
      refine tr_block ?_
      refine tr_region [0, 1, 2, 6, 1000000] rfl rfl fun K hK => ?_
      iterate 12 refine evR_p ?_
      refine evR_e hK ?_; clear hK K
      refine hK7 _ ?_
      refine tr_region [0, 1, 2, 6, 1000000] rfl rfl fun K hK => ?_
      iterate 3 refine evR_p ?_
      refine evR_e hK ?_; clear hK K
      refine hKL1 _ ?_
      exact ⟨m - 1, _, by omega, Wk.refl _, i + 1, by omega, by rw [w64 (x := (i : Int) + 1) (by omega)]; rfl⟩
    ·
     skip
     (first | (exfalso; omega) | (exfalso; simp_all; done) | skip)
     all_goals
      have hil : i = s.ws.length := by omega
      subst hil
      refine tr_exit ?_
      simp only [thenE, inBlkE, Nat.reduceEqDiff, ↓reduceIte]
      refine hK3 _ ?_
      refine tr_ret ?_
      (try simp only [thenE, inBlkE])
      all_goals first | refine ⟨_, Wk.refl _, ?_⟩
      simp (maxSteps := 4000000) (disch := first | assumption | omega | (simp only [go_sem, *]; done) | (simp only [go_sem, *]; omega)) only [postM, ghOK, gv, St.ren, St.cut, V.ren, V.renL, AObj.ren, Nat.blt_eq, resV1, go_sem, hq, Int.reduceToNat, Nat.reduceBEq, Nat.reduceEqDiff, Nat.reduceAdd, Nat.reduceMul, Nat.reduceLeDiff, Nat.reduceLT, Nat.reduceSub, ↓reduceIte, reduceCtorEq]
      all_goals (first | (simp only [markN, hs]; rw [if_pos ht1]; done) | (simp only [markN, hs]; rw [if_neg ht1]; done))
 ·
  skip
  (first | (exfalso; omega) | (exfalso; simp_all; done) | skip)
  all_goals
   refine tr_skip ?_
   (try simp only [thenE, inBlkE])
   refine hK1 _ ?_
   refine tr_seq fun K8 hK8 => ?_
   refine tr_region [0, 1, 2, 1000000] rfl rfl fun K hK => ?_
   iterate 7 refine evR_p ?_
   refine evR_stepX fun Kq hKq => Or.inr ?_
   simp (maxSteps := 4000000) (disch := first | assumption | omega | (simp only [go_sem, *]; done) | (simp only [go_sem, *]; omega)) only [stpM, go_sem, hq, Int.reduceToNat, Nat.reduceBEq, Nat.reduceEqDiff, Nat.reduceAdd, Nat.reduceMul, Nat.reduceLeDiff, Nat.reduceLT, Nat.reduceSub, ↓reduceIte, reduceCtorEq]
   refine ⟨[0], ?_⟩
   simp (maxSteps := 4000000) (disch := first | assumption | omega | (simp only [go_sem, *]; done) | (simp only [go_sem, *]; omega)) only [V.mapL, V.map, gJ, footJ, inJ, AObj.map, ndJ, ltJ, V.domL, V.dom, AObj.dom, kC, kR, AObj.isC, hJ, backJ, List.any_cons, List.any_nil, Nat.ble_eq, Nat.blt_eq, Nat.reduceLT, Nat.reduceLeDiff, Bool.or_true, Bool.true_or, Bool.or_false, Bool.false_or, Bool.and_self, go_sem, hq, Int.reduceToNat, Nat.reduceBEq, Nat.reduceEqDiff, Nat.reduceAdd, Nat.reduceMul, Nat.reduceLeDiff, Nat.reduceLT, Nat.reduceSub, ↓reduceIte, reduceCtorEq]
   refine ⟨_, _, _, (cNo ht1), ?_⟩
   simp (maxSteps := 4000000) (disch := first | assumption | omega | (simp only [go_sem, *]; done) | (simp only [go_sem, *]; omega)) only [V.mapL, V.map, gJ, footJ, inJ, AObj.map, ndJ, ltJ, V.domL, V.dom, AObj.dom, kC, kR, AObj.isC, hJ, backJ, List.any_cons, List.any_nil, Nat.ble_eq, Nat.blt_eq, Nat.reduceLT, Nat.reduceLeDiff, Bool.or_true, Bool.true_or, Bool.or_false, Bool.false_or, Bool.and_self, go_sem, hq, Int.reduceToNat, Nat.reduceBEq, Nat.reduceEqDiff, Nat.reduceAdd, Nat.reduceMul, Nat.reduceLeDiff, Nat.reduceLT, Nat.reduceSub, ↓reduceIte, reduceCtorEq]
   (repeat (refine And.intro (by first | assumption | omega | decide | (simp; done) | (simp; omega) | (have hq := hvv hgt; omega) | (have hq := hvv hgt.1; omega) | (simp_all; done)) ?_))
   refine hKq _ ?_; clear hKq Kq
   refine evR_e hK ?_; clear hK K
   refine hK8 _ ?_
   refine tr_region [1000000] rfl rfl fun K hK => ?_
   iterate 7 refine evR_p ?_
   refine evR_stepX fun Kq hKq => Or.inr ?_
   simp (maxSteps := 4000000) (disch := first | assumption | omega | (simp only [go_sem, *]; done) | (simp only [go_sem, *]; omega)) only [stpM, go_sem, hq, Int.reduceToNat, Nat.reduceBEq, Nat.reduceEqDiff, Nat.reduceAdd, Nat.reduceMul, Nat.reduceLeDiff, Nat.reduceLT, Nat.reduceSub, ↓reduceIte, reduceCtorEq]
   refine ⟨[0], ?_⟩
   simp (maxSteps := 4000000) (disch := first | assumption | omega | (simp only [go_sem, *]; done) | (simp only [go_sem, *]; omega)) only [V.mapL, V.map, gJ, footJ, inJ, AObj.map, ndJ, ltJ, V.domL, V.dom, AObj.dom, kC, kR, AObj.isC, hJ, backJ, List.any_cons, List.any_nil, Nat.ble_eq, Nat.blt_eq, Nat.reduceLT, Nat.reduceLeDiff, Bool.or_true, Bool.true_or, Bool.or_false, Bool.false_or, Bool.and_self, go_sem, hq, Int.reduceToNat, Nat.reduceBEq, Nat.reduceEqDiff, Nat.reduceAdd, Nat.reduceMul, Nat.reduceLeDiff, Nat.reduceLT, Nat.reduceSub, ↓reduceIte, reduceCtorEq]
   refine ⟨_, _, _, (cYes ht1), ?_⟩
   simp (maxSteps := 4000000) (disch := first | assumption | omega | (simp only [go_sem, *]; done) | (simp only [go_sem, *]; omega)) only [V.mapL, V.map, gJ, footJ, inJ, AObj.map, ndJ, ltJ, V.domL, V.dom, AObj.dom, kC, kR, AObj.isC, hJ, backJ, List.any_cons, List.any_nil, Nat.ble_eq, Nat.blt_eq, Nat.reduceLT, Nat.reduceLeDiff, Bool.or_true, Bool.true_or, Bool.or_false, Bool.false_or, Bool.and_self, go_sem, hq, Int.reduceToNat, Nat.reduceBEq, Nat.reduceEqDiff, Nat.reduceAdd, Nat.reduceMul, Nat.reduceLeDiff, Nat.reduceLT, Nat.reduceSub, ↓reduceIte, reduceCtorEq]
   (repeat (refine And.intro (by first | assumption | omega | decide | (simp; done) | (simp; omega) | (have hq := hvv hgt; omega) | (have hq := hvv hgt.1; omega) | (simp_all; done)) ?_))
   refine hKq _ ?_; clear hKq Kq
   refine evR_e hK ?_; clear hK K
   all_goals first | refine ⟨_, Wk.refl _, ?_⟩
   simp (maxSteps := 4000000) (disch := first | assumption | omega | (simp only [go_sem, *]; done) | (simp only [go_sem, *]; omega)) only [postM, ghOK, gv, St.ren, St.cut, V.ren, V.renL, AObj.ren, Nat.blt_eq, resV1, go_sem, hq, Int.reduceToNat, Nat.reduceBEq, Nat.reduceEqDiff, Nat.reduceAdd, Nat.reduceMul, Nat.reduceLeDiff, Nat.reduceLT, Nat.reduceSub, ↓reduceIte, reduceCtorEq]
   all_goals (first | (simp only [markN, hs]; rw [if_pos ht1]; done) | (simp only [markN, hs]; rw [if_neg ht1]; done))
end
theorem k74 (vars : Int) (rows : List Rw) (l : List Sg) (hwl : ∀ k, k < l.length → (l.getD k sg0).ws.length ≤ maxLen) : ∀ (n k : Nat) (d : List Int) (us : List Bool), k < l.length → us.length = rows.length → wrkN vars rows l n k d = none → CallsM Try.prog 74 [.sl 4 (encSgs l), .int .i64 (k : Nat), .own 0] [(0, .row 4 1 (encB us))] 1 (.tup []) [(0, .row 4 1 (encB (markN l n k us)))] 1
 | 0, k, d, us, hk, hul, hw => by simp [wrkN] at hw
 | n + 1, k, d, us, hk, hul, hw => k74s vars rows l hwl n (k74 vars rows l hwl n) k d us hk hul hw _ rfl

section
attribute [local go_sem] encSg
set_option maxHeartbeats 16000000 in
theorem k121 (rows : List Rw) (v : Nat) (hr : ∀ r ∈ rows, okRw v r) (hv : v ≤ 12) (hn : rows.length ≤ 301) (s : Sg) (hsw : s.ws.length ≤ maxLen) (dec : List Int) (hd : okD v dec) : CallsA Try.prog 121 [.sl 6 (encR rows), .agg (encSg s), .sl 1 (encI dec)] (.bool (leafOk rows s (toD dec))) := by
 unfold maxLen at hsw
 have hdl := hd.1
 have hq := hdl
 refine callsA_of_tr Try.func121 rfl (Nat.le_of_ble_eq_true rfl) ?_
 simp only [Try.results121, envOf, Nat.reduceAdd]
 refine tr_seq fun K1 hK1 => ?_
 refine tr_region [0, 2, 4] rfl rfl fun K hK => ?_
 iterate 2 refine evR_p ?_
 refine evR_e hK ?_; clear hK K
 refine hK1 _ ?_
 refine tr_seq fun K2 hK2 => ?_
 refine tr_seq fun K3 hK3 => ?_
 refine tr_fz [.ptr 0 0] (by simp (maxSteps := 4000000) (disch := first | assumption | omega | (simp only [go_sem, *]; done) | (simp only [go_sem, *]; omega)) only [go_sem, hq, Int.reduceToNat, Nat.reduceBEq, Nat.reduceEqDiff, Nat.reduceAdd, Nat.reduceMul, Nat.reduceLeDiff, Nat.reduceLT, Nat.reduceSub, ↓reduceIte, reduceCtorEq]; (try rfl)) ?_
 refine tr_region [0, 2, 4, 33] rfl rfl fun K hK => ?_
 iterate 4 refine evR_p ?_
 iterate 3 refine evR_g ?_
 iterate 2 refine evR_p ?_
 iterate 4 refine evR_g ?_
 iterate 2 refine evR_p ?_
 iterate 4 refine evR_g ?_
 refine evR_p ?_
 refine evR_e hK ?_; clear hK K
 refine hK3 _ ?_
 refine tr_condB (fun ht1 => ?_) (fun ht1 => ?_)
 ·
  skip
  (first | (exfalso; omega) | (exfalso; simp_all; done) | skip)
  all_goals
   refine tr_seq fun K4 hK4 => ?_
   refine tr_region [6] rfl rfl fun K hK => ?_
   refine evR_p ?_
   refine evR_e hK ?_; clear hK K
   refine hK4 _ ?_
   refine tr_ret ?_
   (try simp only [thenE, inBlkE])
   simp (maxSteps := 4000000) (disch := first | assumption | omega | (simp only [go_sem, *]; done) | (simp only [go_sem, *]; omega)) only [postA, postO, resV1, fzAll, go_sem, hq, Int.reduceToNat, Nat.reduceBEq, Nat.reduceEqDiff, Nat.reduceAdd, Nat.reduceMul, Nat.reduceLeDiff, Nat.reduceLT, Nat.reduceSub, ↓reduceIte, reduceCtorEq]
   all_goals (first | (rw [leaf_bad1 (by simp only [Bool.and_eq_true, decide_eq_true_eq, isInB_spec]; omega)]; done) | (rw [leaf_bad2 hil (by rw [wtOk_refF hpi (by omega)]; simp)]; done) | (rw [show leafOk rows s (toD dec) = decide (mostT rows s.ws s.ws.length < lowK rows s.ws (toD dec) 12) from leaf_good2 (by simp only [Bool.and_eq_true, decide_eq_true_eq, isInB_spec]; omega) hpi, low_all hv hr (fun j hj => by have := (pre_ws hpi).2 j hj; omega)]; congr 1; rw [decide_eq_decide]; omega))
 ·
  skip
  (first | (exfalso; omega) | (exfalso; simp_all; done) | skip)
  all_goals
   refine tr_skip ?_
   (try simp only [thenE, inBlkE])
   refine hK2 _ ?_
   refine tr_seq fun K5 hK5 => ?_
   refine tr_seq fun K6 hK6 => ?_
   refine tr_region [0, 2, 4, 7] rfl rfl fun K hK => ?_
   refine evR_p ?_
   refine evR_e hK ?_; clear hK K
   refine hK6 _ ?_
   refine tr_block ?_
   -- loop 1: live [0, 2, 4, 7]
   refine tr_loopW (fun m σ => ∃ i : Nat, i + m = s.ws.length ∧ (∀ j, j < i → wtOk rows.length s.ws j = true) ∧ σ = ⟨[(0, .sl 6 (encR rows)), (2, .sl 1 (encI dec)), (4, .ep [.int .i64 s.var, .int .i64 s.no, .int .i64 s.yes, .sl 2 (encWs s.ws)]), (7, .int .i64 (i : Nat))], [], 1⟩) (s.ws.length) ?_ ?_
   ·
    exact ⟨_, Wk.refl _, 0, by omega, (by intro j hj; omega), rfl⟩
   ·
    rintro m σ ⟨i, hi, hpi, rfl⟩ KL1 hKL1
    refine tr_seq fun K7 hK7 => ?_
    refine tr_seq fun K8 hK8 => ?_
    refine tr_region [0, 2, 4, 7, 38] rfl rfl fun K hK => ?_
    iterate 5 refine evR_p ?_
    refine evR_e hK ?_; clear hK K
    refine hK8 _ ?_
    refine tr_condB (fun ht2 => ?_) (fun ht2 => ?_)
    ·
     skip
     (first | (exfalso; omega) | (exfalso; simp_all; done) | skip)
     all_goals
      have hil : i < s.ws.length := by omega
      have hwi : 0 < (i : Int) → IntKind.i64.wrap ((i : Int) - 1) = ((i - 1 : Nat) : Int) := fun h => by rw [w64 (by omega)]; omega
      have hil2 : i - 1 < s.ws.length := by omega
      replace hq := And.intro hq (And.intro hil (And.intro hwi (hil2)))
      refine tr_skip ?_
      (try simp only [thenE, inBlkE])
      refine hK7 _ ?_
      refine tr_seq fun K9 hK9 => ?_
      refine tr_block ?_
      refine tr_seq fun K10 hK10 => ?_
      refine tr_region [0, 2, 4, 7, 8] rfl rfl fun K hK => ?_
      iterate 7 refine evR_p ?_
      refine evR_e hK ?_; clear hK K
      refine hK10 _ ?_
      refine tr_seq fun K11 hK11 => ?_
      refine tr_draw [] [0, 2, 4, 7, 81] mixed rfl (by kernel_rfl) rfl fun K hK => ?_
      iterate 4 refine evD_p ?_
      iterate 5 refine evD_g ?_
      iterate 2 refine evD_p ?_
      iterate 3 refine evD_g ?_
      iterate 2 refine evD_p ?_
      iterate 3 refine evD_g ?_
      iterate 2 refine evD_p ?_
      iterate 14 refine evD_g ?_
      refine evD_p ?_
      refine evD_e hK ?_; clear hK K
      refine hK11 _ ?_
      refine tr_condB (fun ht3 => ?_) (fun ht3 => ?_)
      ·
       skip
       (first | (exfalso; omega) | (exfalso; simp_all; done) | skip)
       all_goals
        refine tr_seq fun K12 hK12 => ?_
        refine tr_region [6] rfl rfl fun K hK => ?_
        refine evR_p ?_
        refine evR_e hK ?_; clear hK K
        refine hK12 _ ?_
        refine tr_ret ?_
        (try simp only [thenE, inBlkE])
        simp (maxSteps := 4000000) (disch := first | assumption | omega | (simp only [go_sem, *]; done) | (simp only [go_sem, *]; omega)) only [postA, postO, resV1, fzAll, go_sem, hq, Int.reduceToNat, Nat.reduceBEq, Nat.reduceEqDiff, Nat.reduceAdd, Nat.reduceMul, Nat.reduceLeDiff, Nat.reduceLT, Nat.reduceSub, ↓reduceIte, reduceCtorEq]
        all_goals (first | (rw [leaf_bad1 (by simp only [Bool.and_eq_true, decide_eq_true_eq, isInB_spec]; omega)]; done) | (rw [leaf_bad2 hil (by rw [wtOk_refF hpi (by omega)]; simp)]; done) | (rw [show leafOk rows s (toD dec) = decide (mostT rows s.ws s.ws.length < lowK rows s.ws (toD dec) 12) from leaf_good2 (by simp only [Bool.and_eq_true, decide_eq_true_eq, isInB_spec]; omega) hpi, low_all hv hr (fun j hj => by have := (pre_ws hpi).2 j hj; omega)]; congr 1; rw [decide_eq_decide]; omega))
      ·
       skip
       (first | (exfalso; omega) | (exfalso; simp_all; done) | skip)
       all_goals
        refine tr_skip ?_
        (try simp only [thenE, inBlkE])
        refine hK9 _ ?_
        refine tr_region [0, 2, 4, 7] rfl rfl fun K hK => ?_
        iterate 3 refine evR_p ?_
        refine evR_e hK ?_; clear hK K
        refine hKL1 _ ?_
        exact ⟨m - 1, _, by omega, Wk.cut 1 (by simp [St.cutOK, AObj.upto, V.upto, V.uptoL, cellsI_uptoL, List.all_cons, List.all_nil, List.filter_cons, List.filter_nil, Nat.blt_eq, Nat.reduceLT, Nat.lt_irrefl, decide_true, decide_false, Bool.and_self, Bool.and_true, Bool.true_and, if_true, if_false, ↓reduceIte, Bool.false_eq_true, encSg, encW]), i + 1, by omega, wt_step hpi ((wtOk_ref hpi).2 (by omega)), by rw [w64 (x := (i : Int) + 1) (by omega)]; rfl⟩
    ·
     skip
     (first | (exfalso; omega) | (exfalso; simp_all; done) | skip)
     all_goals
      have hil : i = s.ws.length := by omega
      subst hil
      have hl8 : s.ws.length ≤ 8 := by omega
      have hlw := fun k i hi hk => low_bound hr hl8 hpi (toD dec) k i hi hk
      refine tr_exit ?_
      simp only [thenE, inBlkE, Nat.reduceEqDiff, ↓reduceIte]
      refine hK5 _ ?_
      refine tr_seq fun K13 hK13 => ?_
      refine tr_region [0, 2, 4, 9] rfl rfl fun K hK => ?_
      refine evR_p ?_
      refine evR_e hK ?_; clear hK K
      refine hK13 _ ?_
      refine tr_seq fun K14 hK14 => ?_
      refine tr_seq fun K15 hK15 => ?_
      refine tr_region [0, 2, 4, 9, 10] rfl rfl fun K hK => ?_
      refine evR_p ?_
      refine evR_e hK ?_; clear hK K
      refine hK15 _ ?_
      refine tr_block ?_
      -- loop 2: live [0, 2, 4, 9, 10]
      refine tr_loopW (fun m σ => ∃ k : Nat, k + m = v ∧ σ = ⟨[(0, .sl 6 (encR rows)), (2, .sl 1 (encI dec)), (4, .ep [.int .i64 s.var, .int .i64 s.no, .int .i64 s.yes, .sl 2 (encWs s.ws)]), (9, .int .i64 (lowK rows s.ws (toD dec) k)), (10, .int .i64 (k : Nat))], [], 1⟩) (v) ?_ ?_
      ·
       exact ⟨_, Wk.refl _, 0, by omega, rfl⟩
      ·
       rintro m2 σ ⟨k, hk, rfl⟩ KL2 hKL2
       refine tr_seq fun K16 hK16 => ?_
       refine tr_seq fun K17 hK17 => ?_
       refine tr_region [0, 2, 4, 9, 10, 85] rfl rfl fun K hK => ?_
       iterate 4 refine evR_p ?_
       refine evR_e hK ?_; clear hK K
       refine hK17 _ ?_
       refine tr_condB (fun ht4 => ?_) (fun ht4 => ?_)
       ·
        skip
        (first | (exfalso; omega) | (exfalso; simp_all; done) | skip)
        all_goals
         have hkl : k < v := by omega
         replace hq := And.intro hq (hkl)
         refine tr_skip ?_
         (try simp only [thenE, inBlkE])
         refine hK16 _ ?_
         refine tr_seq fun K18 hK18 => ?_
         refine tr_block ?_
         refine tr_seq fun K19 hK19 => ?_
         refine tr_region [0, 2, 4, 9, 10, 11] rfl rfl fun K hK => ?_
         refine evR_p ?_
         refine evR_e hK ?_; clear hK K
         refine hK19 _ ?_
         refine tr_seq fun K20 hK20 => ?_
         refine tr_seq fun K21 hK21 => ?_
         refine tr_region [0, 2, 4, 9, 10, 11, 12] rfl rfl fun K hK => ?_
         refine evR_p ?_
         refine evR_e hK ?_; clear hK K
         refine hK21 _ ?_
         refine tr_block ?_
         -- loop 3: live [0, 2, 4, 9, 10, 11, 12]
         refine tr_loopW (fun m σ => ∃ j : Nat, j + m = s.ws.length ∧ σ = ⟨[(0, .sl 6 (encR rows)), (2, .sl 1 (encI dec)), (4, .ep [.int .i64 s.var, .int .i64 s.no, .int .i64 s.yes, .sl 2 (encWs s.ws)]), (9, .int .i64 (lowK rows s.ws (toD dec) k)), (10, .int .i64 (k : Nat)), (11, .int .i64 (sumK rows s.ws k j)), (12, .int .i64 (j : Nat))], [], 1⟩) (s.ws.length) ?_ ?_
         ·
          exact ⟨_, Wk.refl _, 0, by omega, rfl⟩
         ·
          rintro m3 σ ⟨j, hj, rfl⟩ KL3 hKL3
          refine tr_seq fun K22 hK22 => ?_
          refine tr_seq fun K23 hK23 => ?_
          refine tr_region [0, 2, 4, 9, 10, 11, 12, 92] rfl rfl fun K hK => ?_
          iterate 5 refine evR_p ?_
          refine evR_e hK ?_; clear hK K
          refine hK23 _ ?_
          refine tr_condB (fun ht5 => ?_) (fun ht5 => ?_)
          ·
           skip
           (first | (exfalso; omega) | (exfalso; simp_all; done) | skip)
           all_goals
            have hjl : j < s.ws.length := by omega
            obtain ⟨hq0, hR, hwa, hwb, hwc⟩ := wt_wraps hr (show j < 8 by omega) (fun j2 h => hpi j2 (by omega))
            obtain ⟨hwd, hwe⟩ := hwc k
            have hRl := hR.len
            replace hq := And.intro hq (And.intro hjl (And.intro hq0 (And.intro hwd (And.intro hwe (hRl)))))
            refine tr_skip ?_
            (try simp only [thenE, inBlkE])
            refine hK22 _ ?_
            refine tr_seq fun K24 hK24 => ?_
            refine tr_block ?_
            refine tr_draw [] [0, 2, 4, 9, 10, 11, 12] mixed rfl (by kernel_rfl) rfl fun K hK => ?_
            iterate 23 refine evD_p ?_
            refine evD_e hK ?_; clear hK K
            refine hK24 _ ?_
            refine tr_region [0, 2, 4, 9, 10, 11, 12] rfl rfl fun K hK => ?_
            iterate 3 refine evR_p ?_
            refine evR_e hK ?_; clear hK K
            refine hKL3 _ ?_
            exact ⟨m3 - 1, _, by omega, Wk.refl _, j + 1, by omega, by rw [w64 (x := (j : Int) + 1) (by omega)]; rfl⟩
          ·
           skip
           (first | (exfalso; omega) | (exfalso; simp_all; done) | skip)
           all_goals
            have hjl : j = s.ws.length := by omega
            subst hjl
            refine tr_exit ?_
            simp only [thenE, inBlkE, Nat.reduceEqDiff, ↓reduceIte]
            refine hK20 _ ?_
            refine tr_seq fun K25 hK25 => ?_
            refine tr_region [0, 2, 4, 9, 10, 11, 132] rfl rfl fun K hK => ?_
            iterate 6 refine evR_p ?_
            iterate 9 refine evR_g ?_
            refine evR_p ?_
            refine evR_e hK ?_; clear hK K
            refine hK25 _ ?_
            refine tr_condB (fun ht6 => ?_) (fun ht6 => ?_)
            ·
             skip
             (first | (exfalso; omega) | (exfalso; simp_all; done) | skip)
             all_goals
              refine tr_region [0, 2, 4, 9, 10] rfl rfl fun K hK => ?_
              iterate 4 refine evR_p ?_
              refine evR_e hK ?_; clear hK K
              refine hK18 _ ?_
              refine tr_region [0, 2, 4, 9, 10] rfl rfl fun K hK => ?_
              iterate 3 refine evR_p ?_
              refine evR_e hK ?_; clear hK K
              refine hKL2 _ ?_
              first
               | exact ⟨m2 - 1, _, by omega, Wk.refl _, k + 1, by omega, by have h9 := hlw (k + 1) 0 (by omega) (by omega); rw [low_t hd hv hkl (by omega)] at h9 ⊢; rw [w64 (x := (k : Int) + 1) (by omega), w64 (x := lowK rows s.ws (toD dec) k + sumK rows s.ws k s.ws.length) (by omega)]; rfl⟩
               | exact ⟨m2 - 1, _, by omega, Wk.refl _, k + 1, by omega, by rw [low_f hd hv hkl (by omega), w64 (x := (k : Int) + 1) (by omega)]; rfl⟩
            ·
             skip
             (first | (exfalso; omega) | (exfalso; simp_all; done) | skip)
             all_goals
              refine tr_skip ?_
              (try simp only [thenE, inBlkE])
              refine hK18 _ ?_
              refine tr_region [0, 2, 4, 9, 10] rfl rfl fun K hK => ?_
              iterate 3 refine evR_p ?_
              refine evR_e hK ?_; clear hK K
              refine hKL2 _ ?_
              first
               | exact ⟨m2 - 1, _, by omega, Wk.refl _, k + 1, by omega, by have h9 := hlw (k + 1) 0 (by omega) (by omega); rw [low_t hd hv hkl (by omega)] at h9 ⊢; rw [w64 (x := (k : Int) + 1) (by omega), w64 (x := lowK rows s.ws (toD dec) k + sumK rows s.ws k s.ws.length) (by omega)]; rfl⟩
               | exact ⟨m2 - 1, _, by omega, Wk.refl _, k + 1, by omega, by rw [low_f hd hv hkl (by omega), w64 (x := (k : Int) + 1) (by omega)]; rfl⟩
       ·
        skip
        (first | (exfalso; omega) | (exfalso; simp_all; done) | skip)
        all_goals
         have hkl : v = k := by omega
         subst hkl
         refine tr_exit ?_
         simp only [thenE, inBlkE, Nat.reduceEqDiff, ↓reduceIte]
         refine hK14 _ ?_
         refine tr_seq fun K26 hK26 => ?_
         refine tr_seq fun K27 hK27 => ?_
         refine tr_region [0, 4, 9, 13] rfl rfl fun K hK => ?_
         refine evR_p ?_
         refine evR_e hK ?_; clear hK K
         refine hK27 _ ?_
         refine tr_block ?_
         -- loop 4: live [0, 4, 9, 13]
         refine tr_loopW (fun m σ => ∃ j : Nat, j + m = s.ws.length ∧ σ = ⟨[(0, .sl 6 (encR rows)), (4, .ep [.int .i64 s.var, .int .i64 s.no, .int .i64 s.yes, .sl 2 (encWs s.ws)]), (9, .int .i64 (lowK rows s.ws (toD dec) v - mostT rows s.ws j)), (13, .int .i64 (j : Nat))], [], 1⟩) (s.ws.length) ?_ ?_
         ·
          exact ⟨_, Wk.refl _, 0, by omega, by simp only [mostT, Int.sub_zero]; rfl⟩
         ·
          rintro m4 σ ⟨j, hj, rfl⟩ KL4 hKL4
          refine tr_seq fun K28 hK28 => ?_
          refine tr_seq fun K29 hK29 => ?_
          refine tr_region [0, 4, 9, 13, 140] rfl rfl fun K hK => ?_
          iterate 5 refine evR_p ?_
          refine evR_e hK ?_; clear hK K
          refine hK29 _ ?_
          refine tr_condB (fun ht7 => ?_) (fun ht7 => ?_)
          ·
           skip
           (first | (exfalso; omega) | (exfalso; simp_all; done) | skip)
           all_goals
            have hjl : j < s.ws.length := by omega
            obtain ⟨hq0, hR, hwa, hwb, hwc⟩ := wt_wraps hr (show j < 8 by omega) (fun j2 h => hpi j2 (by omega))
            have hl0 := hlw v (j + 1) (by omega) (by omega)
            have hwf : IntKind.i64.wrap (lowK rows s.ws (toD dec) v - mostT rows s.ws j - (s.ws.getD j wt0).tm * (rows.getD (s.ws.getD j wt0).rw.toNat rw0).most) = lowK rows s.ws (toD dec) v - mostT rows s.ws (j + 1) := by
             simp only [mostT] at hl0 ⊢
             rw [w64 (by omega)]; omega
            replace hq := And.intro hq (And.intro hjl (And.intro hq0 (And.intro hwa (hwf))))
            refine tr_skip ?_
            (try simp only [thenE, inBlkE])
            refine hK28 _ ?_
            refine tr_seq fun K30 hK30 => ?_
            refine tr_block ?_
            refine tr_draw [] [0, 4, 9, 13] mixed rfl (by kernel_rfl) rfl fun K hK => ?_
            iterate 20 refine evD_p ?_
            refine evD_e hK ?_; clear hK K
            refine hK30 _ ?_
            refine tr_region [0, 4, 9, 13] rfl rfl fun K hK => ?_
            iterate 3 refine evR_p ?_
            refine evR_e hK ?_; clear hK K
            refine hKL4 _ ?_
            exact ⟨m4 - 1, _, by omega, Wk.refl _, j + 1, by omega, by rw [w64 (x := (j : Int) + 1) (by omega)]; rfl⟩
          ·
           skip
           (first | (exfalso; omega) | (exfalso; simp_all; done) | skip)
           all_goals
            have hjl : j = s.ws.length := by omega
            subst hjl
            refine tr_exit ?_
            simp only [thenE, inBlkE, Nat.reduceEqDiff, ↓reduceIte]
            refine hK26 _ ?_
            refine tr_seq fun K31 hK31 => ?_
            refine tr_region [6] rfl rfl fun K hK => ?_
            iterate 3 refine evR_p ?_
            refine evR_e hK ?_; clear hK K
            refine hK31 _ ?_
            refine tr_ret ?_
            (try simp only [thenE, inBlkE])
            simp (maxSteps := 4000000) (disch := first | assumption | omega | (simp only [go_sem, *]; done) | (simp only [go_sem, *]; omega)) only [postA, postO, resV1, fzAll, go_sem, hq, Int.reduceToNat, Nat.reduceBEq, Nat.reduceEqDiff, Nat.reduceAdd, Nat.reduceMul, Nat.reduceLeDiff, Nat.reduceLT, Nat.reduceSub, ↓reduceIte, reduceCtorEq]
            all_goals (first | (rw [leaf_bad1 (by simp only [Bool.and_eq_true, decide_eq_true_eq, isInB_spec]; omega)]; done) | (rw [leaf_bad2 hil (by rw [wtOk_refF hpi (by omega)]; simp)]; done) | (rw [show leafOk rows s (toD dec) = decide (mostT rows s.ws s.ws.length < lowK rows s.ws (toD dec) 12) from leaf_good2 (by simp only [Bool.and_eq_true, decide_eq_true_eq, isInB_spec]; omega) hpi, low_all hv hr (fun j hj => by have := (pre_ws hpi).2 j hj; omega)]; congr 1; rw [decide_eq_decide]; omega))
end

section
attribute [local go_sem] encSg List.replicate_zero List.nil_append List.drop_nil encI_set
set_option maxHeartbeats 16000000 in
theorem k70s (vars : Int) (rows : List Rw) (l : List Sg) (v : Nat) (hvv : vars = v) (hr : ∀ r ∈ rows, okRw v r) (hv : v ≤ 12) (hn : rows.length ≤ 301) (hll : l.length ≤ 8192) (hwl : ∀ k, k < l.length → (l.getD k sg0).ws.length ≤ maxLen) (n : Nat) (ih : ∀ (k : Nat) (dec : List Int), k < l.length → l.length ≤ k + n → okD v dec → CallsA Try.prog 70 [.sl 6 (encR rows), .sl 4 (encSgs l), .int .i64 (k : Nat), .sl 1 (encI dec)] (.int .i64 (rwX vars rows l n k (toD dec)))) (k : Nat) (dec : List Int) (hk : k < l.length) (hkn : l.length ≤ k + (n + 1)) (hd : okD v dec) (s : Sg) (hs : l.getD k sg0 = s) : CallsA Try.prog 70 [.sl 6 (encR rows), .sl 4 (encSgs l), .int .i64 (k : Nat), .sl 1 (encI dec)] (.int .i64 (rwX vars rows l (n + 1) k (toD dec))) := by
 have hdl := hd.1
 have hsw : s.ws.length ≤ maxLen := hs ▸ hwl k hk
 have hkl : (k : Int) < l.length := by omega
 have hvr : ¬ s.var < 0 → ¬ (v : Int) ≤ s.var → s.var.toNat < v := by omega
 have hq := And.intro hs (And.intro hdl (And.intro hkl (And.intro hk (hvr))))
 refine callsA_of_tr Try.func70 rfl (Nat.le_of_ble_eq_true rfl) ?_
 simp only [Try.results70, envOf, Nat.reduceAdd]
 refine tr_seq fun K1 hK1 => ?_
 refine tr_region [0, 1, 2, 3] rfl rfl fun K hK => ?_
 refine evR_p ?_
 refine evR_e hK ?_; clear hK K
 refine hK1 _ ?_
 refine tr_seq fun K2 hK2 => ?_
 refine tr_region [0, 1, 2, 3, 9] rfl rfl fun K hK => ?_
 iterate 6 refine evR_p ?_
 refine evR_e hK ?_; clear hK K
 refine hK2 _ ?_
 refine tr_seq fun K3 hK3 => ?_
 refine tr_seq fun K4 hK4 => ?_
 refine tr_fz [.ptr 0 0] (by simp (maxSteps := 4000000) (disch := first | assumption | omega | (simp only [go_sem, *]; done) | (simp only [go_sem, *]; omega)) only [go_sem, hq, Int.reduceToNat, Nat.reduceBEq, Nat.reduceEqDiff, Nat.reduceAdd, Nat.reduceMul, Nat.reduceLeDiff, Nat.reduceLT, Nat.reduceSub, ↓reduceIte, reduceCtorEq]; (try rfl)) ?_
 refine tr_region [0, 1, 2, 3, 9, 20] rfl rfl fun K hK => ?_
 iterate 3 refine evR_p ?_
 refine evR_e hK ?_; clear hK K
 refine hK4 _ ?_
 refine tr_condB (fun ht1 => ?_) (fun ht1 => ?_)
 ·
  skip
  (first | (exfalso; omega) | (exfalso; simp_all; done) | skip)
  all_goals
   refine tr_seq fun K5 hK5 => ?_
   refine tr_seq fun K6 hK6 => ?_
   refine tr_region [2, 24] rfl rfl fun K hK => ?_
   iterate 3 refine evR_p ?_
   refine evR_c (hc := (k121 rows v hr hv hn s hsw dec hd)) (k := ?_)
   refine evR_e hK ?_; clear hK K
   refine hK6 _ ?_
   refine tr_condB (fun ht2 => ?_) (fun ht2 => ?_)
   ·
    skip
    (first | (exfalso; omega) | (exfalso; simp_all; done) | skip)
    all_goals
     refine tr_seq fun K7 hK7 => ?_
     refine tr_region [8] rfl rfl fun K hK => ?_
     refine evR_p ?_
     refine evR_e hK ?_; clear hK K
     refine hK7 _ ?_
     refine tr_ret ?_
     (try simp only [thenE, inBlkE])
     simp (maxSteps := 4000000) (disch := first | assumption | omega | (simp only [go_sem, *]; done) | (simp only [go_sem, *]; omega)) only [postA, postO, resV1, fzAll, go_sem, hq, Int.reduceToNat, Nat.reduceBEq, Nat.reduceEqDiff, Nat.reduceAdd, Nat.reduceMul, Nat.reduceLeDiff, Nat.reduceLT, Nat.reduceSub, ↓reduceIte, reduceCtorEq]
     all_goals (first | (rw [rw_leaf hs ht1, if_pos ht2]; done) | (rw [rw_leaf hs ht1, if_neg (by rw [ht2]; simp)]; done) | (rw [rw_case hs ht1 (by rw [hvv, case_iff hd hv, goes_lt]; omega)]; done) | (rw [rw_no hs ht1 hcT hgT hvn.symm hno.symm (by omega)]; done) | (rw [rw_yes hs ht1 hcT hgT hvn.symm hno.symm hyes.symm hA]; done) | (rw [rw_yes hs ht1 hcT hgT hvn.symm hno.symm hyes.symm hA]; exact congrArg (V.int .i64) (by have := rwX_neg (vars := vars) (rows := rows) (l := l) (n := n) (k := s.yes.toNat) (d := (toD dec).set s.var.toNat 1); omega)))
   ·
    skip
    (first | (exfalso; omega) | (exfalso; simp_all; done) | skip)
    all_goals
     refine tr_skip ?_
     (try simp only [thenE, inBlkE])
     refine hK5 _ ?_
     refine tr_seq fun K8 hK8 => ?_
     refine tr_region [8] rfl rfl fun K hK => ?_
     iterate 2 refine evR_p ?_
     refine evR_e hK ?_; clear hK K
     refine hK8 _ ?_
     refine tr_ret ?_
     (try simp only [thenE, inBlkE])
     simp (maxSteps := 4000000) (disch := first | assumption | omega | (simp only [go_sem, *]; done) | (simp only [go_sem, *]; omega)) only [postA, postO, resV1, fzAll, go_sem, hq, Int.reduceToNat, Nat.reduceBEq, Nat.reduceEqDiff, Nat.reduceAdd, Nat.reduceMul, Nat.reduceLeDiff, Nat.reduceLT, Nat.reduceSub, ↓reduceIte, reduceCtorEq]
     all_goals (first | (rw [rw_leaf hs ht1, if_pos ht2]; done) | (rw [rw_leaf hs ht1, if_neg (by rw [ht2]; simp)]; done) | (rw [rw_case hs ht1 (by rw [hvv, case_iff hd hv, goes_lt]; omega)]; done) | (rw [rw_no hs ht1 hcT hgT hvn.symm hno.symm (by omega)]; done) | (rw [rw_yes hs ht1 hcT hgT hvn.symm hno.symm hyes.symm hA]; done) | (rw [rw_yes hs ht1 hcT hgT hvn.symm hno.symm hyes.symm hA]; exact congrArg (V.int .i64) (by have := rwX_neg (vars := vars) (rows := rows) (l := l) (n := n) (k := s.yes.toNat) (d := (toD dec).set s.var.toNat 1); omega)))
 ·
  skip
  (first | (exfalso; omega) | (exfalso; simp_all; done) | skip)
  all_goals
   refine tr_skip ?_
   (try simp only [thenE, inBlkE])
   refine hK3 _ ?_
   refine tr_seq fun K9 hK9 => ?_
   refine tr_seq fun K10 hK10 => ?_
   refine tr_region [0, 1, 2, 3, 9, 67] rfl rfl fun K hK => ?_
   iterate 4 refine evR_p ?_
   iterate 5 refine evR_g ?_
   iterate 2 refine evR_p ?_
   iterate 4 refine evR_g ?_
   iterate 2 refine evR_p ?_
   iterate 4 refine evR_g ?_
   iterate 2 refine evR_p ?_
   iterate 5 refine evR_g ?_
   iterate 2 refine evR_p ?_
   iterate 4 refine evR_g ?_
   iterate 2 refine evR_p ?_
   iterate 5 refine evR_g ?_
   refine evR_p ?_
   refine evR_e hK ?_; clear hK K
   refine hK10 _ ?_
   refine tr_condB (fun ht3 => ?_) (fun ht3 => ?_)
   ·
    skip
    (first | (exfalso; omega) | (exfalso; simp_all; done) | skip)
    all_goals
     refine tr_seq fun K11 hK11 => ?_
     refine tr_region [8] rfl rfl fun K hK => ?_
     iterate 2 refine evR_p ?_
     refine evR_e hK ?_; clear hK K
     refine hK11 _ ?_
     refine tr_ret ?_
     (try simp only [thenE, inBlkE])
     simp (maxSteps := 4000000) (disch := first | assumption | omega | (simp only [go_sem, *]; done) | (simp only [go_sem, *]; omega)) only [postA, postO, resV1, fzAll, go_sem, hq, Int.reduceToNat, Nat.reduceBEq, Nat.reduceEqDiff, Nat.reduceAdd, Nat.reduceMul, Nat.reduceLeDiff, Nat.reduceLT, Nat.reduceSub, ↓reduceIte, reduceCtorEq]
     all_goals (first | (rw [rw_leaf hs ht1, if_pos ht2]; done) | (rw [rw_leaf hs ht1, if_neg (by rw [ht2]; simp)]; done) | (rw [rw_case hs ht1 (by rw [hvv, case_iff hd hv, goes_lt]; omega)]; done) | (rw [rw_no hs ht1 hcT hgT hvn.symm hno.symm (by omega)]; done) | (rw [rw_yes hs ht1 hcT hgT hvn.symm hno.symm hyes.symm hA]; done) | (rw [rw_yes hs ht1 hcT hgT hvn.symm hno.symm hyes.symm hA]; exact congrArg (V.int .i64) (by have := rwX_neg (vars := vars) (rows := rows) (l := l) (n := n) (k := s.yes.toNat) (d := (toD dec).set s.var.toNat 1); omega)))
   ·
    skip
    (first | (exfalso; omega) | (exfalso; simp_all; done) | skip)
    all_goals
     refine tr_skip ?_
     (try simp only [thenE, inBlkE])
     refine hK9 _ ?_
     refine tr_seq fun K12 hK12 => ?_
     refine tr_seq fun K13 hK13 => ?_
     refine tr_region [0, 1, 2, 3, 9, 74] rfl rfl fun K hK => ?_
     iterate 6 refine evR_p ?_
     refine evR_e hK ?_; clear hK K
     refine hK13 _ ?_
     refine tr_condB (fun ht4 => ?_) (fun ht4 => ?_)
     ·
      skip
      (first | (exfalso; omega) | (exfalso; simp_all; done) | skip)
      all_goals
       refine tr_seq fun K14 hK14 => ?_
       refine tr_region [8] rfl rfl fun K hK => ?_
       iterate 2 refine evR_p ?_
       refine evR_e hK ?_; clear hK K
       refine hK14 _ ?_
       refine tr_ret ?_
       (try simp only [thenE, inBlkE])
       simp (maxSteps := 4000000) (disch := first | assumption | omega | (simp only [go_sem, *]; done) | (simp only [go_sem, *]; omega)) only [postA, postO, resV1, fzAll, go_sem, hq, Int.reduceToNat, Nat.reduceBEq, Nat.reduceEqDiff, Nat.reduceAdd, Nat.reduceMul, Nat.reduceLeDiff, Nat.reduceLT, Nat.reduceSub, ↓reduceIte, reduceCtorEq]
       all_goals (first | (rw [rw_leaf hs ht1, if_pos ht2]; done) | (rw [rw_leaf hs ht1, if_neg (by rw [ht2]; simp)]; done) | (rw [rw_case hs ht1 (by rw [hvv, case_iff hd hv, goes_lt]; omega)]; done) | (rw [rw_no hs ht1 hcT hgT hvn.symm hno.symm (by omega)]; done) | (rw [rw_yes hs ht1 hcT hgT hvn.symm hno.symm hyes.symm hA]; done) | (rw [rw_yes hs ht1 hcT hgT hvn.symm hno.symm hyes.symm hA]; exact congrArg (V.int .i64) (by have := rwX_neg (vars := vars) (rows := rows) (l := l) (n := n) (k := s.yes.toNat) (d := (toD dec).set s.var.toNat 1); omega)))
     ·
      skip
      (first | (exfalso; omega) | (exfalso; simp_all; done) | skip)
      all_goals
       refine tr_skip ?_
       (try simp only [thenE, inBlkE])
       refine hK12 _ ?_
       refine tr_seq fun K15 hK15 => ?_
       refine tr_seq fun K16 hK16 => ?_
       refine tr_region [0, 1, 3, 9, 10] rfl rfl fun K hK => ?_
       refine evR_p ?_
       refine evR_e hK ?_; clear hK K
       refine hK16 _ ?_
       refine tr_block ?_
       -- loop 1: live [0, 1, 3, 9, 10]
       refine tr_loopW (fun m σ => ∃ t : Int, ((t = 0 ∧ m = 2) ∨ (t = 1 ∧ m = 1 ∧ rwX vars rows l n s.no.toNat ((toD dec).set s.var.toNat (-1)) < 0) ∨ (t = 2 ∧ m = 0 ∧ rwX vars rows l n s.no.toNat ((toD dec).set s.var.toNat (-1)) < 0 ∧ rwX vars rows l n s.yes.toNat ((toD dec).set s.var.toNat 1) < 0)) ∧ σ = ⟨[(0, .sl 6 (encR rows)), (1, .sl 4 (encSgs l)), (3, .sl 1 (encI dec)), (9, .ep [.int .i64 s.var, .int .i64 s.no, .int .i64 s.yes, .sl 2 (encWs s.ws)]), (10, .int .i64 t)], [], 1⟩) (2) ?_ ?_
       ·
        exact ⟨_, Wk.refl _, 0, Or.inl ⟨rfl, rfl⟩, rfl⟩
       ·
        rintro m σ ⟨t, (⟨rfl, rfl⟩ | ⟨rfl, rfl, hA⟩ | ⟨rfl, rfl, hA, hB⟩), rfl⟩ KL1 hKL1
        all_goals
         refine tr_seq fun K17 hK17 => ?_
         refine tr_seq fun K18 hK18 => ?_
         refine tr_region [0, 1, 3, 9, 10, 77] rfl rfl fun K hK => ?_
         iterate 2 refine evR_p ?_
         refine evR_e hK ?_; clear hK K
         refine hK18 _ ?_
         refine tr_condB (fun ht5 => ?_) (fun ht5 => ?_)
         ·
          skip
          (first | (exfalso; omega) | (exfalso; simp_all; done) | skip)
          all_goals
           have hcT : caseOk vars s (toD dec) = true := by rw [hvv, case_iff hd hv]; omega
           have hgT : goesOk l s k = true := by rw [goes_lt]; omega
           have hvn : ((s.var.toNat : Nat) : Int) = s.var := by omega
           have hno : ((s.no.toNat : Nat) : Int) = s.no := by omega
           have hyes : ((s.yes.toNat : Nat) : Int) = s.yes := by omega
           have cN : CallsA Try.prog 70 [.sl 6 (encR rows), .sl 4 (encSgs l), .int .i64 s.no, .sl 1 (encI (dec.set s.var.toNat 0))] (.int .i64 (rwX vars rows l n s.no.toNat ((toD dec).set s.var.toNat (-1)))) := by
            have h := ih s.no.toNat (dec.set s.var.toNat 0) (by omega) (by omega) (okD_set hd _ (Or.inl rfl))
            rw [toD_set hv hd (by omega) 0, hno] at h; exact h
           have cY : CallsA Try.prog 70 [.sl 6 (encR rows), .sl 4 (encSgs l), .int .i64 s.yes, .sl 1 (encI (dec.set s.var.toNat 1))] (.int .i64 (rwX vars rows l n s.yes.toNat ((toD dec).set s.var.toNat 1))) := by
            have h := ih s.yes.toNat (dec.set s.var.toNat 1) (by omega) (by omega) (okD_set hd _ (Or.inr rfl))
            rw [toD_set hv hd (by omega) 1, hyes] at h; exact h
           refine tr_skip ?_
           (try simp only [thenE, inBlkE])
           refine hK17 _ ?_
           refine tr_seq fun K19 hK19 => ?_
           refine tr_block ?_
           refine tr_seq fun K20 hK20 => ?_
           refine tr_region [0, 1, 3, 9, 10, 11] rfl rfl fun K hK => ?_
           refine evR_bo ?_
           iterate 3 refine evR_p ?_
           refine evR_e hK ?_; clear hK K
           refine hK20 _ ?_
           refine tr_seq fun K21 hK21 => ?_
           refine tr_region [0, 1, 3, 9, 10, 11] rfl rfl fun K hK => ?_
           iterate 6 refine evR_p ?_
           refine evR_e hK ?_; clear hK K
           refine hK21 _ ?_
           refine tr_seq fun K22 hK22 => ?_
           refine tr_region [0, 1, 3, 9, 10, 11, 12] rfl rfl fun K hK => ?_
           iterate 3 refine evR_p ?_
           refine evR_e hK ?_; clear hK K
           refine hK22 _ ?_
           refine tr_seq fun K23 hK23 => ?_
           refine tr_seq fun K24 hK24 => ?_
           refine tr_region [0, 1, 3, 9, 10, 11, 12, 91] rfl rfl fun K hK => ?_
           iterate 2 refine evR_p ?_
           refine evR_e hK ?_; clear hK K
           refine hK24 _ ?_
           refine tr_condB (fun ht6 => ?_) (fun ht6 => ?_)
           ·
            skip
            (first | (exfalso; omega) | (exfalso; simp_all; done) | skip)
            all_goals
             refine tr_region [0, 1, 3, 9, 10, 11, 12] rfl rfl fun K hK => ?_
             iterate 3 refine evR_p ?_
             refine evR_e hK ?_; clear hK K
             refine hK23 _ ?_
             refine tr_seq fun K25 hK25 => ?_
             refine tr_region [0, 1, 3, 9, 10, 13] rfl rfl fun K hK => ?_
             iterate 4 refine evR_p ?_
             refine evR_c (hc := cY) (k := ?_)
             refine evR_p ?_
             refine evR_e hK ?_; clear hK K
             refine hK25 _ ?_
             refine tr_seq fun K26 hK26 => ?_
             refine tr_region [0, 1, 3, 9, 10, 13, 100] rfl rfl fun K hK => ?_
             iterate 2 refine evR_p ?_
             refine evR_e hK ?_; clear hK K
             refine hK26 _ ?_
             refine tr_condB (fun ht7 => ?_) (fun ht7 => ?_)
             ·
              skip
              (first | (exfalso; omega) | (exfalso; simp_all; done) | skip)
              all_goals
               refine tr_seq fun K27 hK27 => ?_
               refine tr_region [8] rfl rfl fun K hK => ?_
               iterate 2 refine evR_p ?_
               refine evR_e hK ?_; clear hK K
               refine hK27 _ ?_
               refine tr_ret ?_
               (try simp only [thenE, inBlkE])
               simp (maxSteps := 4000000) (disch := first | assumption | omega | (simp only [go_sem, *]; done) | (simp only [go_sem, *]; omega)) only [postA, postO, resV1, fzAll, go_sem, hq, Int.reduceToNat, Nat.reduceBEq, Nat.reduceEqDiff, Nat.reduceAdd, Nat.reduceMul, Nat.reduceLeDiff, Nat.reduceLT, Nat.reduceSub, ↓reduceIte, reduceCtorEq]
               all_goals (first | (rw [rw_leaf hs ht1, if_pos ht2]; done) | (rw [rw_leaf hs ht1, if_neg (by rw [ht2]; simp)]; done) | (rw [rw_case hs ht1 (by rw [hvv, case_iff hd hv, goes_lt]; omega)]; done) | (rw [rw_no hs ht1 hcT hgT hvn.symm hno.symm (by omega)]; done) | (rw [rw_yes hs ht1 hcT hgT hvn.symm hno.symm hyes.symm hA]; done) | (rw [rw_yes hs ht1 hcT hgT hvn.symm hno.symm hyes.symm hA]; exact congrArg (V.int .i64) (by have := rwX_neg (vars := vars) (rows := rows) (l := l) (n := n) (k := s.yes.toNat) (d := (toD dec).set s.var.toNat 1); omega)))
             ·
              skip
              (first | (exfalso; omega) | (exfalso; simp_all; done) | skip)
              all_goals
               refine tr_skip ?_
               (try simp only [thenE, inBlkE])
               refine hK19 _ ?_
               refine tr_region [0, 1, 3, 9, 10] rfl rfl fun K hK => ?_
               iterate 3 refine evR_p ?_
               refine evR_e hK ?_; clear hK K
               refine hKL1 _ ?_
               first
                | exact ⟨1, _, by omega, Wk.cut 1 (by simp [St.cutOK, AObj.upto, V.upto, V.uptoL, cellsI_uptoL, List.all_cons, List.all_nil, List.filter_cons, List.filter_nil, Nat.blt_eq, Nat.reduceLT, Nat.lt_irrefl, decide_true, decide_false, Bool.and_self, Bool.and_true, Bool.true_and, if_true, if_false, ↓reduceIte, Bool.false_eq_true, encSg, encW]), 1, Or.inr (Or.inl ⟨rfl, rfl, by omega⟩), rfl⟩
                | exact ⟨0, _, by omega, Wk.cut 1 (by simp [St.cutOK, AObj.upto, V.upto, V.uptoL, cellsI_uptoL, List.all_cons, List.all_nil, List.filter_cons, List.filter_nil, Nat.blt_eq, Nat.reduceLT, Nat.lt_irrefl, decide_true, decide_false, Bool.and_self, Bool.and_true, Bool.true_and, if_true, if_false, ↓reduceIte, Bool.false_eq_true, encSg, encW]), 2, Or.inr (Or.inr ⟨rfl, rfl, hA, by omega⟩), rfl⟩
           ·
            skip
            (first | (exfalso; omega) | (exfalso; simp_all; done) | skip)
            all_goals
             refine tr_skip ?_
             (try simp only [thenE, inBlkE])
             refine hK23 _ ?_
             refine tr_seq fun K28 hK28 => ?_
             refine tr_region [0, 1, 3, 9, 10, 13] rfl rfl fun K hK => ?_
             iterate 4 refine evR_p ?_
             refine evR_c (hc := cN) (k := ?_)
             refine evR_p ?_
             refine evR_e hK ?_; clear hK K
             refine hK28 _ ?_
             refine tr_seq fun K29 hK29 => ?_
             refine tr_region [0, 1, 3, 9, 10, 13, 100] rfl rfl fun K hK => ?_
             iterate 2 refine evR_p ?_
             refine evR_e hK ?_; clear hK K
             refine hK29 _ ?_
             refine tr_condB (fun ht8 => ?_) (fun ht8 => ?_)
             ·
              skip
              (first | (exfalso; omega) | (exfalso; simp_all; done) | skip)
              all_goals
               refine tr_seq fun K30 hK30 => ?_
               refine tr_region [8] rfl rfl fun K hK => ?_
               iterate 2 refine evR_p ?_
               refine evR_e hK ?_; clear hK K
               refine hK30 _ ?_
               refine tr_ret ?_
               (try simp only [thenE, inBlkE])
               simp (maxSteps := 4000000) (disch := first | assumption | omega | (simp only [go_sem, *]; done) | (simp only [go_sem, *]; omega)) only [postA, postO, resV1, fzAll, go_sem, hq, Int.reduceToNat, Nat.reduceBEq, Nat.reduceEqDiff, Nat.reduceAdd, Nat.reduceMul, Nat.reduceLeDiff, Nat.reduceLT, Nat.reduceSub, ↓reduceIte, reduceCtorEq]
               all_goals (first | (rw [rw_leaf hs ht1, if_pos ht2]; done) | (rw [rw_leaf hs ht1, if_neg (by rw [ht2]; simp)]; done) | (rw [rw_case hs ht1 (by rw [hvv, case_iff hd hv, goes_lt]; omega)]; done) | (rw [rw_no hs ht1 hcT hgT hvn.symm hno.symm (by omega)]; done) | (rw [rw_yes hs ht1 hcT hgT hvn.symm hno.symm hyes.symm hA]; done) | (rw [rw_yes hs ht1 hcT hgT hvn.symm hno.symm hyes.symm hA]; exact congrArg (V.int .i64) (by have := rwX_neg (vars := vars) (rows := rows) (l := l) (n := n) (k := s.yes.toNat) (d := (toD dec).set s.var.toNat 1); omega)))
             ·
              skip
              (first | (exfalso; omega) | (exfalso; simp_all; done) | skip)
              all_goals
               refine tr_skip ?_
               (try simp only [thenE, inBlkE])
               refine hK19 _ ?_
               refine tr_region [0, 1, 3, 9, 10] rfl rfl fun K hK => ?_
               iterate 3 refine evR_p ?_
               refine evR_e hK ?_; clear hK K
               refine hKL1 _ ?_
               first
                | exact ⟨1, _, by omega, Wk.cut 1 (by simp [St.cutOK, AObj.upto, V.upto, V.uptoL, cellsI_uptoL, List.all_cons, List.all_nil, List.filter_cons, List.filter_nil, Nat.blt_eq, Nat.reduceLT, Nat.lt_irrefl, decide_true, decide_false, Bool.and_self, Bool.and_true, Bool.true_and, if_true, if_false, ↓reduceIte, Bool.false_eq_true, encSg, encW]), 1, Or.inr (Or.inl ⟨rfl, rfl, by omega⟩), rfl⟩
                | exact ⟨0, _, by omega, Wk.cut 1 (by simp [St.cutOK, AObj.upto, V.upto, V.uptoL, cellsI_uptoL, List.all_cons, List.all_nil, List.filter_cons, List.filter_nil, Nat.blt_eq, Nat.reduceLT, Nat.lt_irrefl, decide_true, decide_false, Bool.and_self, Bool.and_true, Bool.true_and, if_true, if_false, ↓reduceIte, Bool.false_eq_true, encSg, encW]), 2, Or.inr (Or.inr ⟨rfl, rfl, hA, by omega⟩), rfl⟩
         ·
          skip
          (first | (exfalso; omega) | (exfalso; simp_all; done) | skip)
          all_goals
           have hcT : caseOk vars s (toD dec) = true := by rw [hvv, case_iff hd hv]; omega
           have hgT : goesOk l s k = true := by rw [goes_lt]; omega
           have hvn : ((s.var.toNat : Nat) : Int) = s.var := by omega
           have hno : ((s.no.toNat : Nat) : Int) = s.no := by omega
           have hyes : ((s.yes.toNat : Nat) : Int) = s.yes := by omega
           refine tr_exit ?_
           simp only [thenE, inBlkE, Nat.reduceEqDiff, ↓reduceIte]
           refine hK15 _ ?_
           refine tr_seq fun K31 hK31 => ?_
           refine tr_region [8] rfl rfl fun K hK => ?_
           refine evR_p ?_
           refine evR_e hK ?_; clear hK K
           refine hK31 _ ?_
           refine tr_ret ?_
           (try simp only [thenE, inBlkE])
           simp (maxSteps := 4000000) (disch := first | assumption | omega | (simp only [go_sem, *]; done) | (simp only [go_sem, *]; omega)) only [postA, postO, resV1, fzAll, go_sem, hq, Int.reduceToNat, Nat.reduceBEq, Nat.reduceEqDiff, Nat.reduceAdd, Nat.reduceMul, Nat.reduceLeDiff, Nat.reduceLT, Nat.reduceSub, ↓reduceIte, reduceCtorEq]
           all_goals (first | (rw [rw_leaf hs ht1, if_pos ht2]; done) | (rw [rw_leaf hs ht1, if_neg (by rw [ht2]; simp)]; done) | (rw [rw_case hs ht1 (by rw [hvv, case_iff hd hv, goes_lt]; omega)]; done) | (rw [rw_no hs ht1 hcT hgT hvn.symm hno.symm (by omega)]; done) | (rw [rw_yes hs ht1 hcT hgT hvn.symm hno.symm hyes.symm hA]; done) | (rw [rw_yes hs ht1 hcT hgT hvn.symm hno.symm hyes.symm hA]; exact congrArg (V.int .i64) (by have := rwX_neg (vars := vars) (rows := rows) (l := l) (n := n) (k := s.yes.toNat) (d := (toD dec).set s.var.toNat 1); omega)))
end
theorem k70 (vars : Int) (rows : List Rw) (l : List Sg) (v : Nat) (hvv : vars = v) (hr : ∀ r ∈ rows, okRw v r) (hv : v ≤ 12) (hn : rows.length ≤ 301) (hll : l.length ≤ 8192) (hwl : ∀ k, k < l.length → (l.getD k sg0).ws.length ≤ maxLen) : ∀ (n k : Nat) (dec : List Int), k < l.length → l.length ≤ k + n → okD v dec → CallsA Try.prog 70 [.sl 6 (encR rows), .sl 4 (encSgs l), .int .i64 (k : Nat), .sl 1 (encI dec)] (.int .i64 (rwX vars rows l n k (toD dec)))
 | 0, k, dec, hk, hkn, hd => by omega
 | n + 1, k, dec, hk, hkn, hd => k70s vars rows l v hvv hr hv hn hll hwl n (k70 vars rows l v hvv hr hv hn hll hwl n) k dec hk hkn hd _ rfl

end Go.Proofs.Ytfamkbofdamkkaa
namespace Go.Proofs.Ytfamkbofdamkkaa
open Go.RowKit
set_option linter.unusedVariables false
set_option linter.unusedSimpArgs false
set_option maxRecDepth 100000
attribute [local go_sem] Nat.zero_add Nat.add_zero Nat.mul_one eq_self ne_eq not_true_eq_false not_false_eq_true decide_true decide_false decide_not Bool.false_eq_true List.filter_cons List.filter_nil true_and and_true beq_false beq_true Bool.not_true Bool.not_false Bool.and_true Bool.true_and Option.getD_some Option.getD_none imp_self implies_true Int.toNat_natCast List.cons_append List.nil_append List.map_cons List.map_nil List.length_cons List.length_nil List.getD_cons_zero List.getD_cons_succ List.drop_zero List.drop_succ_cons List.take_succ_cons List.take_zero
attribute [local go_sem] shL isSh Option.isNone_none Option.isNone_some Option.isSome_none lowN lowQ lowM isAl appOwn unw appF isE isO stpO notIn St.bare evO evDO isEff stp St.get St.slot St.put List.lookup un unL ofVal gof nth pickV pkB_false pkB_true binV unV loadV idxV fldV partV buildV fillV lenV sliV appV appR rowsV winV V.parts V.okp V.sc Mem.look_cons Mem.look_nil V.cl V.clL AObj.clo fzAll exps St.fz Mem.fz V.fz V.fzL AObj.fz Option.isSome_some Option.isSome_none Bool.or_true Bool.true_or Bool.or_false Bool.false_or false_and and_false false_or or_false arT_22 arT_23 arT_25 arT_24 arT_40 arT_30  arT_65 arT_28 arT_90  arT_52 boolT_25 boolT_3 boolT_35 boolT_4  flatT_25 flatT_3 flatT_35 flatT_4  intT_3 intT_133 lay_23 lay_25 lay_67 lay_24 lay_27 lay_3 lay_49 lay_30 lay_34 lay_4 lay_65 lay_52 lay_54 lay_56 lay_141 lay_164  okF_17 okF_31  okF_36 okF_18 okF_34 okF_63  okF_28 okF_50 okF_69 okF_51  okF_35       okF_37   okF_71  okF_65  okF_62 okF_77 okF_79  okF_80 okF_81 okF_64 okF_66 okF_76 okF_113 okF_96 okF_97 okF_98 okF_82  okF_99 okF_119 okF_120 okF_78 okF_100 okF_101 okF_83 okF_84 okF_125 okF_126  okF_127 okF_128 okF_129 okF_130 okF_114 okF_124 okF_140 okF_141 okF_142 okF_143  okF_131 okF_132 okF_144 okF_158 okF_155 okF_159   plT_67 plT_27 plT_34 plT_54 plT_56 slT_22 slT_23 slT_25 slT_24 slT_40 slT_30  slT_65 slT_28 slT_90  slT_52  stT_67_1   stT_67_4 stT_67_5 stT_27_0 stT_27_1 stT_27_2 stT_34_0 stT_34_1 stT_34_2 stT_34_3 stT_54_0 stT_54_1 stT_54_2 stT_54_3 stT_56_0 stT_56_1  zeroT_67 zeroT_27 zeroT_3 zeroT_49 zeroT_30 zeroT_34 zeroT_65  zeroT_54 zeroT_56
attribute [local go_sem] List.getElem?_cons_zero List.getElem?_cons_succ List.zip_cons_cons List.zip_nil_left List.zip_nil_right Bool.false_and Bool.and_false List.length_append List.length_set List.length_replicate List.all_cons List.all_nil encI_length encI_getD encR_length encR_getD encRw encPg spl shp AObj.shp rowM isSt isRpS isRd csh AObj.csh forall_const imp_self
attribute [local simp] encI_length encR_length
section
attribute [local go_sem] encT_length encT_getD cellsI_length cellsI_getD cellsI_sc cellsI_cl cellsI_dropD encR_one List.length_drop
set_option maxHeartbeats 8000000 in
theorem c11 (v : Int) (x : List T3) (g : List Int) (hv : okI v) (hx : x.length ≤ maxLen) (hg : g.length = 8) : CallsA Try.prog 17 [.int .i64 v, .sl 3 (encT x), .agg (cellsI g)] (.agg (encPg (madeW v x g))) := by
 have r1 := pickW_range v (n := 9) (by omega) (by omega) hv
 have hx0 := hx
 unfold maxLen at hx0
 obtain ⟨n, hn⟩ := Int.eq_ofNat_of_zero_le r1.1
 have hn9 : n < 9 := by omega
 have hq := And.intro hn (hg)
 refine callsA_of_tr Try.func17 rfl (Nat.le_of_ble_eq_true rfl) ?_
 simp only [Try.results17, envOf, Nat.reduceAdd]
 refine tr_seq fun K1 hK1 => ?_
 refine tr_region [0, 1, 5, 6] rfl rfl fun K hK => ?_
 iterate 2 refine evR_p ?_
 refine evR_e hK ?_; clear hK K
 refine hK1 _ ?_
 refine tr_seq fun K2 hK2 => ?_
 refine tr_fz [.ptr 0 0] (by simp (maxSteps := 4000000) (disch := first | assumption | omega | (simp only [go_sem, *]; done) | (simp only [go_sem, *]; omega)) only [go_sem, hq, Int.reduceToNat, Nat.reduceBEq, Nat.reduceEqDiff, Nat.reduceAdd, Nat.reduceMul, Nat.reduceLeDiff, Nat.reduceLT, Nat.reduceSub, ↓reduceIte, reduceCtorEq]; (try rfl)) ?_
 refine tr_region [1, 5, 6, 7] rfl rfl fun K hK => ?_
 refine evR_p ?_
 refine evR_c (hc := (c37 _ _ (by decide))) (k := ?_)
 iterate 3 refine evR_p ?_
 refine evR_e hK ?_; clear hK K
 refine hK2 _ ?_
 refine tr_seq fun K3 hK3 => ?_
 refine tr_seq fun K4 hK4 => ?_
 refine tr_region [1, 5, 6, 7, 8] rfl rfl fun K hK => ?_
 refine evR_p ?_
 refine evR_e hK ?_; clear hK K
 refine hK4 _ ?_
 refine tr_block ?_
 -- loop 1: live [1, 5, 6, 7, 8]
 refine tr_loopW (fun m σ => ∃ i : Nat, i + m = n ∧ σ = ⟨[(1, .sl 3 (encT x)), (5, .ep (cellsI g)), (6, .ptr 1 0), (7, .ptr 2 0), (8, .int .i64 (i : Nat))], [(4, .row 3 1 (encI (gainM g i))), (3, .row 67 6 (encR [])), (2, .cells [.int .i64 (n : Nat), .own 3, .own 4]), (1, .cells [.int .i64 0, .nsl, .nsl])], 5⟩) (n) ?_ ?_
 ·
  exact ⟨_, Wk.trans (Wk.nilown 67 6 2 1 rfl (Nat.le_of_ble_eq_true rfl) rfl) (Wk.nilown 3 1 2 2 rfl (Nat.le_of_ble_eq_true rfl) rfl), 0, by omega, rfl⟩
 ·
  rintro m σ ⟨i, hi, rfl⟩ KL1 hKL1
  refine tr_seq fun K5 hK5 => ?_
  refine tr_seq fun K6 hK6 => ?_
  refine tr_region [1, 5, 6, 7, 8, 18] rfl rfl fun K hK => ?_
  iterate 4 refine evR_p ?_
  refine evR_e hK ?_; clear hK K
  refine hK6 _ ?_
  refine tr_condB (fun ht1 => ?_) (fun ht1 => ?_)
  ·
   skip
   have hil : i < n := by omega
   have hi8 : i < 8 := by omega
   have hgl := gainM_length g i
   replace hq := And.intro hq (And.intro hil (And.intro hi8 (hgl)))
   refine tr_skip ?_
   (try simp only [thenE, inBlkE])
   refine hK5 _ ?_
   refine tr_seq fun K7 hK7 => ?_
   refine tr_block ?_
   refine tr_draw [28] [1, 5, 6, 7, 8] mixed rfl (by kernel_rfl) rfl fun K hK => ?_
   iterate 5 refine evD_p ?_
   refine evD_c (hc := (c37 _ _ (by decide))) (k := ?_)
   refine evD_p ?_
   refine evD_bs ?_
   iterate 3 refine evD_p ?_
   refine evD_e hK ?_; clear hK K
   refine hK7 _ ?_
   refine tr_region [1, 5, 6, 7, 8] rfl rfl fun K hK => ?_
   iterate 3 refine evR_p ?_
   refine evR_e hK ?_; clear hK K
   refine hKL1 _ ?_
   exact ⟨m - 1, _, by omega, (Wk.trans (Wk.ren 5 4 (Nat.le_of_ble_eq_true rfl) (Nat.le_of_ble_eq_true rfl) rfl) (Wk.cut 5 rfl)), i + 1, by omega, by rw [w64 (x := (i : Int) + 1) (by omega), gainM_succ, encI_snoc]; rfl⟩
  ·
   skip
   have hil : i = n := by omega
   subst hil
   refine tr_exit ?_
   simp only [thenE, inBlkE, Nat.reduceEqDiff, ↓reduceIte]
   refine hK3 _ ?_
   refine tr_seq fun K8 hK8 => ?_
   refine tr_seq fun K9 hK9 => ?_
   refine tr_region [1, 6, 7, 9] rfl rfl fun K hK => ?_
   refine evR_p ?_
   refine evR_e hK ?_; clear hK K
   refine hK9 _ ?_
   refine tr_block ?_
   -- loop 2: live [1, 6, 7, 9]
   refine tr_loopW (fun m σ => ∃ j : Nat, j + m = min x.length 8 ∧ σ = ⟨[(1, .sl 3 (encT x)), (6, .ptr 1 0), (7, .ptr 2 0), (9, .int .i64 (j : Nat))], [(3, .row 67 6 (encR (rowsM i x j))), (4, .row 3 1 (encI (gainM g i))), (2, .cells [.int .i64 (i : Nat), .own 3, .own 4]), (1, .cells [.int .i64 0, .nsl, .nsl])], 5⟩) (min x.length 8) ?_ ?_
   ·
    exact ⟨_, Wk.swap, 0, by omega, rfl⟩
   ·
    rintro m2 σ ⟨j, hj, rfl⟩ KL2 hKL2
    refine tr_seq fun K10 hK10 => ?_
    refine tr_seq fun K11 hK11 => ?_
    refine tr_region [1, 6, 7, 9, 38] rfl rfl fun K hK => ?_
    iterate 5 refine evR_p ?_
    iterate 2 refine evR_g ?_
    refine evR_p ?_
    refine evR_e hK ?_; clear hK K
    refine hK11 _ ?_
    refine tr_condB (fun ht2 => ?_) (fun ht2 => ?_)
    ·
     skip
     have hjl : j < x.length := by omega
     have hj8 : j < 8 := by omega
     have hrl := rowsM_length i x j
     have hw1 : IntKind.i64.wrap (1 + (j : Int)) = 1 + (j : Int) := w64 (by omega)
     replace hq := And.intro hq (And.intro hjl (And.intro hj8 (And.intro hrl (hw1))))
     refine tr_skip ?_
     (try simp only [thenE, inBlkE])
     refine hK10 _ ?_
     refine tr_seq fun K12 hK12 => ?_
     refine tr_block ?_
     refine tr_seq fun K13 hK13 => ?_
     refine tr_draw [45, 46, 47, 51, 52, 53] [1, 6, 7, 9, 10] mixed rfl (by kernel_rfl) rfl fun K hK => ?_
     iterate 7 refine evD_p ?_
     refine evD_c (hc := (c37 _ _ (by decide))) (k := ?_)
     iterate 5 refine evD_p ?_
     refine evD_c (hc := (c37 _ _ (by decide))) (k := ?_)
     iterate 4 refine evD_p ?_
     refine evD_e hK ?_; clear hK K
     refine hK13 _ ?_
     refine tr_seq fun K14 hK14 => ?_
     refine tr_seq fun K15 hK15 => ?_
     refine tr_region [1, 6, 7, 9, 10, 11] rfl rfl fun K hK => ?_
     refine evR_p ?_
     refine evR_e hK ?_; clear hK K
     refine hK15 _ ?_
     refine tr_block ?_
     -- loop 3: live [1, 6, 7, 9, 10, 11]
     refine tr_loopW (fun m σ => ∃ k : Nat, k + m = i ∧ σ = ⟨[(1, .sl 3 (encT x)), (6, .ptr 1 0), (7, .ptr 2 0), (9, .int .i64 (j : Nat)), (10, .ptr 5 0), (11, .int .i64 (k : Nat))], [(6, .row 3 1 (encI (coefM (x.getD j t30) k))), (5, .cells [.int .i64 (1 + (j : Int)), .int .i64 (pickW (x.getD j t30).p 9), .int .i64 0, .int .i64 0, .own 6, .int .i64 (IntKind.i64.wrap (pickW (x.getD j t30).r 30 - 4))]), (3, .row 67 6 (encR (rowsM i x j))), (4, .row 3 1 (encI (gainM g i))), (2, .cells [.int .i64 (i : Nat), .own 3, .own 4]), (1, .cells [.int .i64 0, .nsl, .nsl])], 7⟩) (i) ?_ ?_
     ·
      exact ⟨_, (Wk.nilown 3 1 5 4 rfl (Nat.le_of_ble_eq_true rfl) rfl), 0, by omega, rfl⟩
     ·
      rintro m3 σ ⟨k, hk, rfl⟩ KL3 hKL3
      refine tr_seq fun K16 hK16 => ?_
      refine tr_seq fun K17 hK17 => ?_
      refine tr_region [1, 6, 7, 9, 10, 11, 60] rfl rfl fun K hK => ?_
      iterate 4 refine evR_p ?_
      refine evR_e hK ?_; clear hK K
      refine hK17 _ ?_
      refine tr_condB (fun ht3 => ?_) (fun ht3 => ?_)
      ·
       skip
       have hkl : k < i := by omega
       have hcl := coefM_length (x.getD j t30) k
       have hw2 : IntKind.i64.wrap (3 * (k : Int)) = 3 * (k : Int) := w64 (by omega)
       have hw3 : IntKind.i64.wrap (1 + 3 * (k : Int)) = 1 + 3 * (k : Int) := w64 (by omega)
       have hw4 : IntKind.i64.wrap (5 * (k : Int)) = 5 * (k : Int) := w64 (by omega)
       have hw5 : IntKind.i64.wrap (1 + 5 * (k : Int)) = 1 + 5 * (k : Int) := w64 (by omega)
       replace hq := And.intro hq (And.intro hkl (And.intro hcl (And.intro hw2 (And.intro hw3 (And.intro hw4 (hw5))))))
       refine tr_skip ?_
       (try simp only [thenE, inBlkE])
       refine hK16 _ ?_
       refine tr_seq fun K18 hK18 => ?_
       refine tr_block ?_
       refine tr_draw [67, 68, 69, 77, 78, 79, 86] [1, 6, 7, 9, 10, 11] mixed rfl (by kernel_rfl) rfl fun K hK => ?_
       iterate 11 refine evD_p ?_
       refine evD_c (hc := (c37 _ _ (by decide))) (k := ?_)
       iterate 9 refine evD_p ?_
       refine evD_c (hc := (c37 _ _ (by decide))) (k := ?_)
       refine evD_p ?_
       refine evD_bs ?_
       iterate 3 refine evD_p ?_
       refine evD_e hK ?_; clear hK K
       refine hK18 _ ?_
       refine tr_region [1, 6, 7, 9, 10, 11] rfl rfl fun K hK => ?_
       iterate 3 refine evR_p ?_
       refine evR_e hK ?_; clear hK K
       refine hKL3 _ ?_
       exact ⟨m3 - 1, _, by omega, (Wk.trans (Wk.ren 7 6 (Nat.le_of_ble_eq_true rfl) (Nat.le_of_ble_eq_true rfl) rfl) (Wk.cut 7 rfl)), k + 1, by omega, by rw [w64 (x := (k : Int) + 1) (by omega), coefM_succ, encI_snoc]; rfl⟩
      ·
       skip
       have hkl : k = i := by omega
       subst hkl
       refine tr_exit ?_
       simp only [thenE, inBlkE, Nat.reduceEqDiff, ↓reduceIte]
       refine hK14 _ ?_
       refine tr_fz [.own 6] (by simp (maxSteps := 4000000) (disch := first | assumption | omega | (simp only [go_sem, *]; done) | (simp only [go_sem, *]; omega)) only [go_sem, hq, Int.reduceToNat, Nat.reduceBEq, Nat.reduceEqDiff, Nat.reduceAdd, Nat.reduceMul, Nat.reduceLeDiff, Nat.reduceLT, Nat.reduceSub, ↓reduceIte, reduceCtorEq]; (try rfl)) ?_
       refine tr_region [1, 6, 7, 9] rfl rfl fun K hK => ?_
       iterate 3 refine evR_p ?_
       refine evR_bs ?_
       iterate 3 refine evR_p ?_
       refine evR_e hK ?_; clear hK K
       refine hK12 _ ?_
       refine tr_region [1, 6, 7, 9] rfl rfl fun K hK => ?_
       iterate 3 refine evR_p ?_
       refine evR_e hK ?_; clear hK K
       refine hKL2 _ ?_
       exact ⟨m2 - 1, _, by omega, Wk.trans (Wk.drop (fun k => k != 5)) (Wk.trans (Wk.ren 7 3 (Nat.le_of_ble_eq_true rfl) (Nat.le_of_ble_eq_true rfl) rfl) (Wk.cut 5 rfl)), j + 1, by omega, by rw [w64 (x := (j : Int) + 1) (by omega), rowsM_succ]; rfl⟩
    ·
     skip
     have hjl : j = min x.length 8 := by omega
     refine tr_exit ?_
     simp only [thenE, inBlkE, Nat.reduceEqDiff, ↓reduceIte]
     refine hK8 _ ?_
     refine tr_seq fun K19 hK19 => ?_
     refine tr_region [6] rfl rfl fun K hK => ?_
     iterate 2 refine evR_p ?_
     refine evR_e hK ?_; clear hK K
     refine hK19 _ ?_
     refine tr_ret ?_
     (try simp only [thenE, inBlkE])
     simp (maxSteps := 4000000) (disch := first | assumption | omega | (simp only [go_sem, *]; done) | (simp only [go_sem, *]; omega)) only [postA, postO, resV1, fzAll, go_sem, hq, Int.reduceToNat, Nat.reduceBEq, Nat.reduceEqDiff, Nat.reduceAdd, Nat.reduceMul, Nat.reduceLeDiff, Nat.reduceLT, Nat.reduceSub, ↓reduceIte, reduceCtorEq]
     all_goals ((subst hjl; simp only [madeW, encPg, hn, Int.toNat_natCast]))
end

theorem c33 (p : Pg) (hv : p.vars ≤ 1000) : CallsA Try.prog 71 [.agg (encPg p)] (.sl 1 (encI (List.replicate p.vars.toNat (-1)))) := by
 have hq : True := trivial
 refine callsA_of_trL Try.func71 rfl (Nat.le_of_ble_eq_true rfl) ?_
 simp only [Try.results71, envOf, Nat.reduceAdd]
 refine tr_seq fun K1 hK1 => ?_
 refine tr_region [1] rfl rfl fun K hK => ?_
 iterate 2 refine evR_p ?_
 refine evR_e hK ?_; clear hK K
 refine hK1 _ ?_
 refine tr_seq fun K2 hK2 => ?_
 refine tr_region [1, 3] rfl rfl fun K hK => ?_
 refine evR_p ?_
 refine evR_e hK ?_; clear hK K
 refine hK2 _ ?_
 refine tr_seq fun K3 hK3 => ?_
 refine tr_seq fun K4 hK4 => ?_
 refine tr_region [1, 3, 4] rfl rfl fun K hK => ?_
 refine evR_p ?_
 refine evR_e hK ?_; clear hK K
 refine hK4 _ ?_
 refine tr_block ?_
 -- loop 1: live [1, 3, 4]
 refine tr_loopW (fun m σ => ∃ i : Nat, i + m = p.vars.toNat ∧ ((i = 0 ∧ σ = ⟨[(1, .ptr 0 0), (3, .nsl), (4, .int .i64 (i : Nat))], [(0, .cells (encPg p))], 1⟩) ∨ (0 < i ∧ σ = ⟨[(1, .ptr 0 0), (3, .own 1), (4, .int .i64 (i : Nat))], [(1, .row 3 1 (encI (List.replicate i (-1)))), (0, .cells (encPg p))], 2⟩))) (p.vars.toNat) ?_ ?_
 ·
  exact ⟨_, Wk.refl _, 0, by omega, .inl ⟨rfl, rfl⟩⟩
 ·
  rintro m σ ⟨i, hi, (⟨hi0, rfl⟩ | ⟨hi0, rfl⟩)⟩ KL1 hKL1
  all_goals
   refine tr_seq fun K5 hK5 => ?_
   refine tr_seq fun K6 hK6 => ?_
   refine tr_region [1, 3, 4, 8] rfl rfl fun K hK => ?_
   iterate 4 refine evR_p ?_
   refine evR_e hK ?_; clear hK K
   refine hK6 _ ?_
   refine tr_condB (fun ht1 => ?_) (fun ht1 => ?_)
   ·
    skip
    have hil : i < p.vars.toNat := by omega
    replace hq := And.intro hq (hil)
    refine tr_skip ?_
    (try simp only [thenE, inBlkE])
    refine hK5 _ ?_
    refine tr_seq fun K7 hK7 => ?_
    refine tr_block ?_
    refine tr_region [1, 3, 4] rfl rfl fun K hK => ?_
    refine evR_p ?_
    refine evR_bs ?_
    iterate 2 refine evR_p ?_
    refine evR_e hK ?_; clear hK K
    refine hK7 _ ?_
    refine tr_region [1, 3, 4] rfl rfl fun K hK => ?_
    iterate 3 refine evR_p ?_
    refine evR_e hK ?_; clear hK K
    refine hKL1 _ ?_
    first
     | exact ⟨m - 1, _, by omega, (Wk.trans (Wk.ren 2 1 (Nat.le_of_ble_eq_true rfl) (Nat.le_of_ble_eq_true rfl) rfl) (Wk.cut 2 rfl)), i + 1, by omega, .inr ⟨by omega, by subst hi0; rw [w64 (x := ((0 : Nat) : Int) + 1) (by omega)]; rfl⟩⟩
     | exact ⟨m - 1, _, by omega, (Wk.trans (Wk.ren 2 1 (Nat.le_of_ble_eq_true rfl) (Nat.le_of_ble_eq_true rfl) rfl) (Wk.cut 2 rfl)), i + 1, by omega, .inr ⟨by omega, by rw [w64 (x := (i : Int) + 1) (by omega), (show List.replicate (i + 1) (-1 : Int) = List.replicate i (-1) ++ [-1] from List.replicate_succ'), encI_snoc]; rfl⟩⟩
   ·
    skip
    have hil : i = p.vars.toNat := by omega
    refine tr_exit ?_
    simp only [thenE, inBlkE, Nat.reduceEqDiff, ↓reduceIte]
    refine hK3 _ ?_
    refine tr_seq fun K8 hK8 => ?_
    refine tr_region [2] rfl rfl fun K hK => ?_
    iterate 2 refine evR_p ?_
    refine evR_e hK ?_; clear hK K
    refine hK8 _ ?_
    refine tr_ret ?_
    (try simp only [thenE, inBlkE])
    simp (maxSteps := 4000000) (disch := first | assumption | omega | (simp only [go_sem, *]; done) | (simp only [go_sem, *]; omega)) only [postA, postO, resV1, fzAll, go_sem, hq, Int.reduceToNat, Nat.reduceBEq, Nat.reduceEqDiff, Nat.reduceAdd, Nat.reduceMul, Nat.reduceLeDiff, Nat.reduceLT, Nat.reduceSub, ↓reduceIte, reduceCtorEq]
    all_goals ((first | (subst hi0; rw [show p.vars.toNat = 0 by omega]; exact .nsl _) | (rw [← hil]; exact .refl _)))

end Go.Proofs.Ytfamkbofdamkkaa
namespace Go.Proofs.Ytfamkbofdamkkaa
open Go.RowKit
set_option linter.unusedVariables false
set_option linter.unusedSimpArgs false
set_option maxRecDepth 100000
attribute [local go_sem] Nat.zero_add Nat.add_zero Nat.mul_one eq_self ne_eq not_true_eq_false not_false_eq_true decide_true decide_false decide_not Bool.false_eq_true List.filter_cons List.filter_nil true_and and_true beq_false beq_true Bool.not_true Bool.not_false Bool.and_true Bool.true_and Option.getD_some Option.getD_none imp_self implies_true Int.toNat_natCast List.cons_append List.nil_append List.map_cons List.map_nil List.length_cons List.length_nil List.getD_cons_zero List.getD_cons_succ List.drop_zero List.drop_succ_cons List.take_succ_cons List.take_zero
attribute [local go_sem] shL isSh Option.isNone_none Option.isNone_some Option.isSome_none lowN lowQ lowM isAl appOwn unw appF isE isO stpO notIn St.bare evO evDO isEff stp St.get St.slot St.put List.lookup un unL ofVal gof nth pickV pkB_false pkB_true binV unV loadV idxV fldV partV buildV fillV lenV sliV appV appR rowsV winV V.parts V.okp V.sc Mem.look_cons Mem.look_nil V.cl V.clL AObj.clo fzAll exps St.fz Mem.fz V.fz V.fzL AObj.fz Option.isSome_some Option.isSome_none Bool.or_true Bool.true_or Bool.or_false Bool.false_or false_and and_false false_or or_false arT_104 arT_121 arT_160 arT_161 arT_22 arT_23 arT_24 arT_25 arT_28 arT_29 arT_30 arT_40 arT_42 arT_52 arT_60 arT_65 arT_72 arT_73 arT_76 arT_9 arT_90 boolT_182 boolT_25 boolT_3 boolT_35 boolT_4 boolT_76 flatT_182 flatT_25 flatT_3 flatT_35 flatT_4 flatT_76 intT_133 intT_169 intT_171 intT_188 intT_3 intT_5 lay_104 lay_112 lay_138 lay_141 lay_153 lay_160 lay_161 lay_164 lay_188 lay_23 lay_24 lay_25 lay_27 lay_28 lay_3 lay_30 lay_34 lay_4 lay_49 lay_52 lay_54 lay_56 lay_65 lay_67 lay_73 lay_76 lay_90 lay_99 mapT_112 okF_10 okF_100 okF_101 okF_102 okF_103 okF_104 okF_105 okF_106 okF_107 okF_108 okF_109 okF_11 okF_110 okF_111 okF_112 okF_113 okF_114 okF_115 okF_116 okF_117 okF_118 okF_119 okF_12 okF_120 okF_121 okF_122 okF_123 okF_124 okF_125 okF_126 okF_127 okF_128 okF_129 okF_13 okF_130 okF_131 okF_132 okF_133 okF_134 okF_135 okF_136 okF_137 okF_138 okF_139 okF_14 okF_140 okF_141 okF_142 okF_143 okF_144 okF_145 okF_146 okF_147 okF_148 okF_149 okF_15 okF_150 okF_151 okF_152 okF_153 okF_154 okF_155 okF_156 okF_157 okF_158 okF_159 okF_16 okF_160 okF_161 okF_162 okF_163 okF_164 okF_165 okF_166 okF_167 okF_168 okF_169 okF_17 okF_170 okF_171 okF_172 okF_173 okF_174 okF_175 okF_176 okF_177 okF_18 okF_19 okF_20 okF_21 okF_22 okF_23 okF_24 okF_25 okF_26 okF_27 okF_28 okF_29 okF_3 okF_30 okF_31 okF_32 okF_33 okF_34 okF_35 okF_36 okF_37 okF_38 okF_39 okF_4 okF_40 okF_41 okF_42 okF_43 okF_44 okF_45 okF_46 okF_47 okF_48 okF_49 okF_5 okF_50 okF_51 okF_52 okF_53 okF_54 okF_55 okF_56 okF_57 okF_58 okF_59 okF_6 okF_60 okF_61 okF_62 okF_63 okF_64 okF_65 okF_66 okF_67 okF_68 okF_69 okF_7 okF_70 okF_71 okF_72 okF_73 okF_74 okF_75 okF_76 okF_77 okF_78 okF_79 okF_8 okF_80 okF_81 okF_82 okF_83 okF_84 okF_85 okF_86 okF_87 okF_88 okF_89 okF_9 okF_90 okF_91 okF_92 okF_93 okF_94 okF_95 okF_96 okF_97 okF_98 okF_99 plT_138 plT_153 plT_157 plT_161 plT_27 plT_34 plT_54 plT_56 plT_67 plT_76 plT_90 plT_99 slT_104 slT_121 slT_160 slT_161 slT_22 slT_23 slT_24 slT_25 slT_28 slT_29 slT_30 slT_40 slT_42 slT_52 slT_60 slT_65 slT_72 slT_73 slT_76 slT_90 stT_138_0 stT_138_1 stT_153_0 stT_157_0 stT_157_1 stT_157_2 stT_157_3 stT_27_0 stT_27_1 stT_27_2 stT_34_0 stT_34_1 stT_34_2 stT_34_3 stT_54_0 stT_54_1 stT_54_2 stT_54_3 stT_56_0 stT_56_1 stT_67_1 stT_67_4 stT_67_5 stT_99_0 stT_99_1 strT_160 strT_76 strT_9 zeroT_112 zeroT_138 zeroT_153 zeroT_157 zeroT_160 zeroT_161 zeroT_188 zeroT_27 zeroT_3 zeroT_30 zeroT_34 zeroT_4 zeroT_49 zeroT_54 zeroT_56 zeroT_65 zeroT_67 zeroT_76 zeroT_90 zeroT_99
attribute [local go_sem] List.getElem?_cons_zero List.getElem?_cons_succ List.zip_cons_cons List.zip_nil_left List.zip_nil_right Bool.false_and Bool.and_false List.length_append List.length_set List.length_replicate List.all_cons List.all_nil encI_length encI_getD encR_length encR_getD encRw encPg spl shp AObj.shp rowM isSt isRpS isRd csh AObj.csh forall_const imp_self
attribute [local go_sem] encSg encW encSgs_length encWs_length encSgs_getD encWs_getD lookV lkM putM
attribute [local simp] encI_length encR_length cellsI_length encSgs_length encWs_length
theorem k27y (p : Pg) (hp : okPr p) (l : List Sg) (hl : okPf l) (hv : validB p = true) (hl8 : l.length ≤ 8192) : CallsA Try.prog 27 [.agg (encPg p), .sl 4 (encSgs l)] (.int .i64 (wrongW p l)) := by
 obtain ⟨⟨h0, h1⟩, hrn, hrw⟩ := valid_okRw hv
 have hw : ∀ k, k < l.length → (l.getD k sg0).ws.length ≤ maxLen := fun k hk => hl.ws _ (getD_mem hk)
 have c70 : ¬ l.length = 0 → CallsA Try.prog 70 [.sl 6 (encR p.rows), .sl 4 (encSgs l), .int .i64 0, .sl 1 (encI (List.replicate p.vars.toNat (-1)))] (.int .i64 (wrongW p l)) := fun h0l => by
  have h := k70 p.vars p.rows l p.vars.toNat (by omega) hrw (by omega) hrn hl8 hw l.length 0 (List.replicate p.vars.toNat (-1)) (by omega) (by omega) (okD_open _)
  rw [toD_open _ (by omega), wrong_rw hv hl8 h0l] at h
  exact h
 have hq := hv
 refine callsA_of_tr Try.func27 rfl (Nat.le_of_ble_eq_true rfl) ?_
 simp only [Try.results27, envOf, Nat.reduceAdd]
 refine tr_seq fun K1 hK1 => ?_
 refine tr_region [1, 2] rfl rfl fun K hK => ?_
 iterate 2 refine evR_p ?_
 refine evR_e hK ?_; clear hK K
 refine hK1 _ ?_
 refine tr_seq fun K2 hK2 => ?_
 refine tr_seq fun K3 hK3 => ?_
 refine tr_region [1, 2, 12] rfl rfl fun K hK => ?_
 refine evR_p ?_
 refine evR_c (hc := (c21 p hp.r hp.g hp.c)) (k := ?_)
 iterate 2 refine evR_p ?_
 iterate 3 refine evR_g ?_
 refine evR_p ?_
 refine evR_e hK ?_; clear hK K
 refine hK3 _ ?_
 refine tr_condB (fun ht1 => ?_) (fun ht1 => ?_)
 ·
  skip
  (first | (exfalso; omega) | (exfalso; simp_all; done) | skip)
  all_goals
   refine tr_seq fun K4 hK4 => ?_
   refine tr_region [4] rfl rfl fun K hK => ?_
   refine evR_p ?_
   refine evR_e hK ?_; clear hK K
   refine hK4 _ ?_
   refine tr_ret ?_
   (try simp only [thenE, inBlkE])
   simp (maxSteps := 4000000) (disch := first | assumption | omega | (simp only [go_sem, *]; done) | (simp only [go_sem, *]; omega)) only [postA, postO, resV1, fzAll, go_sem, hq, Int.reduceToNat, Nat.reduceBEq, Nat.reduceEqDiff, Nat.reduceAdd, Nat.reduceMul, Nat.reduceLeDiff, Nat.reduceLT, Nat.reduceSub, ↓reduceIte, reduceCtorEq]
   all_goals (first | (rw [wrong_nil hv (by omega)]; done) | rfl)
 ·
  skip
  (first | (exfalso; omega) | (exfalso; simp_all; done) | skip)
  all_goals
   refine tr_skip ?_
   (try simp only [thenE, inBlkE])
   refine hK2 _ ?_
   refine tr_seq fun K5 hK5 => ?_
   refine tr_seq fun K6 hK6 => ?_
   refine tr_region [1, 2, 15] rfl rfl fun K hK => ?_
   iterate 3 refine evR_p ?_
   refine evR_e hK ?_; clear hK K
   refine hK6 _ ?_
   refine tr_condB (fun ht2 => ?_) (fun ht2 => ?_)
   ·
    skip
    (first | (exfalso; omega) | (exfalso; simp_all; done) | skip)
    all_goals
     refine tr_seq fun K7 hK7 => ?_
     refine tr_region [4] rfl rfl fun K hK => ?_
     refine evR_p ?_
     refine evR_e hK ?_; clear hK K
     refine hK7 _ ?_
     refine tr_ret ?_
     (try simp only [thenE, inBlkE])
     simp (maxSteps := 4000000) (disch := first | assumption | omega | (simp only [go_sem, *]; done) | (simp only [go_sem, *]; omega)) only [postA, postO, resV1, fzAll, go_sem, hq, Int.reduceToNat, Nat.reduceBEq, Nat.reduceEqDiff, Nat.reduceAdd, Nat.reduceMul, Nat.reduceLeDiff, Nat.reduceLT, Nat.reduceSub, ↓reduceIte, reduceCtorEq]
     all_goals (first | (rw [wrong_nil hv (by omega)]; done) | rfl)
   ·
    skip
    (first | (exfalso; omega) | (exfalso; simp_all; done) | skip)
    all_goals
     refine tr_skip ?_
     (try simp only [thenE, inBlkE])
     refine hK5 _ ?_
     refine tr_seq fun K8 hK8 => ?_
     refine tr_draw [] [4] mixed rfl (by kernel_rfl) rfl fun K hK => ?_
     iterate 4 refine evD_p ?_
     refine evD_c (hc := (c33 p (by omega))) (k := ?_)
     refine evD_c (hc := (c70 (by omega))) (k := ?_)
     refine evD_p ?_
     refine evD_e hK ?_; clear hK K
     refine hK8 _ ?_
     refine tr_ret ?_
     (try simp only [thenE, inBlkE])
     simp (maxSteps := 4000000) (disch := first | assumption | omega | (simp only [go_sem, *]; done) | (simp only [go_sem, *]; omega)) only [postA, postO, resV1, fzAll, go_sem, hq, Int.reduceToNat, Nat.reduceBEq, Nat.reduceEqDiff, Nat.reduceAdd, Nat.reduceMul, Nat.reduceLeDiff, Nat.reduceLT, Nat.reduceSub, ↓reduceIte, reduceCtorEq]
     all_goals (first | (rw [wrong_nil hv (by omega)]; done) | rfl)

theorem k27n (p : Pg) (hp : okPr p) (l : List Sg) (hl : okPf l) (hn : ¬ (validB p = true ∧ l.length ≤ 8192)) : CallsA Try.prog 27 [.agg (encPg p), .sl 4 (encSgs l)] (.int .i64 (wrongW p l)) := by
 have hq : True := trivial
 refine callsA_of_tr Try.func27 rfl (Nat.le_of_ble_eq_true rfl) ?_
 simp only [Try.results27, envOf, Nat.reduceAdd]
 refine tr_seq fun K1 hK1 => ?_
 refine tr_region [1, 2] rfl rfl fun K hK => ?_
 iterate 2 refine evR_p ?_
 refine evR_e hK ?_; clear hK K
 refine hK1 _ ?_
 refine tr_seq fun K2 hK2 => ?_
 refine tr_seq fun K3 hK3 => ?_
 refine tr_region [1, 2, 12] rfl rfl fun K hK => ?_
 refine evR_p ?_
 refine evR_c (hc := (c21 p hp.r hp.g hp.c)) (k := ?_)
 iterate 2 refine evR_p ?_
 iterate 3 refine evR_g ?_
 refine evR_p ?_
 refine evR_e hK ?_; clear hK K
 refine hK3 _ ?_
 refine tr_condB (fun ht1 => ?_) (fun ht1 => ?_)
 ·
  skip
  (first | (exfalso; omega) | (exfalso; simp_all; done) | (exfalso; exact hn ⟨by simp_all, by omega⟩) | skip)
  all_goals
   refine tr_seq fun K4 hK4 => ?_
   refine tr_region [4] rfl rfl fun K hK => ?_
   refine evR_p ?_
   refine evR_e hK ?_; clear hK K
   refine hK4 _ ?_
   refine tr_ret ?_
   (try simp only [thenE, inBlkE])
   simp (maxSteps := 4000000) (disch := first | assumption | omega | (simp only [go_sem, *]; done) | (simp only [go_sem, *]; omega)) only [postA, postO, resV1, fzAll, go_sem, hq, Int.reduceToNat, Nat.reduceBEq, Nat.reduceEqDiff, Nat.reduceAdd, Nat.reduceMul, Nat.reduceLeDiff, Nat.reduceLT, Nat.reduceSub, ↓reduceIte, reduceCtorEq]
   all_goals ((rw [wrong_out hn]; done))
 ·
  skip
  (first | (exfalso; omega) | (exfalso; simp_all; done) | (exfalso; exact hn ⟨by simp_all, by omega⟩) | skip)
  all_goals
   refine tr_skip ?_
   (try simp only [thenE, inBlkE])
   refine hK2 _ ?_
   refine tr_seq fun K5 hK5 => ?_
   refine tr_seq fun K6 hK6 => ?_
   refine tr_region [1, 2, 15] rfl rfl fun K hK => ?_
   iterate 3 refine evR_p ?_
   refine evR_e hK ?_; clear hK K
   refine hK6 _ ?_
   refine tr_condB (fun ht2 => ?_) (fun ht2 => ?_)
   ·
    skip
    (first | (exfalso; omega) | (exfalso; simp_all; done) | (exfalso; exact hn ⟨by simp_all, by omega⟩) | skip)
    all_goals
     refine tr_seq fun K7 hK7 => ?_
     refine tr_region [4] rfl rfl fun K hK => ?_
     refine evR_p ?_
     refine evR_e hK ?_; clear hK K
     refine hK7 _ ?_
     refine tr_ret ?_
     (try simp only [thenE, inBlkE])
     simp (maxSteps := 4000000) (disch := first | assumption | omega | (simp only [go_sem, *]; done) | (simp only [go_sem, *]; omega)) only [postA, postO, resV1, fzAll, go_sem, hq, Int.reduceToNat, Nat.reduceBEq, Nat.reduceEqDiff, Nat.reduceAdd, Nat.reduceMul, Nat.reduceLeDiff, Nat.reduceLT, Nat.reduceSub, ↓reduceIte, reduceCtorEq]
     all_goals ((rw [wrong_out hn]; done))
   ·
    skip
    (first | (exfalso; omega) | (exfalso; simp_all; done) | (exfalso; exact hn ⟨by simp_all, by omega⟩) | skip)
    all_goals
     refine tr_skip ?_
     (try simp only [thenE, inBlkE])
     refine hK5 _ ?_
     refine tr_seq fun K8 hK8 => ?_
     refine tr_draw [] [4] mixed rfl (by kernel_rfl) rfl fun K hK => ?_
     iterate 4 refine evD_p ?_
     refine evD_c (hc := (c33 p (by have := valid_okRw (p := p) (by simp_all); omega))) (k := ?_)
     refine evD_c (hc := c70) (k := ?_)
     refine evD_p ?_
     refine evD_e hK ?_; clear hK K
     refine hK8 _ ?_
     refine tr_ret ?_
     (try simp only [thenE, inBlkE])
     simp (maxSteps := 4000000) (disch := first | assumption | omega | (simp only [go_sem, *]; done) | (simp only [go_sem, *]; omega)) only [postA, postO, resV1, fzAll, go_sem, hq, Int.reduceToNat, Nat.reduceBEq, Nat.reduceEqDiff, Nat.reduceAdd, Nat.reduceMul, Nat.reduceLeDiff, Nat.reduceLT, Nat.reduceSub, ↓reduceIte, reduceCtorEq]
     all_goals ((rw [wrong_out hn]; done))
theorem k27 (p : Pg) (hp : okPr p) (l : List Sg) (hl : okPf l) : CallsA Try.prog 27 [.agg (encPg p), .sl 4 (encSgs l)] (.int .i64 (wrongW p l)) := by
 by_cases h : validB p = true ∧ l.length ≤ 8192
 ·
  exact k27y p hp l hl h.1 h.2
 ·
  exact k27n p hp l hl h

theorem k25 (p : Pg) (hp : okPr p) (l : List Sg) (hl : okPf l) : CallsA Try.prog 25 [.agg (encPg p), .sl 4 (encSgs l)] (.bool (refutesW p l)) := by
 have hq : True := trivial
 refine callsA_of_tr Try.func25 rfl (Nat.le_of_ble_eq_true rfl) ?_
 simp only [Try.results25, envOf, Nat.reduceAdd]
 refine tr_seq fun K1 hK1 => ?_
 refine tr_region [1, 2] rfl rfl fun K hK => ?_
 iterate 2 refine evR_p ?_
 refine evR_e hK ?_; clear hK K
 refine hK1 _ ?_
 refine tr_seq fun K2 hK2 => ?_
 refine tr_region [4] rfl rfl fun K hK => ?_
 iterate 2 refine evR_p ?_
 refine evR_c (hc := (k27 p hp l hl)) (k := ?_)
 iterate 2 refine evR_p ?_
 refine evR_e hK ?_; clear hK K
 refine hK2 _ ?_
 refine tr_ret ?_
 (try simp only [thenE, inBlkE])
 simp (maxSteps := 4000000) (disch := first | assumption | omega | (simp only [go_sem, *]; done) | (simp only [go_sem, *]; omega)) only [postA, postO, resV1, fzAll, go_sem, hq, Int.reduceToNat, Nat.reduceBEq, Nat.reduceEqDiff, Nat.reduceAdd, Nat.reduceMul, Nat.reduceLeDiff, Nat.reduceLT, Nat.reduceSub, ↓reduceIte, reduceCtorEq]
 all_goals (rfl)

section
attribute [local go_sem] List.replicate_succ List.replicate_zero List.nil_append List.set_cons_zero
set_option maxHeartbeats 4000000 in
theorem k33y (p : Pg) (hp : okPr p) (l : List Sg) (hl : okPf l) (g : Int) (hv : validB p = true) (hl8 : l.length ≤ 8192) (h0l : ¬ l.length = 0) (hg : isInB g (-12000000000) 12000000000 = true) : CallsA Try.prog 33 [.agg (encPg p), .sl 4 (encSgs l), .int .i64 g] (.bool (boundsW p l g)) := by
 obtain ⟨⟨h0, h1⟩, hrn0, hrw0⟩ := valid_okRw hv
 obtain ⟨-, hrn, hrw⟩ := goal_okRws hv hg
 have hg2 := isInB_spec.1 hg
 have hw : ∀ k, k < l.length → (l.getD k sg0).ws.length ≤ maxLen := fun k hk => hl.ws _ (getD_mem hk)
 have hE : encR p.rows ++ [[.int .i64 (goalR p g).kind, .int .i64 (goalR p g).a, .int .i64 (goalR p g).b, .int .i64 (goalR p g).pl, .sl 1 (encI (goalR p g).coef), .int .i64 (goalR p g).most]] = encR (p.rows ++ [goalW p g]) := by
  rw [goalR_eq (by omega)]; simp [encR, encRw]
 have c70 : CallsA Try.prog 70 [.sl 6 (encR (p.rows ++ [goalW p g])), .sl 4 (encSgs l), .int .i64 0, .sl 1 (encI (List.replicate p.vars.toNat (-1)))] (.int .i64 (rwX p.vars (p.rows ++ [goalW p g]) l l.length 0 zero12)) := by
  have h := k70 p.vars (p.rows ++ [goalW p g]) l p.vars.toNat (by omega) hrw (by omega) hrn hl8 hw l.length 0 (List.replicate p.vars.toNat (-1)) (by omega) (by omega) (okD_open _)
  rw [toD_open _ (by omega)] at h
  exact h
 have hq := And.intro hv (hE)
 refine callsA_of_tr Try.func33 rfl (Nat.le_of_ble_eq_true rfl) ?_
 simp only [Try.results33, envOf, Nat.reduceAdd]
 refine tr_seq fun K1 hK1 => ?_
 refine tr_region [1, 2, 3] rfl rfl fun K hK => ?_
 iterate 2 refine evR_p ?_
 refine evR_e hK ?_; clear hK K
 refine hK1 _ ?_
 refine tr_seq fun K2 hK2 => ?_
 refine tr_seq fun K3 hK3 => ?_
 refine tr_region [1, 2, 3, 28] rfl rfl fun K hK => ?_
 refine evR_p ?_
 refine evR_c (hc := (c21 p hp.r hp.g hp.c)) (k := ?_)
 iterate 2 refine evR_p ?_
 iterate 3 refine evR_g ?_
 iterate 2 refine evR_p ?_
 iterate 3 refine evR_g ?_
 iterate 2 refine evR_p ?_
 iterate 2 refine evR_g ?_
 iterate 2 refine evR_p ?_
 iterate 2 refine evR_g ?_
 refine evR_p ?_
 refine evR_e hK ?_; clear hK K
 refine hK3 _ ?_
 refine tr_condB (fun ht1 => ?_) (fun ht1 => ?_)
 ·
  skip
  (first | (exfalso; omega) | (exfalso; simp_all; done) | skip)
  all_goals
   refine tr_seq fun K4 hK4 => ?_
   refine tr_region [6] rfl rfl fun K hK => ?_
   refine evR_p ?_
   refine evR_e hK ?_; clear hK K
   refine hK4 _ ?_
   refine tr_ret ?_
   (try simp only [thenE, inBlkE])
   simp (maxSteps := 4000000) (disch := first | assumption | omega | (simp only [go_sem, *]; done) | (simp only [go_sem, *]; omega)) only [postA, postO, resV1, fzAll, go_sem, hq, Int.reduceToNat, Nat.reduceBEq, Nat.reduceEqDiff, Nat.reduceAdd, Nat.reduceMul, Nat.reduceLeDiff, Nat.reduceLT, Nat.reduceSub, ↓reduceIte, reduceCtorEq]
   all_goals ((rw [bounds_rw hv hl8 h0l hg]; done))
 ·
  skip
  (first | (exfalso; omega) | (exfalso; simp_all; done) | skip)
  all_goals
   refine tr_skip ?_
   (try simp only [thenE, inBlkE])
   refine hK2 _ ?_
   refine tr_seq fun K5 hK5 => ?_
   refine tr_draw [36, 3000001] [1, 3, 7] mixed rfl (by kernel_rfl) rfl fun K hK => ?_
   refine evD_bo ?_
   iterate 5 refine evD_p ?_
   refine evD_c (hc := (c35 p hp.gain g)) (k := ?_)
   refine evD_bs ?_
   iterate 2 refine evD_p ?_
   refine evD_e hK ?_; clear hK K
   refine hK5 _ ?_
   refine tr_seq fun K6 hK6 => ?_
   refine tr_fz [.own 3] (by simp (maxSteps := 4000000) (disch := first | assumption | omega | (simp only [go_sem, *]; done) | (simp only [go_sem, *]; omega)) only [go_sem, hq, Int.reduceToNat, Nat.reduceBEq, Nat.reduceEqDiff, Nat.reduceAdd, Nat.reduceMul, Nat.reduceLeDiff, Nat.reduceLT, Nat.reduceSub, ↓reduceIte, reduceCtorEq]; (try rfl)) ?_
   refine tr_region [6] rfl rfl fun K hK => ?_
   iterate 3 refine evR_p ?_
   refine evR_c (hc := (c33 p (by omega))) (k := ?_)
   refine evR_c (hc := c70) (k := ?_)
   iterate 2 refine evR_p ?_
   refine evR_e hK ?_; clear hK K
   refine hK6 _ ?_
   refine tr_ret ?_
   (try simp only [thenE, inBlkE])
   simp (maxSteps := 4000000) (disch := first | assumption | omega | (simp only [go_sem, *]; done) | (simp only [go_sem, *]; omega)) only [postA, postO, resV1, fzAll, go_sem, hq, Int.reduceToNat, Nat.reduceBEq, Nat.reduceEqDiff, Nat.reduceAdd, Nat.reduceMul, Nat.reduceLeDiff, Nat.reduceLT, Nat.reduceSub, ↓reduceIte, reduceCtorEq]
   all_goals ((rw [bounds_rw hv hl8 h0l hg]; done))
end

set_option maxHeartbeats 4000000 in
theorem k33n (p : Pg) (hp : okPr p) (l : List Sg) (hl : okPf l) (g : Int) (hn : ¬ (((validB p = true ∧ l.length ≤ 8192) ∧ ¬ l.length = 0) ∧ isInB g (-12000000000) 12000000000 = true)) : CallsA Try.prog 33 [.agg (encPg p), .sl 4 (encSgs l), .int .i64 g] (.bool (boundsW p l g)) := by
 have hq : True := trivial
 refine callsA_of_tr Try.func33 rfl (Nat.le_of_ble_eq_true rfl) ?_
 simp only [Try.results33, envOf, Nat.reduceAdd]
 refine tr_seq fun K1 hK1 => ?_
 refine tr_region [1, 2, 3] rfl rfl fun K hK => ?_
 iterate 2 refine evR_p ?_
 refine evR_e hK ?_; clear hK K
 refine hK1 _ ?_
 refine tr_seq fun K2 hK2 => ?_
 refine tr_seq fun K3 hK3 => ?_
 refine tr_region [1, 2, 3, 28] rfl rfl fun K hK => ?_
 refine evR_p ?_
 refine evR_c (hc := (c21 p hp.r hp.g hp.c)) (k := ?_)
 iterate 2 refine evR_p ?_
 iterate 3 refine evR_g ?_
 iterate 2 refine evR_p ?_
 iterate 3 refine evR_g ?_
 iterate 2 refine evR_p ?_
 iterate 2 refine evR_g ?_
 iterate 2 refine evR_p ?_
 iterate 2 refine evR_g ?_
 refine evR_p ?_
 refine evR_e hK ?_; clear hK K
 refine hK3 _ ?_
 refine tr_condB (fun ht1 => ?_) (fun ht1 => ?_)
 ·
  skip
  (first | (exfalso; omega) | (exfalso; simp_all; done) | (exfalso; refine hn ⟨⟨⟨by simp_all, by omega⟩, by omega⟩, ?_⟩; rw [isInB_spec]; omega) | skip)
  all_goals
   refine tr_seq fun K4 hK4 => ?_
   refine tr_region [6] rfl rfl fun K hK => ?_
   refine evR_p ?_
   refine evR_e hK ?_; clear hK K
   refine hK4 _ ?_
   refine tr_ret ?_
   (try simp only [thenE, inBlkE])
   simp (maxSteps := 4000000) (disch := first | assumption | omega | (simp only [go_sem, *]; done) | (simp only [go_sem, *]; omega)) only [postA, postO, resV1, fzAll, go_sem, hq, Int.reduceToNat, Nat.reduceBEq, Nat.reduceEqDiff, Nat.reduceAdd, Nat.reduceMul, Nat.reduceLeDiff, Nat.reduceLT, Nat.reduceSub, ↓reduceIte, reduceCtorEq]
   all_goals ((rw [bounds_no hn]; done))
 ·
  skip
  (first | (exfalso; omega) | (exfalso; simp_all; done) | (exfalso; refine hn ⟨⟨⟨by simp_all, by omega⟩, by omega⟩, ?_⟩; rw [isInB_spec]; omega) | skip)
  all_goals
   refine tr_skip ?_
   (try simp only [thenE, inBlkE])
   refine hK2 _ ?_
   refine tr_seq fun K5 hK5 => ?_
   refine tr_draw [36, 3000001] [1, 3, 7] mixed rfl (by kernel_rfl) rfl fun K hK => ?_
   refine evD_bo ?_
   iterate 5 refine evD_p ?_
   refine evD_c (hc := (c35 p hp.gain g)) (k := ?_)
   refine evD_bs ?_
   iterate 2 refine evD_p ?_
   refine evD_e hK ?_; clear hK K
   refine hK5 _ ?_
   refine tr_seq fun K6 hK6 => ?_
   refine tr_fz [.own 3] (by simp (maxSteps := 4000000) (disch := first | assumption | omega | (simp only [go_sem, *]; done) | (simp only [go_sem, *]; omega)) only [go_sem, hq, Int.reduceToNat, Nat.reduceBEq, Nat.reduceEqDiff, Nat.reduceAdd, Nat.reduceMul, Nat.reduceLeDiff, Nat.reduceLT, Nat.reduceSub, ↓reduceIte, reduceCtorEq]; (try rfl)) ?_
   refine tr_region [6] rfl rfl fun K hK => ?_
   iterate 3 refine evR_p ?_
   refine evR_c (hc := (c33 p (by have := valid_okRw (p := p) (by simp_all); omega))) (k := ?_)
   refine evR_c (hc := c70) (k := ?_)
   iterate 2 refine evR_p ?_
   refine evR_e hK ?_; clear hK K
   refine hK6 _ ?_
   refine tr_ret ?_
   (try simp only [thenE, inBlkE])
   simp (maxSteps := 4000000) (disch := first | assumption | omega | (simp only [go_sem, *]; done) | (simp only [go_sem, *]; omega)) only [postA, postO, resV1, fzAll, go_sem, hq, Int.reduceToNat, Nat.reduceBEq, Nat.reduceEqDiff, Nat.reduceAdd, Nat.reduceMul, Nat.reduceLeDiff, Nat.reduceLT, Nat.reduceSub, ↓reduceIte, reduceCtorEq]
   all_goals ((rw [bounds_no hn]; done))
theorem k33 (p : Pg) (hp : okPr p) (l : List Sg) (hl : okPf l) (g : Int) : CallsA Try.prog 33 [.agg (encPg p), .sl 4 (encSgs l), .int .i64 g] (.bool (boundsW p l g)) := by
 by_cases h : (((validB p = true ∧ l.length ≤ 8192) ∧ ¬ l.length = 0) ∧ isInB g (-12000000000) 12000000000 = true)
 ·
  exact k33y p hp l hl g h.1.1.1 h.1.1.2 h.1.2 h.2
 ·
  exact k33n p hp l hl g h

section
attribute [local go_sem] encB_rep encB_length encB_getD markN_length List.length_replicate List.drop_nil
set_option maxHeartbeats 4000000 in
theorem k30 (p : Pg) (hp : okPr p) (l : List Sg) (hl : okPf l) : CallsA Try.prog 30 [.agg (encPg p), .sl 4 (encSgs l)] (.sl 1 (encI (usedI p l))) := by
 have hwl : ∀ k, k < l.length → (l.getD k sg0).ws.length ≤ maxLen := fun k hk => hl.ws _ (getD_mem hk)
 have hrr := hp.rows
 have c74 : refutesW p l = true → CallsM Try.prog 74 [.sl 4 (encSgs l), .int .i64 0, .own 0] [(0, .row 4 1 (encB (List.replicate p.rows.length false)))] 1 (.tup []) [(0, .row 4 1 (encB (markN l l.length 0 (List.replicate p.rows.length false))))] 1 := fun h => by
  have h0 : 0 < l.length := by
   rcases Nat.eq_zero_or_pos l.length with e | e
   ·
    rw [wrong_spec] at h; simp only [Bool.and_eq_true, decide_eq_true_eq] at h; have h9 := h.2.2; unfold wrkP at h9; rw [if_pos e] at h9; cases h9
   ·
    exact e
  exact k74 p.vars p.rows l hwl l.length 0 zero12 _ h0 (by simp) (ref_none h).1
 have hq : True := trivial
 refine callsA_of_trL Try.func30 rfl (Nat.le_of_ble_eq_true rfl) ?_
 simp only [Try.results30, envOf, Nat.reduceAdd]
 refine tr_seq fun K1 hK1 => ?_
 refine tr_region [1, 2] rfl rfl fun K hK => ?_
 iterate 2 refine evR_p ?_
 refine evR_e hK ?_; clear hK K
 refine hK1 _ ?_
 refine tr_seq fun K2 hK2 => ?_
 refine tr_seq fun K3 hK3 => ?_
 refine tr_region [1, 2, 11] rfl rfl fun K hK => ?_
 iterate 2 refine evR_p ?_
 refine evR_c (hc := (k25 p hp l hl)) (k := ?_)
 refine evR_p ?_
 refine evR_e hK ?_; clear hK K
 refine hK3 _ ?_
 refine tr_condB (fun ht1 => ?_) (fun ht1 => ?_)
 ·
  skip
  (first | (exfalso; omega) | (exfalso; simp_all; done) | skip)
  all_goals
   refine tr_seq fun K4 hK4 => ?_
   refine tr_region [4] rfl rfl fun K hK => ?_
   refine evR_p ?_
   refine evR_e hK ?_; clear hK K
   refine hK4 _ ?_
   refine tr_ret ?_
   (try simp only [thenE, inBlkE])
   simp (maxSteps := 4000000) (disch := first | assumption | omega | (simp only [go_sem, *]; done) | (simp only [go_sem, *]; omega)) only [postA, postO, resV1, fzAll, go_sem, hq, Int.reduceToNat, Nat.reduceBEq, Nat.reduceEqDiff, Nat.reduceAdd, Nat.reduceMul, Nat.reduceLeDiff, Nat.reduceLT, Nat.reduceSub, ↓reduceIte, reduceCtorEq]
   all_goals (first | (rw [used_no ht1]; exact .nsl 1) | (rw [rows_ref (by first | exact ht1 | simpa using ht1)]; exact .refl _))
 ·
  skip
  (first | (exfalso; omega) | (exfalso; simp_all; done) | skip)
  all_goals
   refine tr_skip ?_
   (try simp only [thenE, inBlkE])
   refine hK2 _ ?_
   refine tr_seq fun K5 hK5 => ?_
   refine tr_region [1, 5] rfl rfl fun K hK => ?_
   iterate 5 refine evR_p ?_
   refine evR_e hK ?_; clear hK K
   refine hK5 _ ?_
   refine tr_seq fun K6 hK6 => ?_
   refine tr_region [5] rfl rfl fun K hK => ?_
   iterate 2 refine evR_p ?_
   refine evR_stepX fun Kq hKq => Or.inr ?_
   simp (maxSteps := 4000000) (disch := first | assumption | omega | (simp only [go_sem, *]; done) | (simp only [go_sem, *]; omega)) only [stpM, go_sem, hq, Int.reduceToNat, Nat.reduceBEq, Nat.reduceEqDiff, Nat.reduceAdd, Nat.reduceMul, Nat.reduceLeDiff, Nat.reduceLT, Nat.reduceSub, ↓reduceIte, reduceCtorEq]
   refine ⟨[1], ?_⟩
   simp (maxSteps := 4000000) (disch := first | assumption | omega | (simp only [go_sem, *]; done) | (simp only [go_sem, *]; omega)) only [V.mapL, V.map, gJ, footJ, inJ, AObj.map, ndJ, ltJ, V.domL, V.dom, AObj.dom, kC, kR, AObj.isC, hJ, backJ, List.any_cons, List.any_nil, Nat.ble_eq, Nat.blt_eq, Nat.reduceLT, Nat.reduceLeDiff, Bool.or_true, Bool.true_or, Bool.or_false, Bool.false_or, Bool.and_self, go_sem, hq, Int.reduceToNat, Nat.reduceBEq, Nat.reduceEqDiff, Nat.reduceAdd, Nat.reduceMul, Nat.reduceLeDiff, Nat.reduceLT, Nat.reduceSub, ↓reduceIte, reduceCtorEq]
   refine ⟨_, _, _, (c74 (by first | exact ht1 | simpa using ht1)), ?_⟩
   simp (maxSteps := 4000000) (disch := first | assumption | omega | (simp only [go_sem, *]; done) | (simp only [go_sem, *]; omega)) only [V.mapL, V.map, gJ, footJ, inJ, AObj.map, ndJ, ltJ, V.domL, V.dom, AObj.dom, kC, kR, AObj.isC, hJ, backJ, List.any_cons, List.any_nil, Nat.ble_eq, Nat.blt_eq, Nat.reduceLT, Nat.reduceLeDiff, Bool.or_true, Bool.true_or, Bool.or_false, Bool.false_or, Bool.and_self, go_sem, hq, Int.reduceToNat, Nat.reduceBEq, Nat.reduceEqDiff, Nat.reduceAdd, Nat.reduceMul, Nat.reduceLeDiff, Nat.reduceLT, Nat.reduceSub, ↓reduceIte, reduceCtorEq]
   (repeat (refine And.intro (by first | assumption | omega | decide | (simp; done) | (simp; omega) | (have hq := hvv hgt; omega) | (have hq := hvv hgt.1; omega) | (simp_all; done)) ?_))
   refine hKq _ ?_; clear hKq Kq
   refine evR_e hK ?_; clear hK K
   refine hK6 _ ?_
   refine tr_seq fun K7 hK7 => ?_
   refine tr_region [5, 6] rfl rfl fun K hK => ?_
   refine evR_p ?_
   refine evR_e hK ?_; clear hK K
   refine hK7 _ ?_
   refine tr_seq fun K8 hK8 => ?_
   refine tr_seq fun K9 hK9 => ?_
   refine tr_region [5, 6, 7] rfl rfl fun K hK => ?_
   refine evR_p ?_
   refine evR_e hK ?_; clear hK K
   refine hK9 _ ?_
   refine tr_block ?_
   -- loop 1: live [5, 6, 7]
   refine tr_loopW (fun m σ => ∃ i : Nat, i + m = p.rows.length ∧ σ = ⟨[(5, .own 1), (6, .own 2), (7, .int .i64 (i : Nat))], [(2, .row 3 1 (encI (trueL (markN l l.length 0 (List.replicate p.rows.length false)) i))), (1, .row 4 1 (encB (markN l l.length 0 (List.replicate p.rows.length false))))], 3⟩) (p.rows.length) ?_ ?_
   ·
    exact ⟨_, Wk.trans (Wk.drop (fun k => k != 0)) (Wk.nilslot 3 1 6 rfl), 0, by omega, rfl⟩
   ·
    rintro m σ ⟨i, hi, rfl⟩ KL1 hKL1
    refine tr_seq fun K10 hK10 => ?_
    refine tr_seq fun K11 hK11 => ?_
    refine tr_region [5, 6, 7, 22] rfl rfl fun K hK => ?_
    iterate 4 refine evR_p ?_
    refine evR_e hK ?_; clear hK K
    refine hK11 _ ?_
    refine tr_condB (fun ht2 => ?_) (fun ht2 => ?_)
    ·
     skip
     (first | (exfalso; omega) | (exfalso; simp_all; done) | skip)
     all_goals
      have hil : i < p.rows.length := by omega
      have htl := trueL_len (markN l l.length 0 (List.replicate p.rows.length false)) i
      replace hq := And.intro hq (hil)
      refine tr_skip ?_
      (try simp only [thenE, inBlkE])
      refine hK10 _ ?_
      refine tr_seq fun K12 hK12 => ?_
      refine tr_block ?_
      refine tr_seq fun K13 hK13 => ?_
      refine tr_region [5, 6, 7, 28] rfl rfl fun K hK => ?_
      iterate 4 refine evR_p ?_
      refine evR_e hK ?_; clear hK K
      refine hK13 _ ?_
      refine tr_condB (fun ht3 => ?_) (fun ht3 => ?_)
      ·
       skip
       (first | (exfalso; omega) | (exfalso; simp_all; done) | skip)
       all_goals
        refine tr_region [5, 6, 7] rfl rfl fun K hK => ?_
        iterate 2 refine evR_p ?_
        refine evR_bs ?_
        iterate 2 refine evR_p ?_
        refine evR_e hK ?_; clear hK K
        refine hK12 _ ?_
        refine tr_region [5, 6, 7] rfl rfl fun K hK => ?_
        iterate 3 refine evR_p ?_
        refine evR_e hK ?_; clear hK K
        refine hKL1 _ ?_
        first
         | exact ⟨m - 1, _, by omega, (Wk.trans (Wk.ren 3 2 (Nat.le_of_ble_eq_true rfl) (Nat.le_of_ble_eq_true rfl) rfl) (Wk.cut 3 rfl)), i + 1, by omega, by rw [w64 (x := (i : Int) + 1) (by omega), trueL_t ht3, encI_snoc]; rfl⟩
         | exact ⟨m - 1, _, by omega, Wk.refl _, i + 1, by omega, by rw [w64 (x := (i : Int) + 1) (by omega), trueL_f ht3]; rfl⟩
      ·
       skip
       (first | (exfalso; omega) | (exfalso; simp_all; done) | skip)
       all_goals
        refine tr_skip ?_
        (try simp only [thenE, inBlkE])
        refine hK12 _ ?_
        refine tr_region [5, 6, 7] rfl rfl fun K hK => ?_
        iterate 3 refine evR_p ?_
        refine evR_e hK ?_; clear hK K
        refine hKL1 _ ?_
        first
         | exact ⟨m - 1, _, by omega, (Wk.trans (Wk.ren 3 2 (Nat.le_of_ble_eq_true rfl) (Nat.le_of_ble_eq_true rfl) rfl) (Wk.cut 3 rfl)), i + 1, by omega, by rw [w64 (x := (i : Int) + 1) (by omega), trueL_t ht3, encI_snoc]; rfl⟩
         | exact ⟨m - 1, _, by omega, Wk.refl _, i + 1, by omega, by rw [w64 (x := (i : Int) + 1) (by omega), trueL_f ht3]; rfl⟩
    ·
     skip
     (first | (exfalso; omega) | (exfalso; simp_all; done) | skip)
     all_goals
      have hil : i = p.rows.length := by omega
      subst hil
      refine tr_exit ?_
      simp only [thenE, inBlkE, Nat.reduceEqDiff, ↓reduceIte]
      refine hK8 _ ?_
      refine tr_seq fun K14 hK14 => ?_
      refine tr_region [4] rfl rfl fun K hK => ?_
      iterate 2 refine evR_p ?_
      refine evR_e hK ?_; clear hK K
      refine hK14 _ ?_
      refine tr_ret ?_
      (try simp only [thenE, inBlkE])
      simp (maxSteps := 4000000) (disch := first | assumption | omega | (simp only [go_sem, *]; done) | (simp only [go_sem, *]; omega)) only [postA, postO, resV1, fzAll, go_sem, hq, Int.reduceToNat, Nat.reduceBEq, Nat.reduceEqDiff, Nat.reduceAdd, Nat.reduceMul, Nat.reduceLeDiff, Nat.reduceLT, Nat.reduceSub, ↓reduceIte, reduceCtorEq]
      all_goals (first | (rw [used_no ht1]; exact .nsl 1) | (rw [rows_ref (by first | exact ht1 | simpa using ht1)]; exact .refl _))
end

theorem k23 (l : List Sg) (hlm : l.length ≤ maxLen) : CallsA Try.prog 23 [.sl 4 (encSgs l)] (.tup [.int .i64 (l.length - leavesN l l.length), .int .i64 (leavesN l l.length)]) := by
 unfold maxLen at hlm
 have hlb := leavesN_bnd l
 have hq : True := trivial
 refine callsA_of_tr Try.func23 rfl (Nat.le_of_ble_eq_true rfl) ?_
 simp only [Try.results23, envOf, Nat.reduceAdd]
 refine tr_seq fun K1 hK1 => ?_
 refine tr_region [0] rfl rfl fun K hK => ?_
 iterate 2 refine evR_p ?_
 refine evR_e hK ?_; clear hK K
 refine hK1 _ ?_
 refine tr_seq fun K2 hK2 => ?_
 refine tr_region [0, 4] rfl rfl fun K hK => ?_
 refine evR_p ?_
 refine evR_e hK ?_; clear hK K
 refine hK2 _ ?_
 refine tr_seq fun K3 hK3 => ?_
 refine tr_seq fun K4 hK4 => ?_
 refine tr_region [0, 4, 5] rfl rfl fun K hK => ?_
 refine evR_p ?_
 refine evR_e hK ?_; clear hK K
 refine hK4 _ ?_
 refine tr_block ?_
 -- loop 1: live [0, 4, 5]
 refine tr_loopW (fun m σ => ∃ i : Nat, i + m = l.length ∧ σ = ⟨[(0, .sl 4 (encSgs l)), (4, .int .i64 ((i : Nat) - leavesN l i)), (5, .int .i64 (i : Nat))], [], 0⟩) (l.length) ?_ ?_
 ·
  exact ⟨_, Wk.refl _, 0, by omega, rfl⟩
 ·
  rintro m σ ⟨i, hi, rfl⟩ KL1 hKL1
  refine tr_seq fun K5 hK5 => ?_
  refine tr_seq fun K6 hK6 => ?_
  refine tr_region [0, 4, 5, 9] rfl rfl fun K hK => ?_
  iterate 4 refine evR_p ?_
  refine evR_e hK ?_; clear hK K
  refine hK6 _ ?_
  refine tr_condB (fun ht1 => ?_) (fun ht1 => ?_)
  ·
   skip
   have hil : i < l.length := by omega
   have hb := hlb i
   have hw1 : IntKind.i64.wrap ((i : Int) - leavesN l i + 1) = (i : Int) - leavesN l i + 1 := w64 (by omega)
   replace hq := And.intro hq (And.intro hil (hw1))
   refine tr_skip ?_
   (try simp only [thenE, inBlkE])
   refine hK5 _ ?_
   refine tr_seq fun K7 hK7 => ?_
   refine tr_block ?_
   refine tr_seq fun K8 hK8 => ?_
   refine tr_region [0, 4, 5, 17] rfl rfl fun K hK => ?_
   iterate 6 refine evR_p ?_
   refine evR_e hK ?_; clear hK K
   refine hK8 _ ?_
   refine tr_condB (fun ht2 => ?_) (fun ht2 => ?_)
   ·
    skip
    refine tr_region [0, 4, 5] rfl rfl fun K hK => ?_
    iterate 3 refine evR_p ?_
    refine evR_e hK ?_; clear hK K
    refine hK7 _ ?_
    refine tr_region [0, 4, 5] rfl rfl fun K hK => ?_
    iterate 3 refine evR_p ?_
    refine evR_e hK ?_; clear hK K
    refine hKL1 _ ?_
    first | exact ⟨m - 1, _, by omega, Wk.refl _, i + 1, by omega, by (rw [w64 (x := (i : Int) + 1) (by omega), leavesN_f ht2, show (i : Int) - leavesN l i + 1 = ((i + 1 : Nat) : Int) - leavesN l i from by omega]; rfl)⟩ | exact ⟨m - 1, _, by omega, Wk.refl _, i + 1, by omega, by (rw [w64 (x := (i : Int) + 1) (by omega), leavesN_t ht2, show (i : Int) - leavesN l i = ((i + 1 : Nat) : Int) - (leavesN l i + 1) from by omega]; rfl)⟩
   ·
    skip
    refine tr_skip ?_
    (try simp only [thenE, inBlkE])
    refine hK7 _ ?_
    refine tr_region [0, 4, 5] rfl rfl fun K hK => ?_
    iterate 3 refine evR_p ?_
    refine evR_e hK ?_; clear hK K
    refine hKL1 _ ?_
    first | exact ⟨m - 1, _, by omega, Wk.refl _, i + 1, by omega, by (rw [w64 (x := (i : Int) + 1) (by omega), leavesN_f ht2, show (i : Int) - leavesN l i + 1 = ((i + 1 : Nat) : Int) - leavesN l i from by omega]; rfl)⟩ | exact ⟨m - 1, _, by omega, Wk.refl _, i + 1, by omega, by (rw [w64 (x := (i : Int) + 1) (by omega), leavesN_t ht2, show (i : Int) - leavesN l i = ((i + 1 : Nat) : Int) - (leavesN l i + 1) from by omega]; rfl)⟩
  ·
   skip
   have hil : i = l.length := by omega
   subst hil
   have hb := hlb l.length
   have hw2 : IntKind.i64.wrap ((l.length : Int) - ((l.length : Int) - leavesN l l.length)) = leavesN l l.length := by rw [w64 (by omega)]; omega
   replace hq := And.intro hq hw2
   refine tr_exit ?_
   simp only [thenE, inBlkE, Nat.reduceEqDiff, ↓reduceIte]
   refine hK3 _ ?_
   refine tr_seq fun K9 hK9 => ?_
   refine tr_region [2, 3] rfl rfl fun K hK => ?_
   iterate 7 refine evR_p ?_
   refine evR_e hK ?_; clear hK K
   refine hK9 _ ?_
   refine tr_ret ?_
   (try simp only [thenE, inBlkE])
   simp (maxSteps := 4000000) (disch := first | assumption | omega | (simp only [go_sem, *]; done) | (simp only [go_sem, *]; omega)) only [postA, postO, resV1, fzAll, go_sem, hq, Int.reduceToNat, Nat.reduceBEq, Nat.reduceEqDiff, Nat.reduceAdd, Nat.reduceMul, Nat.reduceLeDiff, Nat.reduceLT, Nat.reduceSub, ↓reduceIte, reduceCtorEq]
   all_goals (rfl)

section
attribute [local go_sem] encR_one encI_take
set_option maxHeartbeats 4000000 in
theorem k20 (p : Pg) (hr : p.rows.length ≤ maxLen) (hg : p.gain.length ≤ maxLen) (hc : ∀ r ∈ p.rows, r.coef.length ≤ maxLen) : CallsA Try.prog 20 [.agg (encPg p)] (.agg (encPg (someP p))) := by
 unfold maxLen at hr hg hc
 have hmg := minV_range p.gain.length 12 (by omega)
 have htg : p.gain.take (minV (p.gain.length : Int) 12).toNat = p.gain.take 12 := take_min p.gain 12
 have hq := And.intro hmg (htg)
 refine callsA_of_tr Try.func20 rfl (Nat.le_of_ble_eq_true rfl) ?_
 simp only [Try.results20, envOf, Nat.reduceAdd]
 refine tr_seq fun K1 hK1 => ?_
 refine tr_region [1, 2] rfl rfl fun K hK => ?_
 iterate 2 refine evR_p ?_
 refine evR_e hK ?_; clear hK K
 refine hK1 _ ?_
 refine tr_seq fun K2 hK2 => ?_
 refine tr_fz [.ptr 0 0] (by simp (maxSteps := 4000000) (disch := first | assumption | omega | (simp only [go_sem, *]; done) | (simp only [go_sem, *]; omega)) only [go_sem, hq, Int.reduceToNat, Nat.reduceBEq, Nat.reduceEqDiff, Nat.reduceAdd, Nat.reduceMul, Nat.reduceLeDiff, Nat.reduceLT, Nat.reduceSub, ↓reduceIte, reduceCtorEq]; (try rfl)) ?_
 refine tr_draw [7, 9, 11, 12] [1, 2, 3] mixed rfl (by kernel_rfl) rfl fun K hK => ?_
 iterate 12 refine evD_p ?_
 refine evD_e hK ?_; clear hK K
 refine hK2 _ ?_
 refine tr_seq fun K3 hK3 => ?_
 refine tr_seq fun K4 hK4 => ?_
 refine tr_region [1, 2, 3, 4] rfl rfl fun K hK => ?_
 refine evR_p ?_
 refine evR_e hK ?_; clear hK K
 refine hK4 _ ?_
 refine tr_block ?_
 -- loop 1: live [1, 2, 3, 4]
 refine tr_loopW (fun m σ => ∃ i : Nat, i + m = min p.rows.length 20 ∧ σ = ⟨[(1, .ep [.int .i64 p.vars, .sl 6 (encR p.rows), .sl 1 (encI p.gain)]), (2, .ptr 1 0), (3, .ptr 2 0), (4, .int .i64 (i : Nat))], [(3, .row 67 6 (encR ((p.rows.take i).map (cutR 12)))), (2, .cells [.int .i64 p.vars, .own 3, .sl 1 (encI (p.gain.take 12))]), (1, .cells [.int .i64 0, .nsl, .nsl])], 4⟩) (min p.rows.length 20) ?_ ?_
 ·
  exact ⟨_, Wk.nilown 67 6 2 1 rfl (Nat.le_of_ble_eq_true rfl) rfl, 0, by omega, rfl⟩
 ·
  rintro m σ ⟨i, hi, rfl⟩ KL1 hKL1
  refine tr_seq fun K5 hK5 => ?_
  refine tr_seq fun K6 hK6 => ?_
  refine tr_region [1, 2, 3, 4, 24] rfl rfl fun K hK => ?_
  iterate 6 refine evR_p ?_
  iterate 2 refine evR_g ?_
  refine evR_p ?_
  refine evR_e hK ?_; clear hK K
  refine hK6 _ ?_
  refine tr_condB (fun ht1 => ?_) (fun ht1 => ?_)
  ·
   skip
   have hil : i < p.rows.length := by omega
   have hci := hc _ (getD_mem (d := rw0) hil)
   have hmc := minV_range (p.rows.getD i rw0).coef.length 12 (by omega)
   have htc : (p.rows.getD i rw0).coef.take (minV ((p.rows.getD i rw0).coef.length : Int) 12).toNat = (p.rows.getD i rw0).coef.take 12 := take_min _ 12
   have hcl : ((p.rows.take i).map (cutR 12)).length = i := by simp; omega
   replace hq := And.intro hq (And.intro hil (And.intro hmc (And.intro htc (hcl))))
   refine tr_skip ?_
   (try simp only [thenE, inBlkE])
   refine hK5 _ ?_
   refine tr_seq fun K7 hK7 => ?_
   refine tr_block ?_
   refine tr_seq fun K8 hK8 => ?_
   refine tr_region [1, 2, 3, 4, 5] rfl rfl fun K hK => ?_
   iterate 7 refine evR_p ?_
   refine evR_e hK ?_; clear hK K
   refine hK8 _ ?_
   refine tr_seq fun K9 hK9 => ?_
   refine tr_region [1, 2, 3, 4, 5] rfl rfl fun K hK => ?_
   iterate 9 refine evR_p ?_
   refine evR_e hK ?_; clear hK K
   refine hK9 _ ?_
   refine tr_region [1, 2, 3, 4] rfl rfl fun K hK => ?_
   iterate 3 refine evR_p ?_
   refine evR_bs ?_
   iterate 3 refine evR_p ?_
   refine evR_e hK ?_; clear hK K
   refine hK7 _ ?_
   refine tr_region [1, 2, 3, 4] rfl rfl fun K hK => ?_
   iterate 3 refine evR_p ?_
   refine evR_e hK ?_; clear hK K
   refine hKL1 _ ?_
   exact ⟨m - 1, _, by omega, (Wk.trans (Wk.ren 5 3 (Nat.le_of_ble_eq_true rfl) (Nat.le_of_ble_eq_true rfl) rfl) (Wk.cut 4 rfl)), i + 1, by omega, by rw [w64 (x := (i : Int) + 1) (by omega), cut_succ 12 hil]; rfl⟩
  ·
   skip
   have hil : i = min p.rows.length 20 := by omega
   subst hil
   refine tr_exit ?_
   simp only [thenE, inBlkE, Nat.reduceEqDiff, ↓reduceIte]
   refine hK3 _ ?_
   refine tr_seq fun K10 hK10 => ?_
   refine tr_region [2] rfl rfl fun K hK => ?_
   iterate 2 refine evR_p ?_
   refine evR_e hK ?_; clear hK K
   refine hK10 _ ?_
   refine tr_ret ?_
   (try simp only [thenE, inBlkE])
   simp (maxSteps := 4000000) (disch := first | assumption | omega | (simp only [go_sem, *]; done) | (simp only [go_sem, *]; omega)) only [postA, postO, resV1, fzAll, go_sem, hq, Int.reduceToNat, Nat.reduceBEq, Nat.reduceEqDiff, Nat.reduceAdd, Nat.reduceMul, Nat.reduceLeDiff, Nat.reduceLT, Nat.reduceSub, ↓reduceIte, reduceCtorEq]
   all_goals ((first | rfl | (simp only [someP]; rw [← someP_min])))
end

end Go.Proofs.Ytfamkbofdamkkaa
