/- Texts of this proof, put together. -/
import Derived.Test.YtfamkbofdamkkaaKVb
import Derived.Test.YtfamkbofdamkkaaKVc
import Derived.Test.YtfamkbofdamkkaaProg
import Derived.Tactics
import Derived.Tactics2
import Derived.Defers
import Derived.Recover
import Derived.Laws.Pointers
import Derived.TacticsInMore
import Derived.RegionIn
import Derived.LoopNIn
import Derived.RecoverIn
import Derived.Shelf.SlIterI.Sorted
import Derived.Shelf.SlIterI.Nil
import Derived.Shelf.SortM.Plain
import Derived.Shelf.SortM.SortNone
import Derived.Ground.GgzProg
import Derived.Ground.SlgmProg
namespace Go.Proofs.Ytfamkbofdamkkaa
open Go.RowKit
set_option linter.unusedVariables false
set_option linter.unusedSimpArgs false
set_option maxRecDepth 100000
attribute [local go_sem] Nat.zero_add Nat.add_zero Nat.mul_one eq_self ne_eq not_true_eq_false not_false_eq_true decide_true decide_false decide_not Bool.false_eq_true List.filter_cons List.filter_nil true_and and_true beq_false beq_true Bool.not_true Bool.not_false Bool.and_true Bool.true_and Option.getD_some Option.getD_none imp_self implies_true Int.toNat_natCast List.cons_append List.nil_append List.map_cons List.map_nil List.length_cons List.length_nil List.getD_cons_zero List.getD_cons_succ List.drop_zero List.drop_succ_cons List.take_succ_cons List.take_zero
attribute [local go_sem] shL isSh Option.isNone_none Option.isNone_some Option.isSome_none lowN lowQ lowM isAl appOwn unw appF isE isO stpO notIn St.bare evO evDO isEff stp St.get St.slot St.put List.lookup un unL ofVal gof nth pickV pkB_false pkB_true binV unV loadV idxV fldV partV buildV fillV lenV sliV appV appR rowsV winV V.parts V.okp V.sc Mem.look_cons Mem.look_nil V.cl V.clL AObj.clo fzAll exps St.fz Mem.fz V.fz V.fzL AObj.fz Option.isSome_some Option.isSome_none Bool.or_true Bool.true_or Bool.or_false Bool.false_or false_and and_false false_or or_false arT_22 arT_23 arT_25 arT_24 arT_40 arT_30  arT_65 arT_28 arT_90  arT_52 boolT_25 boolT_3 boolT_35 boolT_4  flatT_25 flatT_3 flatT_35 flatT_4  intT_3 intT_133 lay_23 lay_25 lay_67 lay_24 lay_27 lay_3 lay_49 lay_30 lay_34 lay_4 lay_65 lay_52 lay_54 lay_56 lay_141 lay_164  okF_17 okF_31  okF_36 okF_18 okF_34 okF_63  okF_28 okF_50 okF_69 okF_51  okF_35       okF_37   okF_71  okF_65  okF_62 okF_77 okF_79  okF_80 okF_81 okF_64 okF_66 okF_76 okF_113 okF_96 okF_97 okF_98 okF_82  okF_99 okF_119 okF_120 okF_78 okF_100 okF_101 okF_83 okF_84 okF_125 okF_126  okF_127 okF_128 okF_129 okF_130 okF_114 okF_124 okF_140 okF_141 okF_142 okF_143  okF_131 okF_132 okF_144 okF_158 okF_155 okF_159   plT_67 plT_27 plT_34 plT_54 plT_56 slT_22 slT_23 slT_25 slT_24 slT_40 slT_30  slT_65 slT_28 slT_90  slT_52  stT_67_1   stT_67_4 stT_67_5 stT_27_0 stT_27_1 stT_27_2 stT_34_0 stT_34_1 stT_34_2 stT_34_3 stT_54_0 stT_54_1 stT_54_2 stT_54_3 stT_56_0 stT_56_1  zeroT_67 zeroT_27 zeroT_3 zeroT_49 zeroT_30 zeroT_34 zeroT_65  zeroT_54 zeroT_56
attribute [local go_sem] List.getElem?_cons_zero List.getElem?_cons_succ List.zip_cons_cons List.zip_nil_left List.zip_nil_right Bool.false_and Bool.and_false List.length_append List.length_set List.length_replicate List.all_cons List.all_nil encI_length encI_getD encR_length encR_getD encRw encPg spl shp AObj.shp rowM isSt isRpS isRd csh AObj.csh forall_const imp_self
attribute [local simp] encI_length encR_length
theorem c12 (c n : Int) (hn : 0 < n) : CallsA Try.prog 31 [.int .i64 c, .int .i64 n] (.int .i64 (pickW c n)) := by
 have hq : True := trivial
 refine callsA_of_tr Try.func31 rfl (Nat.le_of_ble_eq_true rfl) ?_
 simp only [Try.results31, envOf, Nat.reduceAdd]
 refine tr_seq fun K1 hK1 => ?_
 refine tr_region [0, 1] rfl rfl fun K hK => ?_
 refine evR_p ?_
 refine evR_e hK ?_; clear hK K
 refine hK1 _ ?_
 refine tr_seq fun K2 hK2 => ?_
 refine tr_seq fun K3 hK3 => ?_
 refine tr_region [0, 1, 6] rfl rfl fun K hK => ?_
 iterate 2 refine evR_p ?_
 refine evR_e hK ?_; clear hK K
 refine hK3 _ ?_
 refine tr_condB (fun ht1 => ?_) (fun ht1 => ?_)
 ·
  skip
  refine tr_region [0, 1] rfl rfl fun K hK => ?_
  iterate 4 refine evR_p ?_
  refine evR_e hK ?_; clear hK K
  refine hK2 _ ?_
  refine tr_seq fun K4 hK4 => ?_
  refine tr_region [4] rfl rfl fun K hK => ?_
  iterate 4 refine evR_p ?_
  refine evR_e hK ?_; clear hK K
  refine hK4 _ ?_
  refine tr_ret ?_
  (try simp only [thenE, inBlkE])
  simp (maxSteps := 4000000) (disch := first | assumption | omega | (simp only [go_sem, *]; done) | (simp only [go_sem, *]; omega)) only [postA, postO, resV1, fzAll, go_sem, hq, Int.reduceToNat, Nat.reduceBEq, Nat.reduceEqDiff, Nat.reduceAdd, Nat.reduceMul, Nat.reduceLeDiff, Nat.reduceLT, Nat.reduceSub, ↓reduceIte, reduceCtorEq]
  all_goals (simp [pickW, *])
 ·
  skip
  refine tr_skip ?_
  (try simp only [thenE, inBlkE])
  refine hK2 _ ?_
  refine tr_seq fun K5 hK5 => ?_
  refine tr_region [4] rfl rfl fun K hK => ?_
  iterate 4 refine evR_p ?_
  refine evR_e hK ?_; clear hK K
  refine hK5 _ ?_
  refine tr_ret ?_
  (try simp only [thenE, inBlkE])
  simp (maxSteps := 4000000) (disch := first | assumption | omega | (simp only [go_sem, *]; done) | (simp only [go_sem, *]; omega)) only [postA, postO, resV1, fzAll, go_sem, hq, Int.reduceToNat, Nat.reduceBEq, Nat.reduceEqDiff, Nat.reduceAdd, Nat.reduceMul, Nat.reduceLeDiff, Nat.reduceLT, Nat.reduceSub, ↓reduceIte, reduceCtorEq]
  all_goals (simp [pickW, *])

theorem c37 (c n : Int) (hn : 0 < n) : CallsA Try.prog 62 [.int .i64 c, .int .i64 n] (.int .i64 (pickW c n)) := by
 have hq : True := trivial
 refine callsA_of_tr Try.func62 rfl (Nat.le_of_ble_eq_true rfl) ?_
 simp only [Try.results62, envOf, Nat.reduceAdd]
 refine tr_seq fun K1 hK1 => ?_
 refine tr_region [0, 1] rfl rfl fun K hK => ?_
 refine evR_p ?_
 refine evR_e hK ?_; clear hK K
 refine hK1 _ ?_
 refine tr_seq fun K2 hK2 => ?_
 refine tr_seq fun K3 hK3 => ?_
 refine tr_region [0, 1, 6] rfl rfl fun K hK => ?_
 iterate 2 refine evR_p ?_
 refine evR_e hK ?_; clear hK K
 refine hK3 _ ?_
 refine tr_condB (fun ht1 => ?_) (fun ht1 => ?_)
 ·
  skip
  refine tr_region [0, 1] rfl rfl fun K hK => ?_
  iterate 4 refine evR_p ?_
  refine evR_e hK ?_; clear hK K
  refine hK2 _ ?_
  refine tr_seq fun K4 hK4 => ?_
  refine tr_region [4] rfl rfl fun K hK => ?_
  iterate 4 refine evR_p ?_
  refine evR_e hK ?_; clear hK K
  refine hK4 _ ?_
  refine tr_ret ?_
  (try simp only [thenE, inBlkE])
  simp (maxSteps := 4000000) (disch := first | assumption | omega | (simp only [go_sem, *]; done) | (simp only [go_sem, *]; omega)) only [postA, postO, resV1, fzAll, go_sem, hq, Int.reduceToNat, Nat.reduceBEq, Nat.reduceEqDiff, Nat.reduceAdd, Nat.reduceMul, Nat.reduceLeDiff, Nat.reduceLT, Nat.reduceSub, ↓reduceIte, reduceCtorEq]
  all_goals (simp [pickW, *])
 ·
  skip
  refine tr_skip ?_
  (try simp only [thenE, inBlkE])
  refine hK2 _ ?_
  refine tr_seq fun K5 hK5 => ?_
  refine tr_region [4] rfl rfl fun K hK => ?_
  iterate 4 refine evR_p ?_
  refine evR_e hK ?_; clear hK K
  refine hK5 _ ?_
  refine tr_ret ?_
  (try simp only [thenE, inBlkE])
  simp (maxSteps := 4000000) (disch := first | assumption | omega | (simp only [go_sem, *]; done) | (simp only [go_sem, *]; omega)) only [postA, postO, resV1, fzAll, go_sem, hq, Int.reduceToNat, Nat.reduceBEq, Nat.reduceEqDiff, Nat.reduceAdd, Nat.reduceMul, Nat.reduceLeDiff, Nat.reduceLT, Nat.reduceSub, ↓reduceIte, reduceCtorEq]
  all_goals (simp [pickW, *])

theorem c49 (n lo hi : Int) : CallsA Try.prog 82 [.int .i64 n, .int .i64 lo, .int .i64 hi] (.bool (isInB n lo hi)) := by
 have hq : True := trivial
 refine callsA_of_tr Try.func82 rfl (Nat.le_of_ble_eq_true rfl) ?_
 simp only [Try.results82, envOf, Nat.reduceAdd]
 refine tr_seq fun K1 hK1 => ?_
 refine tr_region [0, 1, 2] rfl rfl fun K hK => ?_
 refine evR_p ?_
 refine evR_e hK ?_; clear hK K
 refine hK1 _ ?_
 refine tr_seq fun K2 hK2 => ?_
 refine tr_region [6] rfl rfl fun K hK => ?_
 iterate 4 refine evR_p ?_
 iterate 3 refine evR_g ?_
 iterate 2 refine evR_p ?_
 refine evR_e hK ?_; clear hK K
 refine hK2 _ ?_
 refine tr_ret ?_
 (try simp only [thenE, inBlkE])
 simp (maxSteps := 4000000) (disch := first | assumption | omega | (simp only [go_sem, *]; done) | (simp only [go_sem, *]; omega)) only [postA, postO, resV1, fzAll, go_sem, hq, Int.reduceToNat, Nat.reduceBEq, Nat.reduceEqDiff, Nat.reduceAdd, Nat.reduceMul, Nat.reduceLeDiff, Nat.reduceLT, Nat.reduceSub, ↓reduceIte, reduceCtorEq]
 all_goals (simp [isInB])

theorem c39 (l : List Int) (set : Int) (hm : l.length ≤ maxLen) : CallsA Try.prog 79 [.sl 1 (encI l), .int .i64 set] (.int .i64 (chosenW l set)) := by
 unfold maxLen at hm
 have hq : True := trivial
 refine callsA_of_tr Try.func79 rfl (Nat.le_of_ble_eq_true rfl) ?_
 simp only [Try.results79, envOf, Nat.reduceAdd]
 refine tr_seq fun K1 hK1 => ?_
 refine tr_region [0, 1] rfl rfl fun K hK => ?_
 refine evR_p ?_
 refine evR_e hK ?_; clear hK K
 refine hK1 _ ?_
 refine tr_seq fun K2 hK2 => ?_
 refine tr_region [0, 1, 5] rfl rfl fun K hK => ?_
 refine evR_p ?_
 refine evR_e hK ?_; clear hK K
 refine hK2 _ ?_
 refine tr_seq fun K3 hK3 => ?_
 refine tr_seq fun K4 hK4 => ?_
 refine tr_region [1, 5, 8, 9, 10] rfl rfl fun K hK => ?_
 iterate 3 refine evR_p ?_
 refine evR_e hK ?_; clear hK K
 refine hK4 _ ?_
 refine tr_block ?_
 -- loop 1: live [1, 5, 8, 9, 10]
 refine tr_loopW (fun m σ => ∃ i, i + m = l.length ∧ σ = ⟨[(1, .int .i64 set), (5, .int .i64 (chosenG l set i)), (8, .sl 1 (encI l)), (9, .int .i64 l.length), (10, .int .i64 (i : Nat))], [], 0⟩) (l.length) ?_ ?_
 ·
  exact ⟨_, Wk.refl _, 0, by omega, rfl⟩
 ·
  rintro m σ ⟨i, hi, rfl⟩ KL1 hKL1
  refine tr_seq fun K5 hK5 => ?_
  refine tr_region [1, 5, 8, 9, 10, 11] rfl rfl fun K hK => ?_
  refine evR_p ?_
  refine evR_e hK ?_; clear hK K
  refine hK5 _ ?_
  refine tr_seq fun K6 hK6 => ?_
  refine tr_condB (fun ht1 => ?_) (fun ht1 => ?_)
  ·
   skip
   have hil : i < l.length := by omega
   replace hq := And.intro hq (hil)
   refine tr_skip ?_
   (try simp only [thenE, inBlkE])
   refine hK6 _ ?_
   refine tr_seq fun K7 hK7 => ?_
   refine tr_block ?_
   refine tr_seq fun K8 hK8 => ?_
   refine tr_region [1, 5, 6, 7, 8, 9, 10] rfl rfl fun K hK => ?_
   iterate 5 refine evR_p ?_
   refine evR_e hK ?_; clear hK K
   refine hK8 _ ?_
   refine tr_seq fun K9 hK9 => ?_
   refine tr_region [1, 5, 7, 8, 9, 10, 19] rfl rfl fun K hK => ?_
   iterate 5 refine evR_p ?_
   refine evR_e hK ?_; clear hK K
   refine hK9 _ ?_
   refine tr_condB (fun ht2 => ?_) (fun ht2 => ?_)
   ·
    skip
    refine tr_region [1, 5, 8, 9, 10] rfl rfl fun K hK => ?_
    iterate 4 refine evR_p ?_
    refine evR_e hK ?_; clear hK K
    refine hK7 _ ?_
    refine tr_region [1, 5, 8, 9, 10] rfl rfl fun K hK => ?_
    iterate 2 refine evR_p ?_
    refine evR_e hK ?_; clear hK K
    refine hKL1 _ ?_
    exact ⟨m - 1, _, by omega, Wk.refl _, i + 1, by omega, by first | (rw [w64 (x := (i : Int) + 1) (by omega), chosenG_t (by simp only [cBit, *]; decide)]; rfl) | (rw [w64 (x := (i : Int) + 1) (by omega), chosenG_f (by simp only [cBit, decide_eq_false_iff_not, *]; first | assumption | simp)]; rfl)⟩
   ·
    skip
    refine tr_skip ?_
    (try simp only [thenE, inBlkE])
    refine hK7 _ ?_
    refine tr_region [1, 5, 8, 9, 10] rfl rfl fun K hK => ?_
    iterate 2 refine evR_p ?_
    refine evR_e hK ?_; clear hK K
    refine hKL1 _ ?_
    exact ⟨m - 1, _, by omega, Wk.refl _, i + 1, by omega, by first | (rw [w64 (x := (i : Int) + 1) (by omega), chosenG_t (by simp only [cBit, *]; decide)]; rfl) | (rw [w64 (x := (i : Int) + 1) (by omega), chosenG_f (by simp only [cBit, decide_eq_false_iff_not, *]; first | assumption | simp)]; rfl)⟩
  ·
   skip
   have hil : i = l.length := by omega
   subst hil
   refine tr_exit ?_
   simp only [thenE, inBlkE, Nat.reduceEqDiff, ↓reduceIte]
   refine hK3 _ ?_
   refine tr_seq fun K10 hK10 => ?_
   refine tr_region [4] rfl rfl fun K hK => ?_
   iterate 2 refine evR_p ?_
   refine evR_e hK ?_; clear hK K
   refine hK10 _ ?_
   refine tr_ret ?_
   (try simp only [thenE, inBlkE])
   simp (maxSteps := 4000000) (disch := first | assumption | omega | (simp only [go_sem, *]; done) | (simp only [go_sem, *]; omega)) only [postA, postO, resV1, fzAll, go_sem, hq, Int.reduceToNat, Nat.reduceBEq, Nat.reduceEqDiff, Nat.reduceAdd, Nat.reduceMul, Nat.reduceLeDiff, Nat.reduceLT, Nat.reduceSub, ↓reduceIte, reduceCtorEq]
   all_goals (rfl)

theorem c75 (xs : List Int) (f : FuncId) (caps : List V) (p : Int → Bool) (hf : okF Try.prog f = true) (hcl : V.clL caps = true) (hp : ∀ x ∈ xs, CallsA Try.prog f (.int .i64 x :: caps) (.bool (p x))) (hm : xs.length ≤ maxLen) : CallsA Try.prog 159 [.sl 1 (encI xs), .fn f caps] (.int .i64 (idxOf p xs)) := by
 unfold maxLen at hm
 have hq := hcl
 refine callsA_of_tr Try.func159 rfl (Nat.le_of_ble_eq_true rfl) ?_
 simp only [Try.results159, envOf, Nat.reduceAdd]
 refine tr_seq fun K1 hK1 => ?_
 refine tr_region [0, 1] rfl rfl fun K hK => ?_
 refine evR_p ?_
 refine evR_e hK ?_; clear hK K
 refine hK1 _ ?_
 refine tr_seq fun K2 hK2 => ?_
 refine tr_seq fun K3 hK3 => ?_
 refine tr_region [0, 1, 7, 8] rfl rfl fun K hK => ?_
 iterate 3 refine evR_p ?_
 refine evR_e hK ?_; clear hK K
 refine hK3 _ ?_
 refine tr_block ?_
 -- loop 1: live [0, 1, 7, 8]
 refine tr_loopW (fun m σ => ∃ i, i + m = xs.length ∧ (∀ j, j < i → p (xs.getD j 0) = false) ∧ σ = ⟨[(0, .sl 1 (encI xs)), (1, .fn f caps), (7, .int .i64 xs.length), (8, .int .i64 (i : Nat))], [], 0⟩) (xs.length) ?_ ?_
 ·
  exact ⟨_, Wk.refl _, 0, by omega, (by intro j hj; omega), rfl⟩
 ·
  rintro m σ ⟨i, hi, hpi, rfl⟩ KL1 hKL1
  refine tr_seq fun K4 hK4 => ?_
  refine tr_region [0, 1, 7, 8, 9] rfl rfl fun K hK => ?_
  refine evR_p ?_
  refine evR_e hK ?_; clear hK K
  refine hK4 _ ?_
  refine tr_seq fun K5 hK5 => ?_
  refine tr_condB (fun ht1 => ?_) (fun ht1 => ?_)
  ·
   skip
   have hil : i < xs.length := by omega
   replace hq := And.intro hq (hil)
   refine tr_skip ?_
   (try simp only [thenE, inBlkE])
   refine hK5 _ ?_
   refine tr_seq fun K6 hK6 => ?_
   refine tr_block ?_
   refine tr_seq fun K7 hK7 => ?_
   refine tr_region [0, 1, 5, 7, 8] rfl rfl fun K hK => ?_
   iterate 2 refine evR_p ?_
   refine evR_e hK ?_; clear hK K
   refine hK7 _ ?_
   refine tr_seq fun K8 hK8 => ?_
   refine tr_region [0, 1, 5, 7, 8, 16] rfl rfl fun K hK => ?_
   iterate 5 refine evR_p ?_
   refine evR_c (hc := (hp _ (getD_mem hil))) (k := ?_)
   refine evR_e hK ?_; clear hK K
   refine hK8 _ ?_
   refine tr_condB (fun ht2 => ?_) (fun ht2 => ?_)
   ·
    skip
    refine tr_seq fun K9 hK9 => ?_
    refine tr_region [4] rfl rfl fun K hK => ?_
    iterate 2 refine evR_p ?_
    refine evR_e hK ?_; clear hK K
    refine hK9 _ ?_
    refine tr_ret ?_
    (try simp only [thenE, inBlkE])
    simp (maxSteps := 4000000) (disch := first | assumption | omega | (simp only [go_sem, *]; done) | (simp only [go_sem, *]; omega)) only [postA, postO, resV1, fzAll, go_sem, hq, Int.reduceToNat, Nat.reduceBEq, Nat.reduceEqDiff, Nat.reduceAdd, Nat.reduceMul, Nat.reduceLeDiff, Nat.reduceLT, Nat.reduceSub, ↓reduceIte, reduceCtorEq]
    all_goals (first | (rw [idxOf_at p 0 xs i hil hpi (by assumption)]; done) | (rw [idxOf_none p xs (all_false 0 hpi (by omega))]; done))
   ·
    skip
    refine tr_skip ?_
    (try simp only [thenE, inBlkE])
    refine hK6 _ ?_
    refine tr_region [0, 1, 7, 8] rfl rfl fun K hK => ?_
    iterate 2 refine evR_p ?_
    refine evR_e hK ?_; clear hK K
    refine hKL1 _ ?_
    exact ⟨m - 1, _, by omega, Wk.refl _, i + 1, by omega, step_false hpi (by assumption), by rw [w64 (by omega)]; rfl⟩
  ·
   skip
   have hil : i = xs.length := by omega
   refine tr_exit ?_
   simp only [thenE, inBlkE, Nat.reduceEqDiff, ↓reduceIte]
   refine hK2 _ ?_
   refine tr_seq fun K10 hK10 => ?_
   refine tr_region [4] rfl rfl fun K hK => ?_
   refine evR_p ?_
   refine evR_e hK ?_; clear hK K
   refine hK10 _ ?_
   refine tr_ret ?_
   (try simp only [thenE, inBlkE])
   simp (maxSteps := 4000000) (disch := first | assumption | omega | (simp only [go_sem, *]; done) | (simp only [go_sem, *]; omega)) only [postA, postO, resV1, fzAll, go_sem, hq, Int.reduceToNat, Nat.reduceBEq, Nat.reduceEqDiff, Nat.reduceAdd, Nat.reduceMul, Nat.reduceLeDiff, Nat.reduceLT, Nat.reduceSub, ↓reduceIte, reduceCtorEq]
   all_goals (first | (rw [idxOf_at p 0 xs i hil hpi (by assumption)]; done) | (rw [idxOf_none p xs (all_false 0 hpi (by omega))]; done))

theorem c61 (xs : List Rw) (f : FuncId) (caps : List V) (p : Rw → Bool) (hf : okF Try.prog f = true) (hcl : V.clL caps = true) (hp : ∀ x ∈ xs, CallsA Try.prog f (.agg (encRw x) :: caps) (.bool (p x))) (hm : xs.length ≤ maxLen) : CallsA Try.prog 128 [.sl 6 (encR xs), .fn f caps] (.int .i64 (idxOf p xs)) := by
 unfold maxLen at hm
 have hq := hcl
 refine callsA_of_tr Try.func128 rfl (Nat.le_of_ble_eq_true rfl) ?_
 simp only [Try.results128, envOf, Nat.reduceAdd]
 refine tr_seq fun K1 hK1 => ?_
 refine tr_region [0, 1] rfl rfl fun K hK => ?_
 refine evR_p ?_
 refine evR_e hK ?_; clear hK K
 refine hK1 _ ?_
 refine tr_seq fun K2 hK2 => ?_
 refine tr_seq fun K3 hK3 => ?_
 refine tr_region [0, 1, 7, 8] rfl rfl fun K hK => ?_
 iterate 3 refine evR_p ?_
 refine evR_e hK ?_; clear hK K
 refine hK3 _ ?_
 refine tr_block ?_
 -- loop 1: live [0, 1, 7, 8]
 refine tr_loopW (fun m σ => ∃ i, i + m = xs.length ∧ (∀ j, j < i → p (xs.getD j rw0) = false) ∧ σ = ⟨[(0, .sl 6 (encR xs)), (1, .fn f caps), (7, .int .i64 xs.length), (8, .int .i64 (i : Nat))], [], 0⟩) (xs.length) ?_ ?_
 ·
  exact ⟨_, Wk.refl _, 0, by omega, (by intro j hj; omega), rfl⟩
 ·
  rintro m σ ⟨i, hi, hpi, rfl⟩ KL1 hKL1
  refine tr_seq fun K4 hK4 => ?_
  refine tr_region [0, 1, 7, 8, 9] rfl rfl fun K hK => ?_
  refine evR_p ?_
  refine evR_e hK ?_; clear hK K
  refine hK4 _ ?_
  refine tr_seq fun K5 hK5 => ?_
  refine tr_condB (fun ht1 => ?_) (fun ht1 => ?_)
  ·
   skip
   have hil : i < xs.length := by omega
   replace hq := And.intro hq (hil)
   refine tr_skip ?_
   (try simp only [thenE, inBlkE])
   refine hK5 _ ?_
   refine tr_seq fun K6 hK6 => ?_
   refine tr_block ?_
   refine tr_seq fun K7 hK7 => ?_
   refine tr_region [0, 1, 5, 7, 8] rfl rfl fun K hK => ?_
   iterate 2 refine evR_p ?_
   refine evR_e hK ?_; clear hK K
   refine hK7 _ ?_
   refine tr_seq fun K8 hK8 => ?_
   refine tr_region [0, 1, 5, 7, 8, 16] rfl rfl fun K hK => ?_
   iterate 5 refine evR_p ?_
   refine evR_c (hc := (hp _ (getD_mem hil))) (k := ?_)
   refine evR_e hK ?_; clear hK K
   refine hK8 _ ?_
   refine tr_condB (fun ht2 => ?_) (fun ht2 => ?_)
   ·
    skip
    refine tr_seq fun K9 hK9 => ?_
    refine tr_region [4] rfl rfl fun K hK => ?_
    iterate 2 refine evR_p ?_
    refine evR_e hK ?_; clear hK K
    refine hK9 _ ?_
    refine tr_ret ?_
    (try simp only [thenE, inBlkE])
    simp (maxSteps := 4000000) (disch := first | assumption | omega | (simp only [go_sem, *]; done) | (simp only [go_sem, *]; omega)) only [postA, postO, resV1, fzAll, go_sem, hq, Int.reduceToNat, Nat.reduceBEq, Nat.reduceEqDiff, Nat.reduceAdd, Nat.reduceMul, Nat.reduceLeDiff, Nat.reduceLT, Nat.reduceSub, ↓reduceIte, reduceCtorEq]
    all_goals (first | (rw [idxOf_at p rw0 xs i hil hpi (by assumption)]; done) | (rw [idxOf_none p xs (all_false rw0 hpi (by omega))]; done))
   ·
    skip
    refine tr_skip ?_
    (try simp only [thenE, inBlkE])
    refine hK6 _ ?_
    refine tr_region [0, 1, 7, 8] rfl rfl fun K hK => ?_
    iterate 2 refine evR_p ?_
    refine evR_e hK ?_; clear hK K
    refine hKL1 _ ?_
    exact ⟨m - 1, _, by omega, Wk.refl _, i + 1, by omega, step_false hpi (by assumption), by rw [w64 (by omega)]; rfl⟩
  ·
   skip
   have hil : i = xs.length := by omega
   refine tr_exit ?_
   simp only [thenE, inBlkE, Nat.reduceEqDiff, ↓reduceIte]
   refine hK2 _ ?_
   refine tr_seq fun K10 hK10 => ?_
   refine tr_region [4] rfl rfl fun K hK => ?_
   refine evR_p ?_
   refine evR_e hK ?_; clear hK K
   refine hK10 _ ?_
   refine tr_ret ?_
   (try simp only [thenE, inBlkE])
   simp (maxSteps := 4000000) (disch := first | assumption | omega | (simp only [go_sem, *]; done) | (simp only [go_sem, *]; omega)) only [postA, postO, resV1, fzAll, go_sem, hq, Int.reduceToNat, Nat.reduceBEq, Nat.reduceEqDiff, Nat.reduceAdd, Nat.reduceMul, Nat.reduceLeDiff, Nat.reduceLT, Nat.reduceSub, ↓reduceIte, reduceCtorEq]
   all_goals (first | (rw [idxOf_at p rw0 xs i hil hpi (by assumption)]; done) | (rw [idxOf_none p xs (all_false rw0 hpi (by omega))]; done))

theorem c72 (xs : List Int) (f : FuncId) (caps : List V) (p : Int → Bool) (hf : okF Try.prog f = true) (hcl : V.clL caps = true) (hp : ∀ x ∈ xs, CallsA Try.prog f (.int .i64 x :: caps) (.bool (p x))) (hm : xs.length ≤ maxLen) : CallsA Try.prog 144 [.sl 1 (encI xs), .fn f caps] (.bool (xs.any p)) := by
 have hq := hcl
 refine callsA_of_tr Try.func144 rfl (Nat.le_of_ble_eq_true rfl) ?_
 simp only [Try.results144, envOf, Nat.reduceAdd]
 refine tr_seq fun K1 hK1 => ?_
 refine tr_region [0, 1] rfl rfl fun K hK => ?_
 refine evR_p ?_
 refine evR_e hK ?_; clear hK K
 refine hK1 _ ?_
 refine tr_seq fun K2 hK2 => ?_
 refine tr_region [4] rfl rfl fun K hK => ?_
 iterate 2 refine evR_p ?_
 refine evR_c (hc := (c75 _ _ _ p hf hcl hp hm)) (k := ?_)
 iterate 2 refine evR_p ?_
 refine evR_e hK ?_; clear hK K
 refine hK2 _ ?_
 refine tr_ret ?_
 (try simp only [thenE, inBlkE])
 simp (maxSteps := 4000000) (disch := first | assumption | omega | (simp only [go_sem, *]; done) | (simp only [go_sem, *]; omega)) only [postA, postO, resV1, fzAll, go_sem, hq, Int.reduceToNat, Nat.reduceBEq, Nat.reduceEqDiff, Nat.reduceAdd, Nat.reduceMul, Nat.reduceLeDiff, Nat.reduceLT, Nat.reduceSub, ↓reduceIte, reduceCtorEq]
 all_goals (simp [idxOf_ge])

theorem c66 (xs : List Rw) (f : FuncId) (caps : List V) (p : Rw → Bool) (hf : okF Try.prog f = true) (hcl : V.clL caps = true) (hp : ∀ x ∈ xs, CallsA Try.prog f (.agg (encRw x) :: caps) (.bool (p x))) (hm : xs.length ≤ maxLen) : CallsA Try.prog 140 [.sl 6 (encR xs), .fn f caps] (.bool (xs.any p)) := by
 have hq := hcl
 refine callsA_of_tr Try.func140 rfl (Nat.le_of_ble_eq_true rfl) ?_
 simp only [Try.results140, envOf, Nat.reduceAdd]
 refine tr_seq fun K1 hK1 => ?_
 refine tr_region [0, 1] rfl rfl fun K hK => ?_
 refine evR_p ?_
 refine evR_e hK ?_; clear hK K
 refine hK1 _ ?_
 refine tr_seq fun K2 hK2 => ?_
 refine tr_region [4] rfl rfl fun K hK => ?_
 iterate 2 refine evR_p ?_
 refine evR_c (hc := (c61 _ _ _ p hf hcl hp hm)) (k := ?_)
 iterate 2 refine evR_p ?_
 refine evR_e hK ?_; clear hK K
 refine hK2 _ ?_
 refine tr_ret ?_
 (try simp only [thenE, inBlkE])
 simp (maxSteps := 4000000) (disch := first | assumption | omega | (simp only [go_sem, *]; done) | (simp only [go_sem, *]; omega)) only [postA, postO, resV1, fzAll, go_sem, hq, Int.reduceToNat, Nat.reduceBEq, Nat.reduceEqDiff, Nat.reduceAdd, Nat.reduceMul, Nat.reduceLeDiff, Nat.reduceLT, Nat.reduceSub, ↓reduceIte, reduceCtorEq]
 all_goals (simp [idxOf_ge])

theorem c73 (x : Int) (f : FuncId) (caps : List V) (b : Bool) (hf : okF Try.prog f = true) (hcl : V.clL caps = true) (hp : CallsA Try.prog f (.int .i64 x :: caps) (.bool b)) : CallsA Try.prog 158 [.int .i64 x, .ep [.fn f caps]] (.bool (!b)) := by
 have hq := hcl
 refine callsA_of_tr Try.func158 rfl (Nat.le_of_ble_eq_true rfl) ?_
 simp only [Try.results158, envOf, Nat.reduceAdd]
 refine tr_seq fun K1 hK1 => ?_
 refine tr_region [0, 1] rfl rfl fun K hK => ?_
 refine evR_p ?_
 refine evR_e hK ?_; clear hK K
 refine hK1 _ ?_
 refine tr_seq fun K2 hK2 => ?_
 refine tr_region [3] rfl rfl fun K hK => ?_
 iterate 2 refine evR_p ?_
 refine evR_c (hc := hp) (k := ?_)
 iterate 2 refine evR_p ?_
 refine evR_e hK ?_; clear hK K
 refine hK2 _ ?_
 refine tr_ret ?_
 (try simp only [thenE, inBlkE])
 simp (maxSteps := 4000000) (disch := first | assumption | omega | (simp only [go_sem, *]; done) | (simp only [go_sem, *]; omega)) only [postA, postO, resV1, fzAll, go_sem, hq, Int.reduceToNat, Nat.reduceBEq, Nat.reduceEqDiff, Nat.reduceAdd, Nat.reduceMul, Nat.reduceLeDiff, Nat.reduceLT, Nat.reduceSub, ↓reduceIte, reduceCtorEq]
 all_goals (skip)

theorem c67 (x : Rw) (f : FuncId) (caps : List V) (b : Bool) (hf : okF Try.prog f = true) (hcl : V.clL caps = true) (hp : CallsA Try.prog f (.agg (encRw x) :: caps) (.bool b)) : CallsA Try.prog 141 [.agg (encRw x), .ep [.fn f caps]] (.bool (!b)) := by
 have hq := hcl
 refine callsA_of_tr Try.func141 rfl (Nat.le_of_ble_eq_true rfl) ?_
 simp only [Try.results141, envOf, Nat.reduceAdd]
 refine tr_seq fun K1 hK1 => ?_
 refine tr_region [1, 2] rfl rfl fun K hK => ?_
 iterate 2 refine evR_p ?_
 refine evR_e hK ?_; clear hK K
 refine hK1 _ ?_
 refine tr_seq fun K2 hK2 => ?_
 refine tr_region [3] rfl rfl fun K hK => ?_
 iterate 2 refine evR_p ?_
 refine evR_c (hc := hp) (k := ?_)
 iterate 2 refine evR_p ?_
 refine evR_e hK ?_; clear hK K
 refine hK2 _ ?_
 refine tr_ret ?_
 (try simp only [thenE, inBlkE])
 simp (maxSteps := 4000000) (disch := first | assumption | omega | (simp only [go_sem, *]; done) | (simp only [go_sem, *]; omega)) only [postA, postO, resV1, fzAll, go_sem, hq, Int.reduceToNat, Nat.reduceBEq, Nat.reduceEqDiff, Nat.reduceAdd, Nat.reduceMul, Nat.reduceLeDiff, Nat.reduceLT, Nat.reduceSub, ↓reduceIte, reduceCtorEq]
 all_goals (skip)

theorem c68 (xs : List Int) (f : FuncId) (caps : List V) (p : Int → Bool) (hf : okF Try.prog f = true) (hcl : V.clL caps = true) (hp : ∀ x ∈ xs, CallsA Try.prog f (.int .i64 x :: caps) (.bool (p x))) (hm : xs.length ≤ maxLen) : CallsA Try.prog 142 [.sl 1 (encI xs), .fn f caps] (.bool (xs.all p)) := by
 have hq := hcl
 refine callsA_of_tr Try.func142 rfl (Nat.le_of_ble_eq_true rfl) ?_
 simp only [Try.results142, envOf, Nat.reduceAdd]
 refine tr_seq fun K1 hK1 => ?_
 refine tr_region [0, 3] rfl rfl fun K hK => ?_
 iterate 2 refine evR_p ?_
 refine evR_e hK ?_; clear hK K
 refine hK1 _ ?_
 refine tr_seq fun K2 hK2 => ?_
 refine tr_region [4] rfl rfl fun K hK => ?_
 iterate 2 refine evR_p ?_
 refine evR_c (hc := (c72 xs 158 [.ep [.fn f caps]] (fun x => !p x) okF_158 (by simp [V.clL, V.cl]) (fun x hx => c73 x f caps (p x) hf hcl (hp x hx)) hm)) (k := ?_)
 iterate 2 refine evR_p ?_
 refine evR_e hK ?_; clear hK K
 refine hK2 _ ?_
 refine tr_ret ?_
 (try simp only [thenE, inBlkE])
 simp (maxSteps := 4000000) (disch := first | assumption | omega | (simp only [go_sem, *]; done) | (simp only [go_sem, *]; omega)) only [postA, postO, resV1, fzAll, go_sem, hq, Int.reduceToNat, Nat.reduceBEq, Nat.reduceEqDiff, Nat.reduceAdd, Nat.reduceMul, Nat.reduceLeDiff, Nat.reduceLT, Nat.reduceSub, ↓reduceIte, reduceCtorEq]
 all_goals (simp [List.all_eq_not_any_not])

theorem c46 (xs : List Rw) (f : FuncId) (caps : List V) (p : Rw → Bool) (hf : okF Try.prog f = true) (hcl : V.clL caps = true) (hp : ∀ x ∈ xs, CallsA Try.prog f (.agg (encRw x) :: caps) (.bool (p x))) (hm : xs.length ≤ maxLen) : CallsA Try.prog 96 [.sl 6 (encR xs), .fn f caps] (.bool (xs.all p)) := by
 have hq := hcl
 refine callsA_of_tr Try.func96 rfl (Nat.le_of_ble_eq_true rfl) ?_
 simp only [Try.results96, envOf, Nat.reduceAdd]
 refine tr_seq fun K1 hK1 => ?_
 refine tr_region [0, 3] rfl rfl fun K hK => ?_
 iterate 2 refine evR_p ?_
 refine evR_e hK ?_; clear hK K
 refine hK1 _ ?_
 refine tr_seq fun K2 hK2 => ?_
 refine tr_region [4] rfl rfl fun K hK => ?_
 iterate 2 refine evR_p ?_
 refine evR_c (hc := (c66 xs 141 [.ep [.fn f caps]] (fun x => !p x) okF_141 (by simp [V.clL, V.cl]) (fun x hx => c67 x f caps (p x) hf hcl (hp x hx)) hm)) (k := ?_)
 iterate 2 refine evR_p ?_
 refine evR_e hK ?_; clear hK K
 refine hK2 _ ?_
 refine tr_ret ?_
 (try simp only [thenE, inBlkE])
 simp (maxSteps := 4000000) (disch := first | assumption | omega | (simp only [go_sem, *]; done) | (simp only [go_sem, *]; omega)) only [postA, postO, resV1, fzAll, go_sem, hq, Int.reduceToNat, Nat.reduceBEq, Nat.reduceEqDiff, Nat.reduceAdd, Nat.reduceMul, Nat.reduceLeDiff, Nat.reduceLT, Nat.reduceSub, ↓reduceIte, reduceCtorEq]
 all_goals (simp [List.all_eq_not_any_not])

theorem c69 (n : Int) : CallsA Try.prog 143 [.int .i64 n] (.bool (isInB n (-1000000000) 1000000000)) := by
 have hq : True := trivial
 refine callsA_of_tr Try.func143 rfl (Nat.le_of_ble_eq_true rfl) ?_
 simp only [Try.results143, envOf, Nat.reduceAdd]
 refine tr_seq fun K1 hK1 => ?_
 refine tr_region [0] rfl rfl fun K hK => ?_
 refine evR_p ?_
 refine evR_e hK ?_; clear hK K
 refine hK1 _ ?_
 refine tr_seq fun K2 hK2 => ?_
 refine tr_region [2] rfl rfl fun K hK => ?_
 refine evR_p ?_
 refine evR_c (hc := (c49 _ _ _)) (k := ?_)
 refine evR_p ?_
 refine evR_e hK ?_; clear hK K
 refine hK2 _ ?_
 refine tr_ret ?_
 (try simp only [thenE, inBlkE])
 simp (maxSteps := 4000000) (disch := first | assumption | omega | (simp only [go_sem, *]; done) | (simp only [go_sem, *]; omega)) only [postA, postO, resV1, fzAll, go_sem, hq, Int.reduceToNat, Nat.reduceBEq, Nat.reduceEqDiff, Nat.reduceAdd, Nat.reduceMul, Nat.reduceLeDiff, Nat.reduceLT, Nat.reduceSub, ↓reduceIte, reduceCtorEq]
 all_goals (skip)

theorem c50 (l : List Int) (hm : l.length ≤ maxLen) : CallsA Try.prog 99 [.sl 1 (encI l)] (.bool (coefB l)) := by
 have hq : True := trivial
 refine callsA_of_tr Try.func99 rfl (Nat.le_of_ble_eq_true rfl) ?_
 simp only [Try.results99, envOf, Nat.reduceAdd]
 refine tr_seq fun K1 hK1 => ?_
 refine tr_region [0] rfl rfl fun K hK => ?_
 refine evR_p ?_
 refine evR_e hK ?_; clear hK K
 refine hK1 _ ?_
 refine tr_seq fun K2 hK2 => ?_
 refine tr_region [2] rfl rfl fun K hK => ?_
 refine evR_p ?_
 refine evR_c (hc := (c68 l 143 [] (fun n => isInB n (-1000000000) 1000000000) okF_143 rfl (fun x _ => c69 x) hm)) (k := ?_)
 refine evR_p ?_
 refine evR_e hK ?_; clear hK K
 refine hK2 _ ?_
 refine tr_ret ?_
 (try simp only [thenE, inBlkE])
 simp (maxSteps := 4000000) (disch := first | assumption | omega | (simp only [go_sem, *]; done) | (simp only [go_sem, *]; omega)) only [postA, postO, resV1, fzAll, go_sem, hq, Int.reduceToNat, Nat.reduceBEq, Nat.reduceEqDiff, Nat.reduceAdd, Nat.reduceMul, Nat.reduceLeDiff, Nat.reduceLT, Nat.reduceSub, ↓reduceIte, reduceCtorEq]
 all_goals (rfl)

theorem c48 (r : Rw) (hm : r.coef.length ≤ maxLen) (v : Int) : CallsA Try.prog 98 [.agg (encRw r), .int .i64 v] (.bool (rightB r v)) := by
 have hq : True := trivial
 refine callsA_of_tr Try.func98 rfl (Nat.le_of_ble_eq_true rfl) ?_
 simp only [Try.results98, envOf, Nat.reduceAdd]
 refine tr_seq fun K1 hK1 => ?_
 refine tr_region [1, 2] rfl rfl fun K hK => ?_
 iterate 2 refine evR_p ?_
 refine evR_e hK ?_; clear hK K
 refine hK1 _ ?_
 refine tr_seq fun K2 hK2 => ?_
 refine tr_region [4] rfl rfl fun K hK => ?_
 iterate 6 refine evR_p ?_
 iterate 2 refine evR_g ?_
 refine evR_gc (hc := (c50 _ hm)) (k := ?_)
 iterate 2 refine evR_p ?_
 iterate 2 refine evR_g ?_
 refine evR_gc (hc := (c49 _ _ _)) (k := ?_)
 iterate 2 refine evR_p ?_
 refine evR_e hK ?_; clear hK K
 refine hK2 _ ?_
 refine tr_ret ?_
 (try simp only [thenE, inBlkE])
 simp (maxSteps := 4000000) (disch := first | assumption | omega | (simp only [go_sem, *]; done) | (simp only [go_sem, *]; omega)) only [postA, postO, resV1, fzAll, go_sem, hq, Int.reduceToNat, Nat.reduceBEq, Nat.reduceEqDiff, Nat.reduceAdd, Nat.reduceMul, Nat.reduceLeDiff, Nat.reduceLT, Nat.reduceSub, ↓reduceIte, reduceCtorEq]
 all_goals (simp [rightB, Bool.and_assoc])

theorem c55 (r : Rw) (hm : r.coef.length ≤ maxLen) (set : Int) : CallsA Try.prog 101 [.agg (encRw r), .int .i64 set] (.bool (keptB r set)) := by
 have hq : True := trivial
 refine callsA_of_tr Try.func101 rfl (Nat.le_of_ble_eq_true rfl) ?_
 simp only [Try.results101, envOf, Nat.reduceAdd]
 refine tr_seq fun K1 hK1 => ?_
 refine tr_region [1, 2] rfl rfl fun K hK => ?_
 iterate 2 refine evR_p ?_
 refine evR_e hK ?_; clear hK K
 refine hK1 _ ?_
 refine tr_seq fun K2 hK2 => ?_
 refine tr_draw [] [4] mixed rfl (by kernel_rfl) rfl fun K hK => ?_
 iterate 3 refine evD_p ?_
 refine evD_c (hc := (c39 _ _ hm)) (k := ?_)
 iterate 4 refine evD_p ?_
 refine evD_e hK ?_; clear hK K
 refine hK2 _ ?_
 refine tr_ret ?_
 (try simp only [thenE, inBlkE])
 simp (maxSteps := 4000000) (disch := first | assumption | omega | (simp only [go_sem, *]; done) | (simp only [go_sem, *]; omega)) only [postA, postO, resV1, fzAll, go_sem, hq, Int.reduceToNat, Nat.reduceBEq, Nat.reduceEqDiff, Nat.reduceAdd, Nat.reduceMul, Nat.reduceLeDiff, Nat.reduceLT, Nat.reduceSub, ↓reduceIte, reduceCtorEq]
 all_goals (simp [keptB])

theorem c47 (r : Rw) (hm : r.coef.length ≤ maxLen) (p : Pg) : CallsA Try.prog 97 [.agg (encRw r), .ep (encPg p)] (.bool (rightB r p.vars)) := by
 have hq : True := trivial
 refine callsA_of_tr Try.func97 rfl (Nat.le_of_ble_eq_true rfl) ?_
 simp only [Try.results97, envOf, Nat.reduceAdd]
 refine tr_seq fun K1 hK1 => ?_
 refine tr_region [1, 2] rfl rfl fun K hK => ?_
 iterate 2 refine evR_p ?_
 refine evR_e hK ?_; clear hK K
 refine hK1 _ ?_
 refine tr_seq fun K2 hK2 => ?_
 refine tr_region [3] rfl rfl fun K hK => ?_
 iterate 3 refine evR_p ?_
 refine evR_c (hc := (c48 r hm _)) (k := ?_)
 refine evR_p ?_
 refine evR_e hK ?_; clear hK K
 refine hK2 _ ?_
 refine tr_ret ?_
 (try simp only [thenE, inBlkE])
 simp (maxSteps := 4000000) (disch := first | assumption | omega | (simp only [go_sem, *]; done) | (simp only [go_sem, *]; omega)) only [postA, postO, resV1, fzAll, go_sem, hq, Int.reduceToNat, Nat.reduceBEq, Nat.reduceEqDiff, Nat.reduceAdd, Nat.reduceMul, Nat.reduceLeDiff, Nat.reduceLT, Nat.reduceSub, ↓reduceIte, reduceCtorEq]
 all_goals (skip)

theorem c20 (p : Pg) (hr : p.rows.length ≤ maxLen) (hg : p.gain.length ≤ maxLen) (hc : ∀ r ∈ p.rows, r.coef.length ≤ maxLen) : CallsA Try.prog 50 [.agg (encPg p)] (.bool (validB p)) := by
 have hq : True := trivial
 refine callsA_of_tr Try.func50 rfl (Nat.le_of_ble_eq_true rfl) ?_
 simp only [Try.results50, envOf, Nat.reduceAdd]
 refine tr_seq fun K1 hK1 => ?_
 refine tr_region [1] rfl rfl fun K hK => ?_
 iterate 2 refine evR_p ?_
 refine evR_e hK ?_; clear hK K
 refine hK1 _ ?_
 refine tr_seq fun K2 hK2 => ?_
 refine tr_region [1, 3] rfl rfl fun K hK => ?_
 iterate 3 refine evR_p ?_
 refine evR_c (hc := (c46 p.rows 97 [.ep (encPg p)] (fun r => rightB r p.vars) okF_97 rfl (fun r h => c47 r (hc r h) p) hr)) (k := ?_)
 refine evR_p ?_
 refine evR_e hK ?_; clear hK K
 refine hK2 _ ?_
 refine tr_seq fun K3 hK3 => ?_
 refine tr_region [2] rfl rfl fun K hK => ?_
 iterate 2 refine evR_p ?_
 refine evR_c (hc := (c49 _ _ _)) (k := ?_)
 refine evR_p ?_
 iterate 4 refine evR_g ?_
 iterate 2 refine evR_p ?_
 refine evR_g ?_
 iterate 2 refine evR_p ?_
 iterate 6 refine evR_g ?_
 iterate 2 refine evR_p ?_
 iterate 2 refine evR_g ?_
 refine evR_gc (hc := (c50 _ hg)) (k := ?_)
 iterate 2 refine evR_p ?_
 refine evR_e hK ?_; clear hK K
 refine hK3 _ ?_
 refine tr_ret ?_
 (try simp only [thenE, inBlkE])
 simp (maxSteps := 4000000) (disch := first | assumption | omega | (simp only [go_sem, *]; done) | (simp only [go_sem, *]; omega)) only [postA, postO, resV1, fzAll, go_sem, hq, Int.reduceToNat, Nat.reduceBEq, Nat.reduceEqDiff, Nat.reduceAdd, Nat.reduceMul, Nat.reduceLeDiff, Nat.reduceLT, Nat.reduceSub, ↓reduceIte, reduceCtorEq]
 all_goals (simp [validB, Bool.and_assoc])

end Go.Proofs.Ytfamkbofdamkkaa
namespace Go.Proofs.Ytfamkbofdamkkaa
open Go.RowKit
set_option linter.unusedVariables false
set_option linter.unusedSimpArgs false
set_option maxRecDepth 100000
attribute [local go_sem] Nat.zero_add Nat.add_zero Nat.mul_one eq_self ne_eq not_true_eq_false not_false_eq_true decide_true decide_false decide_not Bool.false_eq_true List.filter_cons List.filter_nil true_and and_true beq_false beq_true Bool.not_true Bool.not_false Bool.and_true Bool.true_and Option.getD_some Option.getD_none imp_self implies_true Int.toNat_natCast List.cons_append List.nil_append List.map_cons List.map_nil List.length_cons List.length_nil List.getD_cons_zero List.getD_cons_succ List.drop_zero List.drop_succ_cons List.take_succ_cons List.take_zero
attribute [local go_sem] shL isSh Option.isNone_none Option.isNone_some Option.isSome_none lowN lowQ lowM isAl appOwn unw appF isE isO stpO notIn St.bare evO evDO isEff stp St.get St.slot St.put List.lookup un unL ofVal gof nth pickV pkB_false pkB_true binV unV loadV idxV fldV partV buildV fillV lenV sliV appV appR rowsV winV V.parts V.okp V.sc Mem.look_cons Mem.look_nil V.cl V.clL AObj.clo fzAll exps St.fz Mem.fz V.fz V.fzL AObj.fz Option.isSome_some Option.isSome_none Bool.or_true Bool.true_or Bool.or_false Bool.false_or false_and and_false false_or or_false arT_104 arT_121 arT_160 arT_161 arT_22 arT_23 arT_24 arT_25 arT_28 arT_29 arT_30 arT_40 arT_42 arT_52 arT_60 arT_65 arT_72 arT_73 arT_76 arT_9 arT_90 boolT_182 boolT_25 boolT_3 boolT_35 boolT_4 boolT_76 flatT_182 flatT_25 flatT_3 flatT_35 flatT_4 flatT_76 intT_133 intT_169 intT_171 intT_188 intT_3 intT_5 lay_104 lay_112 lay_138 lay_141 lay_153 lay_160 lay_161 lay_164 lay_188 lay_23 lay_24 lay_25 lay_27 lay_28 lay_3 lay_30 lay_34 lay_4 lay_49 lay_52 lay_54 lay_56 lay_65 lay_67 lay_73 lay_76 lay_90 lay_99 mapT_112 okF_10 okF_100 okF_101 okF_102 okF_103 okF_104 okF_105 okF_106 okF_107 okF_108 okF_109 okF_11 okF_110 okF_111 okF_112 okF_113 okF_114 okF_115 okF_116 okF_117 okF_118 okF_119 okF_12 okF_120 okF_121 okF_122 okF_123 okF_124 okF_125 okF_126 okF_127 okF_128 okF_129 okF_13 okF_130 okF_131 okF_132 okF_133 okF_134 okF_135 okF_136 okF_137 okF_138 okF_139 okF_14 okF_140 okF_141 okF_142 okF_143 okF_144 okF_145 okF_146 okF_147 okF_148 okF_149 okF_15 okF_150 okF_151 okF_152 okF_153 okF_154 okF_155 okF_156 okF_157 okF_158 okF_159 okF_16 okF_160 okF_161 okF_162 okF_163 okF_164 okF_165 okF_166 okF_167 okF_168 okF_169 okF_17 okF_170 okF_171 okF_172 okF_173 okF_174 okF_175 okF_176 okF_177 okF_18 okF_19 okF_20 okF_21 okF_22 okF_23 okF_24 okF_25 okF_26 okF_27 okF_28 okF_29 okF_3 okF_30 okF_31 okF_32 okF_33 okF_34 okF_35 okF_36 okF_37 okF_38 okF_39 okF_4 okF_40 okF_41 okF_42 okF_43 okF_44 okF_45 okF_46 okF_47 okF_48 okF_49 okF_5 okF_50 okF_51 okF_52 okF_53 okF_54 okF_55 okF_56 okF_57 okF_58 okF_59 okF_6 okF_60 okF_61 okF_62 okF_63 okF_64 okF_65 okF_66 okF_67 okF_68 okF_69 okF_7 okF_70 okF_71 okF_72 okF_73 okF_74 okF_75 okF_76 okF_77 okF_78 okF_79 okF_8 okF_80 okF_81 okF_82 okF_83 okF_84 okF_85 okF_86 okF_87 okF_88 okF_89 okF_9 okF_90 okF_91 okF_92 okF_93 okF_94 okF_95 okF_96 okF_97 okF_98 okF_99 plT_138 plT_153 plT_157 plT_161 plT_27 plT_34 plT_54 plT_56 plT_67 plT_76 plT_90 plT_99 slT_104 slT_121 slT_160 slT_161 slT_22 slT_23 slT_24 slT_25 slT_28 slT_29 slT_30 slT_40 slT_42 slT_52 slT_60 slT_65 slT_72 slT_73 slT_76 slT_90 stT_138_0 stT_138_1 stT_153_0 stT_157_0 stT_157_1 stT_157_2 stT_157_3 stT_27_0 stT_27_1 stT_27_2 stT_34_0 stT_34_1 stT_34_2 stT_34_3 stT_54_0 stT_54_1 stT_54_2 stT_54_3 stT_56_0 stT_56_1 stT_67_1 stT_67_4 stT_67_5 stT_99_0 stT_99_1 strT_160 strT_76 strT_9 zeroT_112 zeroT_138 zeroT_153 zeroT_157 zeroT_160 zeroT_161 zeroT_188 zeroT_27 zeroT_3 zeroT_30 zeroT_34 zeroT_4 zeroT_49 zeroT_54 zeroT_56 zeroT_65 zeroT_67 zeroT_76 zeroT_90 zeroT_99
attribute [local go_sem] List.getElem?_cons_zero List.getElem?_cons_succ List.zip_cons_cons List.zip_nil_left List.zip_nil_right Bool.false_and Bool.and_false List.length_append List.length_set List.length_replicate List.all_cons List.all_nil encI_length encI_getD encR_length encR_getD encRw encPg spl shp AObj.shp rowM isSt isRpS isRd csh AObj.csh forall_const imp_self
attribute [local go_sem] encSg encW encSgs_length encWs_length encSgs_getD encWs_getD lookV lkM putM
attribute [local simp] encI_length encR_length cellsI_length encSgs_length encWs_length
theorem k75 (n lo hi : Int) : CallsA Try.prog 75 [.int .i64 n, .int .i64 lo, .int .i64 hi] (.bool (isInB n lo hi)) := by
 have hq : True := trivial
 refine callsA_of_tr Try.func75 rfl (Nat.le_of_ble_eq_true rfl) ?_
 simp only [Try.results75, envOf, Nat.reduceAdd]
 refine tr_seq fun K1 hK1 => ?_
 refine tr_region [0, 1, 2] rfl rfl fun K hK => ?_
 refine evR_p ?_
 refine evR_e hK ?_; clear hK K
 refine hK1 _ ?_
 refine tr_seq fun K2 hK2 => ?_
 refine tr_region [6] rfl rfl fun K hK => ?_
 iterate 4 refine evR_p ?_
 iterate 3 refine evR_g ?_
 iterate 2 refine evR_p ?_
 refine evR_e hK ?_; clear hK K
 refine hK2 _ ?_
 refine tr_ret ?_
 (try simp only [thenE, inBlkE])
 simp (maxSteps := 4000000) (disch := first | assumption | omega | (simp only [go_sem, *]; done) | (simp only [go_sem, *]; omega)) only [postA, postO, resV1, fzAll, go_sem, hq, Int.reduceToNat, Nat.reduceBEq, Nat.reduceEqDiff, Nat.reduceAdd, Nat.reduceMul, Nat.reduceLeDiff, Nat.reduceLT, Nat.reduceSub, ↓reduceIte, reduceCtorEq]
 all_goals (simp [isInB])

theorem k161 (n : Int) : CallsA Try.prog 161 [.int .i64 n] (.bool (!isInB n (-1000000000) 1000000000)) := by
 have hq : True := trivial
 refine callsA_of_tr Try.func161 rfl (Nat.le_of_ble_eq_true rfl) ?_
 simp only [Try.results161, envOf, Nat.reduceAdd]
 refine tr_seq fun K1 hK1 => ?_
 refine tr_region [0] rfl rfl fun K hK => ?_
 refine evR_p ?_
 refine evR_e hK ?_; clear hK K
 refine hK1 _ ?_
 refine tr_seq fun K2 hK2 => ?_
 refine tr_region [2] rfl rfl fun K hK => ?_
 refine evR_p ?_
 refine evR_c (hc := (k75 _ _ _)) (k := ?_)
 iterate 2 refine evR_p ?_
 refine evR_e hK ?_; clear hK K
 refine hK2 _ ?_
 refine tr_ret ?_
 (try simp only [thenE, inBlkE])
 simp (maxSteps := 4000000) (disch := first | assumption | omega | (simp only [go_sem, *]; done) | (simp only [go_sem, *]; omega)) only [postA, postO, resV1, fzAll, go_sem, hq, Int.reduceToNat, Nat.reduceBEq, Nat.reduceEqDiff, Nat.reduceAdd, Nat.reduceMul, Nat.reduceLeDiff, Nat.reduceLT, Nat.reduceSub, ↓reduceIte, reduceCtorEq]
 all_goals (rfl)

theorem k150 (l : List Int) (hm : l.length ≤ maxLen) (n : Int) : CallsA Try.prog 150 [.sl 1 (encI l), .int .i64 n] (.bool (numB l n)) := by
 have hq : True := trivial
 refine callsA_of_tr Try.func150 rfl (Nat.le_of_ble_eq_true rfl) ?_
 simp only [Try.results150, envOf, Nat.reduceAdd]
 refine tr_seq fun K1 hK1 => ?_
 refine tr_region [0, 1] rfl rfl fun K hK => ?_
 refine evR_p ?_
 refine evR_e hK ?_; clear hK K
 refine hK1 _ ?_
 refine tr_seq fun K2 hK2 => ?_
 refine tr_region [4] rfl rfl fun K hK => ?_
 iterate 5 refine evR_p ?_
 refine evR_g ?_
 refine evR_gc (hc := (c72 l 161 [] (fun n => !isInB n (-1000000000) 1000000000) okF_161 rfl (fun n _ => k161 n) hm)) (k := ?_)
 refine evR_g ?_
 iterate 2 refine evR_p ?_
 refine evR_e hK ?_; clear hK K
 refine hK2 _ ?_
 refine tr_ret ?_
 (try simp only [thenE, inBlkE])
 simp (maxSteps := 4000000) (disch := first | assumption | omega | (simp only [go_sem, *]; done) | (simp only [go_sem, *]; omega)) only [postA, postO, resV1, fzAll, go_sem, hq, Int.reduceToNat, Nat.reduceBEq, Nat.reduceEqDiff, Nat.reduceAdd, Nat.reduceMul, Nat.reduceLeDiff, Nat.reduceLT, Nat.reduceSub, ↓reduceIte, reduceCtorEq]
 all_goals ((rw [← numB_any]; done))

theorem k151 (r : Rw) (hm : r.coef.length ≤ maxLen) (p : Pg) : CallsA Try.prog 151 [.agg (encRw r), .ep (encPg p)] (.bool (!rowB p.vars r)) := by
 have hq : True := trivial
 refine callsA_of_tr Try.func151 rfl (Nat.le_of_ble_eq_true rfl) ?_
 simp only [Try.results151, envOf, Nat.reduceAdd]
 refine tr_seq fun K1 hK1 => ?_
 refine tr_region [1, 2] rfl rfl fun K hK => ?_
 iterate 2 refine evR_p ?_
 refine evR_e hK ?_; clear hK K
 refine hK1 _ ?_
 refine tr_seq fun K2 hK2 => ?_
 refine tr_region [3] rfl rfl fun K hK => ?_
 iterate 4 refine evR_p ?_
 refine evR_c (hc := (k150 r.coef hm p.vars)) (k := ?_)
 iterate 2 refine evR_p ?_
 iterate 2 refine evR_g ?_
 refine evR_gc (hc := (k75 _ _ _)) (k := ?_)
 refine evR_g ?_
 iterate 2 refine evR_p ?_
 refine evR_e hK ?_; clear hK K
 refine hK2 _ ?_
 refine tr_ret ?_
 (try simp only [thenE, inBlkE])
 simp (maxSteps := 4000000) (disch := first | assumption | omega | (simp only [go_sem, *]; done) | (simp only [go_sem, *]; omega)) only [postA, postO, resV1, fzAll, go_sem, hq, Int.reduceToNat, Nat.reduceBEq, Nat.reduceEqDiff, Nat.reduceAdd, Nat.reduceMul, Nat.reduceLeDiff, Nat.reduceLT, Nat.reduceSub, ↓reduceIte, reduceCtorEq]
 all_goals (simp [rowB])

theorem k115 (p : Pg) (hr : p.rows.length ≤ maxLen) (hg : p.gain.length ≤ maxLen) (hc : ∀ r ∈ p.rows, r.coef.length ≤ maxLen) : CallsA Try.prog 115 [.agg (encPg p)] (.bool (validB p)) := by
 have hq : True := trivial
 refine callsA_of_tr Try.func115 rfl (Nat.le_of_ble_eq_true rfl) ?_
 simp only [Try.results115, envOf, Nat.reduceAdd]
 refine tr_seq fun K1 hK1 => ?_
 refine tr_region [1] rfl rfl fun K hK => ?_
 iterate 2 refine evR_p ?_
 refine evR_e hK ?_; clear hK K
 refine hK1 _ ?_
 refine tr_seq fun K2 hK2 => ?_
 refine tr_seq fun K3 hK3 => ?_
 refine tr_region [1, 20] rfl rfl fun K hK => ?_
 iterate 2 refine evR_p ?_
 refine evR_c (hc := (k75 _ _ _)) (k := ?_)
 iterate 2 refine evR_p ?_
 iterate 4 refine evR_g ?_
 iterate 2 refine evR_p ?_
 iterate 4 refine evR_g ?_
 refine evR_gc (hc := (k150 p.gain hg p.vars)) (k := ?_)
 refine evR_g ?_
 refine evR_p ?_
 refine evR_e hK ?_; clear hK K
 refine hK3 _ ?_
 refine tr_condB (fun ht1 => ?_) (fun ht1 => ?_)
 ·
  skip
  refine tr_seq fun K4 hK4 => ?_
  refine tr_region [2] rfl rfl fun K hK => ?_
  refine evR_p ?_
  refine evR_e hK ?_; clear hK K
  refine hK4 _ ?_
  refine tr_ret ?_
  (try simp only [thenE, inBlkE])
  simp (maxSteps := 4000000) (disch := first | assumption | omega | (simp only [go_sem, *]; done) | (simp only [go_sem, *]; omega)) only [postA, postO, resV1, fzAll, go_sem, hq, Int.reduceToNat, Nat.reduceBEq, Nat.reduceEqDiff, Nat.reduceAdd, Nat.reduceMul, Nat.reduceLeDiff, Nat.reduceLT, Nat.reduceSub, ↓reduceIte, reduceCtorEq]
  all_goals (first | (rw [vld_no ht1]; done) | (rw [vld_yes ht1, vld_rows, Bool.not_not]; done))
 ·
  skip
  refine tr_skip ?_
  (try simp only [thenE, inBlkE])
  refine hK2 _ ?_
  refine tr_seq fun K5 hK5 => ?_
  refine tr_fz [.ptr 0 0] (by simp (maxSteps := 4000000) (disch := first | assumption | omega | (simp only [go_sem, *]; done) | (simp only [go_sem, *]; omega)) only [go_sem, hq, Int.reduceToNat, Nat.reduceBEq, Nat.reduceEqDiff, Nat.reduceAdd, Nat.reduceMul, Nat.reduceLeDiff, Nat.reduceLT, Nat.reduceSub, ↓reduceIte, reduceCtorEq]; (try rfl)) ?_
  refine tr_region [2] rfl rfl fun K hK => ?_
  iterate 3 refine evR_p ?_
  refine evR_c (hc := (c66 p.rows 151 [.ep (encPg p)] (fun r => !rowB p.vars r) okF_151 rfl (fun r h => k151 r (hc r h) p) hr)) (k := ?_)
  iterate 2 refine evR_p ?_
  refine evR_e hK ?_; clear hK K
  refine hK5 _ ?_
  refine tr_ret ?_
  (try simp only [thenE, inBlkE])
  simp (maxSteps := 4000000) (disch := first | assumption | omega | (simp only [go_sem, *]; done) | (simp only [go_sem, *]; omega)) only [postA, postO, resV1, fzAll, go_sem, hq, Int.reduceToNat, Nat.reduceBEq, Nat.reduceEqDiff, Nat.reduceAdd, Nat.reduceMul, Nat.reduceLeDiff, Nat.reduceLT, Nat.reduceSub, ↓reduceIte, reduceCtorEq]
  all_goals (first | (rw [vld_no ht1]; done) | (rw [vld_yes ht1, vld_rows, Bool.not_not]; done))

theorem needT (b : Bool) (n : Int) (hb : b = true) : CallsA Try.prog 117 [.bool b, .int .i64 n] (.tup []) := by
 have hq := hb
 refine callsA_of_tr Try.func117 rfl (Nat.le_of_ble_eq_true rfl) ?_
 simp only [Try.results117, envOf, Nat.reduceAdd]
 refine tr_seq fun K1 hK1 => ?_
 refine tr_region [1, 5] rfl rfl fun K hK => ?_
 iterate 2 refine evR_p ?_
 refine evR_e hK ?_; clear hK K
 refine hK1 _ ?_
 refine tr_condB (fun ht1 => ?_) (fun ht1 => ?_)
 ·
  skip
  (first | (exfalso; simp_all; done) | skip)
  all_goals
   exfalso; first | omega | (simp_all; done)
 ·
  skip
  (first | (exfalso; simp_all; done) | skip)
  all_goals
   refine tr_skip ?_
   (try simp only [thenE, inBlkE])
   simp (maxSteps := 4000000) (disch := first | assumption | omega | (simp only [go_sem, *]; done) | (simp only [go_sem, *]; omega)) only [postA, postO, resV1, fzAll, go_sem, hq, Int.reduceToNat, Nat.reduceBEq, Nat.reduceEqDiff, Nat.reduceAdd, Nat.reduceMul, Nat.reduceLeDiff, Nat.reduceLT, Nat.reduceSub, ↓reduceIte, reduceCtorEq]
   all_goals (rfl)
theorem needF0 (n : Int) (w : World) : Calls Try.prog 117 #[.bool false, .int .i64 n] w fun e w' => e = .panicked [{ v := wr n, recovered := false }] ∧ w' = w := by
 go_enter Try.func117, Try.ntmps117
 go_wp2
 exact ⟨rfl, rfl, rfl⟩
theorem needF (b : Bool) (n : Int) (hb : b = false) : CallsP Try.prog 117 [.bool b, .int .i64 n] [] 0 (wr n) := by
 subst hb
 intro w X ι ρ vs hml hl hr
 have h0 := hr 0 (by simp)
 have h1 := hr 1 (by simp)
 simp only [List.getD_cons_zero, List.getD_cons_succ] at h0 h1
 have e : vs = #[.bool false, .int .i64 n] := by
  apply Array.ext
  ·
   simpa using hl
  ·
   intro i hi1 hi2
   have hk : i = 0 ∨ i = 1 := by simp at hi2; omega
   rcases hk with rfl | rfl
   ·
    have := h0.bool_inv; simp [Array.getD, hi1] at this; simpa using this
   ·
    have := h1.int_inv; simp [Array.getD, hi1] at this; simpa using this
 subst e
 refine (needF0 n w).mono ?_
 rintro e w' ⟨rfl, rfl⟩
 exact ⟨rfl, ⟨hml.os, hml.tape, hml.output, hml.size, hml.old, by simp, by simp, by simp, by simp, hml.xlt, by simp⟩⟩

section
attribute [local go_sem] cellsI_cl cellsI_length cellsI_getD cellsI_dropD cellsI_take cellsI_tset
set_option maxHeartbeats 16000000 in
theorem k152 (vars : Int) (rows : List Rw) (l : List Sg) (v : Nat) (hr : ∀ r ∈ rows, okRw v r) (hv : v ≤ 12) (hn : rows.length ≤ 301) (hll : l.length ≤ 8192) (k : Nat) (hk : k < l.length) (s : Sg) (hs : l.getD k sg0 = s) (d : List Int) (hd : d.length = 12) (es : List (Int × Bool)) (hu : okU rows.length es) (hwl : s.ws.length ≤ maxLen) : (leafOk rows s d = true → CallsM Try.prog 152 [.ptr 0 0, .int .i64 (k : Nat), .agg (cellsI d)] ([(0, .cells [.int .i64 vars, .sl 6 (encR rows), .sl 4 (encSgs l), .mp 1]), (1, .dict es)]) (2) (.tup []) ([(0, .cells [.int .i64 vars, .sl 6 (encR rows), .sl 4 (encSgs l), .mp 1]), (1, .dict (usedT es s.ws s.ws.length))]) (2)) ∧ (leafOk rows s d = false → CallsP Try.prog 152 [.ptr 0 0, .int .i64 (k : Nat), .agg (cellsI d)] ([(0, .cells [.int .i64 vars, .sl 6 (encR rows), .sl 4 (encSgs l), .mp 1]), (1, .dict es)]) (2) (wr (k : Nat))) := by
 unfold maxLen at hwl
 have hkl : (k : Int) < l.length := by omega
 have hq := And.intro hs (And.intro hd (hkl))
 refine callsMP_of_tr (g := leafOk rows s d) (x := wr (k : Nat)) Try.func152 rfl (Nat.le_of_ble_eq_true rfl) (Nat.le_of_ble_eq_true rfl) (Nat.le_of_ble_eq_true rfl) ?_
 simp only [Try.results152, envOf, gh, gv, List.cons_append, List.nil_append, Nat.reduceAdd]
 refine tr_seq fun K1 hK1 => ?_
 refine tr_region [0, 1, 5, 1000000, 1000001] rfl rfl fun K hK => ?_
 refine evR_p ?_
 first | refine evR_e hK ?_ | refine evR_e (fun s h => hK s (Or.inr ⟨by exact leaf_good hp1 hpi hp3, h⟩)) ?_
 clear hK K
 refine hK1 _ ?_
 refine tr_seq fun K2 hK2 => ?_
 refine tr_region [0, 1, 5, 6, 1000000, 1000001] rfl rfl fun K hK => ?_
 iterate 9 refine evR_p ?_
 first | refine evR_e hK ?_ | refine evR_e (fun s h => hK s (Or.inr ⟨by exact leaf_good hp1 hpi hp3, h⟩)) ?_
 clear hK K
 refine hK2 _ ?_
 refine tr_seq fun K3 hK3 => ?_
 by_cases hp1 : ((decide (s.no = 0) && decide (s.yes = 0)) && isInB (s.ws.length : Int) 1 8) = true
 rotate_left 1
 ·
  skip
  refine tr_regionP (x := wr (k : Nat)) rfl rfl fun K hK => ?_
  refine evP_p ?_
  refine evP_p ?_
  refine evP_p ?_
  refine evP_p ?_
  refine evP_g ?_
  refine evP_g ?_
  refine evP_g ?_
  refine evP_p ?_
  refine evP_p ?_
  refine evP_g ?_
  refine evP_g ?_
  refine evP_g ?_
  refine evP_gc (hc := (k75 _ _ _)) (k := ?_)
  refine evP_p ?_
  refine evP_p ?_
  refine evP_end ?_
  simp (maxSteps := 4000000) (disch := first | assumption | omega | (simp only [go_sem, *]; done) | (simp only [go_sem, *]; omega)) only [stpP, go_sem, hq, Int.reduceToNat, Nat.reduceBEq, Nat.reduceEqDiff, Nat.reduceAdd, Nat.reduceMul, Nat.reduceLeDiff, Nat.reduceLT, Nat.reduceSub, ↓reduceIte, reduceCtorEq]
  (repeat (refine And.intro (by first | assumption | omega | decide | (simp; done) | (simp; omega) | (have hq := hvv hgt; omega) | (have hq := hvv hgt.1; omega) | (simp_all; done)) ?_))
  refine ⟨[], ?_⟩
  simp (maxSteps := 4000000) (disch := first | assumption | omega | (simp only [go_sem, *]; done) | (simp only [go_sem, *]; omega)) only [V.mapL, V.map, gJ, footJ, inJ, AObj.map, ndJ, ltJ, V.domL, V.dom, AObj.dom, kC, kR, AObj.isC, hJ, backJ, List.any_cons, List.any_nil, Nat.ble_eq, Nat.blt_eq, Nat.reduceLT, Nat.reduceLeDiff, Bool.or_true, Bool.true_or, Bool.or_false, Bool.false_or, Bool.and_self, go_sem, hq, Int.reduceToNat, Nat.reduceBEq, Nat.reduceEqDiff, Nat.reduceAdd, Nat.reduceMul, Nat.reduceLeDiff, Nat.reduceLT, Nat.reduceSub, ↓reduceIte, reduceCtorEq]
  refine And.intro (by exact (needF _ _ (Bool.eq_false_iff.2 hp1))) ?_
  (repeat (refine And.intro (by first | assumption | omega | decide | (simp; done) | (simp; omega) | (have hq := hvv hgt; omega) | (have hq := hvv hgt.1; omega) | (simp_all; done)) ?_))
  refine hK _ ?_; clear hK K
  exact Or.inl ⟨leaf_bad1 hp1, rfl⟩
 have hl8 : s.ws.length ≤ 8 := by
  have h9 := hp1
  simp only [Bool.and_eq_true, isInB_spec] at h9
  omega
 refine tr_region [0, 1, 5, 6, 1000000, 1000001] rfl rfl fun K hK => ?_
 iterate 4 refine evR_p ?_
 iterate 3 refine evR_g ?_
 iterate 2 refine evR_p ?_
 iterate 3 refine evR_g ?_
 refine evR_gc (hc := (k75 _ _ _)) (k := ?_)
 iterate 2 refine evR_p ?_
 refine evR_c (hc := (needT _ _ hp1)) (k := ?_)
 first | refine evR_e hK ?_ | refine evR_e (fun s h => hK s (Or.inr ⟨by exact leaf_good hp1 hpi hp3, h⟩)) ?_
 clear hK K
 refine hK3 _ ?_
 refine tr_seq fun K4 hK4 => ?_
 refine tr_region [0, 1, 5, 6, 7, 1000000, 1000001] rfl rfl fun K hK => ?_
 refine evR_p ?_
 first | refine evR_e hK ?_ | refine evR_e (fun s h => hK s (Or.inr ⟨by exact leaf_good hp1 hpi hp3, h⟩)) ?_
 clear hK K
 refine hK4 _ ?_
 refine tr_seq fun K5 hK5 => ?_
 refine tr_region [0, 1, 5, 6, 7, 8, 9, 1000000, 1000001] rfl rfl fun K hK => ?_
 iterate 2 refine evR_p ?_
 first | refine evR_e hK ?_ | refine evR_e (fun s h => hK s (Or.inr ⟨by exact leaf_good hp1 hpi hp3, h⟩)) ?_
 clear hK K
 refine hK5 _ ?_
 refine tr_seq fun K6 hK6 => ?_
 refine tr_seq fun K7 hK7 => ?_
 refine tr_region [0, 1, 5, 7, 8, 9, 41, 42, 43, 1000000, 1000001] rfl rfl fun K hK => ?_
 iterate 4 refine evR_p ?_
 first | refine evR_e hK ?_ | refine evR_e (fun s h => hK s (Or.inr ⟨by exact leaf_good hp1 hpi hp3, h⟩)) ?_
 clear hK K
 refine hK7 _ ?_
 refine tr_block ?_
 -- loop 1: live [0, 1, 5, 7, 8, 9, 41, 42, 43]
 refine tr_loopW (fun m σ => ∃ i : Nat, i + m = s.ws.length ∧ (∀ j, j < i → wtOk rows.length s.ws j = true) ∧ σ = ⟨[(0, .ptr 0 0), (1, .int .i64 (k : Nat)), (5, .ptr 2 0), (7, .ptr 4 0), (8, .int .i64 (mostT rows s.ws i)), (9, .int .i64 (prevW s.ws i)), (41, .sl 2 (encWs s.ws)), (42, .int .i64 s.ws.length), (43, .int .i64 (i : Nat)), (1000000, .ptr 0 0), (1000001, .mp 1)], [(4, .cells (cellsI (sumL rows s.ws i))), (3, .cells (encSg s)), (2, .cells (cellsI d)), (0, .cells [.int .i64 vars, .sl 6 (encR rows), .sl 4 (encSgs l), .mp 1]), (1, .dict (usedT es s.ws i))], 5⟩) (s.ws.length) ?_ ?_
 ·
  exact ⟨_, Wk.cut 5 (by simp [St.cutOK, AObj.upto, V.upto, V.uptoL, cellsI_uptoL, List.all_cons, List.all_nil, List.filter_cons, List.filter_nil, Nat.blt_eq, Nat.reduceLT, Nat.lt_irrefl, decide_true, decide_false, Bool.and_self, Bool.and_true, Bool.true_and, if_true, if_false, ↓reduceIte, Bool.false_eq_true, encSg, encW]), 0, by omega, (by intro j hj; omega), by rw [sumL_0]; rfl⟩
 ·
  rintro m σ ⟨i, hi, hpi, rfl⟩ KL1 hKL1
  refine tr_seq fun K8 hK8 => ?_
  refine tr_region [0, 1, 5, 7, 8, 9, 41, 42, 43, 44, 1000000, 1000001] rfl rfl fun K hK => ?_
  refine evR_p ?_
  first | refine evR_e hK ?_ | refine evR_e (fun s h => hK s (Or.inr ⟨by exact leaf_good hp1 hpi hp3, h⟩)) ?_
  clear hK K
  refine hK8 _ ?_
  refine tr_seq fun K9 hK9 => ?_
  refine tr_condB (fun ht1 => ?_) (fun ht1 => ?_)
  ·
   skip
   have hil : i < s.ws.length := by omega
   obtain ⟨⟨hv1, hv2⟩, hv3⟩ := pre_ws hpi
   have hv4 : prevW s.ws i < 400 := by
    rcases hv2 with h | h
    ·
     omega
    ·
     subst h; simp [prevW]
   have hw1 : IntKind.i64.wrap (prevW s.ws i + 1) = prevW s.ws i + 1 := w64 (by omega)
   have hw2 : IntKind.i64.wrap ((rows.length : Int) - 1) = (rows.length : Int) - 1 := w64 (by omega)
   have hsl := sumL_len rows s.ws i
   replace hq := And.intro hq (And.intro hil (And.intro hw1 (And.intro hw2 (hsl))))
   refine tr_skip ?_
   (try simp only [thenE, inBlkE])
   refine hK9 _ ?_
   refine tr_seq fun K10 hK10 => ?_
   refine tr_block ?_
   refine tr_seq fun K11 hK11 => ?_
   refine tr_region [0, 1, 5, 7, 8, 9, 11, 41, 42, 43, 1000000, 1000001] rfl rfl fun K hK => ?_
   iterate 4 refine evR_p ?_
   first | refine evR_e hK ?_ | refine evR_e (fun s h => hK s (Or.inr ⟨by exact leaf_good hp1 hpi hp3, h⟩)) ?_
   clear hK K
   refine hK11 _ ?_
   refine tr_seq fun K12 hK12 => ?_
   by_cases hp2 : wtOk rows.length s.ws i = true
   rotate_left 1
   ·
    skip
    refine tr_drawP (x := wr (k : Nat)) [] mixed rfl (by kernel_rfl) (by kernel_rfl) rfl fun K hK => ?_
    refine evQ_p ?_
    refine evQ_p ?_
    refine evQ_p ?_
    refine evQ_p ?_
    refine evQ_p ?_
    refine evQ_p ?_
    refine evQ_p ?_
    refine evQ_p ?_
    refine evQ_p ?_
    refine evQ_p ?_
    refine evQ_c (hc := (k75 _ _ _)) (k := ?_)
    refine evQ_p ?_
    refine evQ_g ?_
    refine evQ_g ?_
    refine evQ_gc (hc := (k75 _ _ _)) (k := ?_)
    refine evQ_p ?_
    refine evQ_p ?_
    simp only [evQ]
    simp (maxSteps := 4000000) (disch := first | assumption | omega | (simp only [go_sem, *]; done) | (simp only [go_sem, *]; omega)) only [stpP, go_sem, hq, Int.reduceToNat, Nat.reduceBEq, Nat.reduceEqDiff, Nat.reduceAdd, Nat.reduceMul, Nat.reduceLeDiff, Nat.reduceLT, Nat.reduceSub, ↓reduceIte, reduceCtorEq]
    (repeat (refine And.intro (by first | assumption | omega | decide | (simp; done) | (simp; omega) | (have hq := hvv hgt; omega) | (have hq := hvv hgt.1; omega) | (simp_all; done)) ?_))
    refine ⟨[], ?_⟩
    simp (maxSteps := 4000000) (disch := first | assumption | omega | (simp only [go_sem, *]; done) | (simp only [go_sem, *]; omega)) only [V.mapL, V.map, gJ, footJ, inJ, AObj.map, ndJ, ltJ, V.domL, V.dom, AObj.dom, kC, kR, AObj.isC, hJ, backJ, List.any_cons, List.any_nil, Nat.ble_eq, Nat.blt_eq, Nat.reduceLT, Nat.reduceLeDiff, Bool.or_true, Bool.true_or, Bool.or_false, Bool.false_or, Bool.and_self, go_sem, hq, Int.reduceToNat, Nat.reduceBEq, Nat.reduceEqDiff, Nat.reduceAdd, Nat.reduceMul, Nat.reduceLeDiff, Nat.reduceLT, Nat.reduceSub, ↓reduceIte, reduceCtorEq]
    refine And.intro (by exact (needF _ _ (Bool.eq_false_iff.2 hp2))) ?_
    (repeat (refine And.intro (by first | assumption | omega | decide | (simp; done) | (simp; omega) | (have hq := hvv hgt; omega) | (have hq := hvv hgt.1; omega) | (simp_all; done)) ?_))
    refine hK _ ?_; clear hK K
    exact Or.inl ⟨leaf_bad2 hil hp2, rfl⟩
   have hpi2 := wt_step hpi hp2
   obtain ⟨hq0, hR, hwa, hwb, hwc⟩ := wt_wraps hr (by omega) hpi2
   have hcl := hR.len
   have hul := usedT_ok (n := rows.length) (ws := s.ws) hu i (fun j hj => (pre_ws hpi).2 j hj)
   have hul2 : (usedT es s.ws i).length < maxLen := by have := hul.len; unfold maxLen; omega
   replace hq := And.intro hq (And.intro hwa (And.intro hwb (And.intro hcl hul2)))
   refine tr_draw [] [0, 1, 5, 7, 8, 11, 41, 42, 43, 1000000, 1000001] mixed rfl (by kernel_rfl) rfl fun K hK => ?_
   iterate 10 refine evD_p ?_
   refine evD_c (hc := (k75 _ _ _)) (k := ?_)
   refine evD_p ?_
   iterate 2 refine evD_g ?_
   refine evD_gc (hc := (k75 _ _ _)) (k := ?_)
   iterate 2 refine evD_p ?_
   refine evD_c (hc := (needT _ _ hp2)) (k := ?_)
   first | refine evD_e hK ?_ | refine evD_e (fun s h => hK s (Or.inr ⟨by exact leaf_good hp1 hpi hp3, h⟩)) ?_
   clear hK K
   refine hK12 _ ?_
   refine tr_seq fun K13 hK13 => ?_
   refine tr_region [0, 1, 5, 7, 8, 9, 11, 41, 42, 43, 1000000, 1000001] rfl rfl fun K hK => ?_
   iterate 3 refine evR_p ?_
   first | refine evR_e hK ?_ | refine evR_e (fun s h => hK s (Or.inr ⟨by exact leaf_good hp1 hpi hp3, h⟩)) ?_
   clear hK K
   refine hK13 _ ?_
   refine tr_seq fun K14 hK14 => ?_
   refine tr_draw [] [0, 1, 5, 7, 8, 9, 11, 41, 42, 43, 1000000, 1000001] mixed rfl (by kernel_rfl) rfl fun K hK => ?_
   iterate 15 refine evD_p ?_
   first | refine evD_e hK ?_ | refine evD_e (fun s h => hK s (Or.inr ⟨by exact leaf_good hp1 hpi hp3, h⟩)) ?_
   clear hK K
   refine hK14 _ ?_
   refine tr_seq fun K15 hK15 => ?_
   refine tr_seq fun K16 hK16 => ?_
   refine tr_draw [] [0, 1, 5, 7, 8, 9, 11, 41, 42, 43, 89, 90, 91, 1000000, 1000001] mixed rfl (by kernel_rfl) rfl fun K hK => ?_
   iterate 11 refine evD_p ?_
   first | refine evD_e hK ?_ | refine evD_e (fun s h => hK s (Or.inr ⟨by exact leaf_good hp1 hpi hp3, h⟩)) ?_
   clear hK K
   refine hK16 _ ?_
   refine tr_block ?_
   -- loop 2: live [0, 1, 5, 7, 8, 9, 11, 41, 42, 43, 89, 90, 91]
   refine tr_loopW (fun m σ => ∃ j : Nat, j + m = v ∧ σ = ⟨[(0, .ptr 0 0), (1, .int .i64 (k : Nat)), (5, .ptr 2 0), (7, .ptr 4 0), (8, .int .i64 (mostT rows s.ws (i + 1))), (9, .int .i64 (s.ws.getD i wt0).rw), (11, .ptr 5 0), (41, .sl 2 (encWs s.ws)), (42, .int .i64 s.ws.length), (43, .int .i64 (i : Nat)), (89, .sl 1 (encI (rows.getD (s.ws.getD i wt0).rw.toNat rw0).coef)), (90, .int .i64 v), (91, .int .i64 (j : Nat)), (1000000, .ptr 0 0), (1000001, .mp 1)], [(5, .cells (encW (s.ws.getD i wt0))), (4, .cells (cellsI (sumM rows s.ws i j))), (3, .cells (encSg s)), (2, .cells (cellsI d)), (0, .cells [.int .i64 vars, .sl 6 (encR rows), .sl 4 (encSgs l), .mp 1]), (1, .dict (usedT es s.ws i))], 6⟩) (v) ?_ ?_
   ·
    exact ⟨_, Wk.refl _, 0, by omega, by rw [sumM_0]; rfl⟩
   ·
    rintro m2 σ ⟨j, hj, rfl⟩ KL2 hKL2
    refine tr_seq fun K17 hK17 => ?_
    refine tr_region [0, 1, 5, 7, 8, 9, 11, 41, 42, 43, 89, 90, 91, 92, 1000000, 1000001] rfl rfl fun K hK => ?_
    refine evR_p ?_
    first | refine evR_e hK ?_ | refine evR_e (fun s h => hK s (Or.inr ⟨by exact leaf_good hp1 hpi hp3, h⟩)) ?_
    clear hK K
    refine hK17 _ ?_
    refine tr_seq fun K18 hK18 => ?_
    refine tr_condB (fun ht2 => ?_) (fun ht2 => ?_)
    ·
     skip
     have hjl : j < v := by omega
     obtain ⟨hwd, hwe⟩ := hwc j
     have hsm := sumM_len rows s.ws i j
     have hst := sumM_set (rows := rows) (ws := s.ws) (i := i) (j := j) (by omega)
     have hsg : (sumM rows s.ws i j).getD j 0 = sumK rows s.ws j i := by rw [sumM_getD (by omega), if_neg (Nat.lt_irrefl j)]
     replace hq := And.intro hq (And.intro hjl (And.intro hwd (And.intro hwe (And.intro hsm (And.intro hst (hsg))))))
     refine tr_skip ?_
     (try simp only [thenE, inBlkE])
     refine hK18 _ ?_
     refine tr_seq fun K19 hK19 => ?_
     refine tr_block ?_
     refine tr_seq fun K20 hK20 => ?_
     refine tr_region [0, 1, 5, 7, 8, 9, 11, 12, 13, 41, 42, 43, 89, 90, 91, 1000000, 1000001] rfl rfl fun K hK => ?_
     iterate 5 refine evR_p ?_
     first | refine evR_e hK ?_ | refine evR_e (fun s h => hK s (Or.inr ⟨by exact leaf_good hp1 hpi hp3, h⟩)) ?_
     clear hK K
     refine hK20 _ ?_
     refine tr_draw [] [0, 1, 5, 7, 8, 9, 11, 41, 42, 43, 89, 90, 91, 1000000, 1000001] mixed rfl (by kernel_rfl) rfl fun K hK => ?_
     iterate 10 refine evD_p ?_
     first | refine evD_e hK ?_ | refine evD_e (fun s h => hK s (Or.inr ⟨by exact leaf_good hp1 hpi hp3, h⟩)) ?_
     clear hK K
     refine hK19 _ ?_
     refine tr_region [0, 1, 5, 7, 8, 9, 11, 41, 42, 43, 89, 90, 91, 1000000, 1000001] rfl rfl fun K hK => ?_
     iterate 2 refine evR_p ?_
     first | refine evR_e hK ?_ | refine evR_e (fun s h => hK s (Or.inr ⟨by exact leaf_good hp1 hpi hp3, h⟩)) ?_
     clear hK K
     refine hKL2 _ ?_
     exact ⟨m2 - 1, _, by omega, Wk.cut 6 (by simp [St.cutOK, AObj.upto, V.upto, V.uptoL, cellsI_uptoL, List.all_cons, List.all_nil, List.filter_cons, List.filter_nil, Nat.blt_eq, Nat.reduceLT, Nat.lt_irrefl, decide_true, decide_false, Bool.and_self, Bool.and_true, Bool.true_and, if_true, if_false, ↓reduceIte, Bool.false_eq_true, encSg, encW]), j + 1, by omega, by (rw [w64 (x := (j : Int) + 1) (by omega)]; rfl)⟩
    ·
     skip
     have hjl : j = v := by omega
     subst hjl
     have hse := sumM_end hr s.ws i (fun j hj => by have := (pre_ws hpi2).2 j hj; omega)
     rw [hse]
     refine tr_exit ?_
     simp only [thenE, inBlkE, Nat.reduceEqDiff, ↓reduceIte]
     refine hK15 _ ?_
     refine tr_draw [] [0, 1, 5, 7, 8, 9, 41, 42, 43, 1000000, 1000001] mixed rfl (by kernel_rfl) rfl fun K hK => ?_
     iterate 7 refine evD_p ?_
     first | refine evD_e hK ?_ | refine evD_e (fun s h => hK s (Or.inr ⟨by exact leaf_good hp1 hpi hp3, h⟩)) ?_
     clear hK K
     refine hK10 _ ?_
     refine tr_region [0, 1, 5, 7, 8, 9, 41, 42, 43, 1000000, 1000001] rfl rfl fun K hK => ?_
     iterate 2 refine evR_p ?_
     first | refine evR_e hK ?_ | refine evR_e (fun s h => hK s (Or.inr ⟨by exact leaf_good hp1 hpi hp3, h⟩)) ?_
     clear hK K
     refine hKL1 _ ?_
     exact ⟨m - 1, _, by omega, Wk.cut 5 (by simp [St.cutOK, AObj.upto, V.upto, V.uptoL, cellsI_uptoL, List.all_cons, List.all_nil, List.filter_cons, List.filter_nil, Nat.blt_eq, Nat.reduceLT, Nat.lt_irrefl, decide_true, decide_false, Bool.and_self, Bool.and_true, Bool.true_and, if_true, if_false, ↓reduceIte, Bool.false_eq_true, encSg, encW]), i + 1, by omega, hpi2, by (rw [w64 (x := (i : Int) + 1) (by omega)]; rfl)⟩
  ·
   skip
   have hil : i = s.ws.length := by omega
   subst hil
   have hsl := sumL_len rows s.ws s.ws.length
   have hld : ∀ k, k < 12 → (sumL rows s.ws s.ws.length).getD k 0 = sumK rows s.ws k s.ws.length := fun k hk => sumL_getD hk
   replace hq := And.intro hq (And.intro hsl hld)
   refine tr_exit ?_
   simp only [thenE, inBlkE, Nat.reduceEqDiff, ↓reduceIte]
   refine hK6 _ ?_
   refine tr_seq fun K21 hK21 => ?_
   refine tr_region [1, 5, 7, 8, 14, 1000000, 1000001] rfl rfl fun K hK => ?_
   refine evR_p ?_
   first | refine evR_e hK ?_ | refine evR_e (fun s h => hK s (Or.inr ⟨by exact leaf_good hp1 hpi hp3, h⟩)) ?_
   clear hK K
   refine hK21 _ ?_
   refine tr_seq fun K22 hK22 => ?_
   refine tr_seq fun K23 hK23 => ?_
   refine tr_region [1, 5, 8, 14, 113, 114, 1000000, 1000001] rfl rfl fun K hK => ?_
   iterate 2 refine evR_p ?_
   first | refine evR_e hK ?_ | refine evR_e (fun s h => hK s (Or.inr ⟨by exact leaf_good hp1 hpi hp3, h⟩)) ?_
   clear hK K
   refine hK23 _ ?_
   refine tr_block ?_
   -- loop 3: live [1, 5, 8, 14, 113, 114]
   refine tr_loopW (fun m σ => ∃ j : Nat, j + m = 12 ∧ σ = ⟨[(1, .int .i64 (k : Nat)), (5, .ptr 2 0), (8, .int .i64 (mostT rows s.ws s.ws.length)), (14, .int .i64 (lowK rows s.ws d j)), (113, .agg (cellsI (sumL rows s.ws s.ws.length))), (114, .int .i64 (j : Nat)), (1000000, .ptr 0 0), (1000001, .mp 1)], [(4, .cells (cellsI (sumL rows s.ws s.ws.length))), (3, .cells (encSg s)), (2, .cells (cellsI d)), (0, .cells [.int .i64 vars, .sl 6 (encR rows), .sl 4 (encSgs l), .mp 1]), (1, .dict (usedT es s.ws s.ws.length))], 5⟩) (12) ?_ ?_
   ·
    exact ⟨_, Wk.cut 5 (by simp [St.cutOK, AObj.upto, V.upto, V.uptoL, cellsI_uptoL, List.all_cons, List.all_nil, List.filter_cons, List.filter_nil, Nat.blt_eq, Nat.reduceLT, Nat.lt_irrefl, decide_true, decide_false, Bool.and_self, Bool.and_true, Bool.true_and, if_true, if_false, ↓reduceIte, Bool.false_eq_true, encSg, encW]), 0, by omega, rfl⟩
   ·
    rintro m3 σ ⟨j, hj, rfl⟩ KL3 hKL3
    refine tr_seq fun K24 hK24 => ?_
    refine tr_region [1, 5, 8, 14, 113, 114, 115, 1000000, 1000001] rfl rfl fun K hK => ?_
    refine evR_p ?_
    first | refine evR_e hK ?_ | refine evR_e (fun s h => hK s (Or.inr ⟨by exact leaf_good hp1 hpi hp3, h⟩)) ?_
    clear hK K
    refine hK24 _ ?_
    refine tr_seq fun K25 hK25 => ?_
    refine tr_condB (fun ht3 => ?_) (fun ht3 => ?_)
    ·
     skip
     have hjl : j < 12 := by omega
     obtain ⟨hwf, hwg⟩ := low_wraps hr hl8 hpi d hjl
     have hlj := hld j hjl
     replace hq := And.intro hq (And.intro hjl (And.intro hwf (And.intro hwg (hlj))))
     refine tr_skip ?_
     (try simp only [thenE, inBlkE])
     refine hK25 _ ?_
     refine tr_seq fun K26 hK26 => ?_
     refine tr_block ?_
     refine tr_seq fun K27 hK27 => ?_
     refine tr_region [1, 5, 8, 14, 15, 16, 113, 114, 1000000, 1000001] rfl rfl fun K hK => ?_
     iterate 4 refine evR_p ?_
     first | refine evR_e hK ?_ | refine evR_e (fun s h => hK s (Or.inr ⟨by exact leaf_good hp1 hpi hp3, h⟩)) ?_
     clear hK K
     refine hK27 _ ?_
     refine tr_seq fun K28 hK28 => ?_
     refine tr_region [1, 5, 8, 14, 16, 113, 114, 120, 1000000, 1000001] rfl rfl fun K hK => ?_
     iterate 3 refine evR_p ?_
     first | refine evR_e hK ?_ | refine evR_e (fun s h => hK s (Or.inr ⟨by exact leaf_good hp1 hpi hp3, h⟩)) ?_
     clear hK K
     refine hK28 _ ?_
     refine tr_block ?_
     refine tr_seq fun K29 hK29 => ?_
     refine tr_region [1, 5, 8, 14, 16, 113, 114, 120, 121, 1000000, 1000001] rfl rfl fun K hK => ?_
     iterate 2 refine evR_p ?_
     first | refine evR_e hK ?_ | refine evR_e (fun s h => hK s (Or.inr ⟨by exact leaf_good hp1 hpi hp3, h⟩)) ?_
     clear hK K
     refine hK29 _ ?_
     refine tr_condB (fun ht4 => ?_) (fun ht4 => ?_)
     ·
      skip
      refine tr_region [1, 5, 8, 14, 113, 114, 1000000, 1000001] rfl rfl fun K hK => ?_
      iterate 4 refine evR_p ?_
      first | refine evR_e hK ?_ | refine evR_e (fun s h => hK s (Or.inr ⟨by exact leaf_good hp1 hpi hp3, h⟩)) ?_
      clear hK K
      refine hK26 _ ?_
      refine tr_region [1, 5, 8, 14, 113, 114, 1000000, 1000001] rfl rfl fun K hK => ?_
      iterate 2 refine evR_p ?_
      first | refine evR_e hK ?_ | refine evR_e (fun s h => hK s (Or.inr ⟨by exact leaf_good hp1 hpi hp3, h⟩)) ?_
      clear hK K
      refine hKL3 _ ?_
      first | exact ⟨m3 - 1, _, by omega, Wk.refl _, j + 1, by omega, by (rw [w64 (x := (j : Int) + 1) (by omega), lowK_t1 ht4]; rfl)⟩ | exact ⟨m3 - 1, _, by omega, Wk.refl _, j + 1, by omega, by (rw [w64 (x := (j : Int) + 1) (by omega), lowK_t0 ht4 ht5]; rfl)⟩ | exact ⟨m3 - 1, _, by omega, Wk.refl _, j + 1, by omega, by (rw [w64 (x := (j : Int) + 1) (by omega), lowK_f ht4 ht5]; rfl)⟩
     ·
      skip
      refine tr_seq fun K30 hK30 => ?_
      refine tr_region [1, 5, 8, 14, 16, 113, 114, 126, 1000000, 1000001] rfl rfl fun K hK => ?_
      iterate 2 refine evR_p ?_
      first | refine evR_e hK ?_ | refine evR_e (fun s h => hK s (Or.inr ⟨by exact leaf_good hp1 hpi hp3, h⟩)) ?_
      clear hK K
      refine hK30 _ ?_
      refine tr_condB (fun ht5 => ?_) (fun ht5 => ?_)
      ·
       skip
       refine tr_region [1, 5, 8, 14, 113, 114, 1000000, 1000001] rfl rfl fun K hK => ?_
       iterate 5 refine evR_p ?_
       first | refine evR_e hK ?_ | refine evR_e (fun s h => hK s (Or.inr ⟨by exact leaf_good hp1 hpi hp3, h⟩)) ?_
       clear hK K
       refine hK26 _ ?_
       refine tr_region [1, 5, 8, 14, 113, 114, 1000000, 1000001] rfl rfl fun K hK => ?_
       iterate 2 refine evR_p ?_
       first | refine evR_e hK ?_ | refine evR_e (fun s h => hK s (Or.inr ⟨by exact leaf_good hp1 hpi hp3, h⟩)) ?_
       clear hK K
       refine hKL3 _ ?_
       first | exact ⟨m3 - 1, _, by omega, Wk.refl _, j + 1, by omega, by (rw [w64 (x := (j : Int) + 1) (by omega), lowK_t1 ht4]; rfl)⟩ | exact ⟨m3 - 1, _, by omega, Wk.refl _, j + 1, by omega, by (rw [w64 (x := (j : Int) + 1) (by omega), lowK_t0 ht4 ht5]; rfl)⟩ | exact ⟨m3 - 1, _, by omega, Wk.refl _, j + 1, by omega, by (rw [w64 (x := (j : Int) + 1) (by omega), lowK_f ht4 ht5]; rfl)⟩
      ·
       skip
       refine tr_skip ?_
       (try simp only [thenE, inBlkE])
       refine hK26 _ ?_
       refine tr_region [1, 5, 8, 14, 113, 114, 1000000, 1000001] rfl rfl fun K hK => ?_
       iterate 2 refine evR_p ?_
       first | refine evR_e hK ?_ | refine evR_e (fun s h => hK s (Or.inr ⟨by exact leaf_good hp1 hpi hp3, h⟩)) ?_
       clear hK K
       refine hKL3 _ ?_
       first | exact ⟨m3 - 1, _, by omega, Wk.refl _, j + 1, by omega, by (rw [w64 (x := (j : Int) + 1) (by omega), lowK_t1 ht4]; rfl)⟩ | exact ⟨m3 - 1, _, by omega, Wk.refl _, j + 1, by omega, by (rw [w64 (x := (j : Int) + 1) (by omega), lowK_t0 ht4 ht5]; rfl)⟩ | exact ⟨m3 - 1, _, by omega, Wk.refl _, j + 1, by omega, by (rw [w64 (x := (j : Int) + 1) (by omega), lowK_f ht4 ht5]; rfl)⟩
    ·
     skip
     have hjl : j = 12 := by omega
     subst hjl
     refine tr_exit ?_
     simp only [thenE, inBlkE, Nat.reduceEqDiff, ↓reduceIte]
     refine hK22 _ ?_
     by_cases hp3 : decide (mostT rows s.ws s.ws.length < lowK rows s.ws d 12) = true
     rotate_left 1
     ·
      skip
      refine tr_regionP (x := wr (k : Nat)) rfl rfl fun K hK => ?_
      refine evP_p ?_
      refine evP_p ?_
      refine evP_p ?_
      refine evP_p ?_
      refine evP_end ?_
      simp (maxSteps := 4000000) (disch := first | assumption | omega | (simp only [go_sem, *]; done) | (simp only [go_sem, *]; omega)) only [stpP, go_sem, hq, Int.reduceToNat, Nat.reduceBEq, Nat.reduceEqDiff, Nat.reduceAdd, Nat.reduceMul, Nat.reduceLeDiff, Nat.reduceLT, Nat.reduceSub, ↓reduceIte, reduceCtorEq]
      (repeat (refine And.intro (by first | assumption | omega | decide | (simp; done) | (simp; omega) | (have hq := hvv hgt; omega) | (have hq := hvv hgt.1; omega) | (simp_all; done)) ?_))
      refine ⟨[], ?_⟩
      simp (maxSteps := 4000000) (disch := first | assumption | omega | (simp only [go_sem, *]; done) | (simp only [go_sem, *]; omega)) only [V.mapL, V.map, gJ, footJ, inJ, AObj.map, ndJ, ltJ, V.domL, V.dom, AObj.dom, kC, kR, AObj.isC, hJ, backJ, List.any_cons, List.any_nil, Nat.ble_eq, Nat.blt_eq, Nat.reduceLT, Nat.reduceLeDiff, Bool.or_true, Bool.true_or, Bool.or_false, Bool.false_or, Bool.and_self, go_sem, hq, Int.reduceToNat, Nat.reduceBEq, Nat.reduceEqDiff, Nat.reduceAdd, Nat.reduceMul, Nat.reduceLeDiff, Nat.reduceLT, Nat.reduceSub, ↓reduceIte, reduceCtorEq]
      refine And.intro (by exact (needF _ _ (Bool.eq_false_iff.2 hp3))) ?_
      (repeat (refine And.intro (by first | assumption | omega | decide | (simp; done) | (simp; omega) | (have hq := hvv hgt; omega) | (have hq := hvv hgt.1; omega) | (simp_all; done)) ?_))
      refine hK _ ?_; clear hK K
      exact Or.inl ⟨leaf_bad3 hp3, rfl⟩
     refine tr_region [1000000, 1000001] rfl rfl fun K hK => ?_
     iterate 4 refine evR_p ?_
     refine evR_c (hc := (needT _ _ hp3)) (k := ?_)
     first | refine evR_e hK ?_ | refine evR_e (fun s h => hK s (Or.inr ⟨by exact leaf_good hp1 hpi hp3, h⟩)) ?_
     clear hK K
     all_goals first | refine Or.inr (And.intro (by exact leaf_good hp1 hpi hp3) ?_) | skip
     all_goals first | refine ⟨_, Wk.cut 2 rfl, ?_⟩
     simp (maxSteps := 4000000) (disch := first | assumption | omega | (simp only [go_sem, *]; done) | (simp only [go_sem, *]; omega)) only [postM, ghOK, gv, St.ren, St.cut, V.ren, V.renL, AObj.ren, Nat.blt_eq, resV1, go_sem, hq, Int.reduceToNat, Nat.reduceBEq, Nat.reduceEqDiff, Nat.reduceAdd, Nat.reduceMul, Nat.reduceLeDiff, Nat.reduceLT, Nat.reduceSub, ↓reduceIte, reduceCtorEq]
     all_goals (rfl)
end

section
attribute [local go_sem] cellsI_cl cellsI_length cellsI_getD cellsI_dropD cellsI_take cellsI_tset List.set_set cellsI_mapL cellsI_domL
set_option maxHeartbeats 16000000 in
theorem k118s (vars : Int) (rows : List Rw) (l : List Sg) (v : Nat) (hvv0 : 0 ≤ vars ∧ vars ≤ 12) (hr : ∀ r ∈ rows, okRw v r) (hv : v ≤ 12) (hn : rows.length ≤ 301) (hll : l.length ≤ 8192) (hwl : ∀ k, k < l.length → ∀ s, l.getD k sg0 = s → s.ws.length ≤ maxLen) (n : Nat) (ih : ∀ (k : Nat) (d : List Int) (es : List (Int × Bool)), k < l.length → l.length ≤ k + n → d.length = 12 → okU rows.length es → (wkB vars rows l n k d = true → CallsM Try.prog 118 [.ptr 0 0, .int .i64 (k : Nat), .agg (cellsI d)] [(0, .cells [.int .i64 vars, .sl 6 (encR rows), .sl 4 (encSgs l), .mp 1]), (1, .dict es)] 2 (.tup []) [(0, .cells [.int .i64 vars, .sl 6 (encR rows), .sl 4 (encSgs l), .mp 1]), (1, .dict (usN l n k es))] 2) ∧ (wkB vars rows l n k d = false → CallsP Try.prog 118 [.ptr 0 0, .int .i64 (k : Nat), .agg (cellsI d)] [(0, .cells [.int .i64 vars, .sl 6 (encR rows), .sl 4 (encSgs l), .mp 1]), (1, .dict es)] 2 (wr (wkX vars rows l n k d)))) (k : Nat) (d : List Int) (es : List (Int × Bool)) (hk : k < l.length) (hkn : l.length ≤ k + (n + 1)) (hd : d.length = 12) (hu : okU rows.length es) (s : Sg) (hs : l.getD k sg0 = s) : (wkB vars rows l (n + 1) k d = true → CallsM Try.prog 118 [.ptr 0 0, .int .i64 (k : Nat), .agg (cellsI d)] ([(0, .cells [.int .i64 vars, .sl 6 (encR rows), .sl 4 (encSgs l), .mp 1]), (1, .dict es)]) (2) (.tup []) ([(0, .cells [.int .i64 vars, .sl 6 (encR rows), .sl 4 (encSgs l), .mp 1]), (1, .dict (usN l (n + 1) k es))]) (2)) ∧ (wkB vars rows l (n + 1) k d = false → CallsP Try.prog 118 [.ptr 0 0, .int .i64 (k : Nat), .agg (cellsI d)] ([(0, .cells [.int .i64 vars, .sl 6 (encR rows), .sl 4 (encSgs l), .mp 1]), (1, .dict es)]) (2) (wr (wkX vars rows l (n + 1) k d))) := by
 have hkl : (k : Int) < l.length := by omega
 have hvv : isInB s.var 0 (vars - 1) = true → 0 ≤ s.var ∧ s.var < 12 := by rw [isInB_spec]; omega
 have hcs : caseOk vars s d = (isInB s.var 0 (vars - 1) && decide (d.getD s.var.toNat 0 = 0) && decide ((s.ws.length : Int) = 0)) := by
  have : decide (s.ws.length = 0) = decide ((s.ws.length : Int) = 0) := by congr 1; simp
  rw [caseOk, this, Bool.and_assoc]
 have hdv : isInB s.var 0 (vars - 1) = true → (List.drop s.var.toNat (cellsI d)).getD 0 V.any = V.int .i64 (d.getD s.var.toNat 0) := fun h => cellsI_dropD d _ (by have := hvv h; omega)
 have hw1 : IntKind.i64.wrap (vars - 1) = vars - 1 := w64 (by omega)
 have hw2 : IntKind.i64.wrap ((k : Int) + 1) = (k : Int) + 1 := w64 (by omega)
 have hw3 : IntKind.i64.wrap ((l.length : Int) - 1) = (l.length : Int) - 1 := w64 (by omega)
 have hq := And.intro hs (And.intro hd (And.intro hkl (And.intro hdv (And.intro hw1 (And.intro hw2 (hw3))))))
 refine callsMP_of_tr (g := wkB vars rows l (n + 1) k d) (x := wr (wkX vars rows l (n + 1) k d)) Try.func118 rfl (Nat.le_of_ble_eq_true rfl) (Nat.le_of_ble_eq_true rfl) (Nat.le_of_ble_eq_true rfl) ?_
 simp only [Try.results118, envOf, gh, gv, List.cons_append, List.nil_append, Nat.reduceAdd]
 refine tr_seq fun K1 hK1 => ?_
 refine tr_region [0, 1, 5, 1000000, 1000001] rfl rfl fun K hK => ?_
 refine evR_p ?_
 first | refine evR_e hK ?_ | refine evR_e (fun s h => hK s (Or.inr ⟨by first | exact wk_leafT hs ht1 hp1 | exact hend, h⟩)) ?_
 clear hK K
 refine hK1 _ ?_
 refine tr_seq fun K2 hK2 => ?_
 refine tr_region [0, 1, 5, 6, 1000000, 1000001] rfl rfl fun K hK => ?_
 iterate 9 refine evR_p ?_
 first | refine evR_e hK ?_ | refine evR_e (fun s h => hK s (Or.inr ⟨by first | exact wk_leafT hs ht1 hp1 | exact hend, h⟩)) ?_
 clear hK K
 refine hK2 _ ?_
 refine tr_seq fun K3 hK3 => ?_
 refine tr_seq fun K4 hK4 => ?_
 refine tr_region [0, 1, 5, 6, 16, 1000000, 1000001] rfl rfl fun K hK => ?_
 iterate 3 refine evR_p ?_
 first | refine evR_e hK ?_ | refine evR_e (fun s h => hK s (Or.inr ⟨by first | exact wk_leafT hs ht1 hp1 | exact hend, h⟩)) ?_
 clear hK K
 refine hK4 _ ?_
 refine tr_condB (fun ht1 => ?_) (fun ht1 => ?_)
 ·
  skip
  refine tr_seq fun K5 hK5 => ?_
  by_cases hp1 : leafOk rows s d = true
  rotate_left 1
  ·
   skip
   refine tr_regionP (x := wr (k : Nat)) rfl rfl fun K hK => ?_
   refine evP_p ?_
   refine evP_p ?_
   refine evP_p ?_
   refine evP_end ?_
   simp (maxSteps := 4000000) (disch := first | assumption | omega | (simp only [go_sem, *]; done) | (simp only [go_sem, *]; omega)) only [stpP, go_sem, hq, Int.reduceToNat, Nat.reduceBEq, Nat.reduceEqDiff, Nat.reduceAdd, Nat.reduceMul, Nat.reduceLeDiff, Nat.reduceLT, Nat.reduceSub, ↓reduceIte, reduceCtorEq]
   (repeat (refine And.intro (by first | assumption | omega | decide | (simp; done) | (simp; omega) | (have hq := hvv hgt; omega) | (have hq := hvv hgt.1; omega) | (simp_all; done)) ?_))
   refine ⟨[0, 1], ?_⟩
   simp (maxSteps := 4000000) (disch := first | assumption | omega | (simp only [go_sem, *]; done) | (simp only [go_sem, *]; omega)) only [V.mapL, V.map, gJ, footJ, inJ, AObj.map, ndJ, ltJ, V.domL, V.dom, AObj.dom, kC, kR, AObj.isC, hJ, backJ, List.any_cons, List.any_nil, Nat.ble_eq, Nat.blt_eq, Nat.reduceLT, Nat.reduceLeDiff, Bool.or_true, Bool.true_or, Bool.or_false, Bool.false_or, Bool.and_self, go_sem, hq, Int.reduceToNat, Nat.reduceBEq, Nat.reduceEqDiff, Nat.reduceAdd, Nat.reduceMul, Nat.reduceLeDiff, Nat.reduceLT, Nat.reduceSub, ↓reduceIte, reduceCtorEq]
   refine And.intro (by exact (k152 vars rows l v hr hv hn hll k hk s hs d hd es hu (hwl k hk s hs)).2 (Bool.eq_false_iff.2 hp1)) ?_
   (repeat (refine And.intro (by first | assumption | omega | decide | (simp; done) | (simp; omega) | (have hq := hvv hgt; omega) | (have hq := hvv hgt.1; omega) | (simp_all; done)) ?_))
   refine hK _ ?_; clear hK K
   obtain ⟨hb1, hb2⟩ := wk_leafF (vars := vars) (n := n) hs ht1 hp1; exact Or.inl ⟨hb1, by rw [hb2]⟩
  refine tr_region [1000000, 1000001] rfl rfl fun K hK => ?_
  iterate 3 refine evR_p ?_
  refine evR_stepX fun Kq hKq => Or.inr ?_
  simp (maxSteps := 4000000) (disch := first | assumption | omega | (simp only [go_sem, *]; done) | (simp only [go_sem, *]; omega)) only [stpM, go_sem, hq, Int.reduceToNat, Nat.reduceBEq, Nat.reduceEqDiff, Nat.reduceAdd, Nat.reduceMul, Nat.reduceLeDiff, Nat.reduceLT, Nat.reduceSub, ↓reduceIte, reduceCtorEq]
  refine ⟨[0, 1], ?_⟩
  simp (maxSteps := 4000000) (disch := first | assumption | omega | (simp only [go_sem, *]; done) | (simp only [go_sem, *]; omega)) only [V.mapL, V.map, gJ, footJ, inJ, AObj.map, ndJ, ltJ, V.domL, V.dom, AObj.dom, kC, kR, AObj.isC, hJ, backJ, List.any_cons, List.any_nil, Nat.ble_eq, Nat.blt_eq, Nat.reduceLT, Nat.reduceLeDiff, Bool.or_true, Bool.true_or, Bool.or_false, Bool.false_or, Bool.and_self, go_sem, hq, Int.reduceToNat, Nat.reduceBEq, Nat.reduceEqDiff, Nat.reduceAdd, Nat.reduceMul, Nat.reduceLeDiff, Nat.reduceLT, Nat.reduceSub, ↓reduceIte, reduceCtorEq]
  refine ⟨_, _, _, (k152 vars rows l v hr hv hn hll k hk s hs d hd es hu (hwl k hk s hs)).1 hp1, ?_⟩
  simp (maxSteps := 4000000) (disch := first | assumption | omega | (simp only [go_sem, *]; done) | (simp only [go_sem, *]; omega)) only [V.mapL, V.map, gJ, footJ, inJ, AObj.map, ndJ, ltJ, V.domL, V.dom, AObj.dom, kC, kR, AObj.isC, hJ, backJ, List.any_cons, List.any_nil, Nat.ble_eq, Nat.blt_eq, Nat.reduceLT, Nat.reduceLeDiff, Bool.or_true, Bool.true_or, Bool.or_false, Bool.false_or, Bool.and_self, go_sem, hq, Int.reduceToNat, Nat.reduceBEq, Nat.reduceEqDiff, Nat.reduceAdd, Nat.reduceMul, Nat.reduceLeDiff, Nat.reduceLT, Nat.reduceSub, ↓reduceIte, reduceCtorEq]
  (repeat (refine And.intro (by first | assumption | omega | decide | (simp; done) | (simp; omega) | (have hq := hvv hgt; omega) | (have hq := hvv hgt.1; omega) | (simp_all; done)) ?_))
  refine hKq _ ?_; clear hKq Kq
  first | refine evR_e hK ?_ | refine evR_e (fun s h => hK s (Or.inr ⟨by first | exact wk_leafT hs ht1 hp1 | exact hend, h⟩)) ?_
  clear hK K
  refine hK5 _ ?_
  refine tr_ret ?_
  (try simp only [thenE, inBlkE])
  all_goals first | refine Or.inr (And.intro (by first | exact wk_leafT hs ht1 hp1 | exact hend) ?_) | skip
  all_goals first | refine ⟨_, Wk.cut 2 rfl, ?_⟩
  simp (maxSteps := 4000000) (disch := first | assumption | omega | (simp only [go_sem, *]; done) | (simp only [go_sem, *]; omega)) only [postM, ghOK, gv, St.ren, St.cut, V.ren, V.renL, AObj.ren, Nat.blt_eq, resV1, go_sem, hq, Int.reduceToNat, Nat.reduceBEq, Nat.reduceEqDiff, Nat.reduceAdd, Nat.reduceMul, Nat.reduceLeDiff, Nat.reduceLT, Nat.reduceSub, ↓reduceIte, reduceCtorEq]
  all_goals (first | rw [us_case hs ht1 hno hyes] | rw [us_leaf hs ht1])
 ·
  skip
  refine tr_skip ?_
  (try simp only [thenE, inBlkE])
  refine hK3 _ ?_
  refine tr_seq fun K6 hK6 => ?_
  by_cases hp2 : (isInB s.var 0 (vars - 1) && decide (d.getD s.var.toNat 0 = 0) && decide ((s.ws.length : Int) = 0)) = true
  rotate_left 1
  ·
   skip
   refine tr_drawP (x := wr (k : Nat)) [] mixed rfl (by kernel_rfl) (by kernel_rfl) rfl fun K hK => ?_
   refine evQ_p ?_
   refine evQ_p ?_
   refine evQ_p ?_
   refine evQ_p ?_
   refine evQ_p ?_
   refine evQ_p ?_
   refine evQ_p ?_
   refine evQ_c (hc := (k75 _ _ _)) (k := ?_)
   refine evQ_p ?_
   refine evQ_g ?_
   refine evQ_g ?_
   refine evQ_g ?_
   refine evQ_g ?_
   refine evQ_g ?_
   refine evQ_p ?_
   refine evQ_p ?_
   refine evQ_g ?_
   refine evQ_g ?_
   refine evQ_g ?_
   refine evQ_g ?_
   refine evQ_p ?_
   refine evQ_p ?_
   simp only [evQ]
   simp (maxSteps := 4000000) (disch := first | assumption | omega | (simp only [go_sem, *]; done) | (simp only [go_sem, *]; omega)) only [stpP, go_sem, hq, Int.reduceToNat, Nat.reduceBEq, Nat.reduceEqDiff, Nat.reduceAdd, Nat.reduceMul, Nat.reduceLeDiff, Nat.reduceLT, Nat.reduceSub, ↓reduceIte, reduceCtorEq]
   (repeat (refine And.intro (by first | assumption | omega | decide | (simp; done) | (simp; omega) | (have hq := hvv hgt; omega) | (have hq := hvv hgt.1; omega) | (simp_all; done)) ?_))
   refine ⟨[], ?_⟩
   simp (maxSteps := 4000000) (disch := first | assumption | omega | (simp only [go_sem, *]; done) | (simp only [go_sem, *]; omega)) only [V.mapL, V.map, gJ, footJ, inJ, AObj.map, ndJ, ltJ, V.domL, V.dom, AObj.dom, kC, kR, AObj.isC, hJ, backJ, List.any_cons, List.any_nil, Nat.ble_eq, Nat.blt_eq, Nat.reduceLT, Nat.reduceLeDiff, Bool.or_true, Bool.true_or, Bool.or_false, Bool.false_or, Bool.and_self, go_sem, hq, Int.reduceToNat, Nat.reduceBEq, Nat.reduceEqDiff, Nat.reduceAdd, Nat.reduceMul, Nat.reduceLeDiff, Nat.reduceLT, Nat.reduceSub, ↓reduceIte, reduceCtorEq]
   refine And.intro (by exact (needF _ _ (Bool.eq_false_iff.2 hp2))) ?_
   (repeat (refine And.intro (by first | assumption | omega | decide | (simp; done) | (simp; omega) | (have hq := hvv hgt; omega) | (have hq := hvv hgt.1; omega) | (simp_all; done)) ?_))
   refine hK _ ?_; clear hK K
   obtain ⟨hb1, hb2⟩ := wk_caseF (rows := rows) (n := n) hs ht1 (by rw [hcs]; exact hp2); exact Or.inl ⟨hb1, by rw [hb2]⟩
  have hcT : caseOk vars s d = true := by rw [hcs]; exact hp2
  obtain ⟨vn, hvn, hvl⟩ := case_nats (by omega) hcT
  refine tr_draw [] [0, 1, 5, 6, 1000000, 1000001] mixed rfl (by kernel_rfl) rfl fun K hK => ?_
  iterate 7 refine evD_p ?_
  refine evD_c (hc := (k75 _ _ _)) (k := ?_)
  refine evD_p ?_
  iterate 5 refine evD_g ?_
  iterate 2 refine evD_p ?_
  iterate 4 refine evD_g ?_
  iterate 2 refine evD_p ?_
  refine evD_c (hc := (needT _ _ hp2)) (k := ?_)
  first | refine evD_e hK ?_ | refine evD_e (fun s h => hK s (Or.inr ⟨by first | exact wk_leafT hs ht1 hp1 | exact hend, h⟩)) ?_
  clear hK K
  refine hK6 _ ?_
  refine tr_seq fun K7 hK7 => ?_
  by_cases hp3 : (isInB s.no ((k : Int) + 1) ((l.length : Int) - 1) && isInB s.yes ((k : Int) + 1) ((l.length : Int) - 1)) = true
  rotate_left 1
  ·
   skip
   refine tr_drawP (x := wr (k : Nat)) [] mixed rfl (by kernel_rfl) (by kernel_rfl) rfl fun K hK => ?_
   refine evQ_p ?_
   refine evQ_p ?_
   refine evQ_p ?_
   refine evQ_p ?_
   refine evQ_p ?_
   refine evQ_p ?_
   refine evQ_p ?_
   refine evQ_p ?_
   refine evQ_p ?_
   refine evQ_p ?_
   refine evQ_c (hc := (k75 _ _ _)) (k := ?_)
   refine evQ_p ?_
   refine evQ_g ?_
   refine evQ_g ?_
   refine evQ_g ?_
   refine evQ_g ?_
   refine evQ_g ?_
   refine evQ_g ?_
   refine evQ_g ?_
   refine evQ_g ?_
   refine evQ_g ?_
   refine evQ_g ?_
   refine evQ_gc (hc := (k75 _ _ _)) (k := ?_)
   refine evQ_p ?_
   refine evQ_p ?_
   simp only [evQ]
   simp (maxSteps := 4000000) (disch := first | assumption | omega | (simp only [go_sem, *]; done) | (simp only [go_sem, *]; omega)) only [stpP, go_sem, hq, Int.reduceToNat, Nat.reduceBEq, Nat.reduceEqDiff, Nat.reduceAdd, Nat.reduceMul, Nat.reduceLeDiff, Nat.reduceLT, Nat.reduceSub, ↓reduceIte, reduceCtorEq]
   (repeat (refine And.intro (by first | assumption | omega | decide | (simp; done) | (simp; omega) | (have hq := hvv hgt; omega) | (have hq := hvv hgt.1; omega) | (simp_all; done)) ?_))
   refine ⟨[], ?_⟩
   simp (maxSteps := 4000000) (disch := first | assumption | omega | (simp only [go_sem, *]; done) | (simp only [go_sem, *]; omega)) only [V.mapL, V.map, gJ, footJ, inJ, AObj.map, ndJ, ltJ, V.domL, V.dom, AObj.dom, kC, kR, AObj.isC, hJ, backJ, List.any_cons, List.any_nil, Nat.ble_eq, Nat.blt_eq, Nat.reduceLT, Nat.reduceLeDiff, Bool.or_true, Bool.true_or, Bool.or_false, Bool.false_or, Bool.and_self, go_sem, hq, Int.reduceToNat, Nat.reduceBEq, Nat.reduceEqDiff, Nat.reduceAdd, Nat.reduceMul, Nat.reduceLeDiff, Nat.reduceLT, Nat.reduceSub, ↓reduceIte, reduceCtorEq]
   refine And.intro (by exact (needF _ _ (Bool.eq_false_iff.2 hp3))) ?_
   (repeat (refine And.intro (by first | assumption | omega | decide | (simp; done) | (simp; omega) | (have hq := hvv hgt; omega) | (have hq := hvv hgt.1; omega) | (simp_all; done)) ?_))
   refine hK _ ?_; clear hK K
   obtain ⟨hb1, hb2⟩ := wk_goesF (rows := rows) (n := n) hs ht1 hcT hp3; exact Or.inl ⟨hb1, by rw [hb2]⟩
  have hgT : goesOk l s k = true := hp3
  obtain ⟨no, yes, hno, hyes, hkno, hkyes, hnl, hyl⟩ := goes_nats hgT
  replace hq := And.intro hq (And.intro hvn hvl)
  refine tr_draw [] [0, 5, 6, 1000000, 1000001] mixed rfl (by kernel_rfl) rfl fun K hK => ?_
  iterate 10 refine evD_p ?_
  refine evD_c (hc := (k75 _ _ _)) (k := ?_)
  refine evD_p ?_
  iterate 10 refine evD_g ?_
  refine evD_gc (hc := (k75 _ _ _)) (k := ?_)
  iterate 2 refine evD_p ?_
  refine evD_c (hc := (needT _ _ hp3)) (k := ?_)
  first | refine evD_e hK ?_ | refine evD_e (fun s h => hK s (Or.inr ⟨by first | exact wk_leafT hs ht1 hp1 | exact hend, h⟩)) ?_
  clear hK K
  refine hK7 _ ?_
  refine tr_seq fun K8 hK8 => ?_
  refine tr_region [0, 5, 6, 1000000, 1000001] rfl rfl fun K hK => ?_
  iterate 4 refine evR_p ?_
  first | refine evR_e hK ?_ | refine evR_e (fun s h => hK s (Or.inr ⟨by first | exact wk_leafT hs ht1 hp1 | exact hend, h⟩)) ?_
  clear hK K
  refine hK8 _ ?_
  refine tr_seq fun K9 hK9 => ?_
  by_cases hp4 : wkB vars rows l n no (d.set vn (-1)) = true
  rotate_left 1
  ·
   skip
   replace hq := And.intro hq (And.intro hno hyes)
   refine tr_regionP (x := wr (wkX vars rows l n no (d.set vn (-1)))) rfl rfl fun K hK => ?_
   refine evP_p ?_
   refine evP_p ?_
   refine evP_p ?_
   refine evP_p ?_
   refine evP_end ?_
   simp (maxSteps := 4000000) (disch := first | assumption | omega | (simp only [go_sem, *]; done) | (simp only [go_sem, *]; omega)) only [stpP, go_sem, hq, Int.reduceToNat, Nat.reduceBEq, Nat.reduceEqDiff, Nat.reduceAdd, Nat.reduceMul, Nat.reduceLeDiff, Nat.reduceLT, Nat.reduceSub, ↓reduceIte, reduceCtorEq]
   (repeat (refine And.intro (by first | assumption | omega | decide | (simp; done) | (simp; omega) | (have hq := hvv hgt; omega) | (have hq := hvv hgt.1; omega) | (simp_all; done)) ?_))
   refine ⟨[0, 1], ?_⟩
   simp (maxSteps := 4000000) (disch := first | assumption | omega | (simp only [go_sem, *]; done) | (simp only [go_sem, *]; omega)) only [V.mapL, V.map, gJ, footJ, inJ, AObj.map, ndJ, ltJ, V.domL, V.dom, AObj.dom, kC, kR, AObj.isC, hJ, backJ, List.any_cons, List.any_nil, Nat.ble_eq, Nat.blt_eq, Nat.reduceLT, Nat.reduceLeDiff, Bool.or_true, Bool.true_or, Bool.or_false, Bool.false_or, Bool.and_self, go_sem, hq, Int.reduceToNat, Nat.reduceBEq, Nat.reduceEqDiff, Nat.reduceAdd, Nat.reduceMul, Nat.reduceLeDiff, Nat.reduceLT, Nat.reduceSub, ↓reduceIte, reduceCtorEq]
   refine And.intro (by exact (ih no (d.set vn (-1)) es hnl (by omega) (by simp [hd]) hu).2 (Bool.eq_false_iff.2 hp4)) ?_
   (repeat (refine And.intro (by first | assumption | omega | decide | (simp; done) | (simp; omega) | (have hq := hvv hgt; omega) | (have hq := hvv hgt.1; omega) | (simp_all; done)) ?_))
   refine hK _ ?_; clear hK K
   obtain ⟨hb1, hb2⟩ := wk_noF hs ht1 hcT hgT hvn hno hyes hp4; exact Or.inl ⟨hb1, by rw [hb2]⟩
  replace hq := And.intro hq (And.intro hno hyes)
  have hu2 := usN_ok n no _ es hu (wkB_none hp4)
  obtain ⟨hy1, hy2⟩ := wk_yes hs ht1 hcT hgT hvn hno hyes hp4
  refine tr_region [0, 5, 6, 1000000, 1000001] rfl rfl fun K hK => ?_
  iterate 4 refine evR_p ?_
  refine evR_stepX fun Kq hKq => Or.inr ?_
  simp (maxSteps := 4000000) (disch := first | assumption | omega | (simp only [go_sem, *]; done) | (simp only [go_sem, *]; omega)) only [stpM, go_sem, hq, Int.reduceToNat, Nat.reduceBEq, Nat.reduceEqDiff, Nat.reduceAdd, Nat.reduceMul, Nat.reduceLeDiff, Nat.reduceLT, Nat.reduceSub, ↓reduceIte, reduceCtorEq]
  refine ⟨[0, 1], ?_⟩
  simp (maxSteps := 4000000) (disch := first | assumption | omega | (simp only [go_sem, *]; done) | (simp only [go_sem, *]; omega)) only [V.mapL, V.map, gJ, footJ, inJ, AObj.map, ndJ, ltJ, V.domL, V.dom, AObj.dom, kC, kR, AObj.isC, hJ, backJ, List.any_cons, List.any_nil, Nat.ble_eq, Nat.blt_eq, Nat.reduceLT, Nat.reduceLeDiff, Bool.or_true, Bool.true_or, Bool.or_false, Bool.false_or, Bool.and_self, go_sem, hq, Int.reduceToNat, Nat.reduceBEq, Nat.reduceEqDiff, Nat.reduceAdd, Nat.reduceMul, Nat.reduceLeDiff, Nat.reduceLT, Nat.reduceSub, ↓reduceIte, reduceCtorEq]
  refine ⟨_, _, _, (ih no (d.set vn (-1)) es hnl (by omega) (by simp [hd]) hu).1 hp4, ?_⟩
  simp (maxSteps := 4000000) (disch := first | assumption | omega | (simp only [go_sem, *]; done) | (simp only [go_sem, *]; omega)) only [V.mapL, V.map, gJ, footJ, inJ, AObj.map, ndJ, ltJ, V.domL, V.dom, AObj.dom, kC, kR, AObj.isC, hJ, backJ, List.any_cons, List.any_nil, Nat.ble_eq, Nat.blt_eq, Nat.reduceLT, Nat.reduceLeDiff, Bool.or_true, Bool.true_or, Bool.or_false, Bool.false_or, Bool.and_self, go_sem, hq, Int.reduceToNat, Nat.reduceBEq, Nat.reduceEqDiff, Nat.reduceAdd, Nat.reduceMul, Nat.reduceLeDiff, Nat.reduceLT, Nat.reduceSub, ↓reduceIte, reduceCtorEq]
  (repeat (refine And.intro (by first | assumption | omega | decide | (simp; done) | (simp; omega) | (have hq := hvv hgt; omega) | (have hq := hvv hgt.1; omega) | (simp_all; done)) ?_))
  refine hKq _ ?_; clear hKq Kq
  first | refine evR_e hK ?_ | refine evR_e (fun s h => hK s (Or.inr ⟨by first | exact wk_leafT hs ht1 hp1 | exact hend, h⟩)) ?_
  clear hK K
  refine hK9 _ ?_
  refine tr_seq fun K10 hK10 => ?_
  refine tr_region [0, 5, 6, 1000000, 1000001] rfl rfl fun K hK => ?_
  iterate 4 refine evR_p ?_
  first | refine evR_e hK ?_ | refine evR_e (fun s h => hK s (Or.inr ⟨by first | exact wk_leafT hs ht1 hp1 | exact hend, h⟩)) ?_
  clear hK K
  refine hK10 _ ?_
  by_cases hp5 : wkB vars rows l n yes (d.set vn 1) = true
  rotate_left 1
  ·
   skip
   refine tr_regionP (x := wr (wkX vars rows l n yes (d.set vn 1))) rfl rfl fun K hK => ?_
   refine evP_p ?_
   refine evP_p ?_
   refine evP_p ?_
   refine evP_p ?_
   refine evP_end ?_
   simp (maxSteps := 4000000) (disch := first | assumption | omega | (simp only [go_sem, *]; done) | (simp only [go_sem, *]; omega)) only [stpP, go_sem, hq, Int.reduceToNat, Nat.reduceBEq, Nat.reduceEqDiff, Nat.reduceAdd, Nat.reduceMul, Nat.reduceLeDiff, Nat.reduceLT, Nat.reduceSub, ↓reduceIte, reduceCtorEq]
   (repeat (refine And.intro (by first | assumption | omega | decide | (simp; done) | (simp; omega) | (have hq := hvv hgt; omega) | (have hq := hvv hgt.1; omega) | (simp_all; done)) ?_))
   refine ⟨[0, 1], ?_⟩
   simp (maxSteps := 4000000) (disch := first | assumption | omega | (simp only [go_sem, *]; done) | (simp only [go_sem, *]; omega)) only [V.mapL, V.map, gJ, footJ, inJ, AObj.map, ndJ, ltJ, V.domL, V.dom, AObj.dom, kC, kR, AObj.isC, hJ, backJ, List.any_cons, List.any_nil, Nat.ble_eq, Nat.blt_eq, Nat.reduceLT, Nat.reduceLeDiff, Bool.or_true, Bool.true_or, Bool.or_false, Bool.false_or, Bool.and_self, go_sem, hq, Int.reduceToNat, Nat.reduceBEq, Nat.reduceEqDiff, Nat.reduceAdd, Nat.reduceMul, Nat.reduceLeDiff, Nat.reduceLT, Nat.reduceSub, ↓reduceIte, reduceCtorEq]
   refine And.intro (by exact (ih yes (d.set vn 1) (usN l n no es) hyl (by omega) (by simp [hd]) hu2).2 (Bool.eq_false_iff.2 hp5)) ?_
   (repeat (refine And.intro (by first | assumption | omega | decide | (simp; done) | (simp; omega) | (have hq := hvv hgt; omega) | (have hq := hvv hgt.1; omega) | (simp_all; done)) ?_))
   refine hK _ ?_; clear hK K
   exact Or.inl ⟨by rw [hy1]; exact Bool.eq_false_iff.2 hp5, by rw [hy2]⟩
  have hend : wkB vars rows l (n + 1) k d = true := by rw [hy1]; exact hp5
  refine tr_region [1000000, 1000001] rfl rfl fun K hK => ?_
  iterate 4 refine evR_p ?_
  refine evR_stepX fun Kq hKq => Or.inr ?_
  simp (maxSteps := 4000000) (disch := first | assumption | omega | (simp only [go_sem, *]; done) | (simp only [go_sem, *]; omega)) only [stpM, go_sem, hq, Int.reduceToNat, Nat.reduceBEq, Nat.reduceEqDiff, Nat.reduceAdd, Nat.reduceMul, Nat.reduceLeDiff, Nat.reduceLT, Nat.reduceSub, ↓reduceIte, reduceCtorEq]
  refine ⟨[0, 1], ?_⟩
  simp (maxSteps := 4000000) (disch := first | assumption | omega | (simp only [go_sem, *]; done) | (simp only [go_sem, *]; omega)) only [V.mapL, V.map, gJ, footJ, inJ, AObj.map, ndJ, ltJ, V.domL, V.dom, AObj.dom, kC, kR, AObj.isC, hJ, backJ, List.any_cons, List.any_nil, Nat.ble_eq, Nat.blt_eq, Nat.reduceLT, Nat.reduceLeDiff, Bool.or_true, Bool.true_or, Bool.or_false, Bool.false_or, Bool.and_self, go_sem, hq, Int.reduceToNat, Nat.reduceBEq, Nat.reduceEqDiff, Nat.reduceAdd, Nat.reduceMul, Nat.reduceLeDiff, Nat.reduceLT, Nat.reduceSub, ↓reduceIte, reduceCtorEq]
  refine ⟨_, _, _, (ih yes (d.set vn 1) (usN l n no es) hyl (by omega) (by simp [hd]) hu2).1 hp5, ?_⟩
  simp (maxSteps := 4000000) (disch := first | assumption | omega | (simp only [go_sem, *]; done) | (simp only [go_sem, *]; omega)) only [V.mapL, V.map, gJ, footJ, inJ, AObj.map, ndJ, ltJ, V.domL, V.dom, AObj.dom, kC, kR, AObj.isC, hJ, backJ, List.any_cons, List.any_nil, Nat.ble_eq, Nat.blt_eq, Nat.reduceLT, Nat.reduceLeDiff, Bool.or_true, Bool.true_or, Bool.or_false, Bool.false_or, Bool.and_self, go_sem, hq, Int.reduceToNat, Nat.reduceBEq, Nat.reduceEqDiff, Nat.reduceAdd, Nat.reduceMul, Nat.reduceLeDiff, Nat.reduceLT, Nat.reduceSub, ↓reduceIte, reduceCtorEq]
  (repeat (refine And.intro (by first | assumption | omega | decide | (simp; done) | (simp; omega) | (have hq := hvv hgt; omega) | (have hq := hvv hgt.1; omega) | (simp_all; done)) ?_))
  refine hKq _ ?_; clear hKq Kq
  first | refine evR_e hK ?_ | refine evR_e (fun s h => hK s (Or.inr ⟨by first | exact wk_leafT hs ht1 hp1 | exact hend, h⟩)) ?_
  clear hK K
  all_goals first | refine Or.inr (And.intro (by first | exact wk_leafT hs ht1 hp1 | exact hend) ?_) | skip
  all_goals first | refine ⟨_, Wk.cut 2 rfl, ?_⟩
  simp (maxSteps := 4000000) (disch := first | assumption | omega | (simp only [go_sem, *]; done) | (simp only [go_sem, *]; omega)) only [postM, ghOK, gv, St.ren, St.cut, V.ren, V.renL, AObj.ren, Nat.blt_eq, resV1, go_sem, hq, Int.reduceToNat, Nat.reduceBEq, Nat.reduceEqDiff, Nat.reduceAdd, Nat.reduceMul, Nat.reduceLeDiff, Nat.reduceLT, Nat.reduceSub, ↓reduceIte, reduceCtorEq]
  all_goals (first | rw [us_case hs ht1 hno hyes] | rw [us_leaf hs ht1])
end
theorem k118 (vars : Int) (rows : List Rw) (l : List Sg) (v : Nat) (hvv0 : 0 ≤ vars ∧ vars ≤ 12) (hr : ∀ r ∈ rows, okRw v r) (hv : v ≤ 12) (hn : rows.length ≤ 301) (hll : l.length ≤ 8192) (hwl : ∀ k, k < l.length → ∀ s, l.getD k sg0 = s → s.ws.length ≤ maxLen) : ∀ (n k : Nat) (d : List Int) (es : List (Int × Bool)), k < l.length → l.length ≤ k + n → d.length = 12 → okU rows.length es → (wkB vars rows l n k d = true → CallsM Try.prog 118 [.ptr 0 0, .int .i64 (k : Nat), .agg (cellsI d)] [(0, .cells [.int .i64 vars, .sl 6 (encR rows), .sl 4 (encSgs l), .mp 1]), (1, .dict es)] 2 (.tup []) [(0, .cells [.int .i64 vars, .sl 6 (encR rows), .sl 4 (encSgs l), .mp 1]), (1, .dict (usN l n k es))] 2) ∧ (wkB vars rows l n k d = false → CallsP Try.prog 118 [.ptr 0 0, .int .i64 (k : Nat), .agg (cellsI d)] [(0, .cells [.int .i64 vars, .sl 6 (encR rows), .sl 4 (encSgs l), .mp 1]), (1, .dict es)] 2 (wr (wkX vars rows l n k d)))
 | 0, k, d, es, hk, hkn, hd, hu => by omega
 | n + 1, k, d, es, hk, hkn, hd, hu => k118s vars rows l v hvv0 hr hv hn hll hwl n (k118 vars rows l v hvv0 hr hv hn hll hwl n) k d es hk hkn hd hu _ rfl

end Go.Proofs.Ytfamkbofdamkkaa
namespace Go.Proofs.Ytfamkbofdamkkaa
open Go.RowKit (wrap32 wrap64)
set_option linter.unusedVariables false
set_option linter.unusedSimpArgs false
theorem as_no (w : World) : (Instr.typeAssert .nilIface 20 153 true).run Try.prog w = .ok (.tuple #[.agg #[.int .i64 0], .bool false]) w := by kernel_rfl
theorem as_yes (v : Value) (w : World) : (Instr.typeAssert (.iface 153 v) 20 153 true).run Try.prog w = .ok (.tuple #[v, .bool true]) w := by kernel_rfl
theorem heap_alloc_lt {w : World} {o : Obj} {b : Nat} (h : b < w.heap.size) : (w.alloc o).heap[b]? = w.heap[b]? := by
 show (w.heap.push o)[b]? = w.heap[b]?
 rw [Array.getElem?_push, if_neg (Nat.ne_of_lt h)]
theorem below_alloc1 (w : World) (o : Obj) : RowKit.Below w.heap.size w (w.alloc o) := ⟨rfl, rfl, rfl, by show w.heap.size ≤ (w.heap.push o).size; simp, fun b hb => heap_alloc_lt hb⟩
set_option maxRecDepth 100000 in
theorem idle116 : IdleD Try.prog 116 := by
 intro b1 b2 w
 refine callsDIn_of_wpSIn Try.func116 rfl trivial fun c₀ cs hu => ?_
 apply wpSIn_seq
 apply wpSIn_region
 simp [wpOpsSIn, go_sem, recoverD, hu, Try.ntmps116, Exit.thenS, as_no]
 apply wpSIn_seq
 apply wpSIn_region
 simp [wpOpsSIn, go_sem, Exit.thenS]
 refine wpSIn_cond (t := false) (by simp [Act.eval, Array.replicate]) ?_
 simp only [Bool.false_eq_true, if_false]
 refine wpSIn_of_wpIn rfl (wpIn_skip ?_)
 have hb := below_alloc1 w (.cells #[.int .i64 0] 153)
 cases c₀
 simp_all [bodyPostS, results, Try.results116]
set_option maxRecDepth 100000 in
theorem catch116 : CatchD Try.prog 116 wr := by
 intro b1 b2 n w v1 v2 e1 e2 h1 h2 hne
 have hl1 := lt_of_block h1
 have hl2 := lt_of_block h2
 refine callsDIn_of_wpSIn Try.func116 rfl trivial fun c₀ cs hu => ?_
 apply wpSIn_seq
 apply wpSIn_region
 simp [wpOpsSIn, go_sem, recoverD, hu, Try.ntmps116, Exit.thenS, as_yes, wr]
 apply wpSIn_seq
 apply wpSIn_region
 simp [wpOpsSIn, go_sem, Exit.thenS]
 refine wpSIn_cond (t := true) (by simp [Act.eval, Array.replicate]) ?_
 simp only [if_true]
 have a1 : (w.alloc (.cells #[.int .i64 n] 153)).heap[b1]? = some (.cells #[v1] e1 (0, 0)) := by rw [heap_alloc_lt hl1]; exact h1
 have a2 : (w.alloc (.cells #[.int .i64 n] 153)).heap[b2]? = some (.cells #[v2] e2 (0, 0)) := by rw [heap_alloc_lt hl2]; exact h2
 have ha := below_alloc1 w (.cells #[.int .i64 n] 153)
 have hr : (w.alloc (.cells #[.int .i64 n] 153)).cell? ⟨w.heap.size, 0, none⟩ = some (.int .i64 n) := by simp [go_sem]
 have hrz : (w.alloc (.cells #[.int .i64 n] 153)).frozen? ⟨w.heap.size, 0, none⟩ = false := by simp [go_sem]
 generalize w.alloc (.cells #[.int .i64 n] 153) = W1 at *
 have c1 := cell_of_one a1
 have z1 := free_of_one a1
 have a3 : (W1.setCell ⟨b1, 0, none⟩ (.int .i64 n)).heap[b2]? = some (.cells #[v2] e2 (0, 0)) := by rw [RowKit.Below.heap_setCell _ _ _ _ (fun h => hne h.symm)]; exact a2
 have c2 := cell_of_one a3
 have z2 := free_of_one a3
 have f1 := one_setCell (u := .int .i64 n) a1
 have f2 := one_setCell (u := .map none) a3
 have f1' : ((W1.setCell ⟨b1, 0, none⟩ (.int .i64 n)).setCell ⟨b2, 0, none⟩ (.map none)).heap[b1]? = some (.cells #[.int .i64 n] e1 (0, 0)) := by rw [RowKit.Below.heap_setCell _ _ _ _ hne]; exact f1
 have fo : ∀ k, k < w.heap.size → ¬k = b1 → ¬k = b2 → ((W1.setCell ⟨b1, 0, none⟩ (.int .i64 n)).setCell ⟨b2, 0, none⟩ (.map none)).heap[k]? = w.heap[k]? := fun k hk g1 g2 => by
  rw [RowKit.Below.heap_setCell _ _ _ _ g2, RowKit.Below.heap_setCell _ _ _ _ g1]; exact ha.block k hk
 have fs : w.heap.size ≤ ((W1.setCell ⟨b1, 0, none⟩ (.int .i64 n)).setCell ⟨b2, 0, none⟩ (.map none)).heap.size := by
  rw [show ((W1.setCell ⟨b1, 0, none⟩ (.int .i64 n)).setCell ⟨b2, 0, none⟩ (.map none)).heap.size = W1.heap.size from by simp [World.setCell]]; exact ha.size
 have g1 : ((W1.setCell ⟨b1, 0, none⟩ (.int .i64 n)).setCell ⟨b2, 0, none⟩ (.map none)).os = w.os := ha.os
 have g2 : ((W1.setCell ⟨b1, 0, none⟩ (.int .i64 n)).setCell ⟨b2, 0, none⟩ (.map none)).tape = w.tape := ha.tape
 have g3 : ((W1.setCell ⟨b1, 0, none⟩ (.int .i64 n)).setCell ⟨b2, 0, none⟩ (.map none)).output = w.output := ha.output
 apply wpSIn_region
 simp [wpOpsSIn, go_sem, hr, hrz, c1, z1, c2, z2, bodyPostS, results, Try.results116]
 exact ⟨g1, ha.tape, g3, ha.size, fo, f1', f2⟩
end Go.Proofs.Ytfamkbofdamkkaa
namespace Go.Proofs.Ytfamkbofdamkkaa
open Go.RowKit
set_option linter.unusedVariables false
set_option linter.unusedSimpArgs false
set_option maxRecDepth 100000
attribute [local go_sem] Nat.zero_add Nat.add_zero Nat.mul_one eq_self ne_eq not_true_eq_false not_false_eq_true decide_true decide_false decide_not Bool.false_eq_true List.filter_cons List.filter_nil true_and and_true beq_false beq_true Bool.not_true Bool.not_false Bool.and_true Bool.true_and Option.getD_some Option.getD_none imp_self implies_true Int.toNat_natCast List.cons_append List.nil_append List.map_cons List.map_nil List.length_cons List.length_nil List.getD_cons_zero List.getD_cons_succ List.drop_zero List.drop_succ_cons List.take_succ_cons List.take_zero
attribute [local go_sem] shL isSh Option.isNone_none Option.isNone_some Option.isSome_none lowN lowQ lowM isAl appOwn unw appF isE isO stpO notIn St.bare evO evDO isEff stp St.get St.slot St.put List.lookup un unL ofVal gof nth pickV pkB_false pkB_true binV unV loadV idxV fldV partV buildV fillV lenV sliV appV appR rowsV winV V.parts V.okp V.sc Mem.look_cons Mem.look_nil V.cl V.clL AObj.clo fzAll exps St.fz Mem.fz V.fz V.fzL AObj.fz Option.isSome_some Option.isSome_none Bool.or_true Bool.true_or Bool.or_false Bool.false_or false_and and_false false_or or_false arT_104 arT_121 arT_160 arT_161 arT_22 arT_23 arT_24 arT_25 arT_28 arT_29 arT_30 arT_40 arT_42 arT_52 arT_60 arT_65 arT_72 arT_73 arT_76 arT_9 arT_90 boolT_182 boolT_25 boolT_3 boolT_35 boolT_4 boolT_76 flatT_182 flatT_25 flatT_3 flatT_35 flatT_4 flatT_76 intT_133 intT_169 intT_171 intT_188 intT_3 intT_5 lay_104 lay_112 lay_138 lay_141 lay_153 lay_160 lay_161 lay_164 lay_188 lay_23 lay_24 lay_25 lay_27 lay_28 lay_3 lay_30 lay_34 lay_4 lay_49 lay_52 lay_54 lay_56 lay_65 lay_67 lay_73 lay_76 lay_90 lay_99 mapT_112 okF_10 okF_100 okF_101 okF_102 okF_103 okF_104 okF_105 okF_106 okF_107 okF_108 okF_109 okF_11 okF_110 okF_111 okF_112 okF_113 okF_114 okF_115 okF_116 okF_117 okF_118 okF_119 okF_12 okF_120 okF_121 okF_122 okF_123 okF_124 okF_125 okF_126 okF_127 okF_128 okF_129 okF_13 okF_130 okF_131 okF_132 okF_133 okF_134 okF_135 okF_136 okF_137 okF_138 okF_139 okF_14 okF_140 okF_141 okF_142 okF_143 okF_144 okF_145 okF_146 okF_147 okF_148 okF_149 okF_15 okF_150 okF_151 okF_152 okF_153 okF_154 okF_155 okF_156 okF_157 okF_158 okF_159 okF_16 okF_160 okF_161 okF_162 okF_163 okF_164 okF_165 okF_166 okF_167 okF_168 okF_169 okF_17 okF_170 okF_171 okF_172 okF_173 okF_174 okF_175 okF_176 okF_177 okF_18 okF_19 okF_20 okF_21 okF_22 okF_23 okF_24 okF_25 okF_26 okF_27 okF_28 okF_29 okF_3 okF_30 okF_31 okF_32 okF_33 okF_34 okF_35 okF_36 okF_37 okF_38 okF_39 okF_4 okF_40 okF_41 okF_42 okF_43 okF_44 okF_45 okF_46 okF_47 okF_48 okF_49 okF_5 okF_50 okF_51 okF_52 okF_53 okF_54 okF_55 okF_56 okF_57 okF_58 okF_59 okF_6 okF_60 okF_61 okF_62 okF_63 okF_64 okF_65 okF_66 okF_67 okF_68 okF_69 okF_7 okF_70 okF_71 okF_72 okF_73 okF_74 okF_75 okF_76 okF_77 okF_78 okF_79 okF_8 okF_80 okF_81 okF_82 okF_83 okF_84 okF_85 okF_86 okF_87 okF_88 okF_89 okF_9 okF_90 okF_91 okF_92 okF_93 okF_94 okF_95 okF_96 okF_97 okF_98 okF_99 plT_138 plT_153 plT_157 plT_161 plT_27 plT_34 plT_54 plT_56 plT_67 plT_76 plT_90 plT_99 slT_104 slT_121 slT_160 slT_161 slT_22 slT_23 slT_24 slT_25 slT_28 slT_29 slT_30 slT_40 slT_42 slT_52 slT_60 slT_65 slT_72 slT_73 slT_76 slT_90 stT_138_0 stT_138_1 stT_153_0 stT_157_0 stT_157_1 stT_157_2 stT_157_3 stT_27_0 stT_27_1 stT_27_2 stT_34_0 stT_34_1 stT_34_2 stT_34_3 stT_54_0 stT_54_1 stT_54_2 stT_54_3 stT_56_0 stT_56_1 stT_67_1 stT_67_4 stT_67_5 stT_99_0 stT_99_1 strT_160 strT_76 strT_9 zeroT_112 zeroT_138 zeroT_153 zeroT_157 zeroT_160 zeroT_161 zeroT_188 zeroT_27 zeroT_3 zeroT_30 zeroT_34 zeroT_4 zeroT_49 zeroT_54 zeroT_56 zeroT_65 zeroT_67 zeroT_76 zeroT_90 zeroT_99
attribute [local go_sem] List.getElem?_cons_zero List.getElem?_cons_succ List.zip_cons_cons List.zip_nil_left List.zip_nil_right Bool.false_and Bool.and_false List.length_append List.length_set List.length_replicate List.all_cons List.all_nil encI_length encI_getD encR_length encR_getD encRw encPg spl shp AObj.shp rowM isSt isRpS isRd csh AObj.csh forall_const imp_self
attribute [local go_sem] encSg encW encSgs_length encWs_length encSgs_getD encWs_getD lookV lkM putM
attribute [local simp] encI_length encR_length cellsI_length encSgs_length encWs_length
set_option maxHeartbeats 16000000 in
theorem k68 (p : Pg) (hr0 : p.rows.length ≤ maxLen) (hg : p.gain.length ≤ maxLen) (hc : ∀ r ∈ p.rows, r.coef.length ≤ maxLen) (rows : List Rw) (l : List Sg) (hlm : l.length ≤ maxLen) (hwl : ∀ k, k < l.length → ∀ s, l.getD k sg0 = s → s.ws.length ≤ maxLen) (hvp : validB p = true → (0 ≤ p.vars ∧ p.vars ≤ 12) ∧ rows.length ≤ 301 ∧ ∀ r ∈ rows, okRw p.vars.toNat r) : CallsA Try.prog 68 [.agg (encPg p), .sl 6 (encR rows), .sl 4 (encSgs l)] (.tup [.int .i64 (wrongX p rows l), usedV p rows l]) := by
 rw [← checkR_eq]
 unfold maxLen at hlm
 have hq : True := trivial
 refine callsA_of_trD (p1 := 6) (p2 := 7) (t0 := 17) (ty1 := 3) (ty2 := 112) (wr := wr) Try.func68 rfl (Nat.le_of_ble_eq_true rfl) (by rw [Try.results68]) lay_3 lay_112 rfl okF_116 idle116 catch116 ?_
 simp only [Try.results68, envOf, Nat.reduceAdd]
 refine trD_seq fun KD1 hKD1 => ?_
 refine tr_region [1, 2, 3, 6, 7, 17] rfl rfl fun K hK => ?_
 iterate 3 refine evR_p ?_
 refine evR_e hK ?_; clear hK K
 refine hKD1 _ ?_
 refine trD_seq fun KD2 hKD2 => ?_
 refine tr_seq fun K1 hK1 => ?_
 refine tr_region [1, 2, 3, 6, 7, 16, 17] rfl rfl fun K hK => ?_
 refine evR_p ?_
 refine evR_c (hc := (k115 p hr0 hg hc)) (k := ?_)
 iterate 2 refine evR_p ?_
 iterate 3 refine evR_g ?_
 refine evR_p ?_
 refine evR_e hK ?_; clear hK K
 refine hK1 _ ?_
 refine tr_condB (fun ht1 => ?_) (fun ht1 => ?_)
 ·
  skip
  refine tr_seq fun K2 hK2 => ?_
  refine tr_region [6, 7, 17] rfl rfl fun K hK => ?_
  iterate 2 refine evR_p ?_
  refine evR_e hK ?_; clear hK K
  refine hK2 _ ?_
  refine tr_ret ?_
  (try simp only [thenE, inBlkE])
  simp (maxSteps := 4000000) (disch := first | assumption | omega | (simp only [go_sem, *]; done) | (simp only [go_sem, *]; omega)) only [postA, postO, resV1, fzAll, go_sem, hq, Int.reduceToNat, Nat.reduceBEq, Nat.reduceEqDiff, Nat.reduceAdd, Nat.reduceMul, Nat.reduceLeDiff, Nat.reduceLT, Nat.reduceSub, ↓reduceIte, reduceCtorEq]
  all_goals (first | (rw [checkR_out ht1]; done) | (rw [checkR_good hval hll hlp hp2]; done))
 ·
  skip
  refine tr_skip ?_
  (try simp only [thenE, inBlkE])
  refine hKD2 _ ?_
  obtain ⟨hval, hl0⟩ := ht1
  have hll : l.length ≤ 8192 := by omega
  obtain ⟨⟨h0, h1⟩, hrn, hrw⟩ := hvp hval
  refine trD_defer [1, 2, 3, 6, 7, 17] rfl rfl fun K hK => ?_
  simp (maxSteps := 4000000) (disch := first | assumption | omega | (simp only [go_sem, *]; done) | (simp only [go_sem, *]; omega)) only [go_sem, hq, Int.reduceToNat, Nat.reduceBEq, Nat.reduceEqDiff, Nat.reduceAdd, Nat.reduceMul, Nat.reduceLeDiff, Nat.reduceLT, Nat.reduceSub, ↓reduceIte, reduceCtorEq]
  refine hK _ _ _ rfl (fun x => ?_); clear hK K
  simp only [St.norm, St.eqv, List.filterMap_cons, List.filterMap_nil, List.lookup, Option.map, Nat.reduceBEq, List.map_cons, List.map_nil, Nat.reduceEqDiff, ↓reduceIte]
  refine tr_seq fun K3 hK3 => ?_
  refine tr_region [2, 6, 7, 8, 17] rfl rfl fun K hK => ?_
  iterate 8 refine evR_p ?_
  refine evR_e hK ?_; clear hK K
  refine hK3 _ ?_
  refine tr_seq fun K4 hK4 => ?_
  by_cases hp1 : decide ((l.length : Int) > 0) = true
  rotate_left 1
  ·
   skip
   refine tr_regionP (x := wr 0) rfl rfl fun K hK => ?_
   refine evP_p ?_
   refine evP_p ?_
   refine evP_p ?_
   refine evP_end ?_
   simp (maxSteps := 4000000) (disch := first | assumption | omega | (simp only [go_sem, *]; done) | (simp only [go_sem, *]; omega)) only [stpP, go_sem, hq, Int.reduceToNat, Nat.reduceBEq, Nat.reduceEqDiff, Nat.reduceAdd, Nat.reduceMul, Nat.reduceLeDiff, Nat.reduceLT, Nat.reduceSub, ↓reduceIte, reduceCtorEq]
   (repeat (refine And.intro (by first | assumption | omega | decide | (simp; done) | (simp; omega) | (have hq := hvv hgt; omega) | (have hq := hvv hgt.1; omega) | (simp_all; done)) ?_))
   refine ⟨[], ?_⟩
   simp (maxSteps := 4000000) (disch := first | assumption | omega | (simp only [go_sem, *]; done) | (simp only [go_sem, *]; omega)) only [V.mapL, V.map, gJ, footJ, inJ, AObj.map, ndJ, ltJ, V.domL, V.dom, AObj.dom, kC, kR, AObj.isC, hJ, backJ, List.any_cons, List.any_nil, Nat.ble_eq, Nat.blt_eq, Nat.reduceLT, Nat.reduceLeDiff, Bool.or_true, Bool.true_or, Bool.or_false, Bool.false_or, Bool.and_self, go_sem, hq, Int.reduceToNat, Nat.reduceBEq, Nat.reduceEqDiff, Nat.reduceAdd, Nat.reduceMul, Nat.reduceLeDiff, Nat.reduceLT, Nat.reduceSub, ↓reduceIte, reduceCtorEq]
   refine And.intro (by exact (needF _ _ (Bool.eq_false_iff.2 hp1))) ?_
   (repeat (refine And.intro (by first | assumption | omega | decide | (simp; done) | (simp; omega) | (have hq := hvv hgt; omega) | (have hq := hvv hgt.1; omega) | (simp_all; done)) ?_))
   refine hK _ ?_; clear hK K
   exact ⟨1, 2, _, _, by decide, rfl, rfl, rfl, .inr ⟨_, rfl, rfl, rfl, (checkR_zero hval hll hp1).symm⟩⟩
  have hlp : 0 < l.length := by have h9 := hp1; simp at h9; omega
  refine tr_region [6, 7, 8, 17] rfl rfl fun K hK => ?_
  iterate 3 refine evR_p ?_
  refine evR_c (hc := (needT _ _ hp1)) (k := ?_)
  refine evR_e hK ?_; clear hK K
  refine hK4 _ ?_
  refine tr_seq fun K5 hK5 => ?_
  by_cases hp2 : wkB p.vars rows l l.length 0 zero12 = true
  rotate_left 1
  ·
   skip
   refine tr_regionP (x := wr (wkX p.vars rows l l.length 0 zero12)) rfl rfl fun K hK => ?_
   refine evP_p ?_
   refine evP_p ?_
   refine evP_end ?_
   simp (maxSteps := 4000000) (disch := first | assumption | omega | (simp only [go_sem, *]; done) | (simp only [go_sem, *]; omega)) only [stpP, go_sem, hq, Int.reduceToNat, Nat.reduceBEq, Nat.reduceEqDiff, Nat.reduceAdd, Nat.reduceMul, Nat.reduceLeDiff, Nat.reduceLT, Nat.reduceSub, ↓reduceIte, reduceCtorEq]
   (repeat (refine And.intro (by first | assumption | omega | decide | (simp; done) | (simp; omega) | (have hq := hvv hgt; omega) | (have hq := hvv hgt.1; omega) | (simp_all; done)) ?_))
   refine ⟨[4, 3], ?_⟩
   simp (maxSteps := 4000000) (disch := first | assumption | omega | (simp only [go_sem, *]; done) | (simp only [go_sem, *]; omega)) only [V.mapL, V.map, gJ, footJ, inJ, AObj.map, ndJ, ltJ, V.domL, V.dom, AObj.dom, kC, kR, AObj.isC, hJ, backJ, List.any_cons, List.any_nil, Nat.ble_eq, Nat.blt_eq, Nat.reduceLT, Nat.reduceLeDiff, Bool.or_true, Bool.true_or, Bool.or_false, Bool.false_or, Bool.and_self, go_sem, hq, Int.reduceToNat, Nat.reduceBEq, Nat.reduceEqDiff, Nat.reduceAdd, Nat.reduceMul, Nat.reduceLeDiff, Nat.reduceLT, Nat.reduceSub, ↓reduceIte, reduceCtorEq]
   refine And.intro (by exact (k118 p.vars rows l p.vars.toNat ⟨h0, h1⟩ hrw (by omega) hrn (by omega) hwl l.length 0 zero12 [] hlp (by omega) rfl (okU.nil _)).2 (Bool.eq_false_iff.2 hp2)) ?_
   (repeat (refine And.intro (by first | assumption | omega | decide | (simp; done) | (simp; omega) | (have hq := hvv hgt; omega) | (have hq := hvv hgt.1; omega) | (simp_all; done)) ?_))
   refine hK _ ?_; clear hK K
   exact ⟨1, 2, _, _, by decide, rfl, rfl, rfl, .inr ⟨_, rfl, rfl, rfl, (checkR_bad hval hll hlp hp2).symm⟩⟩
  refine tr_region [6, 7, 8, 17] rfl rfl fun K hK => ?_
  iterate 2 refine evR_p ?_
  refine evR_stepX fun Kq hKq => Or.inr ?_
  simp (maxSteps := 4000000) (disch := first | assumption | omega | (simp only [go_sem, *]; done) | (simp only [go_sem, *]; omega)) only [stpM, go_sem, hq, Int.reduceToNat, Nat.reduceBEq, Nat.reduceEqDiff, Nat.reduceAdd, Nat.reduceMul, Nat.reduceLeDiff, Nat.reduceLT, Nat.reduceSub, ↓reduceIte, reduceCtorEq]
  refine ⟨[4, 3], ?_⟩
  simp (maxSteps := 4000000) (disch := first | assumption | omega | (simp only [go_sem, *]; done) | (simp only [go_sem, *]; omega)) only [V.mapL, V.map, gJ, footJ, inJ, AObj.map, ndJ, ltJ, V.domL, V.dom, AObj.dom, kC, kR, AObj.isC, hJ, backJ, List.any_cons, List.any_nil, Nat.ble_eq, Nat.blt_eq, Nat.reduceLT, Nat.reduceLeDiff, Bool.or_true, Bool.true_or, Bool.or_false, Bool.false_or, Bool.and_self, go_sem, hq, Int.reduceToNat, Nat.reduceBEq, Nat.reduceEqDiff, Nat.reduceAdd, Nat.reduceMul, Nat.reduceLeDiff, Nat.reduceLT, Nat.reduceSub, ↓reduceIte, reduceCtorEq]
  refine ⟨_, _, _, (k118 p.vars rows l p.vars.toNat ⟨h0, h1⟩ hrw (by omega) hrn (by omega) hwl l.length 0 zero12 [] hlp (by omega) rfl (okU.nil _)).1 hp2, ?_⟩
  simp (maxSteps := 4000000) (disch := first | assumption | omega | (simp only [go_sem, *]; done) | (simp only [go_sem, *]; omega)) only [V.mapL, V.map, gJ, footJ, inJ, AObj.map, ndJ, ltJ, V.domL, V.dom, AObj.dom, kC, kR, AObj.isC, hJ, backJ, List.any_cons, List.any_nil, Nat.ble_eq, Nat.blt_eq, Nat.reduceLT, Nat.reduceLeDiff, Bool.or_true, Bool.true_or, Bool.or_false, Bool.false_or, Bool.and_self, go_sem, hq, Int.reduceToNat, Nat.reduceBEq, Nat.reduceEqDiff, Nat.reduceAdd, Nat.reduceMul, Nat.reduceLeDiff, Nat.reduceLT, Nat.reduceSub, ↓reduceIte, reduceCtorEq]
  (repeat (refine And.intro (by first | assumption | omega | decide | (simp; done) | (simp; omega) | (have hq := hvv hgt; omega) | (have hq := hvv hgt.1; omega) | (simp_all; done)) ?_))
  refine hKq _ ?_; clear hKq Kq
  refine evR_e hK ?_; clear hK K
  refine hK5 _ ?_
  refine tr_seq fun K6 hK6 => ?_
  refine tr_fz [.mp 3, .ptr 4 0] (by simp (maxSteps := 4000000) (disch := first | assumption | omega | (simp only [go_sem, *]; done) | (simp only [go_sem, *]; omega)) only [go_sem, hq, Int.reduceToNat, Nat.reduceBEq, Nat.reduceEqDiff, Nat.reduceAdd, Nat.reduceMul, Nat.reduceLeDiff, Nat.reduceLT, Nat.reduceSub, ↓reduceIte, reduceCtorEq]; (try rfl)) ?_
  refine tr_draw [35] [6, 7, 17] mixed rfl (by kernel_rfl) rfl fun K hK => ?_
  iterate 6 refine evD_p ?_
  refine evD_e hK ?_; clear hK K
  refine hK6 _ ?_
  refine tr_ret ?_
  (try simp only [thenE, inBlkE])
  refine ⟨1, 2, _, _, by decide, rfl, rfl, rfl, .inl ⟨rfl, ?_⟩⟩
  simp (maxSteps := 4000000) (disch := first | assumption | omega | (simp only [go_sem, *]; done) | (simp only [go_sem, *]; omega)) only [postA, postO, resV1, fzAll, go_sem, hq, Int.reduceToNat, Nat.reduceBEq, Nat.reduceEqDiff, Nat.reduceAdd, Nat.reduceMul, Nat.reduceLeDiff, Nat.reduceLT, Nat.reduceSub, ↓reduceIte, reduceCtorEq]
  all_goals (first | (rw [checkR_out ht1]; done) | (rw [checkR_good hval hll hlp hp2]; done))

theorem k26a (p : Pg) (hr0 : p.rows.length ≤ maxLen) (hg : p.gain.length ≤ maxLen) (hc : ∀ r ∈ p.rows, r.coef.length ≤ maxLen) (l : List Sg) (hlm : l.length ≤ maxLen) (hwl : ∀ k, k < l.length → ∀ s, l.getD k sg0 = s → s.ws.length ≤ maxLen) (hU : usedV p p.rows l = .nm) : CallsA Try.prog 26 [.agg (encPg p), .sl 4 (encSgs l)] (.int .i64 (wrongW p l)) := by
 have hk68 := k68 p hr0 hg hc p.rows l hlm hwl valid_okRw
 rw [hU] at hk68
 have hq : True := trivial
 refine callsA_of_tr Try.func26 rfl (Nat.le_of_ble_eq_true rfl) ?_
 simp only [Try.results26, envOf, Nat.reduceAdd]
 refine tr_seq fun K1 hK1 => ?_
 refine tr_region [1, 2] rfl rfl fun K hK => ?_
 iterate 2 refine evR_p ?_
 refine evR_e hK ?_; clear hK K
 refine hK1 _ ?_
 refine tr_seq fun K2 hK2 => ?_
 refine tr_region [5] rfl rfl fun K hK => ?_
 iterate 4 refine evR_p ?_
 refine evR_c (hc := hk68) (k := ?_)
 iterate 5 refine evR_p ?_
 refine evR_e hK ?_; clear hK K
 refine hK2 _ ?_
 refine tr_seq fun K3 hK3 => ?_
 refine tr_region [4] rfl rfl fun K hK => ?_
 iterate 2 refine evR_p ?_
 refine evR_e hK ?_; clear hK K
 refine hK3 _ ?_
 refine tr_ret ?_
 (try simp only [thenE, inBlkE])
 simp (maxSteps := 4000000) (disch := first | assumption | omega | (simp only [go_sem, *]; done) | (simp only [go_sem, *]; omega)) only [postA, postO, resV1, fzAll, go_sem, hq, Int.reduceToNat, Nat.reduceBEq, Nat.reduceEqDiff, Nat.reduceAdd, Nat.reduceMul, Nat.reduceLeDiff, Nat.reduceLT, Nat.reduceSub, ↓reduceIte, reduceCtorEq]
 all_goals ((rw [wrongX_wrong]; done))

theorem k26b (p : Pg) (hr0 : p.rows.length ≤ maxLen) (hg : p.gain.length ≤ maxLen) (hc : ∀ r ∈ p.rows, r.coef.length ≤ maxLen) (l : List Sg) (hlm : l.length ≤ maxLen) (hwl : ∀ k, k < l.length → ∀ s, l.getD k sg0 = s → s.ws.length ≤ maxLen) (es : List (Int × Bool)) (hU : usedV p p.rows l = .fm es) : CallsA Try.prog 26 [.agg (encPg p), .sl 4 (encSgs l)] (.int .i64 (wrongW p l)) := by
 have hk68 := k68 p hr0 hg hc p.rows l hlm hwl valid_okRw
 rw [hU] at hk68
 have hq : True := trivial
 refine callsA_of_tr Try.func26 rfl (Nat.le_of_ble_eq_true rfl) ?_
 simp only [Try.results26, envOf, Nat.reduceAdd]
 refine tr_seq fun K1 hK1 => ?_
 refine tr_region [1, 2] rfl rfl fun K hK => ?_
 iterate 2 refine evR_p ?_
 refine evR_e hK ?_; clear hK K
 refine hK1 _ ?_
 refine tr_seq fun K2 hK2 => ?_
 refine tr_region [5] rfl rfl fun K hK => ?_
 iterate 4 refine evR_p ?_
 refine evR_c (hc := hk68) (k := ?_)
 iterate 5 refine evR_p ?_
 refine evR_e hK ?_; clear hK K
 refine hK2 _ ?_
 refine tr_seq fun K3 hK3 => ?_
 refine tr_region [4] rfl rfl fun K hK => ?_
 iterate 2 refine evR_p ?_
 refine evR_e hK ?_; clear hK K
 refine hK3 _ ?_
 refine tr_ret ?_
 (try simp only [thenE, inBlkE])
 simp (maxSteps := 4000000) (disch := first | assumption | omega | (simp only [go_sem, *]; done) | (simp only [go_sem, *]; omega)) only [postA, postO, resV1, fzAll, go_sem, hq, Int.reduceToNat, Nat.reduceBEq, Nat.reduceEqDiff, Nat.reduceAdd, Nat.reduceMul, Nat.reduceLeDiff, Nat.reduceLT, Nat.reduceSub, ↓reduceIte, reduceCtorEq]
 all_goals ((rw [wrongX_wrong]; done))
theorem k26 (p : Pg) (hr0 : p.rows.length ≤ maxLen) (hg : p.gain.length ≤ maxLen) (hc : ∀ r ∈ p.rows, r.coef.length ≤ maxLen) (l : List Sg) (hlm : l.length ≤ maxLen) (hwl : ∀ k, k < l.length → ∀ s, l.getD k sg0 = s → s.ws.length ≤ maxLen) : CallsA Try.prog 26 [.agg (encPg p), .sl 4 (encSgs l)] (.int .i64 (wrongW p l)) := by
 rcases usedV_cases p p.rows l with h | ⟨es, h⟩
 ·
  exact k26a p hr0 hg hc l hlm hwl h
 ·
  exact k26b p hr0 hg hc l hlm hwl es h

theorem k24 (p : Pg) (hr0 : p.rows.length ≤ maxLen) (hg : p.gain.length ≤ maxLen) (hc : ∀ r ∈ p.rows, r.coef.length ≤ maxLen) (l : List Sg) (hlm : l.length ≤ maxLen) (hwl : ∀ k, k < l.length → ∀ s, l.getD k sg0 = s → s.ws.length ≤ maxLen) : CallsA Try.prog 24 [.agg (encPg p), .sl 4 (encSgs l)] (.bool (refutesW p l)) := by
 have hq : True := trivial
 refine callsA_of_tr Try.func24 rfl (Nat.le_of_ble_eq_true rfl) ?_
 simp only [Try.results24, envOf, Nat.reduceAdd]
 refine tr_seq fun K1 hK1 => ?_
 refine tr_region [1, 2] rfl rfl fun K hK => ?_
 iterate 2 refine evR_p ?_
 refine evR_e hK ?_; clear hK K
 refine hK1 _ ?_
 refine tr_seq fun K2 hK2 => ?_
 refine tr_region [4] rfl rfl fun K hK => ?_
 iterate 2 refine evR_p ?_
 refine evR_c (hc := (k26 p hr0 hg hc l hlm hwl)) (k := ?_)
 iterate 2 refine evR_p ?_
 refine evR_e hK ?_; clear hK K
 refine hK2 _ ?_
 refine tr_ret ?_
 (try simp only [thenE, inBlkE])
 simp (maxSteps := 4000000) (disch := first | assumption | omega | (simp only [go_sem, *]; done) | (simp only [go_sem, *]; omega)) only [postA, postO, resV1, fzAll, go_sem, hq, Int.reduceToNat, Nat.reduceBEq, Nat.reduceEqDiff, Nat.reduceAdd, Nat.reduceMul, Nat.reduceLeDiff, Nat.reduceLT, Nat.reduceSub, ↓reduceIte, reduceCtorEq]
 all_goals (rfl)

theorem k22 (l : List Sg) (hlm : l.length ≤ maxLen) : CallsA Try.prog 22 [.sl 4 (encSgs l)] (.tup [.int .i64 (l.length - leavesN l l.length), .int .i64 (leavesN l l.length)]) := by
 unfold maxLen at hlm
 have hlb := leavesN_bnd l
 have hq : True := trivial
 refine callsA_of_tr Try.func22 rfl (Nat.le_of_ble_eq_true rfl) ?_
 simp only [Try.results22, envOf, Nat.reduceAdd]
 refine tr_seq fun K1 hK1 => ?_
 refine tr_region [0] rfl rfl fun K hK => ?_
 iterate 2 refine evR_p ?_
 refine evR_e hK ?_; clear hK K
 refine hK1 _ ?_
 refine tr_seq fun K2 hK2 => ?_
 refine tr_region [0, 4] rfl rfl fun K hK => ?_
 refine evR_p ?_
 refine evR_e hK ?_; clear hK K
 refine hK2 _ ?_
 refine tr_seq fun K3 hK3 => ?_
 refine tr_seq fun K4 hK4 => ?_
 refine tr_region [0, 4, 7, 8, 9] rfl rfl fun K hK => ?_
 iterate 3 refine evR_p ?_
 refine evR_e hK ?_; clear hK K
 refine hK4 _ ?_
 refine tr_block ?_
 -- loop 1: live [0, 4, 7, 8, 9]
 refine tr_loopW (fun m σ => ∃ i : Nat, i + m = l.length ∧ σ = ⟨[(0, .sl 4 (encSgs l)), (4, .int .i64 (leavesN l i)), (7, .sl 4 (encSgs l)), (8, .int .i64 l.length), (9, .int .i64 (i : Nat))], [], 0⟩) (l.length) ?_ ?_
 ·
  exact ⟨_, Wk.refl _, 0, by omega, rfl⟩
 ·
  rintro m σ ⟨i, hi, rfl⟩ KL1 hKL1
  refine tr_seq fun K5 hK5 => ?_
  refine tr_region [0, 4, 7, 8, 9, 10] rfl rfl fun K hK => ?_
  refine evR_p ?_
  refine evR_e hK ?_; clear hK K
  refine hK5 _ ?_
  refine tr_seq fun K6 hK6 => ?_
  refine tr_condB (fun ht1 => ?_) (fun ht1 => ?_)
  ·
   skip
   have hil : i < l.length := by omega
   have hb := hlb i
   have hw1 : IntKind.i64.wrap (leavesN l i + 1) = leavesN l i + 1 := w64 (by omega)
   replace hq := And.intro hq (And.intro hil (hw1))
   refine tr_skip ?_
   (try simp only [thenE, inBlkE])
   refine hK6 _ ?_
   refine tr_seq fun K7 hK7 => ?_
   refine tr_block ?_
   refine tr_seq fun K8 hK8 => ?_
   refine tr_region [0, 4, 6, 7, 8, 9] rfl rfl fun K hK => ?_
   iterate 4 refine evR_p ?_
   refine evR_e hK ?_; clear hK K
   refine hK8 _ ?_
   refine tr_seq fun K9 hK9 => ?_
   refine tr_region [0, 4, 7, 8, 9, 15] rfl rfl fun K hK => ?_
   iterate 3 refine evR_p ?_
   refine evR_e hK ?_; clear hK K
   refine hK9 _ ?_
   refine tr_condB (fun ht2 => ?_) (fun ht2 => ?_)
   ·
    skip
    refine tr_region [0, 4, 7, 8, 9] rfl rfl fun K hK => ?_
    iterate 3 refine evR_p ?_
    refine evR_e hK ?_; clear hK K
    refine hK7 _ ?_
    refine tr_region [0, 4, 7, 8, 9] rfl rfl fun K hK => ?_
    iterate 2 refine evR_p ?_
    refine evR_e hK ?_; clear hK K
    refine hKL1 _ ?_
    first | exact ⟨m - 1, _, by omega, Wk.cut 0 (by simp [St.cutOK, AObj.upto, V.upto, V.uptoL, cellsI_uptoL, List.all_cons, List.all_nil, List.filter_cons, List.filter_nil, Nat.blt_eq, Nat.reduceLT, Nat.lt_irrefl, decide_true, decide_false, Bool.and_self, Bool.and_true, Bool.true_and, if_true, if_false, ↓reduceIte, Bool.false_eq_true, encSg, encW]), i + 1, by omega, by (rw [w64 (x := (i : Int) + 1) (by omega), leavesN_t ht2]; rfl)⟩ | exact ⟨m - 1, _, by omega, Wk.cut 0 (by simp [St.cutOK, AObj.upto, V.upto, V.uptoL, cellsI_uptoL, List.all_cons, List.all_nil, List.filter_cons, List.filter_nil, Nat.blt_eq, Nat.reduceLT, Nat.lt_irrefl, decide_true, decide_false, Bool.and_self, Bool.and_true, Bool.true_and, if_true, if_false, ↓reduceIte, Bool.false_eq_true, encSg, encW]), i + 1, by omega, by (rw [w64 (x := (i : Int) + 1) (by omega), leavesN_f ht2]; rfl)⟩
   ·
    skip
    refine tr_skip ?_
    (try simp only [thenE, inBlkE])
    refine hK7 _ ?_
    refine tr_region [0, 4, 7, 8, 9] rfl rfl fun K hK => ?_
    iterate 2 refine evR_p ?_
    refine evR_e hK ?_; clear hK K
    refine hKL1 _ ?_
    first | exact ⟨m - 1, _, by omega, Wk.cut 0 (by simp [St.cutOK, AObj.upto, V.upto, V.uptoL, cellsI_uptoL, List.all_cons, List.all_nil, List.filter_cons, List.filter_nil, Nat.blt_eq, Nat.reduceLT, Nat.lt_irrefl, decide_true, decide_false, Bool.and_self, Bool.and_true, Bool.true_and, if_true, if_false, ↓reduceIte, Bool.false_eq_true, encSg, encW]), i + 1, by omega, by (rw [w64 (x := (i : Int) + 1) (by omega), leavesN_t ht2]; rfl)⟩ | exact ⟨m - 1, _, by omega, Wk.cut 0 (by simp [St.cutOK, AObj.upto, V.upto, V.uptoL, cellsI_uptoL, List.all_cons, List.all_nil, List.filter_cons, List.filter_nil, Nat.blt_eq, Nat.reduceLT, Nat.lt_irrefl, decide_true, decide_false, Bool.and_self, Bool.and_true, Bool.true_and, if_true, if_false, ↓reduceIte, Bool.false_eq_true, encSg, encW]), i + 1, by omega, by (rw [w64 (x := (i : Int) + 1) (by omega), leavesN_f ht2]; rfl)⟩
  ·
   skip
   have hil : i = l.length := by omega
   subst hil
   have hb := hlb l.length
   have hw2 : IntKind.i64.wrap ((l.length : Int) - leavesN l l.length) = (l.length : Int) - leavesN l l.length := w64 (by omega)
   replace hq := And.intro hq hw2
   refine tr_exit ?_
   simp only [thenE, inBlkE, Nat.reduceEqDiff, ↓reduceIte]
   refine hK3 _ ?_
   refine tr_seq fun K10 hK10 => ?_
   refine tr_region [2, 3] rfl rfl fun K hK => ?_
   iterate 7 refine evR_p ?_
   refine evR_e hK ?_; clear hK K
   refine hK10 _ ?_
   refine tr_ret ?_
   (try simp only [thenE, inBlkE])
   simp (maxSteps := 4000000) (disch := first | assumption | omega | (simp only [go_sem, *]; done) | (simp only [go_sem, *]; omega)) only [postA, postO, resV1, fzAll, go_sem, hq, Int.reduceToNat, Nat.reduceBEq, Nat.reduceEqDiff, Nat.reduceAdd, Nat.reduceMul, Nat.reduceLeDiff, Nat.reduceLT, Nat.reduceSub, ↓reduceIte, reduceCtorEq]
   all_goals (rfl)

section
attribute [local go_sem] List.replicate_succ List.replicate_zero List.set_cons_zero
set_option maxHeartbeats 16000000 in
theorem k32a (p : Pg) (hr0 : p.rows.length ≤ maxLen) (hg : p.gain.length ≤ maxLen) (hc : ∀ r ∈ p.rows, r.coef.length ≤ maxLen) (l : List Sg) (hlm : l.length ≤ maxLen) (hwl : ∀ k, k < l.length → ∀ s, l.getD k sg0 = s → s.ws.length ≤ maxLen) (hgs : p.gain.length ≤ 1000) (hrs : p.rows.length ≤ 100000) (gain : Int) (hU : usedV p (p.rows ++ [goalW p gain]) l = .nm) : CallsA Try.prog 32 [.agg (encPg p), .sl 4 (encSgs l), .int .i64 gain] (.bool (boundsW p l gain)) := by
 have hk680 := fun hv => k68 p hr0 hg hc (p.rows ++ [goalW p gain]) l hlm hwl hv
 rw [hU] at hk680
 unfold maxLen at hg hr0
 have hq : True := trivial
 refine callsA_of_tr Try.func32 rfl (Nat.le_of_ble_eq_true rfl) ?_
 simp only [Try.results32, envOf, Nat.reduceAdd]
 refine tr_seq fun K1 hK1 => ?_
 refine tr_region [1, 2, 3] rfl rfl fun K hK => ?_
 iterate 2 refine evR_p ?_
 refine evR_e hK ?_; clear hK K
 refine hK1 _ ?_
 refine tr_seq fun K2 hK2 => ?_
 refine tr_seq fun K3 hK3 => ?_
 refine tr_region [1, 2, 3, 14] rfl rfl fun K hK => ?_
 refine evR_p ?_
 refine evR_c (hc := (k75 _ _ _)) (k := ?_)
 refine evR_p ?_
 refine evR_e hK ?_; clear hK K
 refine hK3 _ ?_
 refine tr_condB (fun ht1 => ?_) (fun ht1 => ?_)
 ·
  skip
  refine tr_seq fun K4 hK4 => ?_
  refine tr_region [6] rfl rfl fun K hK => ?_
  refine evR_p ?_
  refine evR_e hK ?_; clear hK K
  refine hK4 _ ?_
  refine tr_ret ?_
  (try simp only [thenE, inBlkE])
  simp (maxSteps := 4000000) (disch := first | assumption | omega | (simp only [go_sem, *]; done) | (simp only [go_sem, *]; omega)) only [postA, postO, resV1, fzAll, go_sem, hq, Int.reduceToNat, Nat.reduceBEq, Nat.reduceEqDiff, Nat.reduceAdd, Nat.reduceMul, Nat.reduceLeDiff, Nat.reduceLT, Nat.reduceSub, ↓reduceIte, reduceCtorEq]
  all_goals (first | (rw [wrongX_bounds ht1]; done) | (rw [bounds_out ht1]; done))
 ·
  skip
  refine tr_skip ?_
  (try simp only [thenE, inBlkE])
  refine hK2 _ ?_
  refine tr_seq fun K5 hK5 => ?_
  refine tr_region [1, 3, 7] rfl rfl fun K hK => ?_
  iterate 6 refine evR_p ?_
  refine evR_e hK ?_; clear hK K
  refine hK5 _ ?_
  refine tr_seq fun K6 hK6 => ?_
  refine tr_seq fun K7 hK7 => ?_
  refine tr_region [1, 3, 7, 20, 21, 22] rfl rfl fun K hK => ?_
  iterate 4 refine evR_p ?_
  refine evR_e hK ?_; clear hK K
  refine hK7 _ ?_
  refine tr_block ?_
  -- loop 1: live [1, 3, 7, 20, 21, 22]
  refine tr_loopW (fun m σ => ∃ i : Nat, i + m = p.gain.length ∧ σ = ⟨[(1, .sl 4 (encSgs l)), (3, .ptr 0 0), (7, .ptr 1 0), (20, .sl 1 (encI p.gain)), (21, .int .i64 p.gain.length), (22, .int .i64 (i : Nat))], [(2, .row 3 1 (encI (negG p.gain i))), (1, .cells [.int .i64 0, .int .i64 0, .int .i64 0, .int .i64 0, .own 2, .int .i64 (IntKind.i64.wrap (0 - IntKind.i64.wrap (gain + 1)))]), (0, .cells (encPg p))], 3⟩) (p.gain.length) ?_ ?_
  ·
   exact ⟨_, Wk.nilown 3 1 1 4 rfl (Nat.le_of_ble_eq_true rfl) rfl, 0, by omega, rfl⟩
  ·
   rintro m σ ⟨i, hi, rfl⟩ KL1 hKL1
   refine tr_seq fun K8 hK8 => ?_
   refine tr_region [1, 3, 7, 20, 21, 22, 23] rfl rfl fun K hK => ?_
   refine evR_p ?_
   refine evR_e hK ?_; clear hK K
   refine hK8 _ ?_
   refine tr_seq fun K9 hK9 => ?_
   refine tr_condB (fun ht2 => ?_) (fun ht2 => ?_)
   ·
    skip
    have hil : i < p.gain.length := by omega
    have hnl := negG_length p.gain i
    replace hq := And.intro hq (And.intro hil (hnl))
    refine tr_skip ?_
    (try simp only [thenE, inBlkE])
    refine hK9 _ ?_
    refine tr_seq fun K10 hK10 => ?_
    refine tr_block ?_
    refine tr_seq fun K11 hK11 => ?_
    refine tr_region [1, 3, 7, 9, 20, 21, 22] rfl rfl fun K hK => ?_
    iterate 3 refine evR_p ?_
    refine evR_e hK ?_; clear hK K
    refine hK11 _ ?_
    refine tr_region [1, 3, 7, 20, 21, 22] rfl rfl fun K hK => ?_
    iterate 4 refine evR_p ?_
    refine evR_bs ?_
    iterate 3 refine evR_p ?_
    refine evR_e hK ?_; clear hK K
    refine hK10 _ ?_
    refine tr_region [1, 3, 7, 20, 21, 22] rfl rfl fun K hK => ?_
    iterate 2 refine evR_p ?_
    refine evR_e hK ?_; clear hK K
    refine hKL1 _ ?_
    exact ⟨m - 1, _, by omega, (Wk.trans (Wk.ren 3 2 (Nat.le_of_ble_eq_true rfl) (Nat.le_of_ble_eq_true rfl) rfl) (Wk.cut 3 rfl)), i + 1, by omega, by rw [w64 (x := (i : Int) + 1) (by omega), negG_succ hil, encI_snoc]; rfl⟩
   ·
    skip
    have hil : i = p.gain.length := by omega
    subst hil
    have hk68 := hk680 (fun hv => goal_okRws hv ht1)
    rw [show encR (p.rows ++ [goalW p gain]) = encR p.rows ++ [[.int .i64 0, .int .i64 0, .int .i64 0, .int .i64 0, .sl 1 (encI (negG p.gain p.gain.length)), .int .i64 (IntKind.i64.wrap (0 - IntKind.i64.wrap (gain + 1)))]] from by simp [encR, encRw, goalW]] at hk68
    have hT : List.take p.rows.length (encR p.rows) = encR p.rows := List.take_of_length_le (by rw [encR_length]; omega)
    replace hq := And.intro hq hT
    refine tr_exit ?_
    simp only [thenE, inBlkE, Nat.reduceEqDiff, ↓reduceIte]
    refine hK6 _ ?_
    refine tr_seq fun K12 hK12 => ?_
    refine tr_fz [.own 2] (by simp (maxSteps := 4000000) (disch := first | assumption | omega | (simp only [go_sem, *]; done) | (simp only [go_sem, *]; omega)) only [go_sem, hq, Int.reduceToNat, Nat.reduceBEq, Nat.reduceEqDiff, Nat.reduceAdd, Nat.reduceMul, Nat.reduceLeDiff, Nat.reduceLT, Nat.reduceSub, ↓reduceIte, reduceCtorEq]; (try rfl)) ?_
    refine tr_draw [46, 47] [10] mixed rfl (by kernel_rfl) rfl fun K hK => ?_
    iterate 11 refine evD_p ?_
    refine evD_step fun Kq hKq => ?_
    simp (maxSteps := 4000000) (disch := first | assumption | omega | (simp only [go_sem, *]; done) | (simp only [go_sem, *]; omega)) only [isE, isO, stpO, notIn, St.bare, go_sem, hq, Int.reduceToNat, Nat.reduceBEq, Nat.reduceEqDiff, Nat.reduceAdd, Nat.reduceMul, Nat.reduceLeDiff, Nat.reduceLT, Nat.reduceSub, ↓reduceIte, reduceCtorEq]
    (repeat (refine And.intro (by first | assumption | omega | decide | (simp; done) | (simp; omega) | (have hq := hvv hgt; omega) | (have hq := hvv hgt.1; omega) | (simp_all; done)) ?_))
    refine Or.inl (hKq _ ?_); clear hKq Kq
    iterate 2 refine evD_p ?_
    refine evD_c (hc := hk68) (k := ?_)
    iterate 5 refine evD_p ?_
    refine evD_e hK ?_; clear hK K
    refine hK12 _ ?_
    refine tr_seq fun K13 hK13 => ?_
    refine tr_region [6] rfl rfl fun K hK => ?_
    iterate 3 refine evR_p ?_
    refine evR_e hK ?_; clear hK K
    refine hK13 _ ?_
    refine tr_ret ?_
    (try simp only [thenE, inBlkE])
    simp (maxSteps := 4000000) (disch := first | assumption | omega | (simp only [go_sem, *]; done) | (simp only [go_sem, *]; omega)) only [postA, postO, resV1, fzAll, go_sem, hq, Int.reduceToNat, Nat.reduceBEq, Nat.reduceEqDiff, Nat.reduceAdd, Nat.reduceMul, Nat.reduceLeDiff, Nat.reduceLT, Nat.reduceSub, ↓reduceIte, reduceCtorEq]
    all_goals (first | (rw [wrongX_bounds ht1]; done) | (rw [bounds_out ht1]; done))
end

section
attribute [local go_sem] List.replicate_succ List.replicate_zero List.set_cons_zero
set_option maxHeartbeats 16000000 in
theorem k32b (p : Pg) (hr0 : p.rows.length ≤ maxLen) (hg : p.gain.length ≤ maxLen) (hc : ∀ r ∈ p.rows, r.coef.length ≤ maxLen) (l : List Sg) (hlm : l.length ≤ maxLen) (hwl : ∀ k, k < l.length → ∀ s, l.getD k sg0 = s → s.ws.length ≤ maxLen) (hgs : p.gain.length ≤ 1000) (hrs : p.rows.length ≤ 100000) (gain : Int) (es : List (Int × Bool)) (hU : usedV p (p.rows ++ [goalW p gain]) l = .fm es) : CallsA Try.prog 32 [.agg (encPg p), .sl 4 (encSgs l), .int .i64 gain] (.bool (boundsW p l gain)) := by
 have hk680 := fun hv => k68 p hr0 hg hc (p.rows ++ [goalW p gain]) l hlm hwl hv
 rw [hU] at hk680
 unfold maxLen at hg hr0
 have hq : True := trivial
 refine callsA_of_tr Try.func32 rfl (Nat.le_of_ble_eq_true rfl) ?_
 simp only [Try.results32, envOf, Nat.reduceAdd]
 refine tr_seq fun K1 hK1 => ?_
 refine tr_region [1, 2, 3] rfl rfl fun K hK => ?_
 iterate 2 refine evR_p ?_
 refine evR_e hK ?_; clear hK K
 refine hK1 _ ?_
 refine tr_seq fun K2 hK2 => ?_
 refine tr_seq fun K3 hK3 => ?_
 refine tr_region [1, 2, 3, 14] rfl rfl fun K hK => ?_
 refine evR_p ?_
 refine evR_c (hc := (k75 _ _ _)) (k := ?_)
 refine evR_p ?_
 refine evR_e hK ?_; clear hK K
 refine hK3 _ ?_
 refine tr_condB (fun ht1 => ?_) (fun ht1 => ?_)
 ·
  skip
  refine tr_seq fun K4 hK4 => ?_
  refine tr_region [6] rfl rfl fun K hK => ?_
  refine evR_p ?_
  refine evR_e hK ?_; clear hK K
  refine hK4 _ ?_
  refine tr_ret ?_
  (try simp only [thenE, inBlkE])
  simp (maxSteps := 4000000) (disch := first | assumption | omega | (simp only [go_sem, *]; done) | (simp only [go_sem, *]; omega)) only [postA, postO, resV1, fzAll, go_sem, hq, Int.reduceToNat, Nat.reduceBEq, Nat.reduceEqDiff, Nat.reduceAdd, Nat.reduceMul, Nat.reduceLeDiff, Nat.reduceLT, Nat.reduceSub, ↓reduceIte, reduceCtorEq]
  all_goals (first | (rw [wrongX_bounds ht1]; done) | (rw [bounds_out ht1]; done))
 ·
  skip
  refine tr_skip ?_
  (try simp only [thenE, inBlkE])
  refine hK2 _ ?_
  refine tr_seq fun K5 hK5 => ?_
  refine tr_region [1, 3, 7] rfl rfl fun K hK => ?_
  iterate 6 refine evR_p ?_
  refine evR_e hK ?_; clear hK K
  refine hK5 _ ?_
  refine tr_seq fun K6 hK6 => ?_
  refine tr_seq fun K7 hK7 => ?_
  refine tr_region [1, 3, 7, 20, 21, 22] rfl rfl fun K hK => ?_
  iterate 4 refine evR_p ?_
  refine evR_e hK ?_; clear hK K
  refine hK7 _ ?_
  refine tr_block ?_
  -- loop 1: live [1, 3, 7, 20, 21, 22]
  refine tr_loopW (fun m σ => ∃ i : Nat, i + m = p.gain.length ∧ σ = ⟨[(1, .sl 4 (encSgs l)), (3, .ptr 0 0), (7, .ptr 1 0), (20, .sl 1 (encI p.gain)), (21, .int .i64 p.gain.length), (22, .int .i64 (i : Nat))], [(2, .row 3 1 (encI (negG p.gain i))), (1, .cells [.int .i64 0, .int .i64 0, .int .i64 0, .int .i64 0, .own 2, .int .i64 (IntKind.i64.wrap (0 - IntKind.i64.wrap (gain + 1)))]), (0, .cells (encPg p))], 3⟩) (p.gain.length) ?_ ?_
  ·
   exact ⟨_, Wk.nilown 3 1 1 4 rfl (Nat.le_of_ble_eq_true rfl) rfl, 0, by omega, rfl⟩
  ·
   rintro m σ ⟨i, hi, rfl⟩ KL1 hKL1
   refine tr_seq fun K8 hK8 => ?_
   refine tr_region [1, 3, 7, 20, 21, 22, 23] rfl rfl fun K hK => ?_
   refine evR_p ?_
   refine evR_e hK ?_; clear hK K
   refine hK8 _ ?_
   refine tr_seq fun K9 hK9 => ?_
   refine tr_condB (fun ht2 => ?_) (fun ht2 => ?_)
   ·
    skip
    have hil : i < p.gain.length := by omega
    have hnl := negG_length p.gain i
    replace hq := And.intro hq (And.intro hil (hnl))
    refine tr_skip ?_
    (try simp only [thenE, inBlkE])
    refine hK9 _ ?_
    refine tr_seq fun K10 hK10 => ?_
    refine tr_block ?_
    refine tr_seq fun K11 hK11 => ?_
    refine tr_region [1, 3, 7, 9, 20, 21, 22] rfl rfl fun K hK => ?_
    iterate 3 refine evR_p ?_
    refine evR_e hK ?_; clear hK K
    refine hK11 _ ?_
    refine tr_region [1, 3, 7, 20, 21, 22] rfl rfl fun K hK => ?_
    iterate 4 refine evR_p ?_
    refine evR_bs ?_
    iterate 3 refine evR_p ?_
    refine evR_e hK ?_; clear hK K
    refine hK10 _ ?_
    refine tr_region [1, 3, 7, 20, 21, 22] rfl rfl fun K hK => ?_
    iterate 2 refine evR_p ?_
    refine evR_e hK ?_; clear hK K
    refine hKL1 _ ?_
    exact ⟨m - 1, _, by omega, (Wk.trans (Wk.ren 3 2 (Nat.le_of_ble_eq_true rfl) (Nat.le_of_ble_eq_true rfl) rfl) (Wk.cut 3 rfl)), i + 1, by omega, by rw [w64 (x := (i : Int) + 1) (by omega), negG_succ hil, encI_snoc]; rfl⟩
   ·
    skip
    have hil : i = p.gain.length := by omega
    subst hil
    have hk68 := hk680 (fun hv => goal_okRws hv ht1)
    rw [show encR (p.rows ++ [goalW p gain]) = encR p.rows ++ [[.int .i64 0, .int .i64 0, .int .i64 0, .int .i64 0, .sl 1 (encI (negG p.gain p.gain.length)), .int .i64 (IntKind.i64.wrap (0 - IntKind.i64.wrap (gain + 1)))]] from by simp [encR, encRw, goalW]] at hk68
    have hT : List.take p.rows.length (encR p.rows) = encR p.rows := List.take_of_length_le (by rw [encR_length]; omega)
    replace hq := And.intro hq hT
    refine tr_exit ?_
    simp only [thenE, inBlkE, Nat.reduceEqDiff, ↓reduceIte]
    refine hK6 _ ?_
    refine tr_seq fun K12 hK12 => ?_
    refine tr_fz [.own 2] (by simp (maxSteps := 4000000) (disch := first | assumption | omega | (simp only [go_sem, *]; done) | (simp only [go_sem, *]; omega)) only [go_sem, hq, Int.reduceToNat, Nat.reduceBEq, Nat.reduceEqDiff, Nat.reduceAdd, Nat.reduceMul, Nat.reduceLeDiff, Nat.reduceLT, Nat.reduceSub, ↓reduceIte, reduceCtorEq]; (try rfl)) ?_
    refine tr_draw [46, 47] [10] mixed rfl (by kernel_rfl) rfl fun K hK => ?_
    iterate 11 refine evD_p ?_
    refine evD_step fun Kq hKq => ?_
    simp (maxSteps := 4000000) (disch := first | assumption | omega | (simp only [go_sem, *]; done) | (simp only [go_sem, *]; omega)) only [isE, isO, stpO, notIn, St.bare, go_sem, hq, Int.reduceToNat, Nat.reduceBEq, Nat.reduceEqDiff, Nat.reduceAdd, Nat.reduceMul, Nat.reduceLeDiff, Nat.reduceLT, Nat.reduceSub, ↓reduceIte, reduceCtorEq]
    (repeat (refine And.intro (by first | assumption | omega | decide | (simp; done) | (simp; omega) | (have hq := hvv hgt; omega) | (have hq := hvv hgt.1; omega) | (simp_all; done)) ?_))
    refine Or.inl (hKq _ ?_); clear hKq Kq
    iterate 2 refine evD_p ?_
    refine evD_c (hc := hk68) (k := ?_)
    iterate 5 refine evD_p ?_
    refine evD_e hK ?_; clear hK K
    refine hK12 _ ?_
    refine tr_seq fun K13 hK13 => ?_
    refine tr_region [6] rfl rfl fun K hK => ?_
    iterate 3 refine evR_p ?_
    refine evR_e hK ?_; clear hK K
    refine hK13 _ ?_
    refine tr_ret ?_
    (try simp only [thenE, inBlkE])
    simp (maxSteps := 4000000) (disch := first | assumption | omega | (simp only [go_sem, *]; done) | (simp only [go_sem, *]; omega)) only [postA, postO, resV1, fzAll, go_sem, hq, Int.reduceToNat, Nat.reduceBEq, Nat.reduceEqDiff, Nat.reduceAdd, Nat.reduceMul, Nat.reduceLeDiff, Nat.reduceLT, Nat.reduceSub, ↓reduceIte, reduceCtorEq]
    all_goals (first | (rw [wrongX_bounds ht1]; done) | (rw [bounds_out ht1]; done))
end
theorem k32 (p : Pg) (hr0 : p.rows.length ≤ maxLen) (hg : p.gain.length ≤ maxLen) (hc : ∀ r ∈ p.rows, r.coef.length ≤ maxLen) (l : List Sg) (hlm : l.length ≤ maxLen) (hwl : ∀ k, k < l.length → ∀ s, l.getD k sg0 = s → s.ws.length ≤ maxLen) (hgs : p.gain.length ≤ 1000) (hrs : p.rows.length ≤ 100000) (gain : Int) : CallsA Try.prog 32 [.agg (encPg p), .sl 4 (encSgs l), .int .i64 gain] (.bool (boundsW p l gain)) := by
 rcases usedV_cases p (p.rows ++ [goalW p gain]) l with h | ⟨es, h⟩
 ·
  exact k32a p hr0 hg hc l hlm hwl hgs hrs gain h
 ·
  exact k32b p hr0 hg hc l hlm hwl hgs hrs gain es h

end Go.Proofs.Ytfamkbofdamkkaa
namespace Go.Proofs.Ytfamkbofdamkkaa
open Go.RowKit Go.Maps Go.MapKept
open Go.WideElems (Fit rd rg)
set_option linter.unusedVariables false
set_option linter.unusedSimpArgs false
def RB : Value → Option (DataW Unit × List MemPlace)
  | .bool b => some (.lit (.bool b), [])
  | _ => none
theorem insert_perm {H : Type} (x : Lit × DataW H) : ∀ l, (DataW.insert x l).Perm (x :: l)
  | [] => List.Perm.refl _
  | y :: r => by
    simp only [DataW.insert]
    split
    · exact List.Perm.refl _
    · exact ((insert_perm x r).cons y).trans (List.Perm.swap x y r)
theorem inserts_perm {H : Type} : ∀ l : List (Lit × DataW H), (l.foldr DataW.insert []).Perm l
  | [] => List.Perm.refl _
  | x :: l => (insert_perm x _).trans ((inserts_perm l).cons x)
theorem rd_at {P : Program} {T : TypeId} (hT : P.underlying T = some (.int .i64)) {arr : Array MapEntry} {clk : Nat} {es : List (Int × Bool)} (h : MapOK arr clk es) (hwf : ∀ k ∈ keyU es, (Lit.int .i64 k).wf = true) {j : Nat} {x : MapEntry} (hx : arr.toList[j]? = some x) :
    ∃ p : Int × Bool, es[j]? = some p ∧ rd P T RB x = some (.int .i64 p.1, .lit (.bool p.2)) := by
  obtain ⟨p, h1, h2, h3⟩ := h.at hx
  refine ⟨p, h1, ?_⟩
  have hk : (Lit.int .i64 p.1).wf = true := hwf _ (List.mem_map.2 ⟨p, List.mem_of_getElem? h1, rfl⟩)
  unfold rd
  rw [h2, h3]
  simp [keyOf, hT, mapKey, hk, RB]
theorem map_owns {P : Program} {T : TypeId} (hT : P.underlying T = some (.int .i64)) {w : World} {b : Nat} {arr : Array MapEntry} {clk : Nat} {es : List (Int × Bool)} (hb : w.heap[b]? = some (.map arr clk)) (h : MapOK arr clk es) (hwf : ∀ k ∈ keyU es, (Lit.int .i64 k).wf = true) :
    ∃ D0 : DataW Unit, w.ownsMap P T RB b es.length D0 ∧ (intKeys D0).Perm (keyU es) ∧ Maps.size D0 = es.length := by
  have hs : arr.toList.length = es.length := h.size
  have hr : arr.toList.map (rg P T RB) = es.map fun p => (Lit.int .i64 p.1, DataW.lit (.bool p.2)) := by
    refine List.ext_getElem (by simp [hs]) fun j h1 h2 => ?_
    have hj : j < arr.toList.length := by simpa using h1
    obtain ⟨p, e1, e2⟩ := rd_at (P := P) (T := T) hT h hwf (List.getElem?_eq_getElem hj)
    rw [List.getElem_map, List.getElem_map]
    have e3 : es[j]'(by omega) = p := by have := List.getElem?_eq_getElem (show j < es.length by omega); rw [this] at e1; simpa using e1
    rw [e3]
    unfold rg; rw [e2]; rfl
  have hkeys : (arr.toList.map (·.key)).Nodup := by
    have e1 : arr.toList.map (·.key) = (es.map (·.1)).map (Value.int .i64) := by
      have := congrArg (List.map Prod.fst) h.1
      simpa [List.map_map, Function.comp_def] using this
    rw [e1]
    refine List.pairwise_map.2 (h.2.2.2.1.imp fun hne e => hne ?_)
    simpa using e
  refine ⟨_, ⟨arr, clk, hb, ⟨?_, ⟨h.2.1, List.pairwise_map.2 h.2.2.1, hkeys⟩, fun x hx => ?_⟩, ?_, rfl⟩, ?_, ?_⟩
  · rw [show arr.size = es.length from hs]; exact h.2.2.2.2
  · obtain ⟨j, hj⟩ := List.mem_iff_getElem?.1 hx
    obtain ⟨p, -, e⟩ := rd_at (P := P) (T := T) hT h hwf hj
    exact ⟨_, e⟩
  · rw [show arr.size = es.length from hs]; exact Nat.le_refl _
  · rw [hr]
    have := (inserts_perm (es.map fun p => (Lit.int .i64 p.1, (DataW.lit (.bool p.2) : DataW Unit)))).map fun q => Go.intOf q.1
    refine this.trans ?_
    rw [List.map_map]; exact List.Perm.refl _
  · rw [hr]
    rw [Maps.size_eq, (inserts_perm _).length_eq]; simp
end Go.Proofs.Ytfamkbofdamkkaa
namespace Go.Proofs
open Go.Shelf
def Try.keysA_ren : Go.Shelf.Ren := ⟨fun | 7 => 73 | 10 => 123 | n => n, fun | 23 => 112 | 26 => 3 | 3 => 4 | 28 => 119 | 0 => 0 | 27 => 118 | 33 => 164 | 4 => 4 | n => n, fun | n => n⟩
theorem Try.keysA : Go.Proofs.SlLaysZI.n7 Try.prog Try.keysA_ren := {
  mixed := by kernel_rfl
  f7 := ⟨Try.f73.name, by decide, Try.func73.trans (congrArg some (by kernel_rfl))⟩
  f10 := ⟨Try.f123.name, by decide, Try.func123.trans (congrArg some (by kernel_rfl))⟩
  t0 := Try.underlying0
  a0 := Try.isAgg0
  z0 := Try.sizeOf0
  v0 := Try.zeroValue0
  t4 := Try.underlying4
  a4 := Try.isAgg4
  z4 := Try.sizeOf4
  v4 := Try.zeroValue4
  t23 := Try.underlying112
  a23 := Try.isAgg112
  z23 := Try.sizeOf112
  v23 := Try.zeroValue112
  t26 := Try.underlying3
  a26 := Try.isAgg3
  z26 := Try.sizeOf3
  v26 := Try.zeroValue3
  t27 := Try.underlying118
  a27 := Try.isAgg118
  z27 := Try.sizeOf118
  v27 := Try.zeroValue118
  t28 := Try.underlying119
  a28 := Try.isAgg119
  z28 := Try.sizeOf119
  v28 := Try.zeroValue119
  t33 := Try.underlying164
  a33 := Try.isAgg164
  z33 := Try.sizeOf164
  v33 := Try.zeroValue164 }
def Try.sortedA_ren : Go.Shelf.Ren := ⟨fun | 6 => 72 | 8 => 76 | 9 => 122 | 11 => 124 | 13 => 154 | 12 => 153 | 23 => 170 | 24 => 171 | 14 => 162 | 15 => 163 | 16 => 164 | 17 => 165 | 18 => 166 | 19 => 167 | 20 => 131 | 21 => 168 | 22 => 169 | 25 => 172 | 26 => 173 | 27 => 174 | 28 => 175 | 29 => 176 | 30 => 155 | 31 => 177 | n => n, fun | 26 => 3 | 28 => 119 | 24 => 25 | 0 => 0 | 3 => 3 | 37 => 133 | 48 => 169 | 50 => 171 | 4 => 4 | 40 => 183 | 39 => 182 | 45 => 127 | 5 => 5 | 9 => 9 | 51 => 188 | 55 => 192 | 57 => 194 | 58 => 43 | 33 => 164 | n => n, fun | n => n⟩
theorem Try.sortedA : Go.Proofs.SlLaysZI.n6 Try.prog Try.sortedA_ren := {
  mixed := by kernel_rfl
  f6 := ⟨Try.f72.name, by decide, Try.func72.trans (congrArg some (by kernel_rfl))⟩
  f8 := ⟨Try.f76.name, by decide, Try.func76.trans (congrArg some (by kernel_rfl))⟩
  f11 := ⟨Try.f124.name, by decide, Try.func124.trans (congrArg some (by kernel_rfl))⟩
  t0 := Try.underlying0
  a0 := Try.isAgg0
  z0 := Try.sizeOf0
  v0 := Try.zeroValue0
  t24 := Try.underlying25
  a24 := Try.isAgg25
  z24 := Try.sizeOf25
  v24 := Try.zeroValue25
  t26 := Try.underlying3
  a26 := Try.isAgg3
  z26 := Try.sizeOf3
  v26 := Try.zeroValue3
  t28 := Try.underlying119
  a28 := Try.isAgg119
  z28 := Try.sizeOf119
  v28 := Try.zeroValue119
  i26 := by kernel_rfl }
def Try.sortA_ren : Go.Shelf.Ren := ⟨fun | 5 => 122 | 8 => 154 | 7 => 153 | 19 => 170 | 20 => 171 | 10 => 162 | 11 => 163 | 12 => 164 | 13 => 165 | 14 => 166 | 15 => 167 | 16 => 131 | 17 => 168 | 18 => 169 | 30 => 172 | 31 => 173 | 32 => 174 | 33 => 175 | 34 => 176 | 35 => 155 | 40 => 177 | n => n, fun | 23 => 25 | 25 => 3 | 3 => 3 | 32 => 133 | 22 => 25 | 0 => 0 | 44 => 169 | 46 => 171 | 4 => 4 | 36 => 183 | 35 => 182 | 41 => 127 | 5 => 5 | 9 => 9 | 53 => 188 | 57 => 192 | 63 => 194 | 64 => 43 | n => n, fun | n => n⟩
theorem Try.sortA : Go.Proofs.SlLaysM.n5 Try.prog Try.sortA_ren := {
  mixed := by kernel_rfl
  f5 := ⟨Try.f122.name, by decide, Try.func122.trans (congrArg some (by kernel_rfl))⟩
  f7 := ⟨Try.f153.name, by decide, Try.func153.trans (congrArg some (by kernel_rfl))⟩
  f8 := Try.func154.trans (congrArg some (by kernel_rfl))
  f10 := ⟨Try.f162.name, by decide, Try.func162.trans (congrArg some (by kernel_rfl))⟩
  f11 := ⟨Try.f163.name, by decide, Try.func163.trans (congrArg some (by kernel_rfl))⟩
  f12 := ⟨Try.f164.name, by decide, Try.func164.trans (congrArg some (by kernel_rfl))⟩
  f13 := ⟨Try.f165.name, by decide, Try.func165.trans (congrArg some (by kernel_rfl))⟩
  f14 := ⟨Try.f166.name, by decide, Try.func166.trans (congrArg some (by kernel_rfl))⟩
  f15 := ⟨Try.f167.name, by decide, Try.func167.trans (congrArg some (by kernel_rfl))⟩
  f16 := ⟨Try.f131.name, by decide, Try.func131.trans (congrArg some (by kernel_rfl))⟩
  f17 := ⟨Try.f168.name, by decide, Try.func168.trans (congrArg some (by kernel_rfl))⟩
  f18 := ⟨Try.f169.name, by decide, Try.func169.trans (congrArg some (by kernel_rfl))⟩
  f19 := Try.func170.trans (congrArg some (by kernel_rfl))
  f20 := Try.func171.trans (congrArg some (by kernel_rfl))
  f30 := ⟨Try.f172.name, by decide, Try.func172.trans (congrArg some (by kernel_rfl))⟩
  f31 := Try.func173.trans (congrArg some (by kernel_rfl))
  f32 := Try.func174.trans (congrArg some (by kernel_rfl))
  f33 := ⟨Try.f175.name, by decide, Try.func175.trans (congrArg some (by kernel_rfl))⟩
  f34 := ⟨Try.f176.name, by decide, Try.func176.trans (congrArg some (by kernel_rfl))⟩
  f35 := ⟨Try.f155.name, by decide, Try.func155.trans (congrArg some (by kernel_rfl))⟩
  f40 := ⟨Try.f177.name, by decide, Try.func177.trans (congrArg some (by kernel_rfl))⟩
  t0 := Try.underlying0
  a0 := Try.isAgg0
  z0 := Try.sizeOf0
  v0 := Try.zeroValue0
  t3 := Try.underlying3
  a3 := Try.isAgg3
  z3 := Try.sizeOf3
  v3 := Try.zeroValue3
  t4 := Try.underlying4
  a4 := Try.isAgg4
  z4 := Try.sizeOf4
  v4 := Try.zeroValue4
  t5 := Try.underlying5
  a5 := Try.isAgg5
  z5 := Try.sizeOf5
  v5 := Try.zeroValue5
  t9 := Try.underlying9
  a9 := Try.isAgg9
  z9 := Try.sizeOf9
  v9 := Try.zeroValue9
  t22 := Try.underlying25
  a22 := Try.isAgg25
  z22 := Try.sizeOf25
  v22 := Try.zeroValue25
  t23 := Try.underlying25
  a23 := Try.isAgg25
  z23 := Try.sizeOf25
  v23 := Try.zeroValue25
  t25 := Try.underlying3
  a25 := Try.isAgg3
  z25 := Try.sizeOf3
  v25 := Try.zeroValue3
  t32 := Try.underlying133
  a32 := Try.isAgg133
  z32 := Try.sizeOf133
  v32 := Try.zeroValue133
  t35 := Try.underlying182
  a35 := Try.isAgg182
  z35 := Try.sizeOf182
  v35 := Try.zeroValue182
  t36 := Try.underlying183
  a36 := Try.isAgg183
  z36 := Try.sizeOf183
  v36 := Try.zeroValue183
  t41 := Try.underlying127
  a41 := Try.isAgg127
  z41 := Try.sizeOf127
  v41 := Try.zeroValue127
  t44 := Try.underlying169
  a44 := Try.isAgg169
  z44 := Try.sizeOf169
  v44 := Try.zeroValue169
  t46 := Try.underlying171
  a46 := Try.isAgg171
  z46 := Try.sizeOf171
  v46 := Try.zeroValue171
  t53 := Try.underlying188
  a53 := Try.isAgg188
  z53 := Try.sizeOf188
  v53 := Try.zeroValue188
  t57 := Try.underlying192
  a57 := Try.isAgg192
  z57 := Try.sizeOf192
  v57 := Try.zeroValue192
  t63 := Try.underlying194
  a63 := Try.isAgg194
  z63 := Try.sizeOf194
  v63 := Try.zeroValue194
  t64 := Try.underlying43
  a64 := Try.isAgg43
  z64 := Try.sizeOf43
  v64 := Try.zeroValue43 }
end Go.Proofs
namespace Go.Proofs.Ytfamkbofdamkkaa
open Go.RowKit Go.Maps Go.Sort Go.Shelf
set_option linter.unusedVariables false
set_option linter.unusedSimpArgs false
def sortU (es : List (Int × Bool)) : List Int := (keyU es).mergeSort leI
theorem sortsA (m : Nat) : AnyZI.SortsIn Try.prog Try.sortedA_ren Fence.wide m :=
  ⟨fun blk off cap ss W hH hblk hsz => callsIn_wide.2 (AnyM.slices_Sort_int Try.sortA blk off cap ss W hH hblk hsz),
   fun p cap W => callsIn_wide.2 (AnyM.slices_Sort_int_none Try.sortA p cap W)⟩
theorem row_rel {w : World} {B : Nat} {e : TypeId} {v : Value} {l : List Int} (h : w.ownsRow B e 1 v l.length (l.map (Value.int .i64))) {O : Nat → Prop} (hO : ∀ b, O b → b < B) {ι : Nat → Nat} {ρ : Nat → Value} {nx : Nat} {c : Bool} : Rel w O ι ρ nx c (.sl 1 (encI l)) v := by
  rcases h.2 with ⟨rfl, hn⟩ | ⟨g, cap, cur, rfl, h2, h3, h4, h5, h6, h7⟩
  · have : l = [] := List.eq_nil_of_length_eq_zero hn
    subst this
    exact .slnil _ _ _
  · refine .sl _ _ _ g 0 _ cap (fun i j => .int .i64 (l.getD i 0)) (by rw [encI_length]) h4 h5 (fun i hi => ?_) (fun i j hi hj => ?_) (fun i j hi hj => ?_) (fun i j hi hj => ?_) <;> rw [encI_length] at hi
    · rw [encI_getD _ _ hi]; rfl
    · obtain rfl : j = 0 := by omega
      rw [encI_getD _ _ hi]; rfl
    · obtain rfl : j = 0 := by omega
      refine ⟨?_, fun hb => by have := hO _ hb; omega⟩
      have e1 : (cur.toList.take l.length)[i]? = some (.int .i64 l[i]) := by
        have : cur.toList.take l.length = l.map (Value.int .i64) := by simpa using h7
        rw [this]; simp [hi]
      rw [List.getElem?_take, if_pos hi] at e1
      simp only [World.cell?, h3, Nat.mul_one, Nat.add_zero, Nat.zero_add]
      simpa [List.getD, hi] using e1
    · obtain rfl : j = 0 := by omega
      rw [encI_getD _ _ hi]; exact .int ..
theorem k72 (es : List (Int × Bool)) (hes : es.length ≤ 100000) (hwf : ∀ k ∈ keyU es, (Lit.int .i64 k).wf = true) : CallsM Try.prog 72 [.fn 123 [.ptr 0 0]] [(0, .cells [.fm es])] 1 (.sl 1 (encI (sortU es))) [(0, .cells [.fm es])] 1 := by
  intro w X ι ρ vs hml hvl hvr
  obtain ⟨x, rfl⟩ : ∃ x, vs = #[x] := by
    have : vs.size = 1 := hvl
    exact ⟨vs[0], by apply Array.ext (by simpa using this); intro i h1 h2; simp at h2; subst h2; rfl⟩
  have hx := hvr 0 (by simp)
  simp only [List.getD_cons_zero] at hx
  have ex : (#[x] : Array Value).getD 0 undef = x := rfl
  rw [ex] at hx
  obtain ⟨cvs, rfl, hc1, hc2⟩ : ∃ cvs, x = .func (.func 123) #[] cvs ∧ cvs.size = 1 ∧ Rel w (OO X [(0, .cells [.fm es])] ι ρ) ι ρ 1 false (V.ptr 0 0) (cvs.getD 0 undef) := by
    cases hx with
    | fn _ _ _ cvs k1 k2 => exact ⟨cvs, rfl, k1, k2 0 (by simp)⟩
  obtain ⟨y, rfl⟩ : ∃ y, cvs = #[y] := ⟨cvs[0], by apply Array.ext (by simpa using hc1); intro i h1 h2; simp at h2; subst h2; rfl⟩
  have ey : (#[y] : Array Value).getD 0 undef = y := rfl
  rw [ey] at hc2
  have hy : y = .pointer (some ⟨ι 0, 0, none⟩) := by cases hc2; rfl
  subst hy
  obtain ⟨vals, e, hb0, hsz, -, hrel⟩ := hml.obj _ List.mem_cons_self
  have hr0 := hrel 0 (by simp)
  simp only [List.getD_cons_zero] at hr0
  obtain ⟨z, rfl⟩ : ∃ z, vals = #[z] := ⟨vals[0]'(by simp at hsz; omega), by apply Array.ext (by simpa using hsz); intro i h1 h2; simp at h2; subst h2; rfl⟩
  have ez : (#[z] : Array Value).getD 0 undef = z := rfl
  rw [ez] at hr0
  obtain ⟨b, arr, clk, rfl, hb, hok⟩ : ∃ b arr clk, z = .map (some b) ∧ w.heap[b]? = some (.map arr clk) ∧ MapOK arr clk es := by
    cases hr0 with
    | fm _ _ b arr clk hx h => exact ⟨b, arr, clk, rfl, hx.1, h⟩
  obtain ⟨D0, hown, hperm, hsize⟩ := map_owns (P := Try.prog) (T := 3) (by kernel_rfl) hb hok hwf
  have hBm := lt_of_block hb0
  have hm := cell_of_one hb0
  have hseq : SeqGives Fence.wide 2 Try.prog 123 #[.pointer (some ⟨ι 0, 0, none⟩)] encZ (fun ss => ss.Perm (intKeys D0)) (Maps.size D0) w :=
    AnyZI.keys_gives (ρ := Try.keysA_ren) { Try.keysA with } Fence.wide _ trivial rfl (by omega) (ι 0) b es.length D0 w hBm hm hown
  have cS := AnyZI.sorted_in Try.sortedA Fence.wide 5 trivial trivial trivial trivial rfl (by omega) (sortsA _) (enters_of Try.func122 (by kernel_rfl) rfl) 123 #[.pointer (some ⟨ι 0, 0, none⟩)] trivial (enters_of Try.func123 (by kernel_rfl) rfl) _ _ (by rw [hsize]; exact hok.2.2.2.2) (by rw [hsize]; omega) _ hseq
  change CallsIn _ _ Try.prog 72 _ _ _ at cS
  refine (callsIn_wide.1 cS).mono ?_
  rintro en w' ⟨v, ss, rfl, hS, hrow, hnil, hbel⟩
  obtain ⟨m1, m2⟩ := hml.below hbel
  have hss : ss.mergeSort (fun x y => decide (x ≤ y)) = sortU es := mergeSort_of_perm_i (hS.trans hperm)
  have hlen : ss.length = (sortU es).length := by rw [← hss]; simp
  rw [hss, hlen] at hrow
  refine ⟨v, ι, ρ, rfl, m1, row_rel hrow fun c hc => ?_, Nat.le_refl _, fun p _ => ⟨fun _ => rfl, fun _ => rfl⟩⟩
  rcases hc with hX | ⟨p, hp, hpb⟩
  · exact hml.xlt.lt _ hX
  · exact (hml.own _ hp _ hpb).1
theorem k72n : CallsM Try.prog 72 [.fn 123 [.ptr 0 0]] [(0, .cells [.nm])] 1 (.sl 1 (encI [])) [(0, .cells [.nm])] 1 := by
  intro w X ι ρ vs hml hvl hvr
  obtain ⟨x, rfl⟩ : ∃ x, vs = #[x] := by
    have : vs.size = 1 := hvl
    exact ⟨vs[0], by apply Array.ext (by simpa using this); intro i h1 h2; simp at h2; subst h2; rfl⟩
  have hx := hvr 0 (by simp)
  simp only [List.getD_cons_zero] at hx
  have ex : (#[x] : Array Value).getD 0 undef = x := rfl
  rw [ex] at hx
  obtain ⟨cvs, rfl, hc1, hc2⟩ : ∃ cvs, x = .func (.func 123) #[] cvs ∧ cvs.size = 1 ∧ Rel w (OO X [(0, .cells [.nm])] ι ρ) ι ρ 1 false (V.ptr 0 0) (cvs.getD 0 undef) := by
    cases hx with
    | fn _ _ _ cvs k1 k2 => exact ⟨cvs, rfl, k1, k2 0 (by simp)⟩
  obtain ⟨y, rfl⟩ : ∃ y, cvs = #[y] := ⟨cvs[0], by apply Array.ext (by simpa using hc1); intro i h1 h2; simp at h2; subst h2; rfl⟩
  have ey : (#[y] : Array Value).getD 0 undef = y := rfl
  rw [ey] at hc2
  have hy : y = .pointer (some ⟨ι 0, 0, none⟩) := by cases hc2; rfl
  subst hy
  obtain ⟨vals, e, hb0, hsz, -, hrel⟩ := hml.obj _ List.mem_cons_self
  have hr0 := hrel 0 (by simp)
  simp only [List.getD_cons_zero] at hr0
  obtain ⟨z, rfl⟩ : ∃ z, vals = #[z] := ⟨vals[0]'(by simp at hsz; omega), by apply Array.ext (by simpa using hsz); intro i h1 h2; simp at h2; subst h2; rfl⟩
  have ez : (#[z] : Array Value).getD 0 undef = z := rfl
  rw [ez] at hr0
  obtain rfl : z = .map none := by cases hr0; rfl
  have hBm := lt_of_block hb0
  have hm := cell_of_one hb0
  have hseq : SeqGives Fence.wide 2 Try.prog 123 #[.pointer (some ⟨ι 0, 0, none⟩)] encZ (fun ss : List Int => ss = []) 0 w :=
    AnyZI.keys_gives_nil (ρ := Try.keysA_ren) { Try.keysA with } Fence.wide _ trivial rfl (ι 0) w hBm hm
  have cS := AnyZI.sorted_in Try.sortedA Fence.wide 5 trivial trivial trivial trivial rfl (by omega) (sortsA _) (enters_of Try.func122 (by kernel_rfl) rfl) 123 #[.pointer (some ⟨ι 0, 0, none⟩)] trivial (enters_of Try.func123 (by kernel_rfl) rfl) _ _ (Nat.zero_le _) (Nat.zero_le _) _ hseq
  change CallsIn _ _ Try.prog 72 _ _ _ at cS
  refine (callsIn_wide.1 cS).mono ?_
  rintro en w' ⟨v, ss, rfl, hS, hrow, hnil, hbel⟩
  obtain ⟨m1, m2⟩ := hml.below hbel
  subst hS
  rw [show ([] : List Int).mergeSort (fun x y => decide (x ≤ y)) = [] from by simp] at hrow
  refine ⟨v, ι, ρ, rfl, m1, row_rel hrow fun c hc => ?_, Nat.le_refl _, fun p _ => ⟨fun _ => rfl, fun _ => rfl⟩⟩
  rcases hc with hX | ⟨p, hp, hpb⟩
  · exact hml.xlt.lt _ hX
  · exact (hml.own _ hp _ hpb).1
/-! #### the rows that are used -/
def usedI (p : Pg) (l : List Sg) : List Int :=
  if validB p = true ∧ l.length ≤ 8192 then (match wrkP p.vars p.rows l with | some _ => [] | none => sortU (usN l l.length 0 [])) else []
theorem wf_small {k : Int} (h : 0 ≤ k ∧ k < 1000) : (Lit.int .i64 k).wf = true := by
  have e1 : IntKind.i64.min = -9223372036854775808 := by decide
  have e2 : IntKind.i64.max = 9223372036854775807 := by decide
  simp only [Lit.wf, e1, e2, Bool.and_eq_true, decide_eq_true_eq]
  omega
theorem usedI_nm {p : Pg} {l : List Sg} (h : usedV p p.rows l = .nm) : usedI p l = [] := by
  unfold usedV at h; unfold usedI
  split at h
  · rename_i e
    rw [if_pos e]
    cases e2 : wrkP p.vars p.rows l with
    | none => rw [e2] at h; cases h
    | some k => rfl
  · rename_i e; rw [if_neg e]
theorem usedI_fm {p : Pg} {l : List Sg} {es : List (Int × Bool)} (h : usedV p p.rows l = .fm es) : usedI p l = sortU es ∧ okU p.rows.length es ∧ p.rows.length ≤ 300 := by
  unfold usedV at h; unfold usedI
  split at h
  · rename_i e
    rw [if_pos e]
    cases e2 : wrkP p.vars p.rows l with
    | some k => rw [e2] at h; cases h
    | none =>
      rw [e2] at h
      have h3 : usN l l.length 0 [] = es := by cases h; rfl
      subst h3
      have h5 : (p.rows.length : Int) ≤ 300 := by
        have := e.1
        simp only [validB, Bool.and_eq_true, decide_eq_true_eq] at this; exact this.2.1
      refine ⟨rfl, ?_, by omega⟩
      unfold wrkP at e2
      split at e2
      · cases e2
      · exact usN_ok _ _ _ _ (okU.nil _) e2
  · cases h
end Go.Proofs.Ytfamkbofdamkkaa
namespace Go.Proofs.Ytfamkbofdamkkaa
open Go.RowKit
set_option linter.unusedVariables false
set_option linter.unusedSimpArgs false
set_option maxRecDepth 100000
attribute [local go_sem] Nat.zero_add Nat.add_zero Nat.mul_one eq_self ne_eq not_true_eq_false not_false_eq_true decide_true decide_false decide_not Bool.false_eq_true List.filter_cons List.filter_nil true_and and_true beq_false beq_true Bool.not_true Bool.not_false Bool.and_true Bool.true_and Option.getD_some Option.getD_none imp_self implies_true Int.toNat_natCast List.cons_append List.nil_append List.map_cons List.map_nil List.length_cons List.length_nil List.getD_cons_zero List.getD_cons_succ List.drop_zero List.drop_succ_cons List.take_succ_cons List.take_zero
attribute [local go_sem] shL isSh Option.isNone_none Option.isNone_some Option.isSome_none lowN lowQ lowM isAl appOwn unw appF isE isO stpO notIn St.bare evO evDO isEff stp St.get St.slot St.put List.lookup un unL ofVal gof nth pickV pkB_false pkB_true binV unV loadV idxV fldV partV buildV fillV lenV sliV appV appR rowsV winV V.parts V.okp V.sc Mem.look_cons Mem.look_nil V.cl V.clL AObj.clo fzAll exps St.fz Mem.fz V.fz V.fzL AObj.fz Option.isSome_some Option.isSome_none Bool.or_true Bool.true_or Bool.or_false Bool.false_or false_and and_false false_or or_false arT_104 arT_121 arT_160 arT_161 arT_22 arT_23 arT_24 arT_25 arT_28 arT_29 arT_30 arT_40 arT_42 arT_52 arT_60 arT_65 arT_72 arT_73 arT_76 arT_9 arT_90 boolT_182 boolT_25 boolT_3 boolT_35 boolT_4 boolT_76 flatT_182 flatT_25 flatT_3 flatT_35 flatT_4 flatT_76 intT_133 intT_169 intT_171 intT_188 intT_3 intT_5 lay_104 lay_112 lay_138 lay_141 lay_153 lay_160 lay_161 lay_164 lay_188 lay_23 lay_24 lay_25 lay_27 lay_28 lay_3 lay_30 lay_34 lay_4 lay_49 lay_52 lay_54 lay_56 lay_65 lay_67 lay_73 lay_76 lay_90 lay_99 mapT_112 okF_10 okF_100 okF_101 okF_102 okF_103 okF_104 okF_105 okF_106 okF_107 okF_108 okF_109 okF_11 okF_110 okF_111 okF_112 okF_113 okF_114 okF_115 okF_116 okF_117 okF_118 okF_119 okF_12 okF_120 okF_121 okF_122 okF_123 okF_124 okF_125 okF_126 okF_127 okF_128 okF_129 okF_13 okF_130 okF_131 okF_132 okF_133 okF_134 okF_135 okF_136 okF_137 okF_138 okF_139 okF_14 okF_140 okF_141 okF_142 okF_143 okF_144 okF_145 okF_146 okF_147 okF_148 okF_149 okF_15 okF_150 okF_151 okF_152 okF_153 okF_154 okF_155 okF_156 okF_157 okF_158 okF_159 okF_16 okF_160 okF_161 okF_162 okF_163 okF_164 okF_165 okF_166 okF_167 okF_168 okF_169 okF_17 okF_170 okF_171 okF_172 okF_173 okF_174 okF_175 okF_176 okF_177 okF_18 okF_19 okF_20 okF_21 okF_22 okF_23 okF_24 okF_25 okF_26 okF_27 okF_28 okF_29 okF_3 okF_30 okF_31 okF_32 okF_33 okF_34 okF_35 okF_36 okF_37 okF_38 okF_39 okF_4 okF_40 okF_41 okF_42 okF_43 okF_44 okF_45 okF_46 okF_47 okF_48 okF_49 okF_5 okF_50 okF_51 okF_52 okF_53 okF_54 okF_55 okF_56 okF_57 okF_58 okF_59 okF_6 okF_60 okF_61 okF_62 okF_63 okF_64 okF_65 okF_66 okF_67 okF_68 okF_69 okF_7 okF_70 okF_71 okF_72 okF_73 okF_74 okF_75 okF_76 okF_77 okF_78 okF_79 okF_8 okF_80 okF_81 okF_82 okF_83 okF_84 okF_85 okF_86 okF_87 okF_88 okF_89 okF_9 okF_90 okF_91 okF_92 okF_93 okF_94 okF_95 okF_96 okF_97 okF_98 okF_99 plT_138 plT_153 plT_157 plT_161 plT_27 plT_34 plT_54 plT_56 plT_67 plT_76 plT_90 plT_99 slT_104 slT_121 slT_160 slT_161 slT_22 slT_23 slT_24 slT_25 slT_28 slT_29 slT_30 slT_40 slT_42 slT_52 slT_60 slT_65 slT_72 slT_73 slT_76 slT_90 stT_138_0 stT_138_1 stT_153_0 stT_157_0 stT_157_1 stT_157_2 stT_157_3 stT_27_0 stT_27_1 stT_27_2 stT_34_0 stT_34_1 stT_34_2 stT_34_3 stT_54_0 stT_54_1 stT_54_2 stT_54_3 stT_56_0 stT_56_1 stT_67_1 stT_67_4 stT_67_5 stT_99_0 stT_99_1 strT_160 strT_76 strT_9 zeroT_112 zeroT_138 zeroT_153 zeroT_157 zeroT_160 zeroT_161 zeroT_188 zeroT_27 zeroT_3 zeroT_30 zeroT_34 zeroT_4 zeroT_49 zeroT_54 zeroT_56 zeroT_65 zeroT_67 zeroT_76 zeroT_90 zeroT_99
attribute [local go_sem] List.getElem?_cons_zero List.getElem?_cons_succ List.zip_cons_cons List.zip_nil_left List.zip_nil_right Bool.false_and Bool.and_false List.length_append List.length_set List.length_replicate List.all_cons List.all_nil encI_length encI_getD encR_length encR_getD encRw encPg spl shp AObj.shp rowM isSt isRpS isRd csh AObj.csh forall_const imp_self
attribute [local go_sem] encSg encW encSgs_length encWs_length encSgs_getD encWs_getD lookV lkM putM
attribute [local simp] encI_length encR_length cellsI_length encSgs_length encWs_length
theorem k73a (es : List (Int × Bool)) : CallsM Try.prog 73 [.fm es] ([]) (0) (.fn 123 [.ptr 0 0]) ([(0, .cells [.fm es])]) (1) := by
 have hq : True := trivial
 refine callsM_of_tr Try.func73 rfl (Nat.le_of_ble_eq_true rfl) (Nat.le_of_ble_eq_true rfl) (Nat.le_of_ble_eq_true rfl) ?_
 simp only [Try.results73, envOf, gh, gv, List.cons_append, List.nil_append, Nat.reduceAdd]
 refine tr_seq fun K1 hK1 => ?_
 refine tr_region [1] rfl rfl fun K hK => ?_
 iterate 2 refine evR_p ?_
 refine evR_e hK ?_; clear hK K
 refine hK1 _ ?_
 refine tr_seq fun K2 hK2 => ?_
 refine tr_region [2] rfl rfl fun K hK => ?_
 iterate 2 refine evR_p ?_
 refine evR_e hK ?_; clear hK K
 refine hK2 _ ?_
 refine tr_ret ?_
 (try simp only [thenE, inBlkE])
 all_goals first | refine ⟨_, Wk.refl _, ?_⟩
 simp (maxSteps := 4000000) (disch := first | assumption | omega | (simp only [go_sem, *]; done) | (simp only [go_sem, *]; omega)) only [postM, ghOK, gv, St.ren, St.cut, V.ren, V.renL, AObj.ren, Nat.blt_eq, resV1, go_sem, hq, Int.reduceToNat, Nat.reduceBEq, Nat.reduceEqDiff, Nat.reduceAdd, Nat.reduceMul, Nat.reduceLeDiff, Nat.reduceLT, Nat.reduceSub, ↓reduceIte, reduceCtorEq]
 all_goals (rfl)

theorem k73b  : CallsM Try.prog 73 [.nm] ([]) (0) (.fn 123 [.ptr 0 0]) ([(0, .cells [.nm])]) (1) := by
 have hq : True := trivial
 refine callsM_of_tr Try.func73 rfl (Nat.le_of_ble_eq_true rfl) (Nat.le_of_ble_eq_true rfl) (Nat.le_of_ble_eq_true rfl) ?_
 simp only [Try.results73, envOf, gh, gv, List.cons_append, List.nil_append, Nat.reduceAdd]
 refine tr_seq fun K1 hK1 => ?_
 refine tr_region [1] rfl rfl fun K hK => ?_
 iterate 2 refine evR_p ?_
 refine evR_e hK ?_; clear hK K
 refine hK1 _ ?_
 refine tr_seq fun K2 hK2 => ?_
 refine tr_region [2] rfl rfl fun K hK => ?_
 iterate 2 refine evR_p ?_
 refine evR_e hK ?_; clear hK K
 refine hK2 _ ?_
 refine tr_ret ?_
 (try simp only [thenE, inBlkE])
 all_goals first | refine ⟨_, Wk.refl _, ?_⟩
 simp (maxSteps := 4000000) (disch := first | assumption | omega | (simp only [go_sem, *]; done) | (simp only [go_sem, *]; omega)) only [postM, ghOK, gv, St.ren, St.cut, V.ren, V.renL, AObj.ren, Nat.blt_eq, resV1, go_sem, hq, Int.reduceToNat, Nat.reduceBEq, Nat.reduceEqDiff, Nat.reduceAdd, Nat.reduceMul, Nat.reduceLeDiff, Nat.reduceLT, Nat.reduceSub, ↓reduceIte, reduceCtorEq]
 all_goals (rfl)

theorem k29a (p : Pg) (hr0 : p.rows.length ≤ maxLen) (hg : p.gain.length ≤ maxLen) (hc : ∀ r ∈ p.rows, r.coef.length ≤ maxLen) (l : List Sg) (hlm : l.length ≤ maxLen) (hwl : ∀ k, k < l.length → ∀ s, l.getD k sg0 = s → s.ws.length ≤ maxLen) (es : List (Int × Bool)) (hU : usedV p p.rows l = .fm es) (hes : es.length ≤ 100000) (hwf : ∀ k ∈ keyU es, (Lit.int .i64 k).wf = true) : CallsA Try.prog 29 [.agg (encPg p), .sl 4 (encSgs l)] (.sl 1 (encI (sortU es))) := by
 have hk68 := k68 p hr0 hg hc p.rows l hlm hwl valid_okRw
 rw [hU] at hk68
 have hq : True := trivial
 refine callsA_of_tr Try.func29 rfl (Nat.le_of_ble_eq_true rfl) ?_
 simp only [Try.results29, envOf, Nat.reduceAdd]
 refine tr_seq fun K1 hK1 => ?_
 refine tr_region [1, 2] rfl rfl fun K hK => ?_
 iterate 2 refine evR_p ?_
 refine evR_e hK ?_; clear hK K
 refine hK1 _ ?_
 refine tr_seq fun K2 hK2 => ?_
 refine tr_region [6] rfl rfl fun K hK => ?_
 iterate 4 refine evR_p ?_
 refine evR_c (hc := hk68) (k := ?_)
 iterate 5 refine evR_p ?_
 refine evR_e hK ?_; clear hK K
 refine hK2 _ ?_
 refine tr_seq fun K3 hK3 => ?_
 refine tr_region [4] rfl rfl fun K hK => ?_
 refine evR_p ?_
 refine evR_stepX fun Kq hKq => Or.inr ?_
 simp (maxSteps := 4000000) (disch := first | assumption | omega | (simp only [go_sem, *]; done) | (simp only [go_sem, *]; omega)) only [stpM, go_sem, hq, Int.reduceToNat, Nat.reduceBEq, Nat.reduceEqDiff, Nat.reduceAdd, Nat.reduceMul, Nat.reduceLeDiff, Nat.reduceLT, Nat.reduceSub, ↓reduceIte, reduceCtorEq]
 refine ⟨[], ?_⟩
 simp (maxSteps := 4000000) (disch := first | assumption | omega | (simp only [go_sem, *]; done) | (simp only [go_sem, *]; omega)) only [V.mapL, V.map, gJ, footJ, inJ, AObj.map, ndJ, ltJ, V.domL, V.dom, AObj.dom, kC, kR, AObj.isC, hJ, backJ, List.any_cons, List.any_nil, Nat.ble_eq, Nat.blt_eq, Nat.reduceLT, Nat.reduceLeDiff, Bool.or_true, Bool.true_or, Bool.or_false, Bool.false_or, Bool.and_self, go_sem, hq, Int.reduceToNat, Nat.reduceBEq, Nat.reduceEqDiff, Nat.reduceAdd, Nat.reduceMul, Nat.reduceLeDiff, Nat.reduceLT, Nat.reduceSub, ↓reduceIte, reduceCtorEq]
 refine ⟨_, _, _, k73a es, ?_⟩
 simp (maxSteps := 4000000) (disch := first | assumption | omega | (simp only [go_sem, *]; done) | (simp only [go_sem, *]; omega)) only [V.mapL, V.map, gJ, footJ, inJ, AObj.map, ndJ, ltJ, V.domL, V.dom, AObj.dom, kC, kR, AObj.isC, hJ, backJ, List.any_cons, List.any_nil, Nat.ble_eq, Nat.blt_eq, Nat.reduceLT, Nat.reduceLeDiff, Bool.or_true, Bool.true_or, Bool.or_false, Bool.false_or, Bool.and_self, go_sem, hq, Int.reduceToNat, Nat.reduceBEq, Nat.reduceEqDiff, Nat.reduceAdd, Nat.reduceMul, Nat.reduceLeDiff, Nat.reduceLT, Nat.reduceSub, ↓reduceIte, reduceCtorEq]
 (repeat (refine And.intro (by first | assumption | omega | decide | (simp; done) | (simp; omega) | (have hq := hvv hgt; omega) | (have hq := hvv hgt.1; omega) | (simp_all; done)) ?_))
 refine hKq _ ?_; clear hKq Kq
 refine evR_stepX fun Kq hKq => Or.inr ?_
 simp (maxSteps := 4000000) (disch := first | assumption | omega | (simp only [go_sem, *]; done) | (simp only [go_sem, *]; omega)) only [stpM, go_sem, hq, Int.reduceToNat, Nat.reduceBEq, Nat.reduceEqDiff, Nat.reduceAdd, Nat.reduceMul, Nat.reduceLeDiff, Nat.reduceLT, Nat.reduceSub, ↓reduceIte, reduceCtorEq]
 refine ⟨[1], ?_⟩
 simp (maxSteps := 4000000) (disch := first | assumption | omega | (simp only [go_sem, *]; done) | (simp only [go_sem, *]; omega)) only [V.mapL, V.map, gJ, footJ, inJ, AObj.map, ndJ, ltJ, V.domL, V.dom, AObj.dom, kC, kR, AObj.isC, hJ, backJ, List.any_cons, List.any_nil, Nat.ble_eq, Nat.blt_eq, Nat.reduceLT, Nat.reduceLeDiff, Bool.or_true, Bool.true_or, Bool.or_false, Bool.false_or, Bool.and_self, go_sem, hq, Int.reduceToNat, Nat.reduceBEq, Nat.reduceEqDiff, Nat.reduceAdd, Nat.reduceMul, Nat.reduceLeDiff, Nat.reduceLT, Nat.reduceSub, ↓reduceIte, reduceCtorEq]
 refine ⟨_, _, _, k72 es hes hwf, ?_⟩
 simp (maxSteps := 4000000) (disch := first | assumption | omega | (simp only [go_sem, *]; done) | (simp only [go_sem, *]; omega)) only [V.mapL, V.map, gJ, footJ, inJ, AObj.map, ndJ, ltJ, V.domL, V.dom, AObj.dom, kC, kR, AObj.isC, hJ, backJ, List.any_cons, List.any_nil, Nat.ble_eq, Nat.blt_eq, Nat.reduceLT, Nat.reduceLeDiff, Bool.or_true, Bool.true_or, Bool.or_false, Bool.false_or, Bool.and_self, go_sem, hq, Int.reduceToNat, Nat.reduceBEq, Nat.reduceEqDiff, Nat.reduceAdd, Nat.reduceMul, Nat.reduceLeDiff, Nat.reduceLT, Nat.reduceSub, ↓reduceIte, reduceCtorEq]
 (repeat (refine And.intro (by first | assumption | omega | decide | (simp; done) | (simp; omega) | (have hq := hvv hgt; omega) | (have hq := hvv hgt.1; omega) | (simp_all; done)) ?_))
 refine hKq _ ?_; clear hKq Kq
 refine evR_p ?_
 refine evR_e hK ?_; clear hK K
 refine hK3 _ ?_
 refine tr_ret ?_
 (try simp only [thenE, inBlkE])
 simp (maxSteps := 4000000) (disch := first | assumption | omega | (simp only [go_sem, *]; done) | (simp only [go_sem, *]; omega)) only [postA, postO, resV1, fzAll, go_sem, hq, Int.reduceToNat, Nat.reduceBEq, Nat.reduceEqDiff, Nat.reduceAdd, Nat.reduceMul, Nat.reduceLeDiff, Nat.reduceLT, Nat.reduceSub, ↓reduceIte, reduceCtorEq]
 all_goals (rfl)

theorem k29b (p : Pg) (hr0 : p.rows.length ≤ maxLen) (hg : p.gain.length ≤ maxLen) (hc : ∀ r ∈ p.rows, r.coef.length ≤ maxLen) (l : List Sg) (hlm : l.length ≤ maxLen) (hwl : ∀ k, k < l.length → ∀ s, l.getD k sg0 = s → s.ws.length ≤ maxLen) (hU : usedV p p.rows l = .nm) : CallsA Try.prog 29 [.agg (encPg p), .sl 4 (encSgs l)] (.sl 1 (encI [])) := by
 have hk68 := k68 p hr0 hg hc p.rows l hlm hwl valid_okRw
 rw [hU] at hk68
 have hq : True := trivial
 refine callsA_of_tr Try.func29 rfl (Nat.le_of_ble_eq_true rfl) ?_
 simp only [Try.results29, envOf, Nat.reduceAdd]
 refine tr_seq fun K1 hK1 => ?_
 refine tr_region [1, 2] rfl rfl fun K hK => ?_
 iterate 2 refine evR_p ?_
 refine evR_e hK ?_; clear hK K
 refine hK1 _ ?_
 refine tr_seq fun K2 hK2 => ?_
 refine tr_region [6] rfl rfl fun K hK => ?_
 iterate 4 refine evR_p ?_
 refine evR_c (hc := hk68) (k := ?_)
 iterate 5 refine evR_p ?_
 refine evR_e hK ?_; clear hK K
 refine hK2 _ ?_
 refine tr_seq fun K3 hK3 => ?_
 refine tr_region [4] rfl rfl fun K hK => ?_
 refine evR_p ?_
 refine evR_stepX fun Kq hKq => Or.inr ?_
 simp (maxSteps := 4000000) (disch := first | assumption | omega | (simp only [go_sem, *]; done) | (simp only [go_sem, *]; omega)) only [stpM, go_sem, hq, Int.reduceToNat, Nat.reduceBEq, Nat.reduceEqDiff, Nat.reduceAdd, Nat.reduceMul, Nat.reduceLeDiff, Nat.reduceLT, Nat.reduceSub, ↓reduceIte, reduceCtorEq]
 refine ⟨[], ?_⟩
 simp (maxSteps := 4000000) (disch := first | assumption | omega | (simp only [go_sem, *]; done) | (simp only [go_sem, *]; omega)) only [V.mapL, V.map, gJ, footJ, inJ, AObj.map, ndJ, ltJ, V.domL, V.dom, AObj.dom, kC, kR, AObj.isC, hJ, backJ, List.any_cons, List.any_nil, Nat.ble_eq, Nat.blt_eq, Nat.reduceLT, Nat.reduceLeDiff, Bool.or_true, Bool.true_or, Bool.or_false, Bool.false_or, Bool.and_self, go_sem, hq, Int.reduceToNat, Nat.reduceBEq, Nat.reduceEqDiff, Nat.reduceAdd, Nat.reduceMul, Nat.reduceLeDiff, Nat.reduceLT, Nat.reduceSub, ↓reduceIte, reduceCtorEq]
 refine ⟨_, _, _, k73b, ?_⟩
 simp (maxSteps := 4000000) (disch := first | assumption | omega | (simp only [go_sem, *]; done) | (simp only [go_sem, *]; omega)) only [V.mapL, V.map, gJ, footJ, inJ, AObj.map, ndJ, ltJ, V.domL, V.dom, AObj.dom, kC, kR, AObj.isC, hJ, backJ, List.any_cons, List.any_nil, Nat.ble_eq, Nat.blt_eq, Nat.reduceLT, Nat.reduceLeDiff, Bool.or_true, Bool.true_or, Bool.or_false, Bool.false_or, Bool.and_self, go_sem, hq, Int.reduceToNat, Nat.reduceBEq, Nat.reduceEqDiff, Nat.reduceAdd, Nat.reduceMul, Nat.reduceLeDiff, Nat.reduceLT, Nat.reduceSub, ↓reduceIte, reduceCtorEq]
 (repeat (refine And.intro (by first | assumption | omega | decide | (simp; done) | (simp; omega) | (have hq := hvv hgt; omega) | (have hq := hvv hgt.1; omega) | (simp_all; done)) ?_))
 refine hKq _ ?_; clear hKq Kq
 refine evR_stepX fun Kq hKq => Or.inr ?_
 simp (maxSteps := 4000000) (disch := first | assumption | omega | (simp only [go_sem, *]; done) | (simp only [go_sem, *]; omega)) only [stpM, go_sem, hq, Int.reduceToNat, Nat.reduceBEq, Nat.reduceEqDiff, Nat.reduceAdd, Nat.reduceMul, Nat.reduceLeDiff, Nat.reduceLT, Nat.reduceSub, ↓reduceIte, reduceCtorEq]
 refine ⟨[1], ?_⟩
 simp (maxSteps := 4000000) (disch := first | assumption | omega | (simp only [go_sem, *]; done) | (simp only [go_sem, *]; omega)) only [V.mapL, V.map, gJ, footJ, inJ, AObj.map, ndJ, ltJ, V.domL, V.dom, AObj.dom, kC, kR, AObj.isC, hJ, backJ, List.any_cons, List.any_nil, Nat.ble_eq, Nat.blt_eq, Nat.reduceLT, Nat.reduceLeDiff, Bool.or_true, Bool.true_or, Bool.or_false, Bool.false_or, Bool.and_self, go_sem, hq, Int.reduceToNat, Nat.reduceBEq, Nat.reduceEqDiff, Nat.reduceAdd, Nat.reduceMul, Nat.reduceLeDiff, Nat.reduceLT, Nat.reduceSub, ↓reduceIte, reduceCtorEq]
 refine ⟨_, _, _, k72n, ?_⟩
 simp (maxSteps := 4000000) (disch := first | assumption | omega | (simp only [go_sem, *]; done) | (simp only [go_sem, *]; omega)) only [V.mapL, V.map, gJ, footJ, inJ, AObj.map, ndJ, ltJ, V.domL, V.dom, AObj.dom, kC, kR, AObj.isC, hJ, backJ, List.any_cons, List.any_nil, Nat.ble_eq, Nat.blt_eq, Nat.reduceLT, Nat.reduceLeDiff, Bool.or_true, Bool.true_or, Bool.or_false, Bool.false_or, Bool.and_self, go_sem, hq, Int.reduceToNat, Nat.reduceBEq, Nat.reduceEqDiff, Nat.reduceAdd, Nat.reduceMul, Nat.reduceLeDiff, Nat.reduceLT, Nat.reduceSub, ↓reduceIte, reduceCtorEq]
 (repeat (refine And.intro (by first | assumption | omega | decide | (simp; done) | (simp; omega) | (have hq := hvv hgt; omega) | (have hq := hvv hgt.1; omega) | (simp_all; done)) ?_))
 refine hKq _ ?_; clear hKq Kq
 refine evR_p ?_
 refine evR_e hK ?_; clear hK K
 refine hK3 _ ?_
 refine tr_ret ?_
 (try simp only [thenE, inBlkE])
 simp (maxSteps := 4000000) (disch := first | assumption | omega | (simp only [go_sem, *]; done) | (simp only [go_sem, *]; omega)) only [postA, postO, resV1, fzAll, go_sem, hq, Int.reduceToNat, Nat.reduceBEq, Nat.reduceEqDiff, Nat.reduceAdd, Nat.reduceMul, Nat.reduceLeDiff, Nat.reduceLT, Nat.reduceSub, ↓reduceIte, reduceCtorEq]
 all_goals (rfl)
theorem k29 (p : Pg) (hr0 : p.rows.length ≤ maxLen) (hg : p.gain.length ≤ maxLen) (hc : ∀ r ∈ p.rows, r.coef.length ≤ maxLen) (l : List Sg) (hlm : l.length ≤ maxLen) (hwl : ∀ k, k < l.length → ∀ s, l.getD k sg0 = s → s.ws.length ≤ maxLen) : CallsA Try.prog 29 [.agg (encPg p), .sl 4 (encSgs l)] (.sl 1 (encI (usedI p l))) := by
 rcases usedV_cases p p.rows l with h | ⟨es, h⟩
 ·
  rw [usedI_nm h]; exact k29b p hr0 hg hc l hlm hwl h
 ·
  obtain ⟨h1, h2, h3⟩ := usedI_fm h
  rw [h1]
  exact k29a p hr0 hg hc l hlm hwl es h (by have := h2.len; omega) (fun k hk => wf_small (by have := h2.rg k hk; omega))

end Go.Proofs.Ytfamkbofdamkkaa
namespace Go.Proofs.Ytfamkbofdamkkaa
open Go.RowKit
set_option linter.unusedVariables false
set_option linter.unusedSimpArgs false
def lf (ws : List Wt) : Sg := ⟨-1, 0, 0, ws⟩
def spP : Pg := ⟨2, [⟨0, 0, 0, 0, [2, 2], 3⟩, ⟨0, 0, 0, 0, [-1, -1], -2⟩], [3, 4]⟩
def spQ : Pg := ⟨2, [⟨0, 0, 0, 0, [2, 2], 3⟩], [3, 4]⟩
def spN : Pg := ⟨-1, [], []⟩
def pf1 : List Sg := [lf [⟨0, 1⟩, ⟨1, 2⟩]]
def pf2 : List Sg := [lf [⟨0, 1⟩]]
def pf3 : List Sg := [⟨0, 1, 2, []⟩, lf [⟨1, 1⟩], ⟨1, 3, 4, []⟩, lf [⟨1, 1⟩], lf [⟨0, 1⟩]]
def pfG : List Sg := [lf [⟨0, 2⟩, ⟨1, 1⟩]]
theorem hwl_of {l : List Sg} (h : ∀ s ∈ l, s.ws.length ≤ 1000) : ∀ k, k < l.length → ∀ s, l.getD k sg0 = s → s.ws.length ≤ maxLen := fun k hk s hs => by
  have := h _ (hs ▸ getD_mem hk); unfold maxLen; omega
theorem spw1 : ∀ k, k < pf1.length → ∀ s, pf1.getD k sg0 = s → s.ws.length ≤ maxLen := hwl_of (by simp [pf1, lf])
theorem spw2 : ∀ k, k < pf2.length → ∀ s, pf2.getD k sg0 = s → s.ws.length ≤ maxLen := hwl_of (by simp [pf2, lf])
theorem spw3 : ∀ k, k < pf3.length → ∀ s, pf3.getD k sg0 = s → s.ws.length ≤ maxLen := hwl_of (by simp [pf3, lf])
theorem spwG : ∀ k, k < pfG.length → ∀ s, pfG.getD k sg0 = s → s.ws.length ≤ maxLen := hwl_of (by simp [pfG, lf])
theorem spwn : ∀ k, k < ([] : List Sg).length → ∀ s, ([] : List Sg).getD k sg0 = s → s.ws.length ≤ maxLen := hwl_of (by simp)
theorem r1 : refutesW spP pf1 = true := by decide
theorem r2 : refutesW spP pf2 = false := by decide
theorem r3 : refutesW spP pf3 = true := by decide
theorem rG : refutesW spQ pfG = false := by decide
theorem q1 : wrongW spP pf1 = -1 := by decide
theorem q2 : wrongW spP pf2 = 0 := by decide
theorem qN : wrongW spN pf1 = -2 := by decide
theorem qE : wrongW spP [] = 0 := by decide
theorem b6 : boundsW spQ pfG 6 = true := by decide
theorem b5 : boundsW spQ pfG 5 = false := by decide
theorem u1 : usedI spP pf1 = [0, 1] := by
  have h1 : validB spP = true := by decide
  have h2 : wrkP spP.vars spP.rows pf1 = none := by decide
  have h3 : keyU (usN pf1 pf1.length 0 []) = [0, 1] := by decide
  unfold usedI sortU
  rw [if_pos ⟨h1, by decide⟩, h2, h3]
  exact List.mergeSort_of_pairwise (by decide)
theorem u2 : usedI spP pf2 = [] := by
  have h2 : wrkP spP.vars spP.rows pf2 = some 0 := by decide
  unfold usedI
  rw [h2]
  split <;> rfl
theorem l3 : leavesN pf3 pf3.length = 3 := by decide
def pv3 : V := .sl 4 [[.int .i64 0, .int .i64 1, .int .i64 2, .nsl], encSg (lf [⟨1, 1⟩]), [.int .i64 1, .int .i64 3, .int .i64 4, .nsl], encSg (lf [⟨1, 1⟩]), encSg (lf [⟨0, 1⟩])]
theorem pv3_le : V.Le pv3 (.sl 4 (encSgs pf3)) := by
  refine .sl 4 rfl (fun i hi => ?_) (fun i j hi => ?_)
  · have h : i = 0 ∨ i = 1 ∨ i = 2 ∨ i = 3 ∨ i = 4 := by simp at hi; omega
    rcases h with rfl | rfl | rfl | rfl | rfl <;> rfl
  · have h : i = 0 ∨ i = 1 ∨ i = 2 ∨ i = 3 ∨ i = 4 := by simp at hi; omega
    rcases h with rfl | rfl | rfl | rfl | rfl
    · match j with
      | 0 | 1 | 2 => exact .refl _
      | 3 => exact .nsl 2
      | j + 4 => exact .refl _
    · exact .refl _
    · match j with
      | 0 | 1 | 2 => exact .refl _
      | 3 => exact .nsl 2
      | j + 4 => exact .refl _
    · exact .refl _
    · exact .refl _
theorem s24_1 : CallsA Try.prog 24 [.agg (encPg spP), .sl 4 (encSgs pf1)] (.bool true) := r1 ▸ k24 spP (by simp [spP, maxLen]) (by simp [spP, maxLen]) (by simp [spP, maxLen]) pf1 (by simp [pf1, maxLen]) spw1
theorem s24_2 : CallsA Try.prog 24 [.agg (encPg spP), .sl 4 (encSgs pf2)] (.bool false) := r2 ▸ k24 spP (by simp [spP, maxLen]) (by simp [spP, maxLen]) (by simp [spP, maxLen]) pf2 (by simp [pf2, maxLen]) spw2
theorem s24_3 : CallsA Try.prog 24 [.agg (encPg spP), pv3] (.bool true) := (r3 ▸ k24 spP (by simp [spP, maxLen]) (by simp [spP, maxLen]) (by simp [spP, maxLen]) pf3 (by simp [pf3, maxLen]) spw3 : CallsA Try.prog 24 [.agg (encPg spP), .sl 4 (encSgs pf3)] (.bool true)).arg (.cons (.refl _) (.cons pv3_le .nil))
theorem s24_G : CallsA Try.prog 24 [.agg (encPg spQ), .sl 4 (encSgs pfG)] (.bool false) := rG ▸ k24 spQ (by simp [spQ, maxLen]) (by simp [spQ, maxLen]) (by simp [spQ, maxLen]) pfG (by simp [pfG, maxLen]) spwG
theorem s26_1 : CallsA Try.prog 26 [.agg (encPg spP), .sl 4 (encSgs pf1)] (.int .i64 (-1)) := q1 ▸ k26 spP (by simp [spP, maxLen]) (by simp [spP, maxLen]) (by simp [spP, maxLen]) pf1 (by simp [pf1, maxLen]) spw1
theorem s26_2 : CallsA Try.prog 26 [.agg (encPg spP), .sl 4 (encSgs pf2)] (.int .i64 0) := q2 ▸ k26 spP (by simp [spP, maxLen]) (by simp [spP, maxLen]) (by simp [spP, maxLen]) pf2 (by simp [pf2, maxLen]) spw2
theorem s26_N : CallsA Try.prog 26 [.agg [.int .i64 (-1), .nsl, .nsl], .sl 4 (encSgs pf1)] (.int .i64 (-2)) := (qN ▸ k26 spN (by simp [spN, maxLen]) (by simp [spN, maxLen]) (by simp [spN, maxLen]) pf1 (by simp [pf1, maxLen]) spw1 : CallsA Try.prog 26 [.agg (encPg spN), .sl 4 (encSgs pf1)] (.int .i64 (-2))).arg (.cons (.agg (.cons (.refl _) (.cons (.nsl 6) (.cons (.nsl 1) .nil)))) (.cons (.refl _) .nil))
theorem s26_E : CallsA Try.prog 26 [.agg (encPg spP), .nsl] (.int .i64 0) := (qE ▸ k26 spP (by simp [spP, maxLen]) (by simp [spP, maxLen]) (by simp [spP, maxLen]) [] (by simp [maxLen]) spwn : CallsA Try.prog 26 [.agg (encPg spP), .sl 4 (encSgs [])] (.int .i64 0)).arg (.cons (.refl _) (.cons (.nsl 4) .nil))
theorem s29_1 : CallsA Try.prog 29 [.agg (encPg spP), .sl 4 (encSgs pf1)] (.sl 1 (encI [0, 1])) := u1 ▸ k29 spP (by simp [spP, maxLen]) (by simp [spP, maxLen]) (by simp [spP, maxLen]) pf1 (by simp [pf1, maxLen]) spw1
theorem s29_2 : CallsA Try.prog 29 [.agg (encPg spP), .sl 4 (encSgs pf2)] (.sl 1 (encI [])) := u2 ▸ k29 spP (by simp [spP, maxLen]) (by simp [spP, maxLen]) (by simp [spP, maxLen]) pf2 (by simp [pf2, maxLen]) spw2
theorem s32_6 : CallsA Try.prog 32 [.agg (encPg spQ), .sl 4 (encSgs pfG), .int .i64 6] (.bool true) := b6 ▸ k32 spQ (by simp [spQ, maxLen]) (by simp [spQ, maxLen]) (by simp [spQ, maxLen]) pfG (by simp [pfG, maxLen]) spwG (by simp [spQ]) (by simp [spQ]) 6
theorem s32_5 : CallsA Try.prog 32 [.agg (encPg spQ), .sl 4 (encSgs pfG), .int .i64 5] (.bool false) := b5 ▸ k32 spQ (by simp [spQ, maxLen]) (by simp [spQ, maxLen]) (by simp [spQ, maxLen]) pfG (by simp [pfG, maxLen]) spwG (by simp [spQ]) (by simp [spQ]) 5
theorem s22 : CallsA Try.prog 22 [pv3] (.tup [.int .i64 2, .int .i64 3]) := by
  have h := k22 pf3 (by simp [pf3, maxLen])
  rw [l3] at h
  exact h.arg (.cons pv3_le .nil)
theorem encSt_le (s : Stp) (j : Nat) : V.Le0 ((encSt s).getD j .any) ((encSg (toSg s)).getD j .any) := by
  match j with
  | 0 | 1 | 2 => exact .refl _
  | 3 =>
    show V.Le0 (match s.leaf with | some i => V.sl 2 [[.int .i64 i, .int .i64 1]] | none => .nsl) (.sl 2 (encWs (toSg s).ws))
    cases h : s.leaf with
    | none => simp only [toSg, h]; exact .nsl 2
    | some i => simp only [toSg, h]; exact .refl _
  | j + 4 => exact .refl _
theorem encS_le (l : List Stp) : V.Le (.sl 4 (encS l)) (.sl 4 (encSgs (l.map toSg))) := by
  refine .sl 4 (by simp [encS, encSgs]) (fun i hi => ?_) (fun i j hi => ?_) <;> rw [encS_length] at hi
  · rw [encS_getD _ _ hi, encSgs_getD _ _ (by simpa using hi)]; rfl
  · rw [encS_getD _ _ hi, encSgs_getD _ _ (by simpa using hi), toSg_getD]; exact encSt_le _ j
theorem prf_ws (p : Pg) : ∀ s ∈ prfS p, s.ws.length ≤ 1000 := by
  intro s hs
  obtain ⟨t, -, rfl⟩ := List.mem_map.1 hs
  simp only [toSg]
  cases t.leaf <;> simp
section
variable {p : Pg} (hv : validB p = true)
include hv
end
end Go.Proofs.Ytfamkbofdamkkaa
namespace Go.Proofs.Ytfamkbofdamkkaa
def moresP (p : Pg) (rs : List Rw) : Pg := ⟨p.vars, p.rows ++ rs, p.gain⟩
theorem usedI_of {p : Pg} {l : List Sg} (h : refutesW p l = true) : usedI p l = sortU (usN l l.length 0 []) := by
  rw [wrong_spec] at h
  simp only [Bool.and_eq_true, decide_eq_true_eq] at h
  obtain ⟨h1, h2, h3⟩ := h
  unfold usedI
  rw [if_pos ⟨h1, by omega⟩, h3]
/-! #### a row and its opposite -/
def agR (r : Rw) (v : Nat) : Rw := ⟨0, 0, 0, 0, negG r.coef v, IntKind.i64.wrap (IntKind.i64.wrap (0 - r.most) - 1)⟩
def usP (p : Pg) (r : Rw) : Pg := moresP p [r, agR r p.vars.toNat]
open Go.RowKit
set_option linter.unusedVariables false
set_option linter.unusedSimpArgs false
def cellsB (xs : List Bool) : List V := xs.map V.bool
def isTo (l : List Int) : Nat → List Bool
  | 0 => List.replicate 4 false
  | j + 1 => (isTo l j).set (l.getD j 0).toNat true
/-! #### the rows -/
def addL (m n : Int) (a b : List Int) (v : Nat) : List Int := (List.range v).map fun i => IntKind.i64.wrap (IntKind.i64.wrap (m * a.getD i 0) + IntKind.i64.wrap (n * b.getD i 0))
def mulL (m : Int) (a : List Int) (v : Nat) : List Int := (List.range v).map fun i => IntKind.i64.wrap (IntKind.i64.wrap (m + 1) * a.getD i 0)
def addR (m n : Int) (r s : Rw) (v : Nat) : Rw := ⟨0, 0, 0, 0, addL m n r.coef s.coef v, IntKind.i64.wrap (IntKind.i64.wrap (m * r.most) + IntKind.i64.wrap (n * s.most))⟩
def mulR (m : Int) (r : Rw) (v : Nat) : Rw := ⟨0, 0, 0, 0, mulL m r.coef v, IntKind.i64.wrap (IntKind.i64.wrap (m + 1) * r.most)⟩
def smallR (r : Rw) : Prop := (∀ c ∈ r.coef, -4 ≤ c ∧ c ≤ 11) ∧ -4 ≤ r.most ∧ r.most ≤ 25
def addQ (p : Pg) (m n : Int) (r s : Rw) (v : Nat) : Pg := ⟨p.vars, [r, s, addR m n r s v, mulR m r v], p.gain⟩
end Go.Proofs.Ytfamkbofdamkkaa
namespace Go.Proofs.Ytfamkbofdamkkaa
open Go.RowKit Go.Maps Go.Sort Go.Shelf
set_option linter.unusedVariables false
set_option linter.unusedSimpArgs false
theorem sortU_mem (es : List (Int × Bool)) (x : Int) : x ∈ sortU es ↔ x ∈ keyU es := by unfold sortU; rw [List.mem_mergeSort]
theorem sortU_srt {n : Nat} {es : List (Int × Bool)} (h : okU n es) : srt (sortU es) := by
  have h1 : (sortU es).Pairwise (fun a b => leI a b = true) := List.pairwise_mergeSort (le := leI) (fun a b c => by simp [leI]; omega) (fun a b => by simp [leI]; omega) _
  have h2 : (sortU es).Nodup := (List.mergeSort_perm (keyU es) leI).nodup_iff.2 h.nd
  intro i j hij hj
  have e1 : (sortU es).getD i 0 = (sortU es)[i] := by simp [List.getD, show i < (sortU es).length by omega]
  have e2 : (sortU es).getD j 0 = (sortU es)[j] := by simp [List.getD, hj]
  have k1 := List.pairwise_iff_getElem.1 h1 i j (by omega) hj hij
  have k2 := List.pairwise_iff_getElem.1 h2 i j (by omega) hj hij
  rw [e1, e2]
  simp only [leI, decide_eq_true_eq] at k1
  have : ¬ (sortU es)[i] = (sortU es)[j] := k2
  omega
/-- The rows from 0 on that a list does not name. -/
def offW (rows : List Int) : Nat → List Int
  | 0 => []
  | n + 1 => if atW rows n < rows.length ∧ rows.getD (atW rows n) 0 = n then offW rows n else offW rows n ++ [(n : Int)]
/-- A row and its opposite are a leaf by themselves. -/
def shortS (n : Nat) : List Sg := [lf [⟨(n : Int) - 2, 1⟩, ⟨(n : Int) - 1, 1⟩]]
end Go.Proofs.Ytfamkbofdamkkaa
namespace Go.Proofs.Ytfamkbofdamkkaa
open Go.RowKit
set_option linter.unusedVariables false
set_option linter.unusedSimpArgs false
theorem pickW_rangeL (c : Int) {n : Int} (hn : 0 < n) (hc : okI c) : 0 ≤ pickW c n ∧ pickW c n < n := by
  unfold okI at hc
  unfold pickW
  split
  · rw [w64 (x := c + 1) (by omega), w64 (x := 0 - (c + 1)) (by omega)]
    exact ⟨Int.tmod_nonneg _ (by omega), Int.tmod_lt_of_pos _ hn⟩
  · exact ⟨Int.tmod_nonneg _ (by omega), Int.tmod_lt_of_pos _ hn⟩
/-- The step that Bent makes of a step. -/
def bentS (n : Nat) (z : List Int) (s : Sg) : Sg :=
  if pickW (z.getD 1 0) 9 = 0 then ⟨pickW (z.getD 2 0) 9 - 1, s.no, s.yes, s.ws⟩
  else if pickW (z.getD 1 0) 9 = 1 then ⟨s.var, pickW (z.getD 2 0) (n + 1), s.yes, s.ws⟩
  else if pickW (z.getD 1 0) 9 = 2 then ⟨s.var, s.no, pickW (z.getD 2 0) (n + 1), s.ws⟩
  else if pickW (z.getD 1 0) 9 = 3 then (if 0 < s.ws.length then ⟨s.var, s.no, s.yes, s.ws.set 0 ⟨pickW (z.getD 2 0) 9, (s.ws.getD 0 wt0).tm⟩⟩ else s)
  else if pickW (z.getD 1 0) 9 = 4 then (if 0 < s.ws.length then ⟨s.var, s.no, s.yes, s.ws.set 0 ⟨(s.ws.getD 0 wt0).rw, pickW (z.getD 2 0) 1003 - 1⟩⟩ else s)
  else if pickW (z.getD 1 0) 9 = 5 then ⟨s.var, s.no, s.yes, s.ws ++ [⟨pickW (z.getD 2 0) 10, 1 + pickW (z.getD 3 0) 5⟩]⟩
  else if pickW (z.getD 1 0) 9 = 7 then ⟨s.var, s.yes, s.no, s.ws⟩
  else s
def bentW (l : List Sg) (z : List Int) : List Sg :=
  if l.length = 0 then l
  else if pickW (z.getD 1 0) 9 = 6 then (l.set (pickW (z.getD 0 0) l.length).toNat (bentS l.length z (l.getD (pickW (z.getD 0 0) l.length).toNat sg0))).take (pickW (z.getD 2 0) l.length + 1).toNat
  else l.set (pickW (z.getD 0 0) l.length).toNat (bentS l.length z (l.getD (pickW (z.getD 0 0) l.length).toNat sg0))
theorem bentS_6 {n : Nat} {z : List Int} {s : Sg} (h : pickW (z.getD 1 0) 9 = 6) : bentS n z s = s := by unfold bentS; rw [h]; rfl
theorem set_getD {α : Type} {l : List α} {k : Nat} {d : α} : l.set k (l.getD k d) = l := by
  apply List.ext_getElem?
  intro i
  rw [List.getElem?_set]
  split
  · rename_i e; subst e
    split
    · rename_i h; simp [List.getD, h]
    · rename_i h; rw [List.getElem?_eq_none (by omega)]
  · rfl
theorem bentW_6 {l : List Sg} {z : List Int} (h : pickW (z.getD 1 0) 9 = 6) (h0 : ¬ l.length = 0) : bentW l z = l.take (pickW (z.getD 2 0) l.length + 1).toNat := by
  unfold bentW
  rw [if_neg h0, if_pos h, bentS_6 h, set_getD]
theorem bentW_n {l : List Sg} {z : List Int} (h : ¬ pickW (z.getD 1 0) 9 = 6) (h0 : ¬ l.length = 0) : bentW l z = l.set (pickW (z.getD 0 0) l.length).toNat (bentS l.length z (l.getD (pickW (z.getD 0 0) l.length).toNat sg0)) := by
  unfold bentW
  rw [if_neg h0, if_neg h]
theorem bentS_ws (n : Nat) (z : List Int) (s : Sg) : (bentS n z s).ws.length ≤ s.ws.length + 1 := by
  unfold bentS
  repeat' split
  all_goals simp
theorem bentW_ws {l : List Sg} {z : List Int} {B : Nat} (h : ∀ s ∈ l, s.ws.length ≤ B) : ∀ s ∈ bentW l z, s.ws.length ≤ B + 1 := by
  have h2 : ∀ s ∈ l.set (pickW (z.getD 0 0) l.length).toNat (bentS l.length z (l.getD (pickW (z.getD 0 0) l.length).toNat sg0)), s.ws.length ≤ B + 1 := fun s hs => by
    rcases List.mem_or_eq_of_mem_set hs with hs | hs
    · have := h s hs; omega
    · rw [hs]
      have h3 := bentS_ws l.length z (l.getD (pickW (z.getD 0 0) l.length).toNat sg0)
      have h4 : (l.getD (pickW (z.getD 0 0) l.length).toNat sg0).ws.length ≤ B := by
        by_cases hk : (pickW (z.getD 0 0) l.length).toNat < l.length
        · exact h _ (getD_mem hk)
        · rw [getD_none (by omega)]; simp [sg0]
      omega
  intro s hs
  unfold bentW at hs
  split at hs
  · have := h s hs; omega
  · split at hs
    · exact h2 s (List.mem_of_mem_take hs)
    · exact h2 s hs
theorem bentW_len {l : List Sg} {z : List Int} : (bentW l z).length ≤ l.length := by
  unfold bentW
  split
  · exact Nat.le_refl _
  · split <;> simp
    omega
def greatW (l : List Sg) (k : Nat) (n : Int) : List Sg := l.set k ⟨(l.getD k sg0).var, (l.getD k sg0).no, (l.getD k sg0).yes, mulW n (l.getD k sg0).ws⟩
def timesOk (n : Int) (ws : List Wt) (i : Nat) : Prop := ∀ j, j < i → 1 ≤ (ws.getD j wt0).tm ∧ (ws.getD j wt0).tm * n ≤ 1000
def wholeB (l : List Sg) : Nat → Bool
  | 0 => true
  | i + 1 => wholeB l i && (decide ((l.getD i sg0).no < (l.length : Int)) && decide ((l.getD i sg0).yes < (l.length : Int)))
/-! #### what has been multiplied, up to a weight -/
def mulT (n : Int) (ws : List Wt) (i : Nat) : List Wt := (ws.take i).map fun w => ⟨w.rw, w.tm * n⟩
theorem encWs_set (a : List Wt) (k : Nat) (x y : Int) : (encWs a).set k [V.int .i64 x, V.int .i64 y] = encWs (a.set k ⟨x, y⟩) := by simp [encWs, List.map_set, encW]
theorem encSgs_set (a : List Sg) (k : Nat) (v no yes : Int) (ws : List Wt) : (encSgs a).set k [V.int .i64 v, V.int .i64 no, V.int .i64 yes, V.sl 2 (encWs ws)] = encSgs (a.set k ⟨v, no, yes, ws⟩) := by simp [encSgs, List.map_set, encSg]
theorem encSgs_snoc (a : List Sg) (s : Sg) : encSgs (a ++ [s]) = encSgs a ++ [encSg s] := by simp [encSgs]
theorem encSgs_take (a : List Sg) (n : Nat) : (encSgs a).take n = encSgs (a.take n) := by simp [encSgs, List.map_take]
/-- The weights of a step of a changed plain proof are small. -/
def smallS (s : Sg) : Prop := ∀ w ∈ s.ws, -1 ≤ w.tm ∧ w.tm ≤ 1002
/-- What is decided, as the reference notes it: 1: chosen, 0: not, -1: open. -/
def dR (x : Int) : Int := if x = 1 then 1 else if x < 0 then 0 else -1
def toD (dec : List Int) : List Int := (List.range 12).map fun k => if k < dec.length then dR (dec.getD k 0) else 0
theorem toD_len (dec : List Int) : (toD dec).length = 12 := by simp [toD]
theorem toD_getD {dec : List Int} {k : Nat} (h : k < 12) : (toD dec).getD k 0 = if k < dec.length then dR (dec.getD k 0) else 0 := by simp [toD, List.getD, List.getElem?_range h]
/-- Each thing is chosen, not chosen, or open. -/
def okD (v : Nat) (dec : List Int) : Prop := dec.length = v ∧ ∀ k, k < v → dec.getD k 0 = 1 ∨ dec.getD k 0 = 0 ∨ dec.getD k 0 = -1
theorem okD_set {v : Nat} {dec : List Int} (h : okD v dec) (k : Nat) {b : Int} (hb : b = 0 ∨ b = 1) : okD v (dec.set k b) := by
  refine ⟨by simp [h.1], fun j hj => ?_⟩
  by_cases hk : k < dec.length
  · rw [getD_upd hk]
    split
    · rcases hb with rfl | rfl <;> simp
    · exact h.2 j hj
  · rw [List.set_eq_of_length_le (by omega)]; exact h.2 j hj
theorem ext_getD0 {a b : List Int} (hl : a.length = b.length) (h : ∀ j, j < a.length → a.getD j 0 = b.getD j 0) : a = b := by
  refine List.ext_getElem hl fun j h1 h2 => ?_
  have := h j h1
  simpa [List.getD, h1, h2] using this
theorem toD_set {v : Nat} (hv : v ≤ 12) {dec : List Int} (h : okD v dec) {k : Nat} (hk : k < v) (b : Int) : toD (dec.set k b) = (toD dec).set k (dR b) := by
  refine ext_getD0 (by simp [toD]) fun j h1 => ?_
  have hj : j < 12 := by simpa [toD] using h1
  rw [toD_getD hj, getD_upd (show k < (toD dec).length by rw [toD_len]; omega), List.length_set, getD_upd (show k < dec.length by rw [h.1]; exact hk)]
  by_cases e : j = k
  · subst e; rw [if_pos rfl, if_pos rfl, if_pos (by rw [h.1]; exact hk)]
  · rw [if_neg e, if_neg e, toD_getD hj]
theorem toD_open (v : Nat) (hv : v ≤ 12) : toD (List.replicate v (-1)) = zero12 := by
  refine ext_getD0 (by simp [toD, zero12]) fun j h1 => ?_
  have hj : j < 12 := by simpa [toD] using h1
  rw [toD_getD hj]
  have e : zero12.getD j 0 = 0 := by unfold zero12; rw [List.getD_eq_getElem?_getD, List.getElem?_replicate, if_pos hj]; rfl
  rw [e, List.length_replicate]
  split
  · rename_i h; simp [List.getD, h, dR]
  · rfl
theorem okD_open (v : Nat) : okD v (List.replicate v (-1)) := ⟨by simp, fun k hk => by simp [List.getD, hk]⟩
/-- Thing k adds to the least sum: as the reference asks. -/
theorem low_step {v : Nat} {dec : List Int} (h : okD v dec) (hv : v ≤ 12) (rows : List Rw) (ws : List Wt) {k : Nat} (hk : k < v) :
    lowK rows ws (toD dec) (k + 1) = lowK rows ws (toD dec) k + (if dec.getD k 0 = 1 ∨ (dec.getD k 0 < 0 ∧ sumK rows ws k ws.length < 0) then sumK rows ws k ws.length else 0) := by
  have e : (toD dec).getD k 0 = dR (dec.getD k 0) := by rw [toD_getD (by omega), if_pos (by rw [h.1]; exact hk)]
  simp only [lowK]
  rw [e]
  congr 1
  rcases h.2 k hk with e | e | e <;> rw [e]
  · simp [dR]
  · simp [dR]
  · simp [dR, minZ]
theorem low_t {v : Nat} {dec : List Int} (h : okD v dec) (hv : v ≤ 12) {rows : List Rw} {ws : List Wt} {k : Nat} (hk : k < v) (hc : dec.getD k 0 = 1 ∨ (dec.getD k 0 < 0 ∧ sumK rows ws k ws.length < 0)) : lowK rows ws (toD dec) (k + 1) = lowK rows ws (toD dec) k + sumK rows ws k ws.length := by rw [low_step h hv rows ws hk, if_pos hc]
theorem low_f {v : Nat} {dec : List Int} (h : okD v dec) (hv : v ≤ 12) {rows : List Rw} {ws : List Wt} {k : Nat} (hk : k < v) (hc : ¬ (dec.getD k 0 = 1 ∨ (dec.getD k 0 < 0 ∧ sumK rows ws k ws.length < 0))) : lowK rows ws (toD dec) (k + 1) = lowK rows ws (toD dec) k := by rw [low_step h hv rows ws hk, if_neg hc, Int.add_zero]
theorem low_all {v : Nat} (hv : v ≤ 12) {dec : List Int} {rows : List Rw} (hr : ∀ r ∈ rows, okRw v r) {ws : List Wt} (hw : ∀ j, j < ws.length → (ws.getD j wt0).rw.toNat < rows.length) : lowK rows ws (toD dec) 12 = lowK rows ws (toD dec) v := by
  have := lowK_cut (d := toD dec) (fun r h => (hr r h).len) hw (12 - v)
  rwa [show v + (12 - v) = 12 by omega] at this
/-- What the reference's walk says: the step that is wrong, or -1. -/
def rwX (vars : Int) (rows : List Rw) (l : List Sg) (n k : Nat) (d : List Int) : Int := match wrkN vars rows l n k d with | some j => (j : Int) | none => -1
theorem rwX_neg {vars : Int} {rows : List Rw} {l : List Sg} {n k : Nat} {d : List Int} : rwX vars rows l n k d = -1 ∨ (0 ≤ rwX vars rows l n k d) := by
  unfold rwX
  split
  · right; omega
  · left; rfl
theorem rwX_none {vars : Int} {rows : List Rw} {l : List Sg} {n k : Nat} {d : List Int} (h : rwX vars rows l n k d < 0) : wrkN vars rows l n k d = none := by
  unfold rwX at h
  split at h
  · omega
  · assumption
theorem rwX_some {vars : Int} {rows : List Rw} {l : List Sg} {n k : Nat} {d : List Int} (h : ¬ rwX vars rows l n k d < 0) : ∃ j : Nat, wrkN vars rows l n k d = some j ∧ rwX vars rows l n k d = j := by
  unfold rwX at h ⊢
  split at h
  · rename_i j e; exact ⟨j, e, rfl⟩
  · omega
section
variable {vars : Int} {rows : List Rw} {l : List Sg} {n k : Nat} {d : List Int} {s : Sg} (hs : l.getD k sg0 = s)
include hs
theorem rw_leaf (h : s.var = -1) : rwX vars rows l (n + 1) k d = if leafOk rows s d = true then (-1 : Int) else (k : Int) := by
  unfold rwX; simp only [wrkN, hs, if_pos h]
  cases leafOk rows s d <;> simp
theorem rw_case (h1 : ¬ s.var = -1) (h2 : ¬ (caseOk vars s d = true ∧ goesOk l s k = true)) : rwX vars rows l (n + 1) k d = k := by
  unfold rwX; simp only [wrkN, hs, if_neg h1]
  cases e1 : caseOk vars s d
  · simp
  · cases e2 : goesOk l s k
    · simp
    · exact absurd ⟨e1, e2⟩ h2
theorem rw_no (h1 : ¬ s.var = -1) (h2 : caseOk vars s d = true) (h3 : goesOk l s k = true) {vn no : Nat} (e1 : s.var = vn) (e2 : s.no = no) (h4 : ¬ rwX vars rows l n no (d.set vn (-1)) < 0) : rwX vars rows l (n + 1) k d = rwX vars rows l n no (d.set vn (-1)) := by
  obtain ⟨j, q1, q2⟩ := rwX_some h4
  rw [q2]
  unfold rwX; simp only [wrkN, hs, if_neg h1, h2, h3, e1, e2, Int.toNat_natCast, q1]
  simp
theorem rw_yes (h1 : ¬ s.var = -1) (h2 : caseOk vars s d = true) (h3 : goesOk l s k = true) {vn no yes : Nat} (e1 : s.var = vn) (e2 : s.no = no) (e3 : s.yes = yes) (h4 : rwX vars rows l n no (d.set vn (-1)) < 0) : rwX vars rows l (n + 1) k d = rwX vars rows l n yes (d.set vn 1) := by
  have q := rwX_none h4
  unfold rwX; simp only [wrkN, hs, if_neg h1, h2, h3, e1, e2, e3, Int.toNat_natCast, q]
  simp
end
theorem goes_lt {l : List Sg} {s : Sg} {k : Nat} : goesOk l s k = true ↔ ((k : Int) < s.no ∧ s.no < l.length) ∧ ((k : Int) < s.yes ∧ s.yes < l.length) := by
  simp only [goesOk, Bool.and_eq_true, isInB_spec]; omega
theorem case_iff {v : Nat} {dec : List Int} (h : okD v dec) (hv : v ≤ 12) {s : Sg} : caseOk v s (toD dec) = true ↔ (0 ≤ s.var ∧ s.var < v) ∧ dec.getD s.var.toNat 0 < 0 ∧ s.ws.length = 0 := by
  simp only [caseOk, Bool.and_eq_true, isInB_spec, decide_eq_true_eq]
  constructor
  · rintro ⟨h1, h2, h3⟩
    refine ⟨by omega, ?_, h3⟩
    rw [toD_getD (by omega), if_pos (by rw [h.1]; omega)] at h2
    rcases h.2 s.var.toNat (by omega) with e | e | e
    · rw [e] at h2; simp [dR] at h2
    · rw [e] at h2; simp [dR] at h2
    · omega
  · rintro ⟨h1, h2, h3⟩
    refine ⟨by omega, ?_, h3⟩
    rw [toD_getD (by omega), if_pos (by rw [h.1]; omega)]
    rcases h.2 s.var.toNat (by omega) with e | e | e
    · omega
    · omega
    · rw [e]; rfl
theorem wtOk_ref {n : Nat} {ws : List Wt} {i : Nat} (h : ∀ j, j < i → wtOk n ws j = true) : wtOk n ws i = true ↔ ((((0 ≤ (ws.getD i wt0).rw ∧ (ws.getD i wt0).rw < n) ∧ 1 ≤ (ws.getD i wt0).tm) ∧ (ws.getD i wt0).tm ≤ 1000) ∧ (0 < i → (ws.getD (i - 1) wt0).rw < (ws.getD i wt0).rw)) := by
  have hp := (pre_ws h).1
  simp only [wtOk, Bool.and_eq_true, isInB_spec]
  by_cases e : i = 0
  · subst e; simp [prevW]; omega
  · have : prevW ws i = (ws.getD (i - 1) wt0).rw := by simp [prevW, e]
    rw [this] at hp ⊢
    constructor
    · rintro ⟨h1, h2⟩; exact ⟨⟨⟨by omega, by omega⟩, by omega⟩, fun _ => by omega⟩
    · rintro ⟨⟨⟨h1, h2⟩, h3⟩, h4⟩
      have := h4 (by omega)
      exact ⟨by omega, by omega⟩
theorem wtOk_refF {n : Nat} {ws : List Wt} {i : Nat} (h0 : ∀ j, j < i → wtOk n ws j = true) (hc : (((((ws.getD i wt0).rw < 0 ∨ (n : Int) ≤ (ws.getD i wt0).rw) ∨ (ws.getD i wt0).tm < 1) ∨ 1000 < (ws.getD i wt0).tm) ∨ (0 < i ∧ (ws.getD i wt0).rw ≤ (ws.getD (i - 1) wt0).rw))) : wtOk n ws i = false := by
  rw [Bool.eq_false_iff]; intro h
  obtain ⟨h1, h2⟩ := (wtOk_ref h0).1 h
  omega
/-- The bounds of the reference's sums. -/
theorem low_bound {v : Nat} {rows : List Rw} (hr : ∀ r ∈ rows, okRw v r) {ws : List Wt} (hl : ws.length ≤ 8) (h : ∀ j, j < ws.length → wtOk rows.length ws j = true) (d : List Int) (k i : Nat) (hi : i ≤ ws.length) (hk : k ≤ 12) :
    (-100000000000000 ≤ lowK rows ws d k ∧ lowK rows ws d k ≤ 100000000000000) ∧ (-10000000000000 ≤ sumK rows ws k i ∧ sumK rows ws k i ≤ 10000000000000) ∧ (-10000000000000000 ≤ mostT rows ws i ∧ mostT rows ws i ≤ 10000000000000000) := by
  have hb := wt_both h
  have h1 := lowK_bnd hr hl hb d k
  have h2 := sumK_bnd hr k i (fun j hj => hb j (by omega))
  have h3 := mostT_bnd hr i (fun j hj => hb j (by omega))
  omega
set_option maxRecDepth 100000
attribute [local go_sem] Nat.zero_add Nat.add_zero Nat.mul_one eq_self ne_eq not_true_eq_false not_false_eq_true decide_true decide_false decide_not Bool.false_eq_true List.filter_cons List.filter_nil true_and and_true beq_false beq_true Bool.not_true Bool.not_false Bool.and_true Bool.true_and Option.getD_some Option.getD_none imp_self implies_true Int.toNat_natCast List.cons_append List.nil_append List.map_cons List.map_nil List.length_cons List.length_nil List.getD_cons_zero List.getD_cons_succ List.drop_zero List.drop_succ_cons List.take_succ_cons List.take_zero
attribute [local go_sem] shL isSh Option.isNone_none Option.isNone_some Option.isSome_none lowN lowQ lowM isAl appOwn unw appF isE isO stpO notIn St.bare evO evDO isEff stp St.get St.slot St.put List.lookup un unL ofVal gof nth pickV pkB_false pkB_true binV unV loadV idxV fldV partV buildV fillV lenV sliV appV appR rowsV winV V.parts V.okp V.sc Mem.look_cons Mem.look_nil V.cl V.clL AObj.clo fzAll exps St.fz Mem.fz V.fz V.fzL AObj.fz Option.isSome_some Option.isSome_none Bool.or_true Bool.true_or Bool.or_false Bool.false_or false_and and_false false_or or_false arT_22 arT_23 arT_25 arT_24 arT_40 arT_30  arT_65 arT_28 arT_90  arT_52 boolT_25 boolT_3 boolT_35 boolT_4  flatT_25 flatT_3 flatT_35 flatT_4  intT_3 intT_133 lay_23 lay_25 lay_67 lay_24 lay_27 lay_3 lay_49 lay_30 lay_34 lay_4 lay_65 lay_52 lay_54 lay_56 lay_141 lay_164  okF_17 okF_31  okF_36 okF_18 okF_34 okF_63  okF_28 okF_50 okF_69 okF_51  okF_35       okF_37   okF_71  okF_65  okF_62 okF_77 okF_79  okF_80 okF_81 okF_64 okF_66 okF_76 okF_113 okF_96 okF_97 okF_98 okF_82  okF_99 okF_119 okF_120 okF_78 okF_100 okF_101 okF_83 okF_84 okF_125 okF_126  okF_127 okF_128 okF_129 okF_130 okF_114 okF_124 okF_140 okF_141 okF_142 okF_143  okF_131 okF_132 okF_144 okF_158 okF_155 okF_159   plT_67 plT_27 plT_34 plT_54 plT_56 slT_22 slT_23 slT_25 slT_24 slT_40 slT_30  slT_65 slT_28 slT_90  slT_52  stT_67_1   stT_67_4 stT_67_5 stT_27_0 stT_27_1 stT_27_2 stT_34_0 stT_34_1 stT_34_2 stT_34_3 stT_54_0 stT_54_1 stT_54_2 stT_54_3 stT_56_0 stT_56_1  zeroT_67 zeroT_27 zeroT_3 zeroT_49 zeroT_30 zeroT_34 zeroT_65  zeroT_54 zeroT_56
attribute [local go_sem] List.getElem?_cons_zero List.getElem?_cons_succ List.zip_cons_cons List.zip_nil_left List.zip_nil_right Bool.false_and Bool.and_false List.length_append List.length_set List.length_replicate List.all_cons List.all_nil encI_length encI_getD encR_length encR_getD encRw encPg spl shp AObj.shp rowM isSt isRpS isRd csh AObj.csh forall_const imp_self
attribute [local simp] encI_length encR_length
theorem c53 (p : Pg) (hr : p.rows.length ≤ maxLen) (hg : p.gain.length ≤ maxLen) (hc : ∀ r ∈ p.rows, r.coef.length ≤ maxLen) (set : Int) : CallsA Try.prog 78 [.agg (encPg p), .int .i64 set] (.bool (choiceB p set)) := by
 have hvv := @validB_vars p
 have hq : True := trivial
 refine callsA_of_tr Try.func78 rfl (Nat.le_of_ble_eq_true rfl) ?_
 simp only [Try.results78, envOf, Nat.reduceAdd]
 refine tr_seq fun K1 hK1 => ?_
 refine tr_region [1, 2] rfl rfl fun K hK => ?_
 iterate 2 refine evR_p ?_
 refine evR_e hK ?_; clear hK K
 refine hK1 _ ?_
 refine tr_seq fun K2 hK2 => ?_
 refine tr_region [4] rfl rfl fun K hK => ?_
 refine evR_p ?_
 refine evR_c (hc := (c20 p hr hg hc)) (k := ?_)
 refine evR_p ?_
 iterate 5 refine evR_g ?_
 refine evR_gc (hc := (c49 _ _ _)) (k := ?_)
 iterate 2 refine evR_p ?_
 refine evR_e hK ?_; clear hK K
 refine hK2 _ ?_
 refine tr_ret ?_
 (try simp only [thenE, inBlkE])
 simp (maxSteps := 4000000) (disch := first | assumption | omega | (simp only [go_sem, *]; done) | (simp only [go_sem, *]; omega)) only [postA, postO, resV1, fzAll, go_sem, hq, Int.reduceToNat, Nat.reduceBEq, Nat.reduceEqDiff, Nat.reduceAdd, Nat.reduceMul, Nat.reduceLeDiff, Nat.reduceLT, Nat.reduceSub, ↓reduceIte, reduceCtorEq]
 all_goals (simp [choiceB])

theorem c24 (p : Pg) (hr : p.rows.length ≤ maxLen) (hg : p.gain.length ≤ maxLen) (hc : ∀ r ∈ p.rows, r.coef.length ≤ maxLen) (set : Int) : CallsA Try.prog 35 [.agg (encPg p), .int .i64 set] (.int .i64 (gainW p set)) := by
 have hq : True := trivial
 refine callsA_of_tr Try.func35 rfl (Nat.le_of_ble_eq_true rfl) ?_
 simp only [Try.results35, envOf, Nat.reduceAdd]
 refine tr_seq fun K1 hK1 => ?_
 refine tr_region [1, 2] rfl rfl fun K hK => ?_
 iterate 2 refine evR_p ?_
 refine evR_e hK ?_; clear hK K
 refine hK1 _ ?_
 refine tr_seq fun K2 hK2 => ?_
 refine tr_seq fun K3 hK3 => ?_
 refine tr_region [1, 2, 8] rfl rfl fun K hK => ?_
 iterate 2 refine evR_p ?_
 refine evR_c (hc := (c53 p hr hg hc set)) (k := ?_)
 refine evR_p ?_
 refine evR_e hK ?_; clear hK K
 refine hK3 _ ?_
 refine tr_condB (fun ht1 => ?_) (fun ht1 => ?_)
 ·
  skip
  refine tr_seq fun K4 hK4 => ?_
  refine tr_region [4] rfl rfl fun K hK => ?_
  refine evR_p ?_
  refine evR_e hK ?_; clear hK K
  refine hK4 _ ?_
  refine tr_ret ?_
  (try simp only [thenE, inBlkE])
  simp (maxSteps := 4000000) (disch := first | assumption | omega | (simp only [go_sem, *]; done) | (simp only [go_sem, *]; omega)) only [postA, postO, resV1, fzAll, go_sem, hq, Int.reduceToNat, Nat.reduceBEq, Nat.reduceEqDiff, Nat.reduceAdd, Nat.reduceMul, Nat.reduceLeDiff, Nat.reduceLT, Nat.reduceSub, ↓reduceIte, reduceCtorEq]
  all_goals (simp [gainW, *])
 ·
  skip
  refine tr_skip ?_
  (try simp only [thenE, inBlkE])
  refine hK2 _ ?_
  refine tr_seq fun K5 hK5 => ?_
  refine tr_region [4] rfl rfl fun K hK => ?_
  iterate 3 refine evR_p ?_
  refine evR_c (hc := (c39 _ _ hg)) (k := ?_)
  refine evR_p ?_
  refine evR_e hK ?_; clear hK K
  refine hK5 _ ?_
  refine tr_ret ?_
  (try simp only [thenE, inBlkE])
  simp (maxSteps := 4000000) (disch := first | assumption | omega | (simp only [go_sem, *]; done) | (simp only [go_sem, *]; omega)) only [postA, postO, resV1, fzAll, go_sem, hq, Int.reduceToNat, Nat.reduceBEq, Nat.reduceEqDiff, Nat.reduceAdd, Nat.reduceMul, Nat.reduceLeDiff, Nat.reduceLT, Nat.reduceSub, ↓reduceIte, reduceCtorEq]
  all_goals (simp [gainW, *])

theorem c19 (a b : List Int) (ha : a.length ≤ maxLen) (hb : b.length ≤ maxLen) : CallsA Try.prog 28 [.sl 1 (encI a), .sl 1 (encI b)] (.bool (decide (a = b))) := by
 unfold maxLen at ha hb
 have hq : True := trivial
 refine callsA_of_tr Try.func28 rfl (Nat.le_of_ble_eq_true rfl) ?_
 simp only [Try.results28, envOf, Nat.reduceAdd]
 refine tr_seq fun K1 hK1 => ?_
 refine tr_region [0, 1] rfl rfl fun K hK => ?_
 refine evR_p ?_
 refine evR_e hK ?_; clear hK K
 refine hK1 _ ?_
 refine tr_seq fun K2 hK2 => ?_
 refine tr_seq fun K3 hK3 => ?_
 refine tr_region [0, 1, 10] rfl rfl fun K hK => ?_
 iterate 5 refine evR_p ?_
 refine evR_e hK ?_; clear hK K
 refine hK3 _ ?_
 refine tr_condB (fun ht1 => ?_) (fun ht1 => ?_)
 ·
  skip
  refine tr_seq fun K4 hK4 => ?_
  refine tr_region [4] rfl rfl fun K hK => ?_
  refine evR_p ?_
  refine evR_e hK ?_; clear hK K
  refine hK4 _ ?_
  refine tr_ret ?_
  (try simp only [thenE, inBlkE])
  simp (maxSteps := 4000000) (disch := first | assumption | omega | (simp only [go_sem, *]; done) | (simp only [go_sem, *]; omega)) only [postA, postO, resV1, fzAll, go_sem, hq, Int.reduceToNat, Nat.reduceBEq, Nat.reduceEqDiff, Nat.reduceAdd, Nat.reduceMul, Nat.reduceLeDiff, Nat.reduceLT, Nat.reduceSub, ↓reduceIte, reduceCtorEq]
  all_goals ((first | (simp only [V.bool.injEq]; symm; rw [decide_eq_false_iff_not]; exact ne_of_getD (by assumption)) | (simp only [V.bool.injEq]; symm; rw [decide_eq_true_iff]; exact eq_of_take (by omega) he) | (simp only [V.bool.injEq]; symm; rw [decide_eq_false_iff_not]; intro e; subst e; omega)))
 ·
  skip
  refine tr_skip ?_
  (try simp only [thenE, inBlkE])
  refine hK2 _ ?_
  refine tr_seq fun K5 hK5 => ?_
  refine tr_seq fun K6 hK6 => ?_
  refine tr_region [0, 1, 5] rfl rfl fun K hK => ?_
  refine evR_p ?_
  refine evR_e hK ?_; clear hK K
  refine hK6 _ ?_
  refine tr_block ?_
  -- loop 1: live [0, 1, 5]
  refine tr_loopW (fun m σ => ∃ i, i + m = a.length ∧ a.take i = b.take i ∧ σ = ⟨[(0, .sl 1 (encI a)), (1, .sl 1 (encI b)), (5, .int .i64 (i : Nat))], [], 0⟩) (a.length) ?_ ?_
  ·
   exact ⟨_, Wk.refl _, 0, by omega, rfl, rfl⟩
  ·
   rintro m σ ⟨i, hi, he, rfl⟩ KL1 hKL1
   refine tr_seq fun K7 hK7 => ?_
   refine tr_seq fun K8 hK8 => ?_
   refine tr_region [0, 1, 5, 14] rfl rfl fun K hK => ?_
   iterate 4 refine evR_p ?_
   refine evR_e hK ?_; clear hK K
   refine hK8 _ ?_
   refine tr_condB (fun ht2 => ?_) (fun ht2 => ?_)
   ·
    skip
    have hil : i < a.length := by omega
    have hil2 : i < b.length := by omega
    replace hq := And.intro hq (And.intro hil (hil2))
    refine tr_skip ?_
    (try simp only [thenE, inBlkE])
    refine hK7 _ ?_
    refine tr_seq fun K9 hK9 => ?_
    refine tr_block ?_
    refine tr_seq fun K10 hK10 => ?_
    refine tr_draw [] [0, 1, 5, 25] mixed rfl (by kernel_rfl) rfl fun K hK => ?_
    iterate 9 refine evD_p ?_
    refine evD_e hK ?_; clear hK K
    refine hK10 _ ?_
    refine tr_condB (fun ht3 => ?_) (fun ht3 => ?_)
    ·
     skip
     refine tr_seq fun K11 hK11 => ?_
     refine tr_region [4] rfl rfl fun K hK => ?_
     refine evR_p ?_
     refine evR_e hK ?_; clear hK K
     refine hK11 _ ?_
     refine tr_ret ?_
     (try simp only [thenE, inBlkE])
     simp (maxSteps := 4000000) (disch := first | assumption | omega | (simp only [go_sem, *]; done) | (simp only [go_sem, *]; omega)) only [postA, postO, resV1, fzAll, go_sem, hq, Int.reduceToNat, Nat.reduceBEq, Nat.reduceEqDiff, Nat.reduceAdd, Nat.reduceMul, Nat.reduceLeDiff, Nat.reduceLT, Nat.reduceSub, ↓reduceIte, reduceCtorEq]
     all_goals ((first | (simp only [V.bool.injEq]; symm; rw [decide_eq_false_iff_not]; exact ne_of_getD (by assumption)) | (simp only [V.bool.injEq]; symm; rw [decide_eq_true_iff]; exact eq_of_take (by omega) he) | (simp only [V.bool.injEq]; symm; rw [decide_eq_false_iff_not]; intro e; subst e; omega)))
    ·
     skip
     refine tr_skip ?_
     (try simp only [thenE, inBlkE])
     refine hK9 _ ?_
     refine tr_region [0, 1, 5] rfl rfl fun K hK => ?_
     iterate 3 refine evR_p ?_
     refine evR_e hK ?_; clear hK K
     refine hKL1 _ ?_
     exact ⟨m - 1, _, by omega, Wk.refl _, i + 1, by omega, take_one_eq hil hil2 he (by assumption), by rw [w64 (x := (i : Int) + 1) (by omega)]; rfl⟩
   ·
    skip
    have hil : i = a.length := by omega
    subst hil
    refine tr_exit ?_
    simp only [thenE, inBlkE, Nat.reduceEqDiff, ↓reduceIte]
    refine hK5 _ ?_
    refine tr_seq fun K12 hK12 => ?_
    refine tr_region [4] rfl rfl fun K hK => ?_
    refine evR_p ?_
    refine evR_e hK ?_; clear hK K
    refine hK12 _ ?_
    refine tr_ret ?_
    (try simp only [thenE, inBlkE])
    simp (maxSteps := 4000000) (disch := first | assumption | omega | (simp only [go_sem, *]; done) | (simp only [go_sem, *]; omega)) only [postA, postO, resV1, fzAll, go_sem, hq, Int.reduceToNat, Nat.reduceBEq, Nat.reduceEqDiff, Nat.reduceAdd, Nat.reduceMul, Nat.reduceLeDiff, Nat.reduceLT, Nat.reduceSub, ↓reduceIte, reduceCtorEq]
    all_goals ((first | (simp only [V.bool.injEq]; symm; rw [decide_eq_false_iff_not]; exact ne_of_getD (by assumption)) | (simp only [V.bool.injEq]; symm; rw [decide_eq_true_iff]; exact eq_of_take (by omega) he) | (simp only [V.bool.injEq]; symm; rw [decide_eq_false_iff_not]; intro e; subst e; omega)))

end Go.Proofs.Ytfamkbofdamkkaa
namespace Go.Proofs.Ytfamkbofdamkkaa
open Go.RowKit
set_option linter.unusedVariables false
set_option linter.unusedSimpArgs false
set_option maxRecDepth 100000
attribute [local go_sem] Nat.zero_add Nat.add_zero Nat.mul_one eq_self ne_eq not_true_eq_false not_false_eq_true decide_true decide_false decide_not Bool.false_eq_true List.filter_cons List.filter_nil true_and and_true beq_false beq_true Bool.not_true Bool.not_false Bool.and_true Bool.true_and Option.getD_some Option.getD_none imp_self implies_true Int.toNat_natCast List.cons_append List.nil_append List.map_cons List.map_nil List.length_cons List.length_nil List.getD_cons_zero List.getD_cons_succ List.drop_zero List.drop_succ_cons List.take_succ_cons List.take_zero
attribute [local go_sem] shL isSh Option.isNone_none Option.isNone_some Option.isSome_none lowN lowQ lowM isAl appOwn unw appF isE isO stpO notIn St.bare evO evDO isEff stp St.get St.slot St.put List.lookup un unL ofVal gof nth pickV pkB_false pkB_true binV unV loadV idxV fldV partV buildV fillV lenV sliV appV appR rowsV winV V.parts V.okp V.sc Mem.look_cons Mem.look_nil V.cl V.clL AObj.clo fzAll exps St.fz Mem.fz V.fz V.fzL AObj.fz Option.isSome_some Option.isSome_none Bool.or_true Bool.true_or Bool.or_false Bool.false_or false_and and_false false_or or_false arT_22 arT_23 arT_25 arT_24 arT_40 arT_30  arT_65 arT_28 arT_90  arT_52 boolT_25 boolT_3 boolT_35 boolT_4  flatT_25 flatT_3 flatT_35 flatT_4  intT_3 intT_133 lay_23 lay_25 lay_67 lay_24 lay_27 lay_3 lay_49 lay_30 lay_34 lay_4 lay_65 lay_52 lay_54 lay_56 lay_141 lay_164  okF_17 okF_31  okF_36 okF_18 okF_34 okF_63  okF_28 okF_50 okF_69 okF_51  okF_35       okF_37   okF_71  okF_65  okF_62 okF_77 okF_79  okF_80 okF_81 okF_64 okF_66 okF_76 okF_113 okF_96 okF_97 okF_98 okF_82  okF_99 okF_119 okF_120 okF_78 okF_100 okF_101 okF_83 okF_84 okF_125 okF_126  okF_127 okF_128 okF_129 okF_130 okF_114 okF_124 okF_140 okF_141 okF_142 okF_143  okF_131 okF_132 okF_144 okF_158 okF_155 okF_159   plT_67 plT_27 plT_34 plT_54 plT_56 slT_22 slT_23 slT_25 slT_24 slT_40 slT_30  slT_65 slT_28 slT_90  slT_52  stT_67_1   stT_67_4 stT_67_5 stT_27_0 stT_27_1 stT_27_2 stT_34_0 stT_34_1 stT_34_2 stT_34_3 stT_54_0 stT_54_1 stT_54_2 stT_54_3 stT_56_0 stT_56_1  zeroT_67 zeroT_27 zeroT_3 zeroT_49 zeroT_30 zeroT_34 zeroT_65  zeroT_54 zeroT_56
attribute [local go_sem] List.getElem?_cons_zero List.getElem?_cons_succ List.zip_cons_cons List.zip_nil_left List.zip_nil_right Bool.false_and Bool.and_false List.length_append List.length_set List.length_replicate List.all_cons List.all_nil encI_length encI_getD encR_length encR_getD encRw encPg spl shp AObj.shp rowM isSt isRpS isRd csh AObj.csh forall_const imp_self
attribute [local simp] encI_length encR_length
section
attribute [local go_sem] encI_take encI_drop
end

section
attribute [local go_sem] encS_one encS_leaf encS_length
end

end Go.Proofs.Ytfamkbofdamkkaa
namespace Go.Proofs.Ytfamkbofdamkkaa
open Go.RowKit
set_option linter.unusedVariables false
set_option linter.unusedSimpArgs false
set_option maxRecDepth 100000
attribute [local go_sem] Nat.zero_add Nat.add_zero Nat.mul_one eq_self ne_eq not_true_eq_false not_false_eq_true decide_true decide_false decide_not Bool.false_eq_true List.filter_cons List.filter_nil true_and and_true beq_false beq_true Bool.not_true Bool.not_false Bool.and_true Bool.true_and Option.getD_some Option.getD_none imp_self implies_true Int.toNat_natCast List.cons_append List.nil_append List.map_cons List.map_nil List.length_cons List.length_nil List.getD_cons_zero List.getD_cons_succ List.drop_zero List.drop_succ_cons List.take_succ_cons List.take_zero
attribute [local go_sem] shL isSh Option.isNone_none Option.isNone_some Option.isSome_none lowN lowQ lowM isAl appOwn unw appF isE isO stpO notIn St.bare evO evDO isEff stp St.get St.slot St.put List.lookup un unL ofVal gof nth pickV pkB_false pkB_true binV unV loadV idxV fldV partV buildV fillV lenV sliV appV appR rowsV winV V.parts V.okp V.sc Mem.look_cons Mem.look_nil V.cl V.clL AObj.clo fzAll exps St.fz Mem.fz V.fz V.fzL AObj.fz Option.isSome_some Option.isSome_none Bool.or_true Bool.true_or Bool.or_false Bool.false_or false_and and_false false_or or_false arT_22 arT_23 arT_25 arT_24 arT_40 arT_30  arT_65 arT_28 arT_90  arT_52 boolT_25 boolT_3 boolT_35 boolT_4  flatT_25 flatT_3 flatT_35 flatT_4  intT_3 intT_133 lay_23 lay_25 lay_67 lay_24 lay_27 lay_3 lay_49 lay_30 lay_34 lay_4 lay_65 lay_52 lay_54 lay_56 lay_141 lay_164  okF_17 okF_31  okF_36 okF_18 okF_34 okF_63  okF_28 okF_50 okF_69 okF_51  okF_35       okF_37   okF_71  okF_65  okF_62 okF_77 okF_79  okF_80 okF_81 okF_64 okF_66 okF_76 okF_113 okF_96 okF_97 okF_98 okF_82  okF_99 okF_119 okF_120 okF_78 okF_100 okF_101 okF_83 okF_84 okF_125 okF_126  okF_127 okF_128 okF_129 okF_130 okF_114 okF_124 okF_140 okF_141 okF_142 okF_143  okF_131 okF_132 okF_144 okF_158 okF_155 okF_159   plT_67 plT_27 plT_34 plT_54 plT_56 slT_22 slT_23 slT_25 slT_24 slT_40 slT_30  slT_65 slT_28 slT_90  slT_52  stT_67_1   stT_67_4 stT_67_5 stT_27_0 stT_27_1 stT_27_2 stT_34_0 stT_34_1 stT_34_2 stT_34_3 stT_54_0 stT_54_1 stT_54_2 stT_54_3 stT_56_0 stT_56_1  zeroT_67 zeroT_27 zeroT_3 zeroT_49 zeroT_30 zeroT_34 zeroT_65  zeroT_54 zeroT_56
attribute [local go_sem] List.getElem?_cons_zero List.getElem?_cons_succ List.zip_cons_cons List.zip_nil_left List.zip_nil_right Bool.false_and Bool.and_false List.length_append List.length_set List.length_replicate List.all_cons List.all_nil encI_length encI_getD encR_length encR_getD encRw encPg spl shp AObj.shp rowM isSt isRpS isRd csh AObj.csh forall_const imp_self
attribute [local simp] encI_length encR_length
theorem c38 (p : Pg) : CallsA Try.prog 77 [.agg (encPg p)] (.fn 125 [.ep (encPg p)]) := by
 have hq : True := trivial
 refine callsA_of_tr Try.func77 rfl (Nat.le_of_ble_eq_true rfl) ?_
 simp only [Try.results77, envOf, Nat.reduceAdd]
 refine tr_seq fun K1 hK1 => ?_
 refine tr_region [1] rfl rfl fun K hK => ?_
 iterate 2 refine evR_p ?_
 refine evR_e hK ?_; clear hK K
 refine hK1 _ ?_
 refine tr_seq fun K2 hK2 => ?_
 refine tr_fz [.ptr 0 0] (by simp (maxSteps := 4000000) (disch := first | assumption | omega | (simp only [go_sem, *]; done) | (simp only [go_sem, *]; omega)) only [go_sem, hq, Int.reduceToNat, Nat.reduceBEq, Nat.reduceEqDiff, Nat.reduceAdd, Nat.reduceMul, Nat.reduceLeDiff, Nat.reduceLT, Nat.reduceSub, ↓reduceIte, reduceCtorEq]; (try rfl)) ?_
 refine tr_region [2] rfl rfl fun K hK => ?_
 iterate 2 refine evR_p ?_
 refine evR_e hK ?_; clear hK K
 refine hK2 _ ?_
 refine tr_ret ?_
 (try simp only [thenE, inBlkE])
 simp (maxSteps := 4000000) (disch := first | assumption | omega | (simp only [go_sem, *]; done) | (simp only [go_sem, *]; omega)) only [postA, postO, resV1, fzAll, go_sem, hq, Int.reduceToNat, Nat.reduceBEq, Nat.reduceEqDiff, Nat.reduceAdd, Nat.reduceMul, Nat.reduceLeDiff, Nat.reduceLT, Nat.reduceSub, ↓reduceIte, reduceCtorEq]
 all_goals (rfl)

theorem c59 (r : Rw) (hm : r.coef.length ≤ maxLen) (set : Int) : CallsA Try.prog 126 [.agg (encRw r), .ep [.int .i64 set]] (.bool (keptB r set)) := by
 have hq : True := trivial
 refine callsA_of_tr Try.func126 rfl (Nat.le_of_ble_eq_true rfl) ?_
 simp only [Try.results126, envOf, Nat.reduceAdd]
 refine tr_seq fun K1 hK1 => ?_
 refine tr_region [1, 2] rfl rfl fun K hK => ?_
 iterate 2 refine evR_p ?_
 refine evR_e hK ?_; clear hK K
 refine hK1 _ ?_
 refine tr_seq fun K2 hK2 => ?_
 refine tr_region [3] rfl rfl fun K hK => ?_
 iterate 2 refine evR_p ?_
 refine evR_c (hc := (c55 r hm set)) (k := ?_)
 refine evR_p ?_
 refine evR_e hK ?_; clear hK K
 refine hK2 _ ?_
 refine tr_ret ?_
 (try simp only [thenE, inBlkE])
 simp (maxSteps := 4000000) (disch := first | assumption | omega | (simp only [go_sem, *]; done) | (simp only [go_sem, *]; omega)) only [postA, postO, resV1, fzAll, go_sem, hq, Int.reduceToNat, Nat.reduceBEq, Nat.reduceEqDiff, Nat.reduceAdd, Nat.reduceMul, Nat.reduceLeDiff, Nat.reduceLT, Nat.reduceSub, ↓reduceIte, reduceCtorEq]
 all_goals (skip)

section
attribute [local go_sem] fzL_mapI
theorem c58 (p : Pg) (hr : p.rows.length ≤ maxLen) (hg : p.gain.length ≤ maxLen) (hc : ∀ r ∈ p.rows, r.coef.length ≤ maxLen) (hv : validB p = true) : SeqA Try.prog (Value.int .i64) 125 [.ep (encPg p)] (fun xs => xs = choiceL p) 4096 := by
 obtain ⟨v, hv1, hv2, hv3, hv4⟩ := vars_pow hv
 have hq := And.intro hv1 (hv3)
 refine seqA_of_tr Try.func125 rfl (by rw [Try.results125]) enok_int (Nat.le_of_ble_eq_true rfl) (Nat.le_of_ble_eq_true rfl) fun l ys C hys hCY => ?_
 obtain ⟨y0, rfl⟩ : ∃ y0, ys = [y0] := by match ys, hys with | [y0], _ => exact ⟨y0, rfl⟩
 simp only [List.zipWith_cons_cons, List.zipWith_nil_left, List.zip_cons_cons, List.zip_nil_left, envOf, List.cons_append, List.nil_append, Nat.reduceAdd] at hCY ⊢
 refine tr_seq fun K1 hK1 => ?_
 refine tr_region [0, 1, 6, 7, 1000000, 1000001] rfl rfl fun K hK => ?_
 iterate 4 refine evR_p ?_
 refine evR_e hK ?_; clear hK K
 refine hK1 _ ?_
 refine tr_block ?_
 -- loop 1: live [0, 1, 6, 7]
 refine tr_loopW (fun m σ => ∃ i : Nat, i + m = 2 ^ v ∧ σ = ⟨[(0, .yl l), (1, .eq y0 (.ep [.int .i64 (v : Nat), .sl 6 (encR p.rows), .sl 1 (encI p.gain)])), (6, .int .i64 ((2 ^ v : Nat) : Int)), (7, .int .i64 (i : Nat)), (1000000, .tup ((chL p.rows i).map (V.int .i64))), (1000001, .bool false)], [], 0⟩) (2 ^ v) ?_ ?_
 ·
  exact ⟨_, Wk.refl _, 0, by omega, rfl⟩
 ·
  rintro m σ ⟨i, hi, rfl⟩ KL1 hKL1
  refine tr_seq fun K2 hK2 => ?_
  refine tr_region [0, 1, 6, 7, 8, 1000000, 1000001] rfl rfl fun K hK => ?_
  refine evR_p ?_
  refine evR_e hK ?_; clear hK K
  refine hK2 _ ?_
  refine tr_seq fun K3 hK3 => ?_
  refine tr_condB (fun ht1 => ?_) (fun ht1 => ?_)
  ·
   skip
   (first | (exfalso; simp_all; done) | skip)
   all_goals
    have hil : i < 2 ^ v := by omega
    have hcl := chL_length p.rows i
    replace hq := And.intro hq (hil)
    refine tr_skip ?_
    (try simp only [thenE, inBlkE])
    refine hK3 _ ?_
    refine tr_seq fun K4 hK4 => ?_
    refine tr_block ?_
    refine tr_seq fun K5 hK5 => ?_
    refine tr_region [0, 1, 3, 6, 7, 1000000, 1000001] rfl rfl fun K hK => ?_
    iterate 3 refine evR_p ?_
    refine evR_e hK ?_; clear hK K
    refine hK5 _ ?_
    refine tr_seq fun K6 hK6 => ?_
    refine tr_region [0, 1, 6, 7, 19, 1000000, 1000001] rfl rfl fun K hK => ?_
    iterate 3 refine evR_p ?_
    refine evR_c (hc := (c46 p.rows 126 [.ep [.int .i64 (i : Nat)]] (fun r => keptB r (i : Nat)) okF_126 rfl (fun r h => c59 r (hc r h) (i : Nat)) hr)) (k := ?_)
    refine evR_p ?_
    iterate 2 refine evR_g ?_
    refine evR_stepY rfl rfl fun Kq hKq => ⟨fun hyt => hCY _ _ _ ?_, fun hyt => ⟨.bool false, hKq _ ?_⟩⟩
    (try simp only [decide_eq_true_eq, decide_eq_false_iff_not, Bool.not_eq_true', Bool.not_eq_false', Bool.and_eq_true, Bool.or_eq_true, Bool.and_eq_false_iff, Bool.or_eq_false_iff, beq_true, beq_false] at hyt)
    simp (maxSteps := 4000000) (disch := first | assumption | omega | (simp only [go_sem, *]; done) | (simp only [go_sem, *]; omega)) only [YI, go_sem, hq, Int.reduceToNat, Nat.reduceBEq, Nat.reduceEqDiff, Nat.reduceAdd, Nat.reduceMul, Nat.reduceLeDiff, Nat.reduceLT, Nat.reduceSub, ↓reduceIte, reduceCtorEq]
    (repeat (refine And.intro (by first | assumption | omega | decide | (simp; done) | (simp; omega) | (have hq := hvv hgt; omega) | (simp_all; done)) ?_))
    refine ⟨((i : Nat) : Int), chL p.rows i, [1], ?_⟩
    (repeat (refine And.intro (by first | rfl | exact (show (chL p.rows i).length < 4096 by omega) | (intro t ht; rw [List.mem_singleton] at ht; subst ht; exact ⟨_, List.mem_singleton.2 rfl, rfl⟩) | (rfl)) ?_))
    refine ⟨hKq _ ?_, hKq _ ?_⟩
    all_goals try simp only [goY, stY, keepE, simE, V.simpl, V.simp, List.cons_append, List.nil_append, St.put, St.slot, List.lookup, Option.getD_some, Nat.reduceBEq]
    all_goals (try clear hKq Kq)
    all_goals (try simp only [decide_eq_true_eq, decide_eq_false_iff_not, Bool.not_eq_true', Bool.not_eq_false', Bool.and_eq_true, Bool.or_eq_true, Bool.and_eq_false_iff, Bool.or_eq_false_iff, beq_true, beq_false] at hyt)
    all_goals
     refine evR_g ?_
     refine evR_p ?_
     refine evR_e hK ?_; clear hK K
     refine hK6 _ ?_
     refine tr_condB (fun ht2 => ?_) (fun ht2 => ?_)
     ·
      skip
      (first | (exfalso; simp_all; done) | skip)
      all_goals
       refine tr_ret ?_
       (try simp only [thenE, inBlkE])
       simp (maxSteps := 4000000) (disch := first | assumption | omega | (simp only [go_sem, *]; done) | (simp only [go_sem, *]; omega)) only [postI, go_sem, hq, Int.reduceToNat, Nat.reduceBEq, Nat.reduceEqDiff, Nat.reduceAdd, Nat.reduceMul, Nat.reduceLeDiff, Nat.reduceLT, Nat.reduceSub, ↓reduceIte, reduceCtorEq]
       all_goals (first | exact Or.inl trivial | exact Or.inl rfl | exact Or.inr ⟨_, by unfold choiceL; rw [hv1]; rfl, rfl⟩)
     ·
      skip
      (first | (exfalso; simp_all; done) | skip)
      all_goals
       refine tr_skip ?_
       (try simp only [thenE, inBlkE])
       refine hK4 _ ?_
       refine tr_region [0, 1, 6, 7, 1000000, 1000001] rfl rfl fun K hK => ?_
       iterate 2 refine evR_p ?_
       refine evR_e hK ?_; clear hK K
       refine hKL1 _ ?_
       first
        | exact ⟨m - 1, _, by omega, Wk.cut 0 (by simp only [St.cutOK, List.all_cons, List.all_nil, V.upto, uptoL_mapI, Bool.and_self, List.filter_nil]), i + 1, by omega, by rw [w64 (x := (i : Int) + 1) (by omega), chL_t hyt]; rfl⟩
        | exact ⟨m - 1, _, by omega, Wk.cut 0 (by simp only [St.cutOK, List.all_cons, List.all_nil, V.upto, uptoL_mapI, Bool.and_self, List.filter_nil]), i + 1, by omega, by rw [w64 (x := (i : Int) + 1) (by omega), chL_f hyt]; rfl⟩
  ·
   skip
   (first | (exfalso; simp_all; done) | skip)
   all_goals
    have hil : i = 2 ^ v := by omega
    subst hil
    refine tr_exit ?_
    simp only [thenE, inBlkE, Nat.reduceEqDiff, ↓reduceIte]
    simp (maxSteps := 4000000) (disch := first | assumption | omega | (simp only [go_sem, *]; done) | (simp only [go_sem, *]; omega)) only [postI, go_sem, hq, Int.reduceToNat, Nat.reduceBEq, Nat.reduceEqDiff, Nat.reduceAdd, Nat.reduceMul, Nat.reduceLeDiff, Nat.reduceLT, Nat.reduceSub, ↓reduceIte, reduceCtorEq]
    all_goals (first | exact Or.inl trivial | exact Or.inl rfl | exact Or.inr ⟨_, by unfold choiceL; rw [hv1]; rfl, rfl⟩)
end

theorem c65 (f : FuncId) (caps : List V) (xs : List Int) (hit : SeqA Try.prog (Value.int .i64) f caps (fun ys => ys = xs) 4096) (hcl : V.clL caps = true) (hok : okF Try.prog f = true) : CallsA Try.prog 124 [.nsl, .fn f caps] (.sl 1 (encI xs)) := by
 have hq : True := trivial
 refine callsA_of_tr Try.func124 rfl (Nat.le_of_ble_eq_true rfl) ?_
 simp only [Try.results124, envOf, Nat.reduceAdd]
 refine tr_seq fun K1 hK1 => ?_
 refine tr_region [1, 2] rfl rfl fun K hK => ?_
 iterate 2 refine evR_p ?_
 refine evR_e hK ?_; clear hK K
 refine hK1 _ ?_
 refine tr_seq fun K2 hK2 => ?_
 refine tr_seq fun K3 hK3 => ?_
 refine tr_region [2, 6] rfl rfl fun K hK => ?_
 refine evR_p ?_
 refine evR_e hK ?_; clear hK K
 refine hK3 _ ?_
 refine tr_block ?_
 -- loop over a function 1: live [2]
 refine tr_wk (Wk.nilown 3 1 0 0 rfl (Nat.le_of_ble_eq_true rfl) rfl) ?_
 try simp only [List.map_cons, List.map_nil, Nat.reduceEqDiff, ↓reduceIte, List.set_cons_zero, List.set_cons_succ, Nat.reduceAdd]
 refine tr_rangeFunc (en := V.int .i64) hit enok_int.rel rfl hcl hok rfl (fun pre σ => σ = ⟨[(2, .ptr 0 0)], [(1, .row 3 1 (encI pre)), (0, .cells [.own 1])], 2⟩) [2] ?_ ?_ ?_
 ·
  rfl
 ·
  rintro pre x σ rfl hpre KL1 hKL1 KA1 hKA1
  simp only [St.rd, List.filter_cons, List.filter_nil, List.map_cons, List.map_nil, Nat.blt_eq, Nat.reduceLT, ↓reduceIte, List.cons_append, List.nil_append, Nat.reduceAdd]
  refine tr_region [2, 5, 2000002] rfl rfl fun K hK => ?_
  refine evR_p ?_
  refine evR_e hK ?_; clear hK K
  refine hKA1 _ ?_
  refine tr_block ?_
  refine tr_region [2000002] rfl rfl fun K hK => ?_
  iterate 2 refine evR_p ?_
  refine evR_bs ?_
  iterate 2 refine evR_p ?_
  refine evR_e hK ?_; clear hK K
  refine hKL1 _ ?_
  simp only [St.bk, List.filterMap_cons, List.filterMap_nil, Nat.ble_eq, Nat.reduceLeDiff, ↓reduceIte, Nat.reduceSub]
  exact ⟨_, Wk.trans (Wk.ren 2 1 (Nat.le_of_ble_eq_true rfl) (Nat.le_of_ble_eq_true rfl) rfl) (Wk.cut 2 rfl), by rw [encI_snoc]; rfl⟩
 ·
  rintro pre σ hS rfl
  subst hS
  refine hK2 _ ?_
  refine tr_seq fun K4 hK4 => ?_
  refine tr_region [4] rfl rfl fun K hK => ?_
  iterate 2 refine evR_p ?_
  refine evR_e hK ?_; clear hK K
  refine hK4 _ ?_
  refine tr_ret ?_
  (try simp only [thenE, inBlkE])
  simp (maxSteps := 4000000) (disch := first | assumption | omega | (simp only [go_sem, *]; done) | (simp only [go_sem, *]; omega)) only [postA, postO, resV1, fzAll, go_sem, hq, Int.reduceToNat, Nat.reduceBEq, Nat.reduceEqDiff, Nat.reduceAdd, Nat.reduceMul, Nat.reduceLeDiff, Nat.reduceLT, Nat.reduceSub, ↓reduceIte, reduceCtorEq]
  all_goals (rfl)

theorem c44 (f : FuncId) (caps : List V) (xs : List Int) (hit : SeqA Try.prog (Value.int .i64) f caps (fun ys => ys = xs) 4096) (hcl : V.clL caps = true) (hok : okF Try.prog f = true) : CallsA Try.prog 76 [.fn f caps] (.sl 1 (encI xs)) := by
 have hq := hcl
 refine callsA_of_tr Try.func76 rfl (Nat.le_of_ble_eq_true rfl) ?_
 simp only [Try.results76, envOf, Nat.reduceAdd]
 refine tr_seq fun K1 hK1 => ?_
 refine tr_region [0] rfl rfl fun K hK => ?_
 refine evR_p ?_
 refine evR_e hK ?_; clear hK K
 refine hK1 _ ?_
 refine tr_seq fun K2 hK2 => ?_
 refine tr_region [2] rfl rfl fun K hK => ?_
 refine evR_p ?_
 refine evR_c (hc := (c65 f caps xs hit hcl hok)) (k := ?_)
 refine evR_p ?_
 refine evR_e hK ?_; clear hK K
 refine hK2 _ ?_
 refine tr_ret ?_
 (try simp only [thenE, inBlkE])
 simp (maxSteps := 4000000) (disch := first | assumption | omega | (simp only [go_sem, *]; done) | (simp only [go_sem, *]; omega)) only [postA, postO, resV1, fzAll, go_sem, hq, Int.reduceToNat, Nat.reduceBEq, Nat.reduceEqDiff, Nat.reduceAdd, Nat.reduceMul, Nat.reduceLeDiff, Nat.reduceLT, Nat.reduceSub, ↓reduceIte, reduceCtorEq]
 all_goals (rfl)

theorem c16 (p : Pg) (hr : p.rows.length ≤ maxLen) (hg : p.gain.length ≤ maxLen) (hc : ∀ r ∈ p.rows, r.coef.length ≤ maxLen) (hv : validB p = true) : CallsA Try.prog 34 [.agg (encPg p)] (.tup [.sl 1 (encI (choiceL p)), .int .i64 0]) := by
 have hq := hv
 refine callsA_of_tr Try.func34 rfl (Nat.le_of_ble_eq_true rfl) ?_
 simp only [Try.results34, envOf, Nat.reduceAdd]
 refine tr_seq fun K1 hK1 => ?_
 refine tr_region [1] rfl rfl fun K hK => ?_
 iterate 3 refine evR_p ?_
 refine evR_e hK ?_; clear hK K
 refine hK1 _ ?_
 refine tr_seq fun K2 hK2 => ?_
 refine tr_seq fun K3 hK3 => ?_
 refine tr_region [1, 6] rfl rfl fun K hK => ?_
 refine evR_p ?_
 refine evR_c (hc := (c20 p hr hg hc)) (k := ?_)
 refine evR_p ?_
 refine evR_e hK ?_; clear hK K
 refine hK3 _ ?_
 refine tr_condB (fun ht1 => ?_) (fun ht1 => ?_)
 ·
  skip
  (first | (exfalso; simp_all; done) | skip)
  all_goals
   refine tr_seq fun K4 hK4 => ?_
   refine tr_region [2, 3] rfl rfl fun K hK => ?_
   iterate 2 refine evR_p ?_
   refine evR_e hK ?_; clear hK K
   refine hK4 _ ?_
   refine tr_ret ?_
   (try simp only [thenE, inBlkE])
   simp (maxSteps := 4000000) (disch := first | assumption | omega | (simp only [go_sem, *]; done) | (simp only [go_sem, *]; omega)) only [postA, postO, resV1, fzAll, go_sem, hq, Int.reduceToNat, Nat.reduceBEq, Nat.reduceEqDiff, Nat.reduceAdd, Nat.reduceMul, Nat.reduceLeDiff, Nat.reduceLT, Nat.reduceSub, ↓reduceIte, reduceCtorEq]
   all_goals (rfl)
 ·
  skip
  (first | (exfalso; simp_all; done) | skip)
  all_goals
   refine tr_skip ?_
   (try simp only [thenE, inBlkE])
   refine hK2 _ ?_
   refine tr_seq fun K5 hK5 => ?_
   refine tr_region [2, 3] rfl rfl fun K hK => ?_
   refine evR_p ?_
   refine evR_c (hc := (c38 p)) (k := ?_)
   refine evR_c (hc := (c44 125 [.ep (encPg p)] (choiceL p) (c58 p hr hg hc hv) rfl okF_125)) (k := ?_)
   iterate 2 refine evR_p ?_
   refine evR_e hK ?_; clear hK K
   refine hK5 _ ?_
   refine tr_ret ?_
   (try simp only [thenE, inBlkE])
   simp (maxSteps := 4000000) (disch := first | assumption | omega | (simp only [go_sem, *]; done) | (simp only [go_sem, *]; omega)) only [postA, postO, resV1, fzAll, go_sem, hq, Int.reduceToNat, Nat.reduceBEq, Nat.reduceEqDiff, Nat.reduceAdd, Nat.reduceMul, Nat.reduceLeDiff, Nat.reduceLT, Nat.reduceSub, ↓reduceIte, reduceCtorEq]
   all_goals (rfl)

section
attribute [local go_sem] encR_takeA encR_one
end

section
attribute [local go_sem] encR_takeA encR_one
end

end Go.Proofs.Ytfamkbofdamkkaa
