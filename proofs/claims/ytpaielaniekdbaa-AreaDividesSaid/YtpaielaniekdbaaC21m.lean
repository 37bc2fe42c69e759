import Derived.Test.YtpaielaniekdbaaF21
import Derived.Test.YtpaielaniekdbaaP21
import Derived.Test.YtpaielaniekdbaaPB21
import Derived.Test.YtpaielaniekdbaaPE21
import Derived.Test.YtpaielaniekdbaaPG21
import Derived.Test.YtpaielaniekdbaaPH21
import Derived.Test.YtpaielaniekdbaaPI21
import Derived.Test.YtpaielaniekdbaaPJ21
import Derived.Test.YtpaielaniekdbaaC21k
import Derived.Test.YtpaielaniekdbaaC21l
import Derived.Test.YtpaielaniekdbaaC21a
import Derived.Test.YtpaielaniekdbaaC21b
import Derived.Test.YtpaielaniekdbaaC21c
import Derived.Test.YtpaielaniekdbaaC21d
import Derived.Test.YtpaielaniekdbaaC21e
import Derived.Test.YtpaielaniekdbaaC21f
import Derived.Test.YtpaielaniekdbaaAi21
namespace Go.Proofs.Ytpaielaniekdbaa
open Go.RowKit
set_option linter.unusedVariables false
set_option linter.unusedSimpArgs false
attribute [local go_sem] Nat.zero_add Nat.add_zero Nat.mul_one eq_self ne_eq not_true_eq_false not_false_eq_true decide_true decide_false decide_not Bool.false_eq_true List.filter_cons List.filter_nil true_and and_true beq_false beq_true Bool.not_true Bool.not_false Bool.and_true Bool.true_and Option.getD_some Option.getD_none imp_self implies_true Int.toNat_natCast List.cons_append List.nil_append List.map_cons List.map_nil List.length_cons List.length_nil List.getD_cons_zero List.getD_cons_succ List.drop_zero List.drop_succ_cons List.take_succ_cons List.take_zero
attribute [local go_sem] evO evDO isEff stp St.get St.slot St.put List.lookup un unL ofVal gof nth pickV pkB_false pkB_true binV unV loadV idxV fldV partV buildV fillV lenV sliV appV appR rowsV winV V.parts V.okp V.sc Mem.look_cons Mem.look_nil V.cl V.clL AObj.clo fzAll exps St.fz Mem.fz V.fz V.fzL AObj.fz arT_23 arT_24 arT_25 arT_26 arT_27 arT_32 arT_41 arT_49 arT_9 boolT_23 boolT_3 boolT_4 boolT_43 flatT_23 flatT_3 flatT_4 flatT_43 intT_3 intT_5 intT_61 intT_69 intT_71 lay_23 lay_26 lay_27 lay_29 lay_3 okF_10 okF_11 okF_12 okF_13 okF_14 okF_15 okF_16 okF_17 okF_18 okF_19 okF_20 okF_21 okF_22 okF_23 okF_24 okF_25 okF_26 okF_27 okF_28 okF_29 okF_3 okF_30 okF_31 okF_32 okF_33 okF_34 okF_35 okF_36 okF_37 okF_38 okF_39 okF_4 okF_40 okF_41 okF_42 okF_43 okF_44 okF_45 okF_46 okF_47 okF_48 okF_49 okF_5 okF_50 okF_51 okF_52 okF_53 okF_54 okF_55 okF_56 okF_57 okF_58 okF_59 okF_6 okF_60 okF_61 okF_62 okF_7 okF_8 okF_9 plT_23 plT_26 plT_29 slT_23 slT_24 slT_25 slT_26 slT_27 slT_32 slT_41 slT_49 stT_29_0 stT_29_1 zeroT_23 zeroT_26 zeroT_27 zeroT_29 zeroT_3
attribute [local go_sem] cellsI_fzL cellsI_uptoL List.getElem?_cons_zero List.getElem?_cons_succ List.zip_cons_cons List.zip_nil_left List.zip_nil_right Bool.false_and Bool.and_false cellsG_length moveA_length minusA_length unionA_length meetA_length polyA_length discA_length agEq_cells cellsI_isI cellsI_length cellsI_sc cellsI_cl cellsI_rows cellsI_take cellsI_dropD cellsI_set cellsI_full encI_length encI_getD List.length_set List.length_replicate List.all_cons List.all_nil outA_length eachA_length outM_length getD_set_same List.set_set spl_nil0 spl_cons0 spl_succ encP_length encP_getD
attribute [local simp] turnL_length backL_length encP_length padP_length encI_length
theorem c36 (l : List Pl) (p : Pl) (hm : l.length ≤ maxLen) : CallsA Try.prog 36 [.sl 2 (encP l), .agg [.int .i64 p.x, .int .i64 p.y]] (.int .i64 (insideP l p)) := by
  refine callsA_of_tr Try.func36 rfl (Nat.le_of_ble_eq_true rfl) ?_
  simp only [Try.results36, envOf, Nat.reduceAdd]
  refine tr_seq fun K1 hK1 => ?_
  refine tr_region [0, 3] rfl rfl fun K hK => ?_
  iterate 2 (refine evR_step fun Kq hKq => ?_; simp (maxSteps := 4000000) (disch := first | assumption | omega | (simp only [go_sem, *]; done) | (simp only [go_sem, *]; omega)) only [go_sem, isE, isO, stpO, notIn, St.bare, Bool.false_and, Bool.true_and, Bool.and_true, Bool.not_true, Bool.not_false, Int.reduceToNat, Nat.reduceBEq, Nat.reduceEqDiff, Nat.reduceAdd, Nat.reduceMul, Nat.reduceLeDiff, Nat.reduceLT, Nat.reduceSub, ↓reduceIte, reduceCtorEq]; (repeat (refine And.intro (by first | assumption | omega | decide | (simp; done) | (simp; omega)) ?_)); refine hKq _ ?_; clear hKq Kq)
  refine evR_nil (hK _ ?_); clear hK K
  simp only [St.norm, thenE, inBlkE, List.filterMap, List.lookup, Option.map, Nat.reduceBEq]
  refine hK1 _ ?_
  refine tr_seq fun K2 hK2 => ?_
  refine tr_seq fun K3 hK3 => ?_
  refine tr_region [0, 3, 16] rfl rfl fun K hK => ?_
  iterate 1 (refine evR_step fun Kq hKq => ?_; simp (maxSteps := 4000000) (disch := first | assumption | omega | (simp only [go_sem, *]; done) | (simp only [go_sem, *]; omega)) only [go_sem, isE, isO, stpO, notIn, St.bare, Bool.false_and, Bool.true_and, Bool.and_true, Bool.not_true, Bool.not_false, Int.reduceToNat, Nat.reduceBEq, Nat.reduceEqDiff, Nat.reduceAdd, Nat.reduceMul, Nat.reduceLeDiff, Nat.reduceLT, Nat.reduceSub, ↓reduceIte, reduceCtorEq]; (repeat (refine And.intro (by first | assumption | omega | decide | (simp; done) | (simp; omega)) ?_)); refine hKq _ ?_; clear hKq Kq)
  refine evR_step fun Kq hKq => ?_
  simp (maxSteps := 4000000) (disch := first | assumption | omega | (simp only [go_sem, *]; done) | (simp only [go_sem, *]; omega)) only [go_sem, isE, isO, stpO, notIn, St.bare, Bool.false_and, Bool.true_and, Bool.and_true, Bool.not_true, Bool.not_false, Int.reduceToNat, Nat.reduceBEq, Nat.reduceEqDiff, Nat.reduceAdd, Nat.reduceMul, Nat.reduceLeDiff, Nat.reduceLT, Nat.reduceSub, ↓reduceIte, reduceCtorEq]
  (repeat (refine And.intro (by first | assumption | omega | decide | (simp; done) | (simp; omega)) ?_))
  refine ⟨_, (c34 l hm), ?_⟩
  refine hKq _ ?_; clear hKq Kq
  iterate 2 (refine evR_step fun Kq hKq => ?_; simp (maxSteps := 4000000) (disch := first | assumption | omega | (simp only [go_sem, *]; done) | (simp only [go_sem, *]; omega)) only [go_sem, isE, isO, stpO, notIn, St.bare, Bool.false_and, Bool.true_and, Bool.and_true, Bool.not_true, Bool.not_false, Int.reduceToNat, Nat.reduceBEq, Nat.reduceEqDiff, Nat.reduceAdd, Nat.reduceMul, Nat.reduceLeDiff, Nat.reduceLT, Nat.reduceSub, ↓reduceIte, reduceCtorEq]; (repeat (refine And.intro (by first | assumption | omega | decide | (simp; done) | (simp; omega)) ?_)); refine hKq _ ?_; clear hKq Kq)
  iterate 1 (refine evR_step fun Kq hKq => ?_; refine evO_guard (gb := ?_) (v0 := ?_) rfl ?_ ?_ ?_; rotate_left 1; (· intro K3 h3; simp (maxSteps := 4000000) (disch := first | assumption | omega | (simp only [go_sem, *]; done) | (simp only [go_sem, *]; omega)) only [go_sem, isE, isO, stpO, notIn, St.bare, Bool.false_and, Bool.true_and, Bool.and_true, Bool.not_true, Bool.not_false, Int.reduceToNat, Nat.reduceBEq, Nat.reduceEqDiff, Nat.reduceAdd, Nat.reduceMul, Nat.reduceLeDiff, Nat.reduceLT, Nat.reduceSub, ↓reduceIte, reduceCtorEq]; exact h3); rotate_left 1; (· intro hgt; (try simp only [decide_eq_true_eq, decide_eq_false_iff_not, Bool.not_eq_true', Bool.not_eq_false', Bool.and_eq_true, Bool.or_eq_true, Bool.and_eq_false_iff, Bool.or_eq_false_iff, beq_true, beq_false] at hgt); simp (maxSteps := 4000000) (disch := first | assumption | omega | (simp only [go_sem, *]; done) | (simp only [go_sem, *]; omega)) only [go_sem, isE, isO, stpO, notIn, St.bare, Bool.false_and, Bool.true_and, Bool.and_true, Bool.not_true, Bool.not_false, Int.reduceToNat, Nat.reduceBEq, Nat.reduceEqDiff, Nat.reduceAdd, Nat.reduceMul, Nat.reduceLeDiff, Nat.reduceLT, Nat.reduceSub, ↓reduceIte, reduceCtorEq]; (repeat (refine And.intro (by first | assumption | omega | decide | (simp; done) | (simp; omega)) ?_)); first | rfl | exact ⟨rfl, rfl⟩); simp only [St.put]; refine hKq _ ?_; clear hKq Kq)
  refine evR_step fun Kq hKq => ?_; refine evO_guard (gb := ?_) (v0 := ?_) rfl ?_ ?_ ?_; rotate_left 1; (· intro K3 h3; simp (maxSteps := 4000000) (disch := first | assumption | omega | (simp only [go_sem, *]; done) | (simp only [go_sem, *]; omega)) only [go_sem, isE, isO, stpO, notIn, St.bare, Bool.false_and, Bool.true_and, Bool.and_true, Bool.not_true, Bool.not_false, Int.reduceToNat, Nat.reduceBEq, Nat.reduceEqDiff, Nat.reduceAdd, Nat.reduceMul, Nat.reduceLeDiff, Nat.reduceLT, Nat.reduceSub, ↓reduceIte, reduceCtorEq]; exact h3); rotate_left 1
  · intro hgt; (try simp only [decide_eq_true_eq, decide_eq_false_iff_not, Bool.not_eq_true', Bool.not_eq_false', Bool.and_eq_true, Bool.or_eq_true, Bool.and_eq_false_iff, Bool.or_eq_false_iff, beq_true, beq_false] at hgt); simp (maxSteps := 4000000) (disch := first | assumption | omega | (simp only [go_sem, *]; done) | (simp only [go_sem, *]; omega)) only [go_sem, isE, isO, stpO, notIn, St.bare, Bool.false_and, Bool.true_and, Bool.and_true, Bool.not_true, Bool.not_false, Int.reduceToNat, Nat.reduceBEq, Nat.reduceEqDiff, Nat.reduceAdd, Nat.reduceMul, Nat.reduceLeDiff, Nat.reduceLT, Nat.reduceSub, ↓reduceIte, reduceCtorEq]; (repeat (refine And.intro (by first | assumption | omega | decide | (simp; done) | (simp; omega)) ?_))
    refine ⟨_, (c54 p), ?_⟩
    first | rfl | exact ⟨rfl, rfl⟩
  simp only [St.put]; refine hKq _ ?_; clear hKq Kq
  iterate 1 (refine evR_step fun Kq hKq => ?_; refine evO_guard (gb := ?_) (v0 := ?_) rfl ?_ ?_ ?_; rotate_left 1; (· intro K3 h3; simp (maxSteps := 4000000) (disch := first | assumption | omega | (simp only [go_sem, *]; done) | (simp only [go_sem, *]; omega)) only [go_sem, isE, isO, stpO, notIn, St.bare, Bool.false_and, Bool.true_and, Bool.and_true, Bool.not_true, Bool.not_false, Int.reduceToNat, Nat.reduceBEq, Nat.reduceEqDiff, Nat.reduceAdd, Nat.reduceMul, Nat.reduceLeDiff, Nat.reduceLT, Nat.reduceSub, ↓reduceIte, reduceCtorEq]; exact h3); rotate_left 1; (· intro hgt; (try simp only [decide_eq_true_eq, decide_eq_false_iff_not, Bool.not_eq_true', Bool.not_eq_false', Bool.and_eq_true, Bool.or_eq_true, Bool.and_eq_false_iff, Bool.or_eq_false_iff, beq_true, beq_false] at hgt); simp (maxSteps := 4000000) (disch := first | assumption | omega | (simp only [go_sem, *]; done) | (simp only [go_sem, *]; omega)) only [go_sem, isE, isO, stpO, notIn, St.bare, Bool.false_and, Bool.true_and, Bool.and_true, Bool.not_true, Bool.not_false, Int.reduceToNat, Nat.reduceBEq, Nat.reduceEqDiff, Nat.reduceAdd, Nat.reduceMul, Nat.reduceLeDiff, Nat.reduceLT, Nat.reduceSub, ↓reduceIte, reduceCtorEq]; (repeat (refine And.intro (by first | assumption | omega | decide | (simp; done) | (simp; omega)) ?_)); first | rfl | exact ⟨rfl, rfl⟩); simp only [St.put]; refine hKq _ ?_; clear hKq Kq)
  iterate 1 (refine evR_step fun Kq hKq => ?_; simp (maxSteps := 4000000) (disch := first | assumption | omega | (simp only [go_sem, *]; done) | (simp only [go_sem, *]; omega)) only [go_sem, isE, isO, stpO, notIn, St.bare, Bool.false_and, Bool.true_and, Bool.and_true, Bool.not_true, Bool.not_false, Int.reduceToNat, Nat.reduceBEq, Nat.reduceEqDiff, Nat.reduceAdd, Nat.reduceMul, Nat.reduceLeDiff, Nat.reduceLT, Nat.reduceSub, ↓reduceIte, reduceCtorEq]; (repeat (refine And.intro (by first | assumption | omega | decide | (simp; done) | (simp; omega)) ?_)); refine hKq _ ?_; clear hKq Kq)
  refine evR_nil (hK _ ?_); clear hK K
  simp only [St.norm, thenE, inBlkE, List.filterMap, List.lookup, Option.map, Nat.reduceBEq]
  refine hK3 _ ?_
  refine tr_cond rfl (fun ht1 => ?_) (fun ht1 => ?_)
  · (try simp only [decide_eq_true_eq, decide_eq_false_iff_not, Bool.not_eq_true', Bool.not_eq_false', Bool.and_eq_true, Bool.or_eq_true, Bool.and_eq_false_iff, Bool.or_eq_false_iff, beq_true, beq_false] at ht1)
    refine tr_seq fun K4 hK4 => ?_
    refine tr_region [4] rfl rfl fun K hK => ?_
    iterate 1 (refine evR_step fun Kq hKq => ?_; simp (maxSteps := 4000000) (disch := first | assumption | omega | (simp only [go_sem, *]; done) | (simp only [go_sem, *]; omega)) only [go_sem, isE, isO, stpO, notIn, St.bare, Bool.false_and, Bool.true_and, Bool.and_true, Bool.not_true, Bool.not_false, Int.reduceToNat, Nat.reduceBEq, Nat.reduceEqDiff, Nat.reduceAdd, Nat.reduceMul, Nat.reduceLeDiff, Nat.reduceLT, Nat.reduceSub, ↓reduceIte, reduceCtorEq]; (repeat (refine And.intro (by first | assumption | omega | decide | (simp; done) | (simp; omega)) ?_)); refine hKq _ ?_; clear hKq Kq)
    refine evR_nil (hK _ ?_); clear hK K
    simp only [St.norm, thenE, inBlkE, List.filterMap, List.lookup, Option.map, Nat.reduceBEq]
    refine hK4 _ ?_
    refine tr_ret ?_
    (try simp only [thenE, inBlkE])
    simp (maxSteps := 4000000) (disch := first | assumption | omega | (simp only [go_sem, *]; done) | (simp only [go_sem, *]; omega)) only [postA, postO, resV1, fzAll, go_sem, isE, isO, stpO, notIn, St.bare, Bool.false_and, Bool.true_and, Bool.and_true, Bool.not_true, Bool.not_false, Int.reduceToNat, Nat.reduceBEq, Nat.reduceEqDiff, Nat.reduceAdd, Nat.reduceMul, Nat.reduceLeDiff, Nat.reduceLT, Nat.reduceSub, ↓reduceIte, reduceCtorEq]
    all_goals ((first | (rw [inside_bad (by assumption)]; done) | (rw [inside_hit ht1.1 ht1.2 hil (by assumption)]; done) | (rw [inside_wrap ht1.1 ht1.2 hall]; done)))
  · (try simp only [decide_eq_true_eq, decide_eq_false_iff_not, Bool.not_eq_true', Bool.not_eq_false', Bool.and_eq_true, Bool.or_eq_true, Bool.and_eq_false_iff, Bool.or_eq_false_iff, beq_true, beq_false] at ht1)
    refine tr_skip ?_
    (try simp only [thenE, inBlkE])
    refine hK2 _ ?_
    refine tr_seq fun K5 hK5 => ?_
    refine tr_region [0, 3, 5] rfl rfl fun K hK => ?_
    iterate 1 (refine evR_step fun Kq hKq => ?_; simp (maxSteps := 4000000) (disch := first | assumption | omega | (simp only [go_sem, *]; done) | (simp only [go_sem, *]; omega)) only [go_sem, isE, isO, stpO, notIn, St.bare, Bool.false_and, Bool.true_and, Bool.and_true, Bool.not_true, Bool.not_false, Int.reduceToNat, Nat.reduceBEq, Nat.reduceEqDiff, Nat.reduceAdd, Nat.reduceMul, Nat.reduceLeDiff, Nat.reduceLT, Nat.reduceSub, ↓reduceIte, reduceCtorEq]; (repeat (refine And.intro (by first | assumption | omega | decide | (simp; done) | (simp; omega)) ?_)); refine hKq _ ?_; clear hKq Kq)
    refine evR_nil (hK _ ?_); clear hK K
    simp only [St.norm, thenE, inBlkE, List.filterMap, List.lookup, Option.map, Nat.reduceBEq]
    refine hK5 _ ?_
    refine tr_seq fun K6 hK6 => ?_
    refine tr_seq fun K7 hK7 => ?_
    refine tr_region [0, 3, 5, 6] rfl rfl fun K hK => ?_
    iterate 1 (refine evR_step fun Kq hKq => ?_; simp (maxSteps := 4000000) (disch := first | assumption | omega | (simp only [go_sem, *]; done) | (simp only [go_sem, *]; omega)) only [go_sem, isE, isO, stpO, notIn, St.bare, Bool.false_and, Bool.true_and, Bool.and_true, Bool.not_true, Bool.not_false, Int.reduceToNat, Nat.reduceBEq, Nat.reduceEqDiff, Nat.reduceAdd, Nat.reduceMul, Nat.reduceLeDiff, Nat.reduceLT, Nat.reduceSub, ↓reduceIte, reduceCtorEq]; (repeat (refine And.intro (by first | assumption | omega | decide | (simp; done) | (simp; omega)) ?_)); refine hKq _ ?_; clear hKq Kq)
    refine evR_nil (hK _ ?_); clear hK K
    simp only [St.norm, thenE, inBlkE, List.filterMap, List.lookup, Option.map, Nat.reduceBEq]
    refine hK7 _ ?_
    refine tr_block ?_
    -- loop 1: live [0, 3, 5, 6]
    refine tr_loopW (fun m σ => ∃ i, i + m = l.length ∧ (∀ j, j < i → hitP (l.getD j ⟨0, 0⟩) (nextP l j) p = false) ∧ σ = ⟨[(0, .sl 2 (encP l)), (3, .ptr 0 0), (5, .int .i64 ((refE l i).countP (crossE p) : Nat)), (6, .int .i64 (i : Nat))], [(0, .cells [.int .i64 p.x, .int .i64 p.y])], 1⟩) (l.length) ?_ ?_
    · exact ⟨_, Wk.refl _, 0, by omega, (by intro j hj; omega), rfl⟩
    · rintro m σ ⟨i, hi, hall, rfl⟩ KL1 hKL1
      refine tr_seq fun K8 hK8 => ?_
      refine tr_seq fun K9 hK9 => ?_
      refine tr_region [0, 3, 5, 6, 20] rfl rfl fun K hK => ?_
      iterate 4 (refine evR_step fun Kq hKq => ?_; simp (maxSteps := 4000000) (disch := first | assumption | omega | (simp only [go_sem, *]; done) | (simp only [go_sem, *]; omega)) only [go_sem, isE, isO, stpO, notIn, St.bare, Bool.false_and, Bool.true_and, Bool.and_true, Bool.not_true, Bool.not_false, Int.reduceToNat, Nat.reduceBEq, Nat.reduceEqDiff, Nat.reduceAdd, Nat.reduceMul, Nat.reduceLeDiff, Nat.reduceLT, Nat.reduceSub, ↓reduceIte, reduceCtorEq]; (repeat (refine And.intro (by first | assumption | omega | decide | (simp; done) | (simp; omega)) ?_)); refine hKq _ ?_; clear hKq Kq)
      refine evR_nil (hK _ ?_); clear hK K
      simp only [St.norm, thenE, inBlkE, List.filterMap, List.lookup, Option.map, Nat.reduceBEq]
      refine hK9 _ ?_
      refine tr_cond rfl (fun ht2 => ?_) (fun ht2 => ?_)
      · (try simp only [decide_eq_true_eq, decide_eq_false_iff_not, Bool.not_eq_true', Bool.not_eq_false', Bool.and_eq_true, Bool.or_eq_true, Bool.and_eq_false_iff, Bool.or_eq_false_iff, beq_true, beq_false] at ht2)
        have hil : i < l.length := by omega
        have hvl := validP_len ht1.1
        have hao : onMap (l.getD i ⟨0, 0⟩) = true := hvl.2.2 _ (getD_mem hil)
        have hml : (i + 1) % l.length < l.length := Nat.mod_lt _ (by omega)
        have hbo : onMap (nextP l i) = true := hvl.2.2 _ (getD_mem hml)
        have hw1 : IntKind.i64.wrap ((i : Int) + 1) = ((i + 1 : Nat) : Int) := w64 (by omega)
        have hw2 : (((i + 1 : Nat) : Int)).tmod (l.length : Int) = (((i + 1) % l.length : Nat) : Int) := rfl
        have hcl := refE_count_le l p i
        have hw3 : IntKind.i64.wrap (((refE l i).countP (crossE p) : Nat) + 1 : Int) = (((refE l i).countP (crossE p) + 1 : Nat) : Int) := w64 (by omega)
        refine tr_skip ?_
        (try simp only [thenE, inBlkE])
        refine hK8 _ ?_
        refine tr_seq fun K10 hK10 => ?_
        refine tr_block ?_
        refine tr_seq fun K11 hK11 => ?_
        refine tr_region [0, 3, 5, 6, 7] rfl rfl fun K hK => ?_
        iterate 6 (refine evR_step fun Kq hKq => ?_; simp (maxSteps := 4000000) (disch := first | assumption | omega | (simp only [go_sem, *]; done) | (simp only [go_sem, *]; omega)) only [go_sem, isE, isO, stpO, notIn, St.bare, Bool.false_and, Bool.true_and, Bool.and_true, Bool.not_true, Bool.not_false, Int.reduceToNat, Nat.reduceBEq, Nat.reduceEqDiff, Nat.reduceAdd, Nat.reduceMul, Nat.reduceLeDiff, Nat.reduceLT, Nat.reduceSub, ↓reduceIte, reduceCtorEq, hil, hw1, hw2, hw3, hml]; (repeat (refine And.intro (by first | assumption | omega | decide | (simp; done) | (simp; omega)) ?_)); refine hKq _ ?_; clear hKq Kq)
        refine evR_nil (hK _ ?_); clear hK K
        simp only [St.norm, thenE, inBlkE, List.filterMap, List.lookup, Option.map, Nat.reduceBEq]
        refine hK11 _ ?_
        refine tr_seq fun K12 hK12 => ?_
        refine tr_region [0, 3, 5, 6, 7, 8] rfl rfl fun K hK => ?_
        iterate 10 (refine evR_step fun Kq hKq => ?_; simp (maxSteps := 4000000) (disch := first | assumption | omega | (simp only [go_sem, *]; done) | (simp only [go_sem, *]; omega)) only [go_sem, isE, isO, stpO, notIn, St.bare, Bool.false_and, Bool.true_and, Bool.and_true, Bool.not_true, Bool.not_false, Int.reduceToNat, Nat.reduceBEq, Nat.reduceEqDiff, Nat.reduceAdd, Nat.reduceMul, Nat.reduceLeDiff, Nat.reduceLT, Nat.reduceSub, ↓reduceIte, reduceCtorEq, hil, hw1, hw2, hw3, hml]; (repeat (refine And.intro (by first | assumption | omega | decide | (simp; done) | (simp; omega)) ?_)); refine hKq _ ?_; clear hKq Kq)
        refine evR_nil (hK _ ?_); clear hK K
        simp only [St.norm, thenE, inBlkE, List.filterMap, List.lookup, Option.map, Nat.reduceBEq]
        refine hK12 _ ?_
        refine tr_seq fun K13 hK13 => ?_
        refine tr_seq fun K14 hK14 => ?_
        refine tr_region [0, 3, 5, 6, 7, 8, 38] rfl rfl fun K hK => ?_
        iterate 3 (refine evR_step fun Kq hKq => ?_; simp (maxSteps := 4000000) (disch := first | assumption | omega | (simp only [go_sem, *]; done) | (simp only [go_sem, *]; omega)) only [go_sem, isE, isO, stpO, notIn, St.bare, Bool.false_and, Bool.true_and, Bool.and_true, Bool.not_true, Bool.not_false, Int.reduceToNat, Nat.reduceBEq, Nat.reduceEqDiff, Nat.reduceAdd, Nat.reduceMul, Nat.reduceLeDiff, Nat.reduceLT, Nat.reduceSub, ↓reduceIte, reduceCtorEq, hil, hw1, hw2, hw3, hml]; (repeat (refine And.intro (by first | assumption | omega | decide | (simp; done) | (simp; omega)) ?_)); refine hKq _ ?_; clear hKq Kq)
        refine evR_step fun Kq hKq => ?_
        simp (maxSteps := 4000000) (disch := first | assumption | omega | (simp only [go_sem, *]; done) | (simp only [go_sem, *]; omega)) only [go_sem, isE, isO, stpO, notIn, St.bare, Bool.false_and, Bool.true_and, Bool.and_true, Bool.not_true, Bool.not_false, Int.reduceToNat, Nat.reduceBEq, Nat.reduceEqDiff, Nat.reduceAdd, Nat.reduceMul, Nat.reduceLeDiff, Nat.reduceLT, Nat.reduceSub, ↓reduceIte, reduceCtorEq, hil, hw1, hw2, hw3, hml]
        (repeat (refine And.intro (by first | assumption | omega | decide | (simp; done) | (simp; omega)) ?_))
        refine ⟨_, (c55 (l.getD i ⟨0, 0⟩) (nextP l i) p hao hbo ht1.2), ?_⟩
        refine hKq _ ?_; clear hKq Kq
        refine evR_nil (hK _ ?_); clear hK K
        simp only [St.norm, thenE, inBlkE, List.filterMap, List.lookup, Option.map, Nat.reduceBEq]
        refine hK14 _ ?_
        refine tr_cond rfl (fun ht3 => ?_) (fun ht3 => ?_)
        · (try simp only [decide_eq_true_eq, decide_eq_false_iff_not, Bool.not_eq_true', Bool.not_eq_false', Bool.and_eq_true, Bool.or_eq_true, Bool.and_eq_false_iff, Bool.or_eq_false_iff, beq_true, beq_false] at ht3)
          refine tr_seq fun K15 hK15 => ?_
          refine tr_region [4] rfl rfl fun K hK => ?_
          iterate 1 (refine evR_step fun Kq hKq => ?_; simp (maxSteps := 4000000) (disch := first | assumption | omega | (simp only [go_sem, *]; done) | (simp only [go_sem, *]; omega)) only [go_sem, isE, isO, stpO, notIn, St.bare, Bool.false_and, Bool.true_and, Bool.and_true, Bool.not_true, Bool.not_false, Int.reduceToNat, Nat.reduceBEq, Nat.reduceEqDiff, Nat.reduceAdd, Nat.reduceMul, Nat.reduceLeDiff, Nat.reduceLT, Nat.reduceSub, ↓reduceIte, reduceCtorEq, hil, hw1, hw2, hw3, hml]; (repeat (refine And.intro (by first | assumption | omega | decide | (simp; done) | (simp; omega)) ?_)); refine hKq _ ?_; clear hKq Kq)
          refine evR_nil (hK _ ?_); clear hK K
          simp only [St.norm, thenE, inBlkE, List.filterMap, List.lookup, Option.map, Nat.reduceBEq]
          refine hK15 _ ?_
          refine tr_ret ?_
          (try simp only [thenE, inBlkE])
          simp (maxSteps := 4000000) (disch := first | assumption | omega | (simp only [go_sem, *]; done) | (simp only [go_sem, *]; omega)) only [postA, postO, resV1, fzAll, go_sem, isE, isO, stpO, notIn, St.bare, Bool.false_and, Bool.true_and, Bool.and_true, Bool.not_true, Bool.not_false, Int.reduceToNat, Nat.reduceBEq, Nat.reduceEqDiff, Nat.reduceAdd, Nat.reduceMul, Nat.reduceLeDiff, Nat.reduceLT, Nat.reduceSub, ↓reduceIte, reduceCtorEq, hil, hw1, hw2, hw3, hml]
          all_goals ((first | (rw [inside_bad (by assumption)]; done) | (rw [inside_hit ht1.1 ht1.2 hil (by assumption)]; done) | (rw [inside_wrap ht1.1 ht1.2 hall]; done)))
        · (try simp only [decide_eq_true_eq, decide_eq_false_iff_not, Bool.not_eq_true', Bool.not_eq_false', Bool.and_eq_true, Bool.or_eq_true, Bool.and_eq_false_iff, Bool.or_eq_false_iff, beq_true, beq_false] at ht3)
          refine tr_skip ?_
          (try simp only [thenE, inBlkE])
          refine hK13 _ ?_
          refine tr_seq fun K16 hK16 => ?_
          refine tr_region [0, 3, 5, 6, 42] rfl rfl fun K hK => ?_
          iterate 3 (refine evR_step fun Kq hKq => ?_; simp (maxSteps := 4000000) (disch := first | assumption | omega | (simp only [go_sem, *]; done) | (simp only [go_sem, *]; omega)) only [go_sem, isE, isO, stpO, notIn, St.bare, Bool.false_and, Bool.true_and, Bool.and_true, Bool.not_true, Bool.not_false, Int.reduceToNat, Nat.reduceBEq, Nat.reduceEqDiff, Nat.reduceAdd, Nat.reduceMul, Nat.reduceLeDiff, Nat.reduceLT, Nat.reduceSub, ↓reduceIte, reduceCtorEq, hil, hw1, hw2, hw3, hml]; (repeat (refine And.intro (by first | assumption | omega | decide | (simp; done) | (simp; omega)) ?_)); refine hKq _ ?_; clear hKq Kq)
          refine evR_step fun Kq hKq => ?_
          simp (maxSteps := 4000000) (disch := first | assumption | omega | (simp only [go_sem, *]; done) | (simp only [go_sem, *]; omega)) only [go_sem, isE, isO, stpO, notIn, St.bare, Bool.false_and, Bool.true_and, Bool.and_true, Bool.not_true, Bool.not_false, Int.reduceToNat, Nat.reduceBEq, Nat.reduceEqDiff, Nat.reduceAdd, Nat.reduceMul, Nat.reduceLeDiff, Nat.reduceLT, Nat.reduceSub, ↓reduceIte, reduceCtorEq, hil, hw1, hw2, hw3, hml]
          (repeat (refine And.intro (by first | assumption | omega | decide | (simp; done) | (simp; omega)) ?_))
          refine ⟨_, (c56 (l.getD i ⟨0, 0⟩) (nextP l i) p hao hbo ht1.2), ?_⟩
          refine hKq _ ?_; clear hKq Kq
          refine evR_nil (hK _ ?_); clear hK K
          simp only [St.norm, thenE, inBlkE, List.filterMap, List.lookup, Option.map, Nat.reduceBEq]
          refine hK16 _ ?_
          refine tr_cond rfl (fun ht4 => ?_) (fun ht4 => ?_)
          · (try simp only [decide_eq_true_eq, decide_eq_false_iff_not, Bool.not_eq_true', Bool.not_eq_false', Bool.and_eq_true, Bool.or_eq_true, Bool.and_eq_false_iff, Bool.or_eq_false_iff, beq_true, beq_false] at ht4)
            refine tr_region [0, 3, 5, 6] rfl rfl fun K hK => ?_
            iterate 3 (refine evR_step fun Kq hKq => ?_; simp (maxSteps := 4000000) (disch := first | assumption | omega | (simp only [go_sem, *]; done) | (simp only [go_sem, *]; omega)) only [go_sem, isE, isO, stpO, notIn, St.bare, Bool.false_and, Bool.true_and, Bool.and_true, Bool.not_true, Bool.not_false, Int.reduceToNat, Nat.reduceBEq, Nat.reduceEqDiff, Nat.reduceAdd, Nat.reduceMul, Nat.reduceLeDiff, Nat.reduceLT, Nat.reduceSub, ↓reduceIte, reduceCtorEq, hil, hw1, hw2, hw3, hml]; (repeat (refine And.intro (by first | assumption | omega | decide | (simp; done) | (simp; omega)) ?_)); refine hKq _ ?_; clear hKq Kq)
            refine evR_nil (hK _ ?_); clear hK K
            simp only [St.norm, thenE, inBlkE, List.filterMap, List.lookup, Option.map, Nat.reduceBEq]
            refine hK10 _ ?_
            refine tr_region [0, 3, 5, 6] rfl rfl fun K hK => ?_
            iterate 3 (refine evR_step fun Kq hKq => ?_; simp (maxSteps := 4000000) (disch := first | assumption | omega | (simp only [go_sem, *]; done) | (simp only [go_sem, *]; omega)) only [go_sem, isE, isO, stpO, notIn, St.bare, Bool.false_and, Bool.true_and, Bool.and_true, Bool.not_true, Bool.not_false, Int.reduceToNat, Nat.reduceBEq, Nat.reduceEqDiff, Nat.reduceAdd, Nat.reduceMul, Nat.reduceLeDiff, Nat.reduceLT, Nat.reduceSub, ↓reduceIte, reduceCtorEq, hil, hw1, hw2, hw3, hml]; (repeat (refine And.intro (by first | assumption | omega | decide | (simp; done) | (simp; omega)) ?_)); refine hKq _ ?_; clear hKq Kq)
            refine evR_nil (hK _ ?_); clear hK K
            simp only [St.norm, thenE, inBlkE, List.filterMap, List.lookup, Option.map, Nat.reduceBEq]
            refine hKL1 _ ?_
            first
              | exact ⟨m - 1, _, by omega, Wk.cut 1 rfl, i + 1, by omega, (by intro j hj; rcases Nat.lt_or_ge j i with h | h; exact hall j h; obtain rfl : j = i := (by omega); assumption), by rw [refE_t (by assumption)]; rfl⟩
              | exact ⟨m - 1, _, by omega, Wk.cut 1 rfl, i + 1, by omega, (by intro j hj; rcases Nat.lt_or_ge j i with h | h; exact hall j h; obtain rfl : j = i := (by omega); assumption), by rw [refE_f (by assumption)]; rfl⟩
          · (try simp only [decide_eq_true_eq, decide_eq_false_iff_not, Bool.not_eq_true', Bool.not_eq_false', Bool.and_eq_true, Bool.or_eq_true, Bool.and_eq_false_iff, Bool.or_eq_false_iff, beq_true, beq_false] at ht4)
            refine tr_skip ?_
            (try simp only [thenE, inBlkE])
            refine hK10 _ ?_
            refine tr_region [0, 3, 5, 6] rfl rfl fun K hK => ?_
            iterate 3 (refine evR_step fun Kq hKq => ?_; simp (maxSteps := 4000000) (disch := first | assumption | omega | (simp only [go_sem, *]; done) | (simp only [go_sem, *]; omega)) only [go_sem, isE, isO, stpO, notIn, St.bare, Bool.false_and, Bool.true_and, Bool.and_true, Bool.not_true, Bool.not_false, Int.reduceToNat, Nat.reduceBEq, Nat.reduceEqDiff, Nat.reduceAdd, Nat.reduceMul, Nat.reduceLeDiff, Nat.reduceLT, Nat.reduceSub, ↓reduceIte, reduceCtorEq, hil, hw1, hw2, hw3, hml]; (repeat (refine And.intro (by first | assumption | omega | decide | (simp; done) | (simp; omega)) ?_)); refine hKq _ ?_; clear hKq Kq)
            refine evR_nil (hK _ ?_); clear hK K
            simp only [St.norm, thenE, inBlkE, List.filterMap, List.lookup, Option.map, Nat.reduceBEq]
            refine hKL1 _ ?_
            first
              | exact ⟨m - 1, _, by omega, Wk.cut 1 rfl, i + 1, by omega, (by intro j hj; rcases Nat.lt_or_ge j i with h | h; exact hall j h; obtain rfl : j = i := (by omega); assumption), by rw [refE_t (by assumption)]; rfl⟩
              | exact ⟨m - 1, _, by omega, Wk.cut 1 rfl, i + 1, by omega, (by intro j hj; rcases Nat.lt_or_ge j i with h | h; exact hall j h; obtain rfl : j = i := (by omega); assumption), by rw [refE_f (by assumption)]; rfl⟩
      · (try simp only [decide_eq_true_eq, decide_eq_false_iff_not, Bool.not_eq_true', Bool.not_eq_false', Bool.and_eq_true, Bool.or_eq_true, Bool.and_eq_false_iff, Bool.or_eq_false_iff, beq_true, beq_false] at ht2)
        have hil : i = l.length := by omega
        subst hil
        refine tr_exit ?_
        simp only [thenE, inBlkE, Nat.reduceEqDiff, ↓reduceIte]
        refine hK6 _ ?_
        refine tr_seq fun K17 hK17 => ?_
        refine tr_region [4] rfl rfl fun K hK => ?_
        iterate 5 (refine evR_step fun Kq hKq => ?_; simp (maxSteps := 4000000) (disch := first | assumption | omega | (simp only [go_sem, *]; done) | (simp only [go_sem, *]; omega)) only [go_sem, isE, isO, stpO, notIn, St.bare, Bool.false_and, Bool.true_and, Bool.and_true, Bool.not_true, Bool.not_false, Int.reduceToNat, Nat.reduceBEq, Nat.reduceEqDiff, Nat.reduceAdd, Nat.reduceMul, Nat.reduceLeDiff, Nat.reduceLT, Nat.reduceSub, ↓reduceIte, reduceCtorEq]; (repeat (refine And.intro (by first | assumption | omega | decide | (simp; done) | (simp; omega)) ?_)); refine hKq _ ?_; clear hKq Kq)
        refine evR_nil (hK _ ?_); clear hK K
        simp only [St.norm, thenE, inBlkE, List.filterMap, List.lookup, Option.map, Nat.reduceBEq]
        refine hK17 _ ?_
        refine tr_ret ?_
        (try simp only [thenE, inBlkE])
        simp (maxSteps := 4000000) (disch := first | assumption | omega | (simp only [go_sem, *]; done) | (simp only [go_sem, *]; omega)) only [postA, postO, resV1, fzAll, go_sem, isE, isO, stpO, notIn, St.bare, Bool.false_and, Bool.true_and, Bool.and_true, Bool.not_true, Bool.not_false, Int.reduceToNat, Nat.reduceBEq, Nat.reduceEqDiff, Nat.reduceAdd, Nat.reduceMul, Nat.reduceLeDiff, Nat.reduceLT, Nat.reduceSub, ↓reduceIte, reduceCtorEq]
        all_goals ((first | (rw [inside_bad (by assumption)]; done) | (rw [inside_hit ht1.1 ht1.2 hil (by assumption)]; done) | (rw [inside_wrap ht1.1 ht1.2 hall]; done)))

theorem c32 (l : List Pl) (hm : l.length ≤ maxLen) : CallsA Try.prog 32 [.sl 2 (encP l)] (.tup [.agg (cellsI (polyA l).1), .int .i64 (polyA l).2]) := by
  refine callsA_of_tr Try.func32 rfl (Nat.le_of_ble_eq_true rfl) ?_
  simp only [Try.results32, envOf, Nat.reduceAdd]
  refine tr_seq fun K1 hK1 => ?_
  refine tr_region [0, 2] rfl rfl fun K hK => ?_
  iterate 2 (refine evR_step fun Kq hKq => ?_; simp (maxSteps := 4000000) (disch := first | assumption | omega | (simp only [go_sem, *]; done) | (simp only [go_sem, *]; omega)) only [go_sem, isE, isO, stpO, notIn, St.bare, Bool.false_and, Bool.true_and, Bool.and_true, Bool.not_true, Bool.not_false, Int.reduceToNat, Nat.reduceBEq, Nat.reduceEqDiff, Nat.reduceAdd, Nat.reduceMul, Nat.reduceLeDiff, Nat.reduceLT, Nat.reduceSub, ↓reduceIte, reduceCtorEq]; (repeat (refine And.intro (by first | assumption | omega | decide | (simp; done) | (simp; omega)) ?_)); refine hKq _ ?_; clear hKq Kq)
  refine evR_nil (hK _ ?_); clear hK K
  simp only [St.norm, thenE, inBlkE, List.filterMap, List.lookup, Option.map, Nat.reduceBEq]
  refine hK1 _ ?_
  refine tr_seq fun K2 hK2 => ?_
  refine tr_region [0, 2, 4] rfl rfl fun K hK => ?_
  iterate 1 (refine evR_step fun Kq hKq => ?_; simp (maxSteps := 4000000) (disch := first | assumption | omega | (simp only [go_sem, *]; done) | (simp only [go_sem, *]; omega)) only [go_sem, isE, isO, stpO, notIn, St.bare, Bool.false_and, Bool.true_and, Bool.and_true, Bool.not_true, Bool.not_false, Int.reduceToNat, Nat.reduceBEq, Nat.reduceEqDiff, Nat.reduceAdd, Nat.reduceMul, Nat.reduceLeDiff, Nat.reduceLT, Nat.reduceSub, ↓reduceIte, reduceCtorEq]; (repeat (refine And.intro (by first | assumption | omega | decide | (simp; done) | (simp; omega)) ?_)); refine hKq _ ?_; clear hKq Kq)
  refine evR_nil (hK _ ?_); clear hK K
  simp only [St.norm, thenE, inBlkE, List.filterMap, List.lookup, Option.map, Nat.reduceBEq]
  refine hK2 _ ?_
  refine tr_seq fun K3 hK3 => ?_
  refine tr_seq fun K4 hK4 => ?_
  refine tr_region [0, 2, 4, 9] rfl rfl fun K hK => ?_
  iterate 1 (refine evR_step fun Kq hKq => ?_; simp (maxSteps := 4000000) (disch := first | assumption | omega | (simp only [go_sem, *]; done) | (simp only [go_sem, *]; omega)) only [go_sem, isE, isO, stpO, notIn, St.bare, Bool.false_and, Bool.true_and, Bool.and_true, Bool.not_true, Bool.not_false, Int.reduceToNat, Nat.reduceBEq, Nat.reduceEqDiff, Nat.reduceAdd, Nat.reduceMul, Nat.reduceLeDiff, Nat.reduceLT, Nat.reduceSub, ↓reduceIte, reduceCtorEq]; (repeat (refine And.intro (by first | assumption | omega | decide | (simp; done) | (simp; omega)) ?_)); refine hKq _ ?_; clear hKq Kq)
  refine evR_step fun Kq hKq => ?_
  simp (maxSteps := 4000000) (disch := first | assumption | omega | (simp only [go_sem, *]; done) | (simp only [go_sem, *]; omega)) only [go_sem, isE, isO, stpO, notIn, St.bare, Bool.false_and, Bool.true_and, Bool.and_true, Bool.not_true, Bool.not_false, Int.reduceToNat, Nat.reduceBEq, Nat.reduceEqDiff, Nat.reduceAdd, Nat.reduceMul, Nat.reduceLeDiff, Nat.reduceLT, Nat.reduceSub, ↓reduceIte, reduceCtorEq]
  (repeat (refine And.intro (by first | assumption | omega | decide | (simp; done) | (simp; omega)) ?_))
  refine ⟨_, (c34 l hm), ?_⟩
  refine hKq _ ?_; clear hKq Kq
  iterate 1 (refine evR_step fun Kq hKq => ?_; simp (maxSteps := 4000000) (disch := first | assumption | omega | (simp only [go_sem, *]; done) | (simp only [go_sem, *]; omega)) only [go_sem, isE, isO, stpO, notIn, St.bare, Bool.false_and, Bool.true_and, Bool.and_true, Bool.not_true, Bool.not_false, Int.reduceToNat, Nat.reduceBEq, Nat.reduceEqDiff, Nat.reduceAdd, Nat.reduceMul, Nat.reduceLeDiff, Nat.reduceLT, Nat.reduceSub, ↓reduceIte, reduceCtorEq]; (repeat (refine And.intro (by first | assumption | omega | decide | (simp; done) | (simp; omega)) ?_)); refine hKq _ ?_; clear hKq Kq)
  refine evR_nil (hK _ ?_); clear hK K
  simp only [St.norm, thenE, inBlkE, List.filterMap, List.lookup, Option.map, Nat.reduceBEq]
  refine hK4 _ ?_
  refine tr_cond rfl (fun ht1 => ?_) (fun ht1 => ?_)
  · (try simp only [decide_eq_true_eq, decide_eq_false_iff_not, Bool.not_eq_true', Bool.not_eq_false', Bool.and_eq_true, Bool.or_eq_true, Bool.and_eq_false_iff, Bool.or_eq_false_iff, beq_true, beq_false] at ht1)
    refine tr_seq fun K5 hK5 => ?_
    refine tr_region [2, 3] rfl rfl fun K hK => ?_
    iterate 3 (refine evR_step fun Kq hKq => ?_; simp (maxSteps := 4000000) (disch := first | assumption | omega | (simp only [go_sem, *]; done) | (simp only [go_sem, *]; omega)) only [go_sem, isE, isO, stpO, notIn, St.bare, Bool.false_and, Bool.true_and, Bool.and_true, Bool.not_true, Bool.not_false, Int.reduceToNat, Nat.reduceBEq, Nat.reduceEqDiff, Nat.reduceAdd, Nat.reduceMul, Nat.reduceLeDiff, Nat.reduceLT, Nat.reduceSub, ↓reduceIte, reduceCtorEq]; (repeat (refine And.intro (by first | assumption | omega | decide | (simp; done) | (simp; omega)) ?_)); refine hKq _ ?_; clear hKq Kq)
    refine evR_nil (hK _ ?_); clear hK K
    simp only [St.norm, thenE, inBlkE, List.filterMap, List.lookup, Option.map, Nat.reduceBEq]
    refine hK5 _ ?_
    refine tr_ret ?_
    (try simp only [thenE, inBlkE])
    simp (maxSteps := 4000000) (disch := first | assumption | omega | (simp only [go_sem, *]; done) | (simp only [go_sem, *]; omega)) only [postA, postO, resV1, fzAll, go_sem, isE, isO, stpO, notIn, St.bare, Bool.false_and, Bool.true_and, Bool.and_true, Bool.not_true, Bool.not_false, Int.reduceToNat, Nat.reduceBEq, Nat.reduceEqDiff, Nat.reduceAdd, Nat.reduceMul, Nat.reduceLeDiff, Nat.reduceLT, Nat.reduceSub, ↓reduceIte, reduceCtorEq]
    all_goals ((first | (simp_all [polyA, zeros16]; done) | (simp_all [polyA, cellsG]; done)))
  · (try simp only [decide_eq_true_eq, decide_eq_false_iff_not, Bool.not_eq_true', Bool.not_eq_false', Bool.and_eq_true, Bool.or_eq_true, Bool.and_eq_false_iff, Bool.or_eq_false_iff, beq_true, beq_false] at ht1)
    refine tr_skip ?_
    (try simp only [thenE, inBlkE])
    refine hK3 _ ?_
    refine tr_seq fun K6 hK6 => ?_
    refine tr_seq fun K7 hK7 => ?_
    refine tr_region [0, 2, 4, 5] rfl rfl fun K hK => ?_
    iterate 1 (refine evR_step fun Kq hKq => ?_; simp (maxSteps := 4000000) (disch := first | assumption | omega | (simp only [go_sem, *]; done) | (simp only [go_sem, *]; omega)) only [go_sem, isE, isO, stpO, notIn, St.bare, Bool.false_and, Bool.true_and, Bool.and_true, Bool.not_true, Bool.not_false, Int.reduceToNat, Nat.reduceBEq, Nat.reduceEqDiff, Nat.reduceAdd, Nat.reduceMul, Nat.reduceLeDiff, Nat.reduceLT, Nat.reduceSub, ↓reduceIte, reduceCtorEq]; (repeat (refine And.intro (by first | assumption | omega | decide | (simp; done) | (simp; omega)) ?_)); refine hKq _ ?_; clear hKq Kq)
    refine evR_nil (hK _ ?_); clear hK K
    simp only [St.norm, thenE, inBlkE, List.filterMap, List.lookup, Option.map, Nat.reduceBEq]
    refine hK7 _ ?_
    refine tr_block ?_
    -- loop 1: live [0, 2, 4, 5]
    refine tr_loopW (fun m σ => ∃ y : Nat, y + m = 16 ∧ σ = ⟨[(0, .sl 2 (encP l)), (2, .ptr 0 0), (4, .ptr 1 0), (5, .int .i64 y)], [(1, .cells (cellsI (outA (fun j => rowG (fun x y => decide (0 ≤ sideP l (ctr x y))) j 16) y))), (0, .cells (cellsI (List.replicate 16 0)))], 2⟩) (16) ?_ ?_
    · exact ⟨_, Wk.refl _, 0, by omega, by rw [outA_zero]; rfl⟩
    · rintro m σ ⟨y, hi, rfl⟩ KL1 hKL1
      refine tr_seq fun K8 hK8 => ?_
      refine tr_seq fun K9 hK9 => ?_
      refine tr_region [0, 2, 4, 5, 12] rfl rfl fun K hK => ?_
      iterate 2 (refine evR_step fun Kq hKq => ?_; simp (maxSteps := 4000000) (disch := first | assumption | omega | (simp only [go_sem, *]; done) | (simp only [go_sem, *]; omega)) only [go_sem, isE, isO, stpO, notIn, St.bare, Bool.false_and, Bool.true_and, Bool.and_true, Bool.not_true, Bool.not_false, Int.reduceToNat, Nat.reduceBEq, Nat.reduceEqDiff, Nat.reduceAdd, Nat.reduceMul, Nat.reduceLeDiff, Nat.reduceLT, Nat.reduceSub, ↓reduceIte, reduceCtorEq]; (repeat (refine And.intro (by first | assumption | omega | decide | (simp; done) | (simp; omega)) ?_)); refine hKq _ ?_; clear hKq Kq)
      refine evR_nil (hK _ ?_); clear hK K
      simp only [St.norm, thenE, inBlkE, List.filterMap, List.lookup, Option.map, Nat.reduceBEq]
      refine hK9 _ ?_
      refine tr_cond rfl (fun ht2 => ?_) (fun ht2 => ?_)
      · (try simp only [decide_eq_true_eq, decide_eq_false_iff_not, Bool.not_eq_true', Bool.not_eq_false', Bool.and_eq_true, Bool.or_eq_true, Bool.and_eq_false_iff, Bool.or_eq_false_iff, beq_true, beq_false] at ht2)
        have hil : y < 16 := by omega
        refine tr_skip ?_
        (try simp only [thenE, inBlkE])
        refine hK8 _ ?_
        refine tr_seq fun K10 hK10 => ?_
        refine tr_block ?_
        refine tr_seq fun K11 hK11 => ?_
        refine tr_region [0, 2, 4, 5, 6] rfl rfl fun K hK => ?_
        iterate 1 (refine evR_step fun Kq hKq => ?_; simp (maxSteps := 4000000) (disch := first | assumption | omega | (simp only [go_sem, *]; done) | (simp only [go_sem, *]; omega)) only [go_sem, isE, isO, stpO, notIn, St.bare, Bool.false_and, Bool.true_and, Bool.and_true, Bool.not_true, Bool.not_false, Int.reduceToNat, Nat.reduceBEq, Nat.reduceEqDiff, Nat.reduceAdd, Nat.reduceMul, Nat.reduceLeDiff, Nat.reduceLT, Nat.reduceSub, ↓reduceIte, reduceCtorEq]; (repeat (refine And.intro (by first | assumption | omega | decide | (simp; done) | (simp; omega)) ?_)); refine hKq _ ?_; clear hKq Kq)
        refine evR_nil (hK _ ?_); clear hK K
        simp only [St.norm, thenE, inBlkE, List.filterMap, List.lookup, Option.map, Nat.reduceBEq]
        refine hK11 _ ?_
        refine tr_block ?_
        -- loop 2: live [0, 2, 4, 5, 6]
        refine tr_loopW (fun m σ => ∃ x : Nat, x + m = 16 ∧ σ = ⟨[(0, .sl 2 (encP l)), (2, .ptr 0 0), (4, .ptr 1 0), (5, .int .i64 y), (6, .int .i64 x)], [(1, .cells (cellsI ((outA (fun j => rowG (fun x y => decide (0 ≤ sideP l (ctr x y))) j 16) y).set y (rowG (fun x y => decide (0 ≤ sideP l (ctr x y))) y x)))), (0, .cells (cellsI (List.replicate 16 0)))], 2⟩) (16) ?_ ?_
        · exact ⟨_, Wk.refl _, 0, by omega, by rw [outR_zero (fun x y => decide (0 ≤ sideP l (ctr x y))) hil]; rfl⟩
        · rintro m2 σ ⟨x, hx, rfl⟩ KL2 hKL2
          refine tr_seq fun K12 hK12 => ?_
          refine tr_seq fun K13 hK13 => ?_
          refine tr_region [0, 2, 4, 5, 6, 16] rfl rfl fun K hK => ?_
          iterate 2 (refine evR_step fun Kq hKq => ?_; simp (maxSteps := 4000000) (disch := first | assumption | omega | (simp only [go_sem, *]; done) | (simp only [go_sem, *]; omega)) only [go_sem, isE, isO, stpO, notIn, St.bare, Bool.false_and, Bool.true_and, Bool.and_true, Bool.not_true, Bool.not_false, Int.reduceToNat, Nat.reduceBEq, Nat.reduceEqDiff, Nat.reduceAdd, Nat.reduceMul, Nat.reduceLeDiff, Nat.reduceLT, Nat.reduceSub, ↓reduceIte, reduceCtorEq]; (repeat (refine And.intro (by first | assumption | omega | decide | (simp; done) | (simp; omega)) ?_)); refine hKq _ ?_; clear hKq Kq)
          refine evR_nil (hK _ ?_); clear hK K
          simp only [St.norm, thenE, inBlkE, List.filterMap, List.lookup, Option.map, Nat.reduceBEq]
          refine hK13 _ ?_
          refine tr_cond rfl (fun ht3 => ?_) (fun ht3 => ?_)
          · (try simp only [decide_eq_true_eq, decide_eq_false_iff_not, Bool.not_eq_true', Bool.not_eq_false', Bool.and_eq_true, Bool.or_eq_true, Bool.and_eq_false_iff, Bool.or_eq_false_iff, beq_true, beq_false] at ht3)
            have hxl : x < 16 := by omega
            have hin : insideP l (ctr x y) = sideP l (ctr x y) := by
              have h5 := ctr_on hxl hil
              simp_all [insideP]
            refine tr_skip ?_
            (try simp only [thenE, inBlkE])
            refine hK12 _ ?_
            refine tr_seq fun K14 hK14 => ?_
            refine tr_block ?_
            refine tr_seq fun K15 hK15 => ?_
            refine tr_region [0, 2, 4, 5, 6, 24] rfl rfl fun K hK => ?_
            iterate 3 (refine evR_step fun Kq hKq => ?_; simp (maxSteps := 4000000) (disch := first | assumption | omega | (simp only [go_sem, *]; done) | (simp only [go_sem, *]; omega)) only [go_sem, isE, isO, stpO, notIn, St.bare, Bool.false_and, Bool.true_and, Bool.and_true, Bool.not_true, Bool.not_false, Int.reduceToNat, Nat.reduceBEq, Nat.reduceEqDiff, Nat.reduceAdd, Nat.reduceMul, Nat.reduceLeDiff, Nat.reduceLT, Nat.reduceSub, ↓reduceIte, reduceCtorEq]; (repeat (refine And.intro (by first | assumption | omega | decide | (simp; done) | (simp; omega)) ?_)); refine hKq _ ?_; clear hKq Kq)
            refine evR_step fun Kq hKq => ?_
            simp (maxSteps := 4000000) (disch := first | assumption | omega | (simp only [go_sem, *]; done) | (simp only [go_sem, *]; omega)) only [go_sem, isE, isO, stpO, notIn, St.bare, Bool.false_and, Bool.true_and, Bool.and_true, Bool.not_true, Bool.not_false, Int.reduceToNat, Nat.reduceBEq, Nat.reduceEqDiff, Nat.reduceAdd, Nat.reduceMul, Nat.reduceLeDiff, Nat.reduceLT, Nat.reduceSub, ↓reduceIte, reduceCtorEq]
            (repeat (refine And.intro (by first | assumption | omega | decide | (simp; done) | (simp; omega)) ?_))
            refine ⟨_, (c39 _ _ (by omega) (by omega)), ?_⟩
            refine hKq _ ?_; clear hKq Kq
            refine evR_step fun Kq hKq => ?_
            simp (maxSteps := 4000000) (disch := first | assumption | omega | (simp only [go_sem, *]; done) | (simp only [go_sem, *]; omega)) only [go_sem, isE, isO, stpO, notIn, St.bare, Bool.false_and, Bool.true_and, Bool.and_true, Bool.not_true, Bool.not_false, Int.reduceToNat, Nat.reduceBEq, Nat.reduceEqDiff, Nat.reduceAdd, Nat.reduceMul, Nat.reduceLeDiff, Nat.reduceLT, Nat.reduceSub, ↓reduceIte, reduceCtorEq]
            (repeat (refine And.intro (by first | assumption | omega | decide | (simp; done) | (simp; omega)) ?_))
            refine ⟨_, (c36 l ⟨_, _⟩ hm), ?_⟩
            refine hKq _ ?_; clear hKq Kq
            iterate 1 (refine evR_step fun Kq hKq => ?_; simp (maxSteps := 4000000) (disch := first | assumption | omega | (simp only [go_sem, *]; done) | (simp only [go_sem, *]; omega)) only [go_sem, isE, isO, stpO, notIn, St.bare, Bool.false_and, Bool.true_and, Bool.and_true, Bool.not_true, Bool.not_false, Int.reduceToNat, Nat.reduceBEq, Nat.reduceEqDiff, Nat.reduceAdd, Nat.reduceMul, Nat.reduceLeDiff, Nat.reduceLT, Nat.reduceSub, ↓reduceIte, reduceCtorEq]; (repeat (refine And.intro (by first | assumption | omega | decide | (simp; done) | (simp; omega)) ?_)); refine hKq _ ?_; clear hKq Kq)
            refine evR_nil (hK _ ?_); clear hK K
            simp only [St.norm, thenE, inBlkE, List.filterMap, List.lookup, Option.map, Nat.reduceBEq]
            refine hK15 _ ?_
            refine tr_cond rfl (fun ht4 => ?_) (fun ht4 => ?_)
            · (try simp only [decide_eq_true_eq, decide_eq_false_iff_not, Bool.not_eq_true', Bool.not_eq_false', Bool.and_eq_true, Bool.or_eq_true, Bool.and_eq_false_iff, Bool.or_eq_false_iff, beq_true, beq_false] at ht4)
              refine tr_draw [] [0, 2, 4, 5, 6] mixed rfl (by kernel_rfl) rfl fun K hK => ?_
              iterate 9 (refine evD_step fun Kq hKq => ?_; simp (maxSteps := 4000000) (disch := first | assumption | omega | (simp only [go_sem, *]; done) | (simp only [go_sem, *]; omega)) only [go_sem, isE, isO, stpO, notIn, St.bare, Bool.false_and, Bool.true_and, Bool.and_true, Bool.not_true, Bool.not_false, Int.reduceToNat, Nat.reduceBEq, Nat.reduceEqDiff, Nat.reduceAdd, Nat.reduceMul, Nat.reduceLeDiff, Nat.reduceLT, Nat.reduceSub, ↓reduceIte, reduceCtorEq]; (repeat (refine And.intro (by first | assumption | omega | decide | (simp; done) | (simp; omega)) ?_)); refine hKq _ ?_; clear hKq Kq)
              refine evD_nil (hK _ ?_); clear hK K
              simp only [St.norm, thenE, inBlkE, List.filterMap, List.lookup, Option.map, Nat.reduceBEq]
              refine hK14 _ ?_
              refine tr_region [0, 2, 4, 5, 6] rfl rfl fun K hK => ?_
              iterate 3 (refine evR_step fun Kq hKq => ?_; simp (maxSteps := 4000000) (disch := first | assumption | omega | (simp only [go_sem, *]; done) | (simp only [go_sem, *]; omega)) only [go_sem, isE, isO, stpO, notIn, St.bare, Bool.false_and, Bool.true_and, Bool.and_true, Bool.not_true, Bool.not_false, Int.reduceToNat, Nat.reduceBEq, Nat.reduceEqDiff, Nat.reduceAdd, Nat.reduceMul, Nat.reduceLeDiff, Nat.reduceLT, Nat.reduceSub, ↓reduceIte, reduceCtorEq]; (repeat (refine And.intro (by first | assumption | omega | decide | (simp; done) | (simp; omega)) ?_)); refine hKq _ ?_; clear hKq Kq)
              refine evR_nil (hK _ ?_); clear hK K
              simp only [St.norm, thenE, inBlkE, List.filterMap, List.lookup, Option.map, Nat.reduceBEq]
              refine hKL2 _ ?_
              first
                | exact ⟨m2 - 1, _, by omega, Wk.refl _, x + 1, by omega, by rw [w64 (x := (x : Int) + 1) (by omega), rowG_add (fun x y => decide (0 ≤ sideP l (ctr x y))) hxl (by first | exact decide_eq_true (by rw [← hin]; exact ht4) | exact decide_eq_false (by rw [← hin]; exact ht4))]; rfl⟩
                | exact ⟨m2 - 1, _, by omega, Wk.refl _, x + 1, by omega, by rw [w64 (x := (x : Int) + 1) (by omega), rowG_skip (fun x y => decide (0 ≤ sideP l (ctr x y))) (by first | exact decide_eq_true (by rw [← hin]; exact ht4) | exact decide_eq_false (by rw [← hin]; exact ht4))]; rfl⟩
            · (try simp only [decide_eq_true_eq, decide_eq_false_iff_not, Bool.not_eq_true', Bool.not_eq_false', Bool.and_eq_true, Bool.or_eq_true, Bool.and_eq_false_iff, Bool.or_eq_false_iff, beq_true, beq_false] at ht4)
              refine tr_skip ?_
              (try simp only [thenE, inBlkE])
              refine hK14 _ ?_
              refine tr_region [0, 2, 4, 5, 6] rfl rfl fun K hK => ?_
              iterate 3 (refine evR_step fun Kq hKq => ?_; simp (maxSteps := 4000000) (disch := first | assumption | omega | (simp only [go_sem, *]; done) | (simp only [go_sem, *]; omega)) only [go_sem, isE, isO, stpO, notIn, St.bare, Bool.false_and, Bool.true_and, Bool.and_true, Bool.not_true, Bool.not_false, Int.reduceToNat, Nat.reduceBEq, Nat.reduceEqDiff, Nat.reduceAdd, Nat.reduceMul, Nat.reduceLeDiff, Nat.reduceLT, Nat.reduceSub, ↓reduceIte, reduceCtorEq]; (repeat (refine And.intro (by first | assumption | omega | decide | (simp; done) | (simp; omega)) ?_)); refine hKq _ ?_; clear hKq Kq)
              refine evR_nil (hK _ ?_); clear hK K
              simp only [St.norm, thenE, inBlkE, List.filterMap, List.lookup, Option.map, Nat.reduceBEq]
              refine hKL2 _ ?_
              first
                | exact ⟨m2 - 1, _, by omega, Wk.refl _, x + 1, by omega, by rw [w64 (x := (x : Int) + 1) (by omega), rowG_add (fun x y => decide (0 ≤ sideP l (ctr x y))) hxl (by first | exact decide_eq_true (by rw [← hin]; exact ht4) | exact decide_eq_false (by rw [← hin]; exact ht4))]; rfl⟩
                | exact ⟨m2 - 1, _, by omega, Wk.refl _, x + 1, by omega, by rw [w64 (x := (x : Int) + 1) (by omega), rowG_skip (fun x y => decide (0 ≤ sideP l (ctr x y))) (by first | exact decide_eq_true (by rw [← hin]; exact ht4) | exact decide_eq_false (by rw [← hin]; exact ht4))]; rfl⟩
          · (try simp only [decide_eq_true_eq, decide_eq_false_iff_not, Bool.not_eq_true', Bool.not_eq_false', Bool.and_eq_true, Bool.or_eq_true, Bool.and_eq_false_iff, Bool.or_eq_false_iff, beq_true, beq_false] at ht3)
            have hxl : x = 16 := by omega
            subst hxl
            refine tr_exit ?_
            simp only [thenE, inBlkE, Nat.reduceEqDiff, ↓reduceIte]
            refine hK10 _ ?_
            refine tr_region [0, 2, 4, 5] rfl rfl fun K hK => ?_
            iterate 3 (refine evR_step fun Kq hKq => ?_; simp (maxSteps := 4000000) (disch := first | assumption | omega | (simp only [go_sem, *]; done) | (simp only [go_sem, *]; omega)) only [go_sem, isE, isO, stpO, notIn, St.bare, Bool.false_and, Bool.true_and, Bool.and_true, Bool.not_true, Bool.not_false, Int.reduceToNat, Nat.reduceBEq, Nat.reduceEqDiff, Nat.reduceAdd, Nat.reduceMul, Nat.reduceLeDiff, Nat.reduceLT, Nat.reduceSub, ↓reduceIte, reduceCtorEq]; (repeat (refine And.intro (by first | assumption | omega | decide | (simp; done) | (simp; omega)) ?_)); refine hKq _ ?_; clear hKq Kq)
            refine evR_nil (hK _ ?_); clear hK K
            simp only [St.norm, thenE, inBlkE, List.filterMap, List.lookup, Option.map, Nat.reduceBEq]
            refine hKL1 _ ?_
            exact ⟨m - 1, _, by omega, Wk.refl _, y + 1, by omega, by rw [w64 (x := (y : Int) + 1) (by omega), outA_set (fun j => rowG (fun x y => decide (0 ≤ sideP l (ctr x y))) j 16) hil]; rfl⟩
      · (try simp only [decide_eq_true_eq, decide_eq_false_iff_not, Bool.not_eq_true', Bool.not_eq_false', Bool.and_eq_true, Bool.or_eq_true, Bool.and_eq_false_iff, Bool.or_eq_false_iff, beq_true, beq_false] at ht2)
        have hil : y = 16 := by omega
        subst hil
        refine tr_exit ?_
        simp only [thenE, inBlkE, Nat.reduceEqDiff, ↓reduceIte]
        refine hK6 _ ?_
        refine tr_seq fun K16 hK16 => ?_
        refine tr_region [2, 3] rfl rfl fun K hK => ?_
        iterate 3 (refine evR_step fun Kq hKq => ?_; simp (maxSteps := 4000000) (disch := first | assumption | omega | (simp only [go_sem, *]; done) | (simp only [go_sem, *]; omega)) only [go_sem, isE, isO, stpO, notIn, St.bare, Bool.false_and, Bool.true_and, Bool.and_true, Bool.not_true, Bool.not_false, Int.reduceToNat, Nat.reduceBEq, Nat.reduceEqDiff, Nat.reduceAdd, Nat.reduceMul, Nat.reduceLeDiff, Nat.reduceLT, Nat.reduceSub, ↓reduceIte, reduceCtorEq]; (repeat (refine And.intro (by first | assumption | omega | decide | (simp; done) | (simp; omega)) ?_)); refine hKq _ ?_; clear hKq Kq)
        refine evR_nil (hK _ ?_); clear hK K
        simp only [St.norm, thenE, inBlkE, List.filterMap, List.lookup, Option.map, Nat.reduceBEq]
        refine hK16 _ ?_
        refine tr_ret ?_
        (try simp only [thenE, inBlkE])
        simp (maxSteps := 4000000) (disch := first | assumption | omega | (simp only [go_sem, *]; done) | (simp only [go_sem, *]; omega)) only [postA, postO, resV1, fzAll, go_sem, isE, isO, stpO, notIn, St.bare, Bool.false_and, Bool.true_and, Bool.and_true, Bool.not_true, Bool.not_false, Int.reduceToNat, Nat.reduceBEq, Nat.reduceEqDiff, Nat.reduceAdd, Nat.reduceMul, Nat.reduceLeDiff, Nat.reduceLT, Nat.reduceSub, ↓reduceIte, reduceCtorEq]
        all_goals ((first | (simp_all [polyA, zeros16]; done) | (simp_all [polyA, cellsG]; done)))

theorem c11 (x : List Pl) (p : Pl) (r : Int) (hx : x.length ≤ maxLen) : CallsA Try.prog 11 [.sl 2 (encP x), .agg [.int .i64 p.x, .int .i64 p.y], .int .i64 r] (.agg (cellsI (minusA (discA (placeP p) (pickW r 101)).1 (polyA (madeP x)).1))) := by
  have hL := madeP_length x
  have hmL : (madeP x).length ≤ maxLen := by unfold maxLen; omega
  refine callsA_of_tr Try.func11 rfl (Nat.le_of_ble_eq_true rfl) ?_
  simp only [Try.results11, envOf, Nat.reduceAdd]
  refine tr_seq fun K1 hK1 => ?_
  refine tr_region [0, 2, 4, 6] rfl rfl fun K hK => ?_
  iterate 2 (refine evR_step fun Kq hKq => ?_; simp (maxSteps := 4000000) (disch := first | assumption | omega | (simp only [go_sem, *]; done) | (simp only [go_sem, *]; omega)) only [go_sem, isE, isO, stpO, notIn, St.bare, Bool.false_and, Bool.true_and, Bool.and_true, Bool.not_true, Bool.not_false, Int.reduceToNat, Nat.reduceBEq, Nat.reduceEqDiff, Nat.reduceAdd, Nat.reduceMul, Nat.reduceLeDiff, Nat.reduceLT, Nat.reduceSub, ↓reduceIte, reduceCtorEq]; (repeat (refine And.intro (by first | assumption | omega | decide | (simp; done) | (simp; omega)) ?_)); refine hKq _ ?_; clear hKq Kq)
  refine evR_nil (hK _ ?_); clear hK K
  simp only [St.norm, thenE, inBlkE, List.filterMap, List.lookup, Option.map, Nat.reduceBEq]
  refine hK1 _ ?_
  refine tr_seq fun K2 hK2 => ?_
  refine tr_region [0, 6, 7] rfl rfl fun K hK => ?_
  iterate 1 (refine evR_step fun Kq hKq => ?_; simp (maxSteps := 4000000) (disch := first | assumption | omega | (simp only [go_sem, *]; done) | (simp only [go_sem, *]; omega)) only [go_sem, isE, isO, stpO, notIn, St.bare, Bool.false_and, Bool.true_and, Bool.and_true, Bool.not_true, Bool.not_false, Int.reduceToNat, Nat.reduceBEq, Nat.reduceEqDiff, Nat.reduceAdd, Nat.reduceMul, Nat.reduceLeDiff, Nat.reduceLT, Nat.reduceSub, ↓reduceIte, reduceCtorEq]; (repeat (refine And.intro (by first | assumption | omega | decide | (simp; done) | (simp; omega)) ?_)); refine hKq _ ?_; clear hKq Kq)
  refine evR_step fun Kq hKq => ?_
  simp (maxSteps := 4000000) (disch := first | assumption | omega | (simp only [go_sem, *]; done) | (simp only [go_sem, *]; omega)) only [go_sem, isE, isO, stpO, notIn, St.bare, Bool.false_and, Bool.true_and, Bool.and_true, Bool.not_true, Bool.not_false, Int.reduceToNat, Nat.reduceBEq, Nat.reduceEqDiff, Nat.reduceAdd, Nat.reduceMul, Nat.reduceLeDiff, Nat.reduceLT, Nat.reduceSub, ↓reduceIte, reduceCtorEq]
  (repeat (refine And.intro (by first | assumption | omega | decide | (simp; done) | (simp; omega)) ?_))
  refine ⟨_, (c30 p), ?_⟩
  refine hKq _ ?_; clear hKq Kq
  iterate 1 (refine evR_step fun Kq hKq => ?_; simp (maxSteps := 4000000) (disch := first | assumption | omega | (simp only [go_sem, *]; done) | (simp only [go_sem, *]; omega)) only [go_sem, isE, isO, stpO, notIn, St.bare, Bool.false_and, Bool.true_and, Bool.and_true, Bool.not_true, Bool.not_false, Int.reduceToNat, Nat.reduceBEq, Nat.reduceEqDiff, Nat.reduceAdd, Nat.reduceMul, Nat.reduceLeDiff, Nat.reduceLT, Nat.reduceSub, ↓reduceIte, reduceCtorEq]; (repeat (refine And.intro (by first | assumption | omega | decide | (simp; done) | (simp; omega)) ?_)); refine hKq _ ?_; clear hKq Kq)
  refine evR_step fun Kq hKq => ?_
  simp (maxSteps := 4000000) (disch := first | assumption | omega | (simp only [go_sem, *]; done) | (simp only [go_sem, *]; omega)) only [go_sem, isE, isO, stpO, notIn, St.bare, Bool.false_and, Bool.true_and, Bool.and_true, Bool.not_true, Bool.not_false, Int.reduceToNat, Nat.reduceBEq, Nat.reduceEqDiff, Nat.reduceAdd, Nat.reduceMul, Nat.reduceLeDiff, Nat.reduceLT, Nat.reduceSub, ↓reduceIte, reduceCtorEq]
  (repeat (refine And.intro (by first | assumption | omega | decide | (simp; done) | (simp; omega)) ?_))
  refine ⟨_, (c40 _ _ (by decide)), ?_⟩
  refine hKq _ ?_; clear hKq Kq
  refine evR_step fun Kq hKq => ?_
  simp (maxSteps := 4000000) (disch := first | assumption | omega | (simp only [go_sem, *]; done) | (simp only [go_sem, *]; omega)) only [go_sem, isE, isO, stpO, notIn, St.bare, Bool.false_and, Bool.true_and, Bool.and_true, Bool.not_true, Bool.not_false, Int.reduceToNat, Nat.reduceBEq, Nat.reduceEqDiff, Nat.reduceAdd, Nat.reduceMul, Nat.reduceLeDiff, Nat.reduceLT, Nat.reduceSub, ↓reduceIte, reduceCtorEq]
  (repeat (refine And.intro (by first | assumption | omega | decide | (simp; done) | (simp; omega)) ?_))
  refine ⟨_, (c38 (placeP p) _), ?_⟩
  refine hKq _ ?_; clear hKq Kq
  iterate 6 (refine evR_step fun Kq hKq => ?_; simp (maxSteps := 4000000) (disch := first | assumption | omega | (simp only [go_sem, *]; done) | (simp only [go_sem, *]; omega)) only [go_sem, isE, isO, stpO, notIn, St.bare, Bool.false_and, Bool.true_and, Bool.and_true, Bool.not_true, Bool.not_false, Int.reduceToNat, Nat.reduceBEq, Nat.reduceEqDiff, Nat.reduceAdd, Nat.reduceMul, Nat.reduceLeDiff, Nat.reduceLT, Nat.reduceSub, ↓reduceIte, reduceCtorEq]; (repeat (refine And.intro (by first | assumption | omega | decide | (simp; done) | (simp; omega)) ?_)); refine hKq _ ?_; clear hKq Kq)
  refine evR_nil (hK _ ?_); clear hK K
  simp only [St.norm, thenE, inBlkE, List.filterMap, List.lookup, Option.map, Nat.reduceBEq]
  refine hK2 _ ?_
  refine tr_seq fun K3 hK3 => ?_
  refine tr_region [6, 7, 9] rfl rfl fun K hK => ?_
  iterate 1 (refine evR_step fun Kq hKq => ?_; simp (maxSteps := 4000000) (disch := first | assumption | omega | (simp only [go_sem, *]; done) | (simp only [go_sem, *]; omega)) only [go_sem, isE, isO, stpO, notIn, St.bare, Bool.false_and, Bool.true_and, Bool.and_true, Bool.not_true, Bool.not_false, Int.reduceToNat, Nat.reduceBEq, Nat.reduceEqDiff, Nat.reduceAdd, Nat.reduceMul, Nat.reduceLeDiff, Nat.reduceLT, Nat.reduceSub, ↓reduceIte, reduceCtorEq]; (repeat (refine And.intro (by first | assumption | omega | decide | (simp; done) | (simp; omega)) ?_)); refine hKq _ ?_; clear hKq Kq)
  refine evR_step fun Kq hKq => ?_
  simp (maxSteps := 4000000) (disch := first | assumption | omega | (simp only [go_sem, *]; done) | (simp only [go_sem, *]; omega)) only [go_sem, isE, isO, stpO, notIn, St.bare, Bool.false_and, Bool.true_and, Bool.and_true, Bool.not_true, Bool.not_false, Int.reduceToNat, Nat.reduceBEq, Nat.reduceEqDiff, Nat.reduceAdd, Nat.reduceMul, Nat.reduceLeDiff, Nat.reduceLT, Nat.reduceSub, ↓reduceIte, reduceCtorEq]
  (repeat (refine And.intro (by first | assumption | omega | decide | (simp; done) | (simp; omega)) ?_))
  refine ⟨_, (c29 x hx), ?_⟩
  refine hKq _ ?_; clear hKq Kq
  refine evR_step fun Kq hKq => ?_
  simp (maxSteps := 4000000) (disch := first | assumption | omega | (simp only [go_sem, *]; done) | (simp only [go_sem, *]; omega)) only [go_sem, isE, isO, stpO, notIn, St.bare, Bool.false_and, Bool.true_and, Bool.and_true, Bool.not_true, Bool.not_false, Int.reduceToNat, Nat.reduceBEq, Nat.reduceEqDiff, Nat.reduceAdd, Nat.reduceMul, Nat.reduceLeDiff, Nat.reduceLT, Nat.reduceSub, ↓reduceIte, reduceCtorEq]
  (repeat (refine And.intro (by first | assumption | omega | decide | (simp; done) | (simp; omega)) ?_))
  refine ⟨_, (c32 (madeP x) hmL), ?_⟩
  refine hKq _ ?_; clear hKq Kq
  iterate 6 (refine evR_step fun Kq hKq => ?_; simp (maxSteps := 4000000) (disch := first | assumption | omega | (simp only [go_sem, *]; done) | (simp only [go_sem, *]; omega)) only [go_sem, isE, isO, stpO, notIn, St.bare, Bool.false_and, Bool.true_and, Bool.and_true, Bool.not_true, Bool.not_false, Int.reduceToNat, Nat.reduceBEq, Nat.reduceEqDiff, Nat.reduceAdd, Nat.reduceMul, Nat.reduceLeDiff, Nat.reduceLT, Nat.reduceSub, ↓reduceIte, reduceCtorEq]; (repeat (refine And.intro (by first | assumption | omega | decide | (simp; done) | (simp; omega)) ?_)); refine hKq _ ?_; clear hKq Kq)
  refine evR_nil (hK _ ?_); clear hK K
  simp only [St.norm, thenE, inBlkE, List.filterMap, List.lookup, Option.map, Nat.reduceBEq]
  refine hK3 _ ?_
  refine tr_seq fun K4 hK4 => ?_
  refine tr_region [6] rfl rfl fun K hK => ?_
  iterate 2 (refine evR_step fun Kq hKq => ?_; simp (maxSteps := 4000000) (disch := first | assumption | omega | (simp only [go_sem, *]; done) | (simp only [go_sem, *]; omega)) only [go_sem, isE, isO, stpO, notIn, St.bare, Bool.false_and, Bool.true_and, Bool.and_true, Bool.not_true, Bool.not_false, Int.reduceToNat, Nat.reduceBEq, Nat.reduceEqDiff, Nat.reduceAdd, Nat.reduceMul, Nat.reduceLeDiff, Nat.reduceLT, Nat.reduceSub, ↓reduceIte, reduceCtorEq]; (repeat (refine And.intro (by first | assumption | omega | decide | (simp; done) | (simp; omega)) ?_)); refine hKq _ ?_; clear hKq Kq)
  refine evR_step fun Kq hKq => ?_
  simp (maxSteps := 4000000) (disch := first | assumption | omega | (simp only [go_sem, *]; done) | (simp only [go_sem, *]; omega)) only [go_sem, isE, isO, stpO, notIn, St.bare, Bool.false_and, Bool.true_and, Bool.and_true, Bool.not_true, Bool.not_false, Int.reduceToNat, Nat.reduceBEq, Nat.reduceEqDiff, Nat.reduceAdd, Nat.reduceMul, Nat.reduceLeDiff, Nat.reduceLT, Nat.reduceSub, ↓reduceIte, reduceCtorEq]
  (repeat (refine And.intro (by first | assumption | omega | decide | (simp; done) | (simp; omega)) ?_))
  refine ⟨_, (c22 _ _ (discA_length _ _) (polyA_length _)), ?_⟩
  refine hKq _ ?_; clear hKq Kq
  iterate 1 (refine evR_step fun Kq hKq => ?_; simp (maxSteps := 4000000) (disch := first | assumption | omega | (simp only [go_sem, *]; done) | (simp only [go_sem, *]; omega)) only [go_sem, isE, isO, stpO, notIn, St.bare, Bool.false_and, Bool.true_and, Bool.and_true, Bool.not_true, Bool.not_false, Int.reduceToNat, Nat.reduceBEq, Nat.reduceEqDiff, Nat.reduceAdd, Nat.reduceMul, Nat.reduceLeDiff, Nat.reduceLT, Nat.reduceSub, ↓reduceIte, reduceCtorEq]; (repeat (refine And.intro (by first | assumption | omega | decide | (simp; done) | (simp; omega)) ?_)); refine hKq _ ?_; clear hKq Kq)
  refine evR_nil (hK _ ?_); clear hK K
  simp only [St.norm, thenE, inBlkE, List.filterMap, List.lookup, Option.map, Nat.reduceBEq]
  refine hK4 _ ?_
  refine tr_ret ?_
  (try simp only [thenE, inBlkE])
  simp (maxSteps := 4000000) (disch := first | assumption | omega | (simp only [go_sem, *]; done) | (simp only [go_sem, *]; omega)) only [postA, postO, resV1, fzAll, go_sem, isE, isO, stpO, notIn, St.bare, Bool.false_and, Bool.true_and, Bool.and_true, Bool.not_true, Bool.not_false, Int.reduceToNat, Nat.reduceBEq, Nat.reduceEqDiff, Nat.reduceAdd, Nat.reduceMul, Nat.reduceLeDiff, Nat.reduceLT, Nat.reduceSub, ↓reduceIte, reduceCtorEq]
  all_goals (rfl)

end Go.Proofs.Ytpaielaniekdbaa

