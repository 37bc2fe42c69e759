import Derived.Test.YtpaielaniekdbaaF21
import Derived.Test.YtpaielaniekdbaaP21
import Derived.Test.YtpaielaniekdbaaC21a
import Derived.Test.YtpaielaniekdbaaC21b
import Derived.Test.YtpaielaniekdbaaC21c
namespace Go.Proofs.Ytpaielaniekdbaa
open Go.RowKit
set_option linter.unusedVariables false
set_option linter.unusedSimpArgs false
attribute [local go_sem] Nat.zero_add Nat.add_zero Nat.mul_one eq_self ne_eq not_true_eq_false not_false_eq_true decide_true decide_false decide_not Bool.false_eq_true List.filter_cons List.filter_nil true_and and_true beq_false beq_true Bool.not_true Bool.not_false Bool.and_true Bool.true_and Option.getD_some Option.getD_none imp_self implies_true Int.toNat_natCast List.cons_append List.nil_append List.map_cons List.map_nil List.length_cons List.length_nil List.getD_cons_zero List.getD_cons_succ List.drop_zero List.drop_succ_cons List.take_succ_cons List.take_zero
attribute [local go_sem] evO evDO isEff stp St.get St.slot St.put List.lookup un unL ofVal gof nth pickV pkB_false pkB_true binV unV loadV idxV fldV partV buildV fillV lenV sliV appV appR rowsV winV V.parts V.okp V.sc Mem.look_cons Mem.look_nil V.cl V.clL AObj.clo fzAll exps St.fz Mem.fz V.fz V.fzL AObj.fz arT_23 arT_24 arT_25 arT_26 arT_27 arT_32 arT_41 arT_49 arT_9 boolT_23 boolT_3 boolT_4 boolT_43 flatT_23 flatT_3 flatT_4 flatT_43 intT_3 intT_5 intT_61 intT_69 intT_71 lay_23 lay_26 lay_27 lay_29 lay_3 okF_10 okF_11 okF_12 okF_13 okF_14 okF_15 okF_16 okF_17 okF_18 okF_19 okF_20 okF_21 okF_22 okF_23 okF_24 okF_25 okF_26 okF_27 okF_28 okF_29 okF_3 okF_30 okF_31 okF_32 okF_33 okF_34 okF_35 okF_36 okF_37 okF_38 okF_39 okF_4 okF_40 okF_41 okF_42 okF_43 okF_44 okF_45 okF_46 okF_47 okF_48 okF_49 okF_5 okF_50 okF_51 okF_52 okF_53 okF_54 okF_55 okF_56 okF_57 okF_58 okF_59 okF_6 okF_60 okF_61 okF_62 okF_7 okF_8 okF_9 plT_23 plT_26 plT_29 slT_23 slT_24 slT_25 slT_26 slT_27 slT_32 slT_41 slT_49 stT_29_0 stT_29_1 zeroT_23 zeroT_26 zeroT_27 zeroT_29 zeroT_3
attribute [local go_sem] cellsI_fzL cellsI_uptoL List.getElem?_cons_zero List.getElem?_cons_succ List.zip_cons_cons List.zip_nil_left List.zip_nil_right Bool.false_and Bool.and_false cellsG_length cellsI_length cellsI_sc cellsI_cl cellsI_rows cellsI_take cellsI_dropD cellsI_set cellsI_full encI_length encI_getD List.length_set List.length_replicate List.all_cons List.all_nil outA_length eachA_length outM_length getD_set_same List.set_set spl_nil0 spl_cons0 spl_succ encP_length encP_getD
theorem c48 (f : FuncId) (caps : List V) (g : Nat → Nat → Bool) (hf : okF Try.prog f = true) (hcl : V.clL caps = true) (hp : ∀ x y : Nat, x < 16 → y < 16 → CallsA Try.prog f (.agg [.int .i64 (4 * (x : Int) + 2), .int .i64 (4 * (y : Int) + 2)] :: caps) (.bool (g x y))) : CallsA Try.prog 48 [.fn f caps] (.agg (cellsI (cellsG g))) := by
  refine callsA_of_tr Try.func48 rfl (Nat.le_of_ble_eq_true rfl) ?_
  simp only [Try.results48, envOf, Nat.reduceAdd]
  refine tr_seq fun K1 hK1 => ?_
  refine tr_region [0, 2] rfl rfl fun K hK => ?_
  iterate 1 (refine evR_step fun Kq hKq => ?_; simp (maxSteps := 4000000) (disch := first | assumption | omega | (simp only [go_sem, *]; done) | (simp only [go_sem, *]; omega)) only [go_sem, isE, isO, stpO, notIn, St.bare, Bool.false_and, Bool.true_and, Bool.and_true, Bool.not_true, Bool.not_false, Int.reduceToNat, Nat.reduceBEq, Nat.reduceEqDiff, Nat.reduceAdd, Nat.reduceMul, Nat.reduceLeDiff, Nat.reduceLT, Nat.reduceSub, ↓reduceIte, reduceCtorEq, hcl]; (repeat (refine And.intro (by first | assumption | omega | decide | (simp; done) | (simp; omega)) ?_)); refine hKq _ ?_; clear hKq Kq)
  refine evR_nil (hK _ ?_); clear hK K
  simp only [St.norm, thenE, inBlkE, List.filterMap, List.lookup, Option.map, Nat.reduceBEq]
  refine hK1 _ ?_
  refine tr_seq fun K2 hK2 => ?_
  refine tr_region [0, 2, 3] rfl rfl fun K hK => ?_
  iterate 1 (refine evR_step fun Kq hKq => ?_; simp (maxSteps := 4000000) (disch := first | assumption | omega | (simp only [go_sem, *]; done) | (simp only [go_sem, *]; omega)) only [go_sem, isE, isO, stpO, notIn, St.bare, Bool.false_and, Bool.true_and, Bool.and_true, Bool.not_true, Bool.not_false, Int.reduceToNat, Nat.reduceBEq, Nat.reduceEqDiff, Nat.reduceAdd, Nat.reduceMul, Nat.reduceLeDiff, Nat.reduceLT, Nat.reduceSub, ↓reduceIte, reduceCtorEq, hcl]; (repeat (refine And.intro (by first | assumption | omega | decide | (simp; done) | (simp; omega)) ?_)); refine hKq _ ?_; clear hKq Kq)
  refine evR_nil (hK _ ?_); clear hK K
  simp only [St.norm, thenE, inBlkE, List.filterMap, List.lookup, Option.map, Nat.reduceBEq]
  refine hK2 _ ?_
  refine tr_seq fun K3 hK3 => ?_
  refine tr_seq fun K4 hK4 => ?_
  refine tr_region [0, 2, 3, 6] rfl rfl fun K hK => ?_
  iterate 1 (refine evR_step fun Kq hKq => ?_; simp (maxSteps := 4000000) (disch := first | assumption | omega | (simp only [go_sem, *]; done) | (simp only [go_sem, *]; omega)) only [go_sem, isE, isO, stpO, notIn, St.bare, Bool.false_and, Bool.true_and, Bool.and_true, Bool.not_true, Bool.not_false, Int.reduceToNat, Nat.reduceBEq, Nat.reduceEqDiff, Nat.reduceAdd, Nat.reduceMul, Nat.reduceLeDiff, Nat.reduceLT, Nat.reduceSub, ↓reduceIte, reduceCtorEq, hcl]; (repeat (refine And.intro (by first | assumption | omega | decide | (simp; done) | (simp; omega)) ?_)); refine hKq _ ?_; clear hKq Kq)
  refine evR_nil (hK _ ?_); clear hK K
  simp only [St.norm, thenE, inBlkE, List.filterMap, List.lookup, Option.map, Nat.reduceBEq]
  refine hK4 _ ?_
  refine tr_block ?_
  -- loop 1: live [0, 2, 3, 6]
  refine tr_loopW (fun m σ => ∃ y : Nat, y + m = 16 ∧ σ = ⟨[(0, .fn f caps), (2, .ptr 0 0), (3, .ptr 1 0), (6, .int .i64 y)], [(1, .cells (cellsI (outA (fun j => rowG g j 16) y))), (0, .cells (cellsI (List.replicate 16 0)))], 2⟩) (16) ?_ ?_
  · exact ⟨_, Wk.refl _, 0, by omega, by rw [outA_zero]; rfl⟩
  · rintro m σ ⟨y, hi, rfl⟩ KL1 hKL1
    refine tr_seq fun K5 hK5 => ?_
    refine tr_region [0, 2, 3, 6, 7] rfl rfl fun K hK => ?_
    iterate 1 (refine evR_step fun Kq hKq => ?_; simp (maxSteps := 4000000) (disch := first | assumption | omega | (simp only [go_sem, *]; done) | (simp only [go_sem, *]; omega)) only [go_sem, isE, isO, stpO, notIn, St.bare, Bool.false_and, Bool.true_and, Bool.and_true, Bool.not_true, Bool.not_false, Int.reduceToNat, Nat.reduceBEq, Nat.reduceEqDiff, Nat.reduceAdd, Nat.reduceMul, Nat.reduceLeDiff, Nat.reduceLT, Nat.reduceSub, ↓reduceIte, reduceCtorEq, hcl]; (repeat (refine And.intro (by first | assumption | omega | decide | (simp; done) | (simp; omega)) ?_)); refine hKq _ ?_; clear hKq Kq)
    refine evR_nil (hK _ ?_); clear hK K
    simp only [St.norm, thenE, inBlkE, List.filterMap, List.lookup, Option.map, Nat.reduceBEq]
    refine hK5 _ ?_
    refine tr_seq fun K6 hK6 => ?_
    refine tr_cond rfl (fun ht1 => ?_) (fun ht1 => ?_)
    · (try simp only [decide_eq_true_eq, decide_eq_false_iff_not, Bool.not_eq_true', Bool.not_eq_false', Bool.and_eq_true, Bool.or_eq_true, Bool.and_eq_false_iff, Bool.or_eq_false_iff, beq_true, beq_false] at ht1)
      have hil : y < 16 := by omega
      refine tr_skip ?_
      (try simp only [thenE, inBlkE])
      refine hK6 _ ?_
      refine tr_seq fun K7 hK7 => ?_
      refine tr_block ?_
      refine tr_seq fun K8 hK8 => ?_
      refine tr_region [0, 2, 3, 4, 6] rfl rfl fun K hK => ?_
      iterate 2 (refine evR_step fun Kq hKq => ?_; simp (maxSteps := 4000000) (disch := first | assumption | omega | (simp only [go_sem, *]; done) | (simp only [go_sem, *]; omega)) only [go_sem, isE, isO, stpO, notIn, St.bare, Bool.false_and, Bool.true_and, Bool.and_true, Bool.not_true, Bool.not_false, Int.reduceToNat, Nat.reduceBEq, Nat.reduceEqDiff, Nat.reduceAdd, Nat.reduceMul, Nat.reduceLeDiff, Nat.reduceLT, Nat.reduceSub, ↓reduceIte, reduceCtorEq, hcl]; (repeat (refine And.intro (by first | assumption | omega | decide | (simp; done) | (simp; omega)) ?_)); refine hKq _ ?_; clear hKq Kq)
      refine evR_nil (hK _ ?_); clear hK K
      simp only [St.norm, thenE, inBlkE, List.filterMap, List.lookup, Option.map, Nat.reduceBEq]
      refine hK8 _ ?_
      refine tr_seq fun K9 hK9 => ?_
      refine tr_region [0, 2, 3, 4, 6, 9] rfl rfl fun K hK => ?_
      iterate 1 (refine evR_step fun Kq hKq => ?_; simp (maxSteps := 4000000) (disch := first | assumption | omega | (simp only [go_sem, *]; done) | (simp only [go_sem, *]; omega)) only [go_sem, isE, isO, stpO, notIn, St.bare, Bool.false_and, Bool.true_and, Bool.and_true, Bool.not_true, Bool.not_false, Int.reduceToNat, Nat.reduceBEq, Nat.reduceEqDiff, Nat.reduceAdd, Nat.reduceMul, Nat.reduceLeDiff, Nat.reduceLT, Nat.reduceSub, ↓reduceIte, reduceCtorEq, hcl]; (repeat (refine And.intro (by first | assumption | omega | decide | (simp; done) | (simp; omega)) ?_)); refine hKq _ ?_; clear hKq Kq)
      refine evR_nil (hK _ ?_); clear hK K
      simp only [St.norm, thenE, inBlkE, List.filterMap, List.lookup, Option.map, Nat.reduceBEq]
      refine hK9 _ ?_
      refine tr_block ?_
      -- loop 2: live [0, 2, 3, 4, 6, 9]
      refine tr_loopW (fun m σ => ∃ x : Nat, x + m = 16 ∧ σ = ⟨[(0, .fn f caps), (2, .ptr 0 0), (3, .ptr 1 0), (4, .int .i64 y), (6, .int .i64 y), (9, .int .i64 x)], [(1, .cells (cellsI ((outA (fun j => rowG g j 16) y).set y (rowG g y x)))), (0, .cells (cellsI (List.replicate 16 0)))], 2⟩) (16) ?_ ?_
      · exact ⟨_, Wk.refl _, 0, by omega, by rw [outR_zero g hil]; rfl⟩
      · rintro m2 σ ⟨x, hx, rfl⟩ KL2 hKL2
        refine tr_seq fun K10 hK10 => ?_
        refine tr_region [0, 2, 3, 4, 6, 9, 10] rfl rfl fun K hK => ?_
        iterate 1 (refine evR_step fun Kq hKq => ?_; simp (maxSteps := 4000000) (disch := first | assumption | omega | (simp only [go_sem, *]; done) | (simp only [go_sem, *]; omega)) only [go_sem, isE, isO, stpO, notIn, St.bare, Bool.false_and, Bool.true_and, Bool.and_true, Bool.not_true, Bool.not_false, Int.reduceToNat, Nat.reduceBEq, Nat.reduceEqDiff, Nat.reduceAdd, Nat.reduceMul, Nat.reduceLeDiff, Nat.reduceLT, Nat.reduceSub, ↓reduceIte, reduceCtorEq, hcl]; (repeat (refine And.intro (by first | assumption | omega | decide | (simp; done) | (simp; omega)) ?_)); refine hKq _ ?_; clear hKq Kq)
        refine evR_nil (hK _ ?_); clear hK K
        simp only [St.norm, thenE, inBlkE, List.filterMap, List.lookup, Option.map, Nat.reduceBEq]
        refine hK10 _ ?_
        refine tr_seq fun K11 hK11 => ?_
        refine tr_cond rfl (fun ht2 => ?_) (fun ht2 => ?_)
        · (try simp only [decide_eq_true_eq, decide_eq_false_iff_not, Bool.not_eq_true', Bool.not_eq_false', Bool.and_eq_true, Bool.or_eq_true, Bool.and_eq_false_iff, Bool.or_eq_false_iff, beq_true, beq_false] at ht2)
          have hxl : x < 16 := by omega
          have hw1 : IntKind.i64.wrap (4 * (x : Int)) = 4 * (x : Int) := w64 (by omega)
          have hw2 : IntKind.i64.wrap (4 * (x : Int) + 2) = 4 * (x : Int) + 2 := w64 (by omega)
          have hw3 : IntKind.i64.wrap (4 * (y : Int)) = 4 * (y : Int) := w64 (by omega)
          have hw4 : IntKind.i64.wrap (4 * (y : Int) + 2) = 4 * (y : Int) + 2 := w64 (by omega)
          refine tr_skip ?_
          (try simp only [thenE, inBlkE])
          refine hK11 _ ?_
          refine tr_seq fun K12 hK12 => ?_
          refine tr_block ?_
          refine tr_seq fun K13 hK13 => ?_
          refine tr_region [0, 2, 3, 4, 5, 6, 9] rfl rfl fun K hK => ?_
          iterate 2 (refine evR_step fun Kq hKq => ?_; simp (maxSteps := 4000000) (disch := first | assumption | omega | (simp only [go_sem, *]; done) | (simp only [go_sem, *]; omega)) only [go_sem, isE, isO, stpO, notIn, St.bare, Bool.false_and, Bool.true_and, Bool.and_true, Bool.not_true, Bool.not_false, Int.reduceToNat, Nat.reduceBEq, Nat.reduceEqDiff, Nat.reduceAdd, Nat.reduceMul, Nat.reduceLeDiff, Nat.reduceLT, Nat.reduceSub, ↓reduceIte, reduceCtorEq, hcl, hw1, hw2, hw3, hw4]; (repeat (refine And.intro (by first | assumption | omega | decide | (simp; done) | (simp; omega)) ?_)); refine hKq _ ?_; clear hKq Kq)
          refine evR_nil (hK _ ?_); clear hK K
          simp only [St.norm, thenE, inBlkE, List.filterMap, List.lookup, Option.map, Nat.reduceBEq]
          refine hK13 _ ?_
          refine tr_seq fun K14 hK14 => ?_
          refine tr_region [0, 2, 3, 4, 5, 6, 9, 20] rfl rfl fun K hK => ?_
          iterate 8 (refine evR_step fun Kq hKq => ?_; simp (maxSteps := 4000000) (disch := first | assumption | omega | (simp only [go_sem, *]; done) | (simp only [go_sem, *]; omega)) only [go_sem, isE, isO, stpO, notIn, St.bare, Bool.false_and, Bool.true_and, Bool.and_true, Bool.not_true, Bool.not_false, Int.reduceToNat, Nat.reduceBEq, Nat.reduceEqDiff, Nat.reduceAdd, Nat.reduceMul, Nat.reduceLeDiff, Nat.reduceLT, Nat.reduceSub, ↓reduceIte, reduceCtorEq, hcl, hw1, hw2, hw3, hw4]; (repeat (refine And.intro (by first | assumption | omega | decide | (simp; done) | (simp; omega)) ?_)); refine hKq _ ?_; clear hKq Kq)
          refine evR_step fun Kq hKq => ?_
          simp (maxSteps := 4000000) (disch := first | assumption | omega | (simp only [go_sem, *]; done) | (simp only [go_sem, *]; omega)) only [go_sem, isE, isO, stpO, notIn, St.bare, Bool.false_and, Bool.true_and, Bool.and_true, Bool.not_true, Bool.not_false, Int.reduceToNat, Nat.reduceBEq, Nat.reduceEqDiff, Nat.reduceAdd, Nat.reduceMul, Nat.reduceLeDiff, Nat.reduceLT, Nat.reduceSub, ↓reduceIte, reduceCtorEq, hcl, hw1, hw2, hw3, hw4]
          (repeat (refine And.intro (by first | assumption | omega | decide | (simp; done) | (simp; omega)) ?_))
          refine ⟨_, (hp x y hxl hil), ?_⟩
          refine hKq _ ?_; clear hKq Kq
          refine evR_nil (hK _ ?_); clear hK K
          simp only [St.norm, thenE, inBlkE, List.filterMap, List.lookup, Option.map, Nat.reduceBEq]
          refine hK14 _ ?_
          refine tr_cond rfl (fun ht3 => ?_) (fun ht3 => ?_)
          · (try simp only [decide_eq_true_eq, decide_eq_false_iff_not, Bool.not_eq_true', Bool.not_eq_false', Bool.and_eq_true, Bool.or_eq_true, Bool.and_eq_false_iff, Bool.or_eq_false_iff, beq_true, beq_false] at ht3)
            refine tr_draw [] [0, 2, 3, 4, 6, 9] mixed rfl (by kernel_rfl) rfl fun K hK => ?_
            iterate 8 (refine evD_step fun Kq hKq => ?_; simp (maxSteps := 4000000) (disch := first | assumption | omega | (simp only [go_sem, *]; done) | (simp only [go_sem, *]; omega)) only [go_sem, isE, isO, stpO, notIn, St.bare, Bool.false_and, Bool.true_and, Bool.and_true, Bool.not_true, Bool.not_false, Int.reduceToNat, Nat.reduceBEq, Nat.reduceEqDiff, Nat.reduceAdd, Nat.reduceMul, Nat.reduceLeDiff, Nat.reduceLT, Nat.reduceSub, ↓reduceIte, reduceCtorEq, hcl, hw1, hw2, hw3, hw4]; (repeat (refine And.intro (by first | assumption | omega | decide | (simp; done) | (simp; omega)) ?_)); refine hKq _ ?_; clear hKq Kq)
            refine evD_nil (hK _ ?_); clear hK K
            simp only [St.norm, thenE, inBlkE, List.filterMap, List.lookup, Option.map, Nat.reduceBEq]
            refine hK12 _ ?_
            refine tr_region [0, 2, 3, 4, 6, 9] rfl rfl fun K hK => ?_
            iterate 2 (refine evR_step fun Kq hKq => ?_; simp (maxSteps := 4000000) (disch := first | assumption | omega | (simp only [go_sem, *]; done) | (simp only [go_sem, *]; omega)) only [go_sem, isE, isO, stpO, notIn, St.bare, Bool.false_and, Bool.true_and, Bool.and_true, Bool.not_true, Bool.not_false, Int.reduceToNat, Nat.reduceBEq, Nat.reduceEqDiff, Nat.reduceAdd, Nat.reduceMul, Nat.reduceLeDiff, Nat.reduceLT, Nat.reduceSub, ↓reduceIte, reduceCtorEq, hcl, hw1, hw2, hw3, hw4]; (repeat (refine And.intro (by first | assumption | omega | decide | (simp; done) | (simp; omega)) ?_)); refine hKq _ ?_; clear hKq Kq)
            refine evR_nil (hK _ ?_); clear hK K
            simp only [St.norm, thenE, inBlkE, List.filterMap, List.lookup, Option.map, Nat.reduceBEq]
            refine hKL2 _ ?_
            exact ⟨m2 - 1, _, by omega, Wk.refl _, x + 1, by omega, by rw [w64 (by omega), rowG_succ]; first | (rw [if_pos (by assumption)]; rfl) | (rw [if_neg (by simp_all)]; rfl)⟩
          · (try simp only [decide_eq_true_eq, decide_eq_false_iff_not, Bool.not_eq_true', Bool.not_eq_false', Bool.and_eq_true, Bool.or_eq_true, Bool.and_eq_false_iff, Bool.or_eq_false_iff, beq_true, beq_false] at ht3)
            refine tr_skip ?_
            (try simp only [thenE, inBlkE])
            refine hK12 _ ?_
            refine tr_region [0, 2, 3, 4, 6, 9] rfl rfl fun K hK => ?_
            iterate 2 (refine evR_step fun Kq hKq => ?_; simp (maxSteps := 4000000) (disch := first | assumption | omega | (simp only [go_sem, *]; done) | (simp only [go_sem, *]; omega)) only [go_sem, isE, isO, stpO, notIn, St.bare, Bool.false_and, Bool.true_and, Bool.and_true, Bool.not_true, Bool.not_false, Int.reduceToNat, Nat.reduceBEq, Nat.reduceEqDiff, Nat.reduceAdd, Nat.reduceMul, Nat.reduceLeDiff, Nat.reduceLT, Nat.reduceSub, ↓reduceIte, reduceCtorEq, hcl, hw1, hw2, hw3, hw4]; (repeat (refine And.intro (by first | assumption | omega | decide | (simp; done) | (simp; omega)) ?_)); refine hKq _ ?_; clear hKq Kq)
            refine evR_nil (hK _ ?_); clear hK K
            simp only [St.norm, thenE, inBlkE, List.filterMap, List.lookup, Option.map, Nat.reduceBEq]
            refine hKL2 _ ?_
            exact ⟨m2 - 1, _, by omega, Wk.refl _, x + 1, by omega, by rw [w64 (by omega), rowG_succ]; first | (rw [if_pos (by assumption)]; rfl) | (rw [if_neg (by simp_all)]; rfl)⟩
        · (try simp only [decide_eq_true_eq, decide_eq_false_iff_not, Bool.not_eq_true', Bool.not_eq_false', Bool.and_eq_true, Bool.or_eq_true, Bool.and_eq_false_iff, Bool.or_eq_false_iff, beq_true, beq_false] at ht2)
          have hxl : x = 16 := by omega
          subst hxl
          refine tr_exit ?_
          simp only [thenE, inBlkE, Nat.reduceEqDiff, ↓reduceIte]
          refine hK7 _ ?_
          refine tr_region [0, 2, 3, 6] rfl rfl fun K hK => ?_
          iterate 2 (refine evR_step fun Kq hKq => ?_; simp (maxSteps := 4000000) (disch := first | assumption | omega | (simp only [go_sem, *]; done) | (simp only [go_sem, *]; omega)) only [go_sem, isE, isO, stpO, notIn, St.bare, Bool.false_and, Bool.true_and, Bool.and_true, Bool.not_true, Bool.not_false, Int.reduceToNat, Nat.reduceBEq, Nat.reduceEqDiff, Nat.reduceAdd, Nat.reduceMul, Nat.reduceLeDiff, Nat.reduceLT, Nat.reduceSub, ↓reduceIte, reduceCtorEq, hcl]; (repeat (refine And.intro (by first | assumption | omega | decide | (simp; done) | (simp; omega)) ?_)); refine hKq _ ?_; clear hKq Kq)
          refine evR_nil (hK _ ?_); clear hK K
          simp only [St.norm, thenE, inBlkE, List.filterMap, List.lookup, Option.map, Nat.reduceBEq]
          refine hKL1 _ ?_
          exact ⟨m - 1, _, by omega, Wk.refl _, y + 1, by omega, by rw [w64 (by omega), outA_set (fun j => rowG g j 16) hil]; rfl⟩
    · (try simp only [decide_eq_true_eq, decide_eq_false_iff_not, Bool.not_eq_true', Bool.not_eq_false', Bool.and_eq_true, Bool.or_eq_true, Bool.and_eq_false_iff, Bool.or_eq_false_iff, beq_true, beq_false] at ht1)
      have hil : y = 16 := by omega
      subst hil
      refine tr_exit ?_
      simp only [thenE, inBlkE, Nat.reduceEqDiff, ↓reduceIte]
      refine hK3 _ ?_
      refine tr_seq fun K15 hK15 => ?_
      refine tr_region [2] rfl rfl fun K hK => ?_
      iterate 2 (refine evR_step fun Kq hKq => ?_; simp (maxSteps := 4000000) (disch := first | assumption | omega | (simp only [go_sem, *]; done) | (simp only [go_sem, *]; omega)) only [go_sem, isE, isO, stpO, notIn, St.bare, Bool.false_and, Bool.true_and, Bool.and_true, Bool.not_true, Bool.not_false, Int.reduceToNat, Nat.reduceBEq, Nat.reduceEqDiff, Nat.reduceAdd, Nat.reduceMul, Nat.reduceLeDiff, Nat.reduceLT, Nat.reduceSub, ↓reduceIte, reduceCtorEq, hcl]; (repeat (refine And.intro (by first | assumption | omega | decide | (simp; done) | (simp; omega)) ?_)); refine hKq _ ?_; clear hKq Kq)
      refine evR_nil (hK _ ?_); clear hK K
      simp only [St.norm, thenE, inBlkE, List.filterMap, List.lookup, Option.map, Nat.reduceBEq]
      refine hK15 _ ?_
      refine tr_ret ?_
      (try simp only [thenE, inBlkE])
      simp (maxSteps := 4000000) (disch := first | assumption | omega | (simp only [go_sem, *]; done) | (simp only [go_sem, *]; omega)) only [postA, postO, resV1, fzAll, go_sem, isE, isO, stpO, notIn, St.bare, Bool.false_and, Bool.true_and, Bool.and_true, Bool.not_true, Bool.not_false, Int.reduceToNat, Nat.reduceBEq, Nat.reduceEqDiff, Nat.reduceAdd, Nat.reduceMul, Nat.reduceLeDiff, Nat.reduceLT, Nat.reduceSub, ↓reduceIte, reduceCtorEq, hcl]
      all_goals (rfl)

theorem c31 (l : List Pl) (hm : l.length ≤ maxLen) : CallsA Try.prog 31 [.sl 2 (encP l)] (.tup [.agg (cellsI (polyA l).1), .int .i64 (polyA l).2]) := by
  refine callsA_of_tr Try.func31 rfl (Nat.le_of_ble_eq_true rfl) ?_
  simp only [Try.results31, envOf, Nat.reduceAdd]
  refine tr_seq fun K1 hK1 => ?_
  refine tr_region [1, 2] rfl rfl fun K hK => ?_
  iterate 3 (refine evR_step fun Kq hKq => ?_; simp (maxSteps := 4000000) (disch := first | assumption | omega | (simp only [go_sem, *]; done) | (simp only [go_sem, *]; omega)) only [go_sem, isE, isO, stpO, notIn, St.bare, Bool.false_and, Bool.true_and, Bool.and_true, Bool.not_true, Bool.not_false, Int.reduceToNat, Nat.reduceBEq, Nat.reduceEqDiff, Nat.reduceAdd, Nat.reduceMul, Nat.reduceLeDiff, Nat.reduceLT, Nat.reduceSub, ↓reduceIte, reduceCtorEq]; (repeat (refine And.intro (by first | assumption | omega | decide | (simp; done) | (simp; omega)) ?_)); refine hKq _ ?_; clear hKq Kq)
  refine evR_nil (hK _ ?_); clear hK K
  simp only [St.norm, thenE, inBlkE, List.filterMap, List.lookup, Option.map, Nat.reduceBEq]
  refine hK1 _ ?_
  refine tr_seq fun K2 hK2 => ?_
  refine tr_seq fun K3 hK3 => ?_
  refine tr_region [1, 2, 6] rfl rfl fun K hK => ?_
  iterate 1 (refine evR_step fun Kq hKq => ?_; simp (maxSteps := 4000000) (disch := first | assumption | omega | (simp only [go_sem, *]; done) | (simp only [go_sem, *]; omega)) only [go_sem, isE, isO, stpO, notIn, St.bare, Bool.false_and, Bool.true_and, Bool.and_true, Bool.not_true, Bool.not_false, Int.reduceToNat, Nat.reduceBEq, Nat.reduceEqDiff, Nat.reduceAdd, Nat.reduceMul, Nat.reduceLeDiff, Nat.reduceLT, Nat.reduceSub, ↓reduceIte, reduceCtorEq]; (repeat (refine And.intro (by first | assumption | omega | decide | (simp; done) | (simp; omega)) ?_)); refine hKq _ ?_; clear hKq Kq)
  refine evR_step fun Kq hKq => ?_
  simp (maxSteps := 4000000) (disch := first | assumption | omega | (simp only [go_sem, *]; done) | (simp only [go_sem, *]; omega)) only [go_sem, isE, isO, stpO, notIn, St.bare, Bool.false_and, Bool.true_and, Bool.and_true, Bool.not_true, Bool.not_false, Int.reduceToNat, Nat.reduceBEq, Nat.reduceEqDiff, Nat.reduceAdd, Nat.reduceMul, Nat.reduceLeDiff, Nat.reduceLT, Nat.reduceSub, ↓reduceIte, reduceCtorEq]
  (repeat (refine And.intro (by first | assumption | omega | decide | (simp; done) | (simp; omega)) ?_))
  refine ⟨_, (c33 l hm), ?_⟩
  refine hKq _ ?_; clear hKq Kq
  iterate 1 (refine evR_step fun Kq hKq => ?_; simp (maxSteps := 4000000) (disch := first | assumption | omega | (simp only [go_sem, *]; done) | (simp only [go_sem, *]; omega)) only [go_sem, isE, isO, stpO, notIn, St.bare, Bool.false_and, Bool.true_and, Bool.and_true, Bool.not_true, Bool.not_false, Int.reduceToNat, Nat.reduceBEq, Nat.reduceEqDiff, Nat.reduceAdd, Nat.reduceMul, Nat.reduceLeDiff, Nat.reduceLT, Nat.reduceSub, ↓reduceIte, reduceCtorEq]; (repeat (refine And.intro (by first | assumption | omega | decide | (simp; done) | (simp; omega)) ?_)); refine hKq _ ?_; clear hKq Kq)
  refine evR_nil (hK _ ?_); clear hK K
  simp only [St.norm, thenE, inBlkE, List.filterMap, List.lookup, Option.map, Nat.reduceBEq]
  refine hK3 _ ?_
  refine tr_cond rfl (fun ht1 => ?_) (fun ht1 => ?_)
  · (try simp only [decide_eq_true_eq, decide_eq_false_iff_not, Bool.not_eq_true', Bool.not_eq_false', Bool.and_eq_true, Bool.or_eq_true, Bool.and_eq_false_iff, Bool.or_eq_false_iff, beq_true, beq_false] at ht1)
    refine tr_seq fun K4 hK4 => ?_
    refine tr_region [2, 3] rfl rfl fun K hK => ?_
    iterate 3 (refine evR_step fun Kq hKq => ?_; simp (maxSteps := 4000000) (disch := first | assumption | omega | (simp only [go_sem, *]; done) | (simp only [go_sem, *]; omega)) only [go_sem, isE, isO, stpO, notIn, St.bare, Bool.false_and, Bool.true_and, Bool.and_true, Bool.not_true, Bool.not_false, Int.reduceToNat, Nat.reduceBEq, Nat.reduceEqDiff, Nat.reduceAdd, Nat.reduceMul, Nat.reduceLeDiff, Nat.reduceLT, Nat.reduceSub, ↓reduceIte, reduceCtorEq]; (repeat (refine And.intro (by first | assumption | omega | decide | (simp; done) | (simp; omega)) ?_)); refine hKq _ ?_; clear hKq Kq)
    refine evR_nil (hK _ ?_); clear hK K
    simp only [St.norm, thenE, inBlkE, List.filterMap, List.lookup, Option.map, Nat.reduceBEq]
    refine hK4 _ ?_
    refine tr_ret ?_
    (try simp only [thenE, inBlkE])
    simp (maxSteps := 4000000) (disch := first | assumption | omega | (simp only [go_sem, *]; done) | (simp only [go_sem, *]; omega)) only [postA, postO, resV1, fzAll, go_sem, isE, isO, stpO, notIn, St.bare, Bool.false_and, Bool.true_and, Bool.and_true, Bool.not_true, Bool.not_false, Int.reduceToNat, Nat.reduceBEq, Nat.reduceEqDiff, Nat.reduceAdd, Nat.reduceMul, Nat.reduceLeDiff, Nat.reduceLT, Nat.reduceSub, ↓reduceIte, reduceCtorEq]
    all_goals ((simp_all [polyA, zeros16]))
  · (try simp only [decide_eq_true_eq, decide_eq_false_iff_not, Bool.not_eq_true', Bool.not_eq_false', Bool.and_eq_true, Bool.or_eq_true, Bool.and_eq_false_iff, Bool.or_eq_false_iff, beq_true, beq_false] at ht1)
    refine tr_skip ?_
    (try simp only [thenE, inBlkE])
    refine hK2 _ ?_
    refine tr_seq fun K5 hK5 => ?_
    refine tr_region [2, 3] rfl rfl fun K hK => ?_
    iterate 1 (refine evR_step fun Kq hKq => ?_; simp (maxSteps := 4000000) (disch := first | assumption | omega | (simp only [go_sem, *]; done) | (simp only [go_sem, *]; omega)) only [go_sem, isE, isO, stpO, notIn, St.bare, Bool.false_and, Bool.true_and, Bool.and_true, Bool.not_true, Bool.not_false, Int.reduceToNat, Nat.reduceBEq, Nat.reduceEqDiff, Nat.reduceAdd, Nat.reduceMul, Nat.reduceLeDiff, Nat.reduceLT, Nat.reduceSub, ↓reduceIte, reduceCtorEq]; (repeat (refine And.intro (by first | assumption | omega | decide | (simp; done) | (simp; omega)) ?_)); refine hKq _ ?_; clear hKq Kq)
    refine evR_step fun Kq hKq => ?_
    simp (maxSteps := 4000000) (disch := first | assumption | omega | (simp only [go_sem, *]; done) | (simp only [go_sem, *]; omega)) only [go_sem, isE, isO, stpO, notIn, St.bare, Bool.false_and, Bool.true_and, Bool.and_true, Bool.not_true, Bool.not_false, Int.reduceToNat, Nat.reduceBEq, Nat.reduceEqDiff, Nat.reduceAdd, Nat.reduceMul, Nat.reduceLeDiff, Nat.reduceLT, Nat.reduceSub, ↓reduceIte, reduceCtorEq]
    (repeat (refine And.intro (by first | assumption | omega | decide | (simp; done) | (simp; omega)) ?_))
    refine ⟨_, (c48 49 _ (fun x y => decide (0 ≤ sideP l (ctr x y))) okF_49 rfl (fun x y hx hy => c49 l (ctr x y) (by simp_all) (ctr_on hx hy))), ?_⟩
    refine hKq _ ?_; clear hKq Kq
    iterate 2 (refine evR_step fun Kq hKq => ?_; simp (maxSteps := 4000000) (disch := first | assumption | omega | (simp only [go_sem, *]; done) | (simp only [go_sem, *]; omega)) only [go_sem, isE, isO, stpO, notIn, St.bare, Bool.false_and, Bool.true_and, Bool.and_true, Bool.not_true, Bool.not_false, Int.reduceToNat, Nat.reduceBEq, Nat.reduceEqDiff, Nat.reduceAdd, Nat.reduceMul, Nat.reduceLeDiff, Nat.reduceLT, Nat.reduceSub, ↓reduceIte, reduceCtorEq]; (repeat (refine And.intro (by first | assumption | omega | decide | (simp; done) | (simp; omega)) ?_)); refine hKq _ ?_; clear hKq Kq)
    refine evR_nil (hK _ ?_); clear hK K
    simp only [St.norm, thenE, inBlkE, List.filterMap, List.lookup, Option.map, Nat.reduceBEq]
    refine hK5 _ ?_
    refine tr_ret ?_
    (try simp only [thenE, inBlkE])
    simp (maxSteps := 4000000) (disch := first | assumption | omega | (simp only [go_sem, *]; done) | (simp only [go_sem, *]; omega)) only [postA, postO, resV1, fzAll, go_sem, isE, isO, stpO, notIn, St.bare, Bool.false_and, Bool.true_and, Bool.and_true, Bool.not_true, Bool.not_false, Int.reduceToNat, Nat.reduceBEq, Nat.reduceEqDiff, Nat.reduceAdd, Nat.reduceMul, Nat.reduceLeDiff, Nat.reduceLT, Nat.reduceSub, ↓reduceIte, reduceCtorEq]
    all_goals ((simp_all [polyA, zeros16]))

theorem c57 (q p : Pl) (r : Int) (hq : onMap q = true) (hp : onMap p = true) (h0 : 0 ≤ r) (h1 : r ≤ 100) : CallsA Try.prog 57 [.agg [.int .i64 q.x, .int .i64 q.y], .ep [.int .i64 p.x, .int .i64 p.y], .ep [.int .i64 r]] (.bool (nearR q p r)) := by
  have hw := near_wrap hq hp h0 h1
  refine callsA_of_tr Try.func57 rfl (Nat.le_of_ble_eq_true rfl) ?_
  simp only [Try.results57, envOf, Nat.reduceAdd]
  refine tr_seq fun K1 hK1 => ?_
  refine tr_region [1, 2, 3] rfl rfl fun K hK => ?_
  iterate 2 (refine evR_step fun Kq hKq => ?_; simp (maxSteps := 4000000) (disch := first | assumption | omega | (simp only [go_sem, *]; done) | (simp only [go_sem, *]; omega)) only [go_sem, isE, isO, stpO, notIn, St.bare, Bool.false_and, Bool.true_and, Bool.and_true, Bool.not_true, Bool.not_false, Int.reduceToNat, Nat.reduceBEq, Nat.reduceEqDiff, Nat.reduceAdd, Nat.reduceMul, Nat.reduceLeDiff, Nat.reduceLT, Nat.reduceSub, ↓reduceIte, reduceCtorEq]; (repeat (refine And.intro (by first | assumption | omega | decide | (simp; done) | (simp; omega)) ?_)); refine hKq _ ?_; clear hKq Kq)
  refine evR_nil (hK _ ?_); clear hK K
  simp only [St.norm, thenE, inBlkE, List.filterMap, List.lookup, Option.map, Nat.reduceBEq]
  refine hK1 _ ?_
  refine tr_seq fun K2 hK2 => ?_
  refine tr_draw [] [2, 5, 6] mixed rfl (by kernel_rfl) rfl fun K hK => ?_
  iterate 12 (refine evD_step fun Kq hKq => ?_; simp (maxSteps := 4000000) (disch := first | assumption | omega | (simp only [go_sem, *]; done) | (simp only [go_sem, *]; omega)) only [go_sem, isE, isO, stpO, notIn, St.bare, Bool.false_and, Bool.true_and, Bool.and_true, Bool.not_true, Bool.not_false, Int.reduceToNat, Nat.reduceBEq, Nat.reduceEqDiff, Nat.reduceAdd, Nat.reduceMul, Nat.reduceLeDiff, Nat.reduceLT, Nat.reduceSub, ↓reduceIte, reduceCtorEq]; (repeat (refine And.intro (by first | assumption | omega | decide | (simp; done) | (simp; omega)) ?_)); refine hKq _ ?_; clear hKq Kq)
  refine evD_nil (hK _ ?_); clear hK K
  simp only [St.norm, thenE, inBlkE, List.filterMap, List.lookup, Option.map, Nat.reduceBEq]
  refine hK2 _ ?_
  refine tr_seq fun K3 hK3 => ?_
  refine tr_region [4] rfl rfl fun K hK => ?_
  iterate 12 (refine evR_step fun Kq hKq => ?_; simp (maxSteps := 4000000) (disch := first | assumption | omega | (simp only [go_sem, *]; done) | (simp only [go_sem, *]; omega)) only [go_sem, isE, isO, stpO, notIn, St.bare, Bool.false_and, Bool.true_and, Bool.and_true, Bool.not_true, Bool.not_false, Int.reduceToNat, Nat.reduceBEq, Nat.reduceEqDiff, Nat.reduceAdd, Nat.reduceMul, Nat.reduceLeDiff, Nat.reduceLT, Nat.reduceSub, ↓reduceIte, reduceCtorEq]; (repeat (refine And.intro (by first | assumption | omega | decide | (simp; done) | (simp; omega)) ?_)); refine hKq _ ?_; clear hKq Kq)
  refine evR_nil (hK _ ?_); clear hK K
  simp only [St.norm, thenE, inBlkE, List.filterMap, List.lookup, Option.map, Nat.reduceBEq]
  refine hK3 _ ?_
  refine tr_ret ?_
  (try simp only [thenE, inBlkE])
  simp (maxSteps := 4000000) (disch := first | assumption | omega | (simp only [go_sem, *]; done) | (simp only [go_sem, *]; omega)) only [postA, postO, resV1, fzAll, go_sem, isE, isO, stpO, notIn, St.bare, Bool.false_and, Bool.true_and, Bool.and_true, Bool.not_true, Bool.not_false, Int.reduceToNat, Nat.reduceBEq, Nat.reduceEqDiff, Nat.reduceAdd, Nat.reduceMul, Nat.reduceLeDiff, Nat.reduceLT, Nat.reduceSub, ↓reduceIte, reduceCtorEq]
  all_goals (simp only [hw, and_self])

theorem c37 (p : Pl) (r : Int) : CallsA Try.prog 37 [.agg [.int .i64 p.x, .int .i64 p.y], .int .i64 r] (.tup [.agg (cellsI (discA p r).1), .int .i64 (discA p r).2]) := by
  refine callsA_of_tr Try.func37 rfl (Nat.le_of_ble_eq_true rfl) ?_
  simp only [Try.results37, envOf, Nat.reduceAdd]
  refine tr_seq fun K1 hK1 => ?_
  refine tr_region [2, 3, 4] rfl rfl fun K hK => ?_
  iterate 4 (refine evR_step fun Kq hKq => ?_; simp (maxSteps := 4000000) (disch := first | assumption | omega | (simp only [go_sem, *]; done) | (simp only [go_sem, *]; omega)) only [go_sem, isE, isO, stpO, notIn, St.bare, Bool.false_and, Bool.true_and, Bool.and_true, Bool.not_true, Bool.not_false, Int.reduceToNat, Nat.reduceBEq, Nat.reduceEqDiff, Nat.reduceAdd, Nat.reduceMul, Nat.reduceLeDiff, Nat.reduceLT, Nat.reduceSub, ↓reduceIte, reduceCtorEq]; (repeat (refine And.intro (by first | assumption | omega | decide | (simp; done) | (simp; omega)) ?_)); refine hKq _ ?_; clear hKq Kq)
  refine evR_nil (hK _ ?_); clear hK K
  simp only [St.norm, thenE, inBlkE, List.filterMap, List.lookup, Option.map, Nat.reduceBEq]
  refine hK1 _ ?_
  refine tr_seq fun K2 hK2 => ?_
  refine tr_seq fun K3 hK3 => ?_
  refine tr_region [2, 3, 4, 16] rfl rfl fun K hK => ?_
  iterate 1 (refine evR_step fun Kq hKq => ?_; simp (maxSteps := 4000000) (disch := first | assumption | omega | (simp only [go_sem, *]; done) | (simp only [go_sem, *]; omega)) only [go_sem, isE, isO, stpO, notIn, St.bare, Bool.false_and, Bool.true_and, Bool.and_true, Bool.not_true, Bool.not_false, Int.reduceToNat, Nat.reduceBEq, Nat.reduceEqDiff, Nat.reduceAdd, Nat.reduceMul, Nat.reduceLeDiff, Nat.reduceLT, Nat.reduceSub, ↓reduceIte, reduceCtorEq]; (repeat (refine And.intro (by first | assumption | omega | decide | (simp; done) | (simp; omega)) ?_)); refine hKq _ ?_; clear hKq Kq)
  refine evR_step fun Kq hKq => ?_
  simp (maxSteps := 4000000) (disch := first | assumption | omega | (simp only [go_sem, *]; done) | (simp only [go_sem, *]; omega)) only [go_sem, isE, isO, stpO, notIn, St.bare, Bool.false_and, Bool.true_and, Bool.and_true, Bool.not_true, Bool.not_false, Int.reduceToNat, Nat.reduceBEq, Nat.reduceEqDiff, Nat.reduceAdd, Nat.reduceMul, Nat.reduceLeDiff, Nat.reduceLT, Nat.reduceSub, ↓reduceIte, reduceCtorEq]
  (repeat (refine And.intro (by first | assumption | omega | decide | (simp; done) | (simp; omega)) ?_))
  refine ⟨_, (c52 p), ?_⟩
  refine hKq _ ?_; clear hKq Kq
  iterate 2 (refine evR_step fun Kq hKq => ?_; simp (maxSteps := 4000000) (disch := first | assumption | omega | (simp only [go_sem, *]; done) | (simp only [go_sem, *]; omega)) only [go_sem, isE, isO, stpO, notIn, St.bare, Bool.false_and, Bool.true_and, Bool.and_true, Bool.not_true, Bool.not_false, Int.reduceToNat, Nat.reduceBEq, Nat.reduceEqDiff, Nat.reduceAdd, Nat.reduceMul, Nat.reduceLeDiff, Nat.reduceLT, Nat.reduceSub, ↓reduceIte, reduceCtorEq]; (repeat (refine And.intro (by first | assumption | omega | decide | (simp; done) | (simp; omega)) ?_)); refine hKq _ ?_; clear hKq Kq)
  iterate 2 (refine evR_step fun Kq hKq => ?_; refine evO_guard (gb := ?_) (v0 := ?_) rfl ?_ ?_ ?_; rotate_left 1; (· intro K3 h3; simp (maxSteps := 4000000) (disch := first | assumption | omega | (simp only [go_sem, *]; done) | (simp only [go_sem, *]; omega)) only [go_sem, isE, isO, stpO, notIn, St.bare, Bool.false_and, Bool.true_and, Bool.and_true, Bool.not_true, Bool.not_false, Int.reduceToNat, Nat.reduceBEq, Nat.reduceEqDiff, Nat.reduceAdd, Nat.reduceMul, Nat.reduceLeDiff, Nat.reduceLT, Nat.reduceSub, ↓reduceIte, reduceCtorEq]; exact h3); rotate_left 1; (· intro hgt; (try simp only [decide_eq_true_eq, decide_eq_false_iff_not, Bool.not_eq_true', Bool.not_eq_false', Bool.and_eq_true, Bool.or_eq_true, Bool.and_eq_false_iff, Bool.or_eq_false_iff, beq_true, beq_false] at hgt); simp (maxSteps := 4000000) (disch := first | assumption | omega | (simp only [go_sem, *]; done) | (simp only [go_sem, *]; omega)) only [go_sem, isE, isO, stpO, notIn, St.bare, Bool.false_and, Bool.true_and, Bool.and_true, Bool.not_true, Bool.not_false, Int.reduceToNat, Nat.reduceBEq, Nat.reduceEqDiff, Nat.reduceAdd, Nat.reduceMul, Nat.reduceLeDiff, Nat.reduceLT, Nat.reduceSub, ↓reduceIte, reduceCtorEq]; (repeat (refine And.intro (by first | assumption | omega | decide | (simp; done) | (simp; omega)) ?_)); first | rfl | exact ⟨rfl, rfl⟩); simp only [St.put]; refine hKq _ ?_; clear hKq Kq)
  iterate 2 (refine evR_step fun Kq hKq => ?_; simp (maxSteps := 4000000) (disch := first | assumption | omega | (simp only [go_sem, *]; done) | (simp only [go_sem, *]; omega)) only [go_sem, isE, isO, stpO, notIn, St.bare, Bool.false_and, Bool.true_and, Bool.and_true, Bool.not_true, Bool.not_false, Int.reduceToNat, Nat.reduceBEq, Nat.reduceEqDiff, Nat.reduceAdd, Nat.reduceMul, Nat.reduceLeDiff, Nat.reduceLT, Nat.reduceSub, ↓reduceIte, reduceCtorEq]; (repeat (refine And.intro (by first | assumption | omega | decide | (simp; done) | (simp; omega)) ?_)); refine hKq _ ?_; clear hKq Kq)
  iterate 2 (refine evR_step fun Kq hKq => ?_; refine evO_guard (gb := ?_) (v0 := ?_) rfl ?_ ?_ ?_; rotate_left 1; (· intro K3 h3; simp (maxSteps := 4000000) (disch := first | assumption | omega | (simp only [go_sem, *]; done) | (simp only [go_sem, *]; omega)) only [go_sem, isE, isO, stpO, notIn, St.bare, Bool.false_and, Bool.true_and, Bool.and_true, Bool.not_true, Bool.not_false, Int.reduceToNat, Nat.reduceBEq, Nat.reduceEqDiff, Nat.reduceAdd, Nat.reduceMul, Nat.reduceLeDiff, Nat.reduceLT, Nat.reduceSub, ↓reduceIte, reduceCtorEq]; exact h3); rotate_left 1; (· intro hgt; (try simp only [decide_eq_true_eq, decide_eq_false_iff_not, Bool.not_eq_true', Bool.not_eq_false', Bool.and_eq_true, Bool.or_eq_true, Bool.and_eq_false_iff, Bool.or_eq_false_iff, beq_true, beq_false] at hgt); simp (maxSteps := 4000000) (disch := first | assumption | omega | (simp only [go_sem, *]; done) | (simp only [go_sem, *]; omega)) only [go_sem, isE, isO, stpO, notIn, St.bare, Bool.false_and, Bool.true_and, Bool.and_true, Bool.not_true, Bool.not_false, Int.reduceToNat, Nat.reduceBEq, Nat.reduceEqDiff, Nat.reduceAdd, Nat.reduceMul, Nat.reduceLeDiff, Nat.reduceLT, Nat.reduceSub, ↓reduceIte, reduceCtorEq]; (repeat (refine And.intro (by first | assumption | omega | decide | (simp; done) | (simp; omega)) ?_)); first | rfl | exact ⟨rfl, rfl⟩); simp only [St.put]; refine hKq _ ?_; clear hKq Kq)
  iterate 1 (refine evR_step fun Kq hKq => ?_; simp (maxSteps := 4000000) (disch := first | assumption | omega | (simp only [go_sem, *]; done) | (simp only [go_sem, *]; omega)) only [go_sem, isE, isO, stpO, notIn, St.bare, Bool.false_and, Bool.true_and, Bool.and_true, Bool.not_true, Bool.not_false, Int.reduceToNat, Nat.reduceBEq, Nat.reduceEqDiff, Nat.reduceAdd, Nat.reduceMul, Nat.reduceLeDiff, Nat.reduceLT, Nat.reduceSub, ↓reduceIte, reduceCtorEq]; (repeat (refine And.intro (by first | assumption | omega | decide | (simp; done) | (simp; omega)) ?_)); refine hKq _ ?_; clear hKq Kq)
  refine evR_nil (hK _ ?_); clear hK K
  simp only [St.norm, thenE, inBlkE, List.filterMap, List.lookup, Option.map, Nat.reduceBEq]
  refine hK3 _ ?_
  refine tr_cond rfl (fun ht1 => ?_) (fun ht1 => ?_)
  · (try simp only [decide_eq_true_eq, decide_eq_false_iff_not, Bool.not_eq_true', Bool.not_eq_false', Bool.and_eq_true, Bool.or_eq_true, Bool.and_eq_false_iff, Bool.or_eq_false_iff, beq_true, beq_false] at ht1)
    refine tr_seq fun K4 hK4 => ?_
    refine tr_region [4, 5] rfl rfl fun K hK => ?_
    iterate 3 (refine evR_step fun Kq hKq => ?_; simp (maxSteps := 4000000) (disch := first | assumption | omega | (simp only [go_sem, *]; done) | (simp only [go_sem, *]; omega)) only [go_sem, isE, isO, stpO, notIn, St.bare, Bool.false_and, Bool.true_and, Bool.and_true, Bool.not_true, Bool.not_false, Int.reduceToNat, Nat.reduceBEq, Nat.reduceEqDiff, Nat.reduceAdd, Nat.reduceMul, Nat.reduceLeDiff, Nat.reduceLT, Nat.reduceSub, ↓reduceIte, reduceCtorEq]; (repeat (refine And.intro (by first | assumption | omega | decide | (simp; done) | (simp; omega)) ?_)); refine hKq _ ?_; clear hKq Kq)
    refine evR_nil (hK _ ?_); clear hK K
    simp only [St.norm, thenE, inBlkE, List.filterMap, List.lookup, Option.map, Nat.reduceBEq]
    refine hK4 _ ?_
    refine tr_ret ?_
    (try simp only [thenE, inBlkE])
    simp (maxSteps := 4000000) (disch := first | assumption | omega | (simp only [go_sem, *]; done) | (simp only [go_sem, *]; omega)) only [postA, postO, resV1, fzAll, go_sem, isE, isO, stpO, notIn, St.bare, Bool.false_and, Bool.true_and, Bool.and_true, Bool.not_true, Bool.not_false, Int.reduceToNat, Nat.reduceBEq, Nat.reduceEqDiff, Nat.reduceAdd, Nat.reduceMul, Nat.reduceLeDiff, Nat.reduceLT, Nat.reduceSub, ↓reduceIte, reduceCtorEq]
    all_goals ((first | (rw [discA_bad (by assumption)]; simp [zeros16]; done) | (rw [discA_ok (by simp_all) (by omega) (by omega)]; done) | (rw [discA_ok (by simp_all) (by omega) (by omega)]; simp; done)))
  · (try simp only [decide_eq_true_eq, decide_eq_false_iff_not, Bool.not_eq_true', Bool.not_eq_false', Bool.and_eq_true, Bool.or_eq_true, Bool.and_eq_false_iff, Bool.or_eq_false_iff, beq_true, beq_false] at ht1)
    refine tr_skip ?_
    (try simp only [thenE, inBlkE])
    refine hK2 _ ?_
    refine tr_seq fun K5 hK5 => ?_
    refine tr_region [4, 5] rfl rfl fun K hK => ?_
    iterate 1 (refine evR_step fun Kq hKq => ?_; simp (maxSteps := 4000000) (disch := first | assumption | omega | (simp only [go_sem, *]; done) | (simp only [go_sem, *]; omega)) only [go_sem, isE, isO, stpO, notIn, St.bare, Bool.false_and, Bool.true_and, Bool.and_true, Bool.not_true, Bool.not_false, Int.reduceToNat, Nat.reduceBEq, Nat.reduceEqDiff, Nat.reduceAdd, Nat.reduceMul, Nat.reduceLeDiff, Nat.reduceLT, Nat.reduceSub, ↓reduceIte, reduceCtorEq]; (repeat (refine And.intro (by first | assumption | omega | decide | (simp; done) | (simp; omega)) ?_)); refine hKq _ ?_; clear hKq Kq)
    refine evR_step fun Kq hKq => ?_
    simp (maxSteps := 4000000) (disch := first | assumption | omega | (simp only [go_sem, *]; done) | (simp only [go_sem, *]; omega)) only [go_sem, isE, isO, stpO, notIn, St.bare, Bool.false_and, Bool.true_and, Bool.and_true, Bool.not_true, Bool.not_false, Int.reduceToNat, Nat.reduceBEq, Nat.reduceEqDiff, Nat.reduceAdd, Nat.reduceMul, Nat.reduceLeDiff, Nat.reduceLT, Nat.reduceSub, ↓reduceIte, reduceCtorEq]
    (repeat (refine And.intro (by first | assumption | omega | decide | (simp; done) | (simp; omega)) ?_))
    refine ⟨_, (c48 57 _ (fun x y => nearR (ctr x y) p r) okF_57 rfl (fun x y hx hy => c57 (ctr x y) p r (ctr_on hx hy) (by simp_all) (by simp_all) (by simp_all))), ?_⟩
    refine hKq _ ?_; clear hKq Kq
    iterate 2 (refine evR_step fun Kq hKq => ?_; simp (maxSteps := 4000000) (disch := first | assumption | omega | (simp only [go_sem, *]; done) | (simp only [go_sem, *]; omega)) only [go_sem, isE, isO, stpO, notIn, St.bare, Bool.false_and, Bool.true_and, Bool.and_true, Bool.not_true, Bool.not_false, Int.reduceToNat, Nat.reduceBEq, Nat.reduceEqDiff, Nat.reduceAdd, Nat.reduceMul, Nat.reduceLeDiff, Nat.reduceLT, Nat.reduceSub, ↓reduceIte, reduceCtorEq]; (repeat (refine And.intro (by first | assumption | omega | decide | (simp; done) | (simp; omega)) ?_)); refine hKq _ ?_; clear hKq Kq)
    refine evR_nil (hK _ ?_); clear hK K
    simp only [St.norm, thenE, inBlkE, List.filterMap, List.lookup, Option.map, Nat.reduceBEq]
    refine hK5 _ ?_
    refine tr_ret ?_
    (try simp only [thenE, inBlkE])
    simp (maxSteps := 4000000) (disch := first | assumption | omega | (simp only [go_sem, *]; done) | (simp only [go_sem, *]; omega)) only [postA, postO, resV1, fzAll, go_sem, isE, isO, stpO, notIn, St.bare, Bool.false_and, Bool.true_and, Bool.and_true, Bool.not_true, Bool.not_false, Int.reduceToNat, Nat.reduceBEq, Nat.reduceEqDiff, Nat.reduceAdd, Nat.reduceMul, Nat.reduceLeDiff, Nat.reduceLT, Nat.reduceSub, ↓reduceIte, reduceCtorEq]
    all_goals ((first | (rw [discA_bad (by assumption)]; simp [zeros16]; done) | (rw [discA_ok (by simp_all) (by omega) (by omega)]; done) | (rw [discA_ok (by simp_all) (by omega) (by omega)]; simp; done)))

end Go.Proofs.Ytpaielaniekdbaa

