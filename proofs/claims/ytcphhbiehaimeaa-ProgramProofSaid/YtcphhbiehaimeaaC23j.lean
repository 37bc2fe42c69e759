import Derived.Test.YtcphhbiehaimeaaF23
import Derived.Test.YtcphhbiehaimeaaAi24
import Derived.Test.YtcphhbiehaimeaaP23
import Derived.Test.YtcphhbiehaimeaaC23a
import Derived.Test.YtcphhbiehaimeaaC23b
import Derived.Test.YtcphhbiehaimeaaPC23
namespace Go.Proofs.Ytcphhbiehaimeaa
open Go.RowKit
set_option linter.unusedVariables false
set_option linter.unusedSimpArgs false
set_option maxRecDepth 100000
attribute [local go_sem] Nat.zero_add Nat.add_zero Nat.mul_one eq_self ne_eq not_true_eq_false not_false_eq_true decide_true decide_false decide_not Bool.false_eq_true List.filter_cons List.filter_nil true_and and_true beq_false beq_true Bool.not_true Bool.not_false Bool.and_true Bool.true_and Option.getD_some Option.getD_none imp_self implies_true Int.toNat_natCast List.cons_append List.nil_append List.map_cons List.map_nil List.length_cons List.length_nil List.getD_cons_zero List.getD_cons_succ List.drop_zero List.drop_succ_cons List.take_succ_cons List.take_zero
attribute [local go_sem] isE isO stpO notIn St.bare evO evDO isEff stp St.get St.slot St.put List.lookup un unL ofVal gof nth pickV pkB_false pkB_true binV unV loadV idxV fldV partV buildV fillV lenV sliV appV appR rowsV winV V.parts V.okp V.sc Mem.look_cons Mem.look_nil V.cl V.clL AObj.clo fzAll exps St.fz Mem.fz V.fz V.fzL AObj.fz Option.isSome_some Option.isSome_none Bool.or_true Bool.true_or Bool.or_false Bool.false_or false_and and_false false_or or_false arT_22 arT_23 arT_24 arT_27 arT_34 arT_35 arT_50 arT_59 arT_61 arT_64 arT_65 arT_68 boolT_24 boolT_3 boolT_38 boolT_4 boolT_79 flatT_24 flatT_3 flatT_38 flatT_4 flatT_79 intT_3 intT_93 lay_23 lay_24 lay_26 lay_27 lay_29 lay_3 lay_32 lay_35 lay_37 lay_4 lay_59 lay_68 lay_70 lay_79 lay_82 lay_88 okF_10 okF_11 okF_12 okF_13 okF_14 okF_15 okF_16 okF_17 okF_18 okF_19 okF_20 okF_21 okF_22 okF_23 okF_24 okF_25 okF_26 okF_27 okF_28 okF_29 okF_3 okF_30 okF_31 okF_32 okF_33 okF_34 okF_35 okF_36 okF_37 okF_38 okF_39 okF_4 okF_40 okF_41 okF_42 okF_43 okF_44 okF_45 okF_46 okF_47 okF_48 okF_49 okF_5 okF_50 okF_51 okF_52 okF_53 okF_54 okF_55 okF_56 okF_57 okF_58 okF_59 okF_6 okF_60 okF_61 okF_62 okF_63 okF_64 okF_65 okF_66 okF_67 okF_68 okF_69 okF_7 okF_70 okF_71 okF_72 okF_73 okF_74 okF_75 okF_8 okF_9 plT_26 plT_29 plT_37 plT_70 plT_79 slT_22 slT_23 slT_24 slT_27 slT_34 slT_35 slT_50 slT_59 slT_61 slT_64 slT_65 slT_68 stT_26_0 stT_26_1 stT_26_2 stT_26_3 stT_26_4 stT_26_5 stT_29_0 stT_29_1 stT_29_2 stT_37_0 stT_37_1 stT_37_2 stT_37_3 stT_70_0 stT_70_1 stT_70_2 stT_70_3 stT_79_0 stT_79_1 zeroT_24 zeroT_26 zeroT_29 zeroT_3 zeroT_32 zeroT_35 zeroT_37 zeroT_59 zeroT_65 zeroT_70 zeroT_79
attribute [local go_sem] List.getElem?_cons_zero List.getElem?_cons_succ List.zip_cons_cons List.zip_nil_left List.zip_nil_right Bool.false_and Bool.and_false List.length_append List.length_set List.length_replicate List.all_cons List.all_nil encI_length encI_getD encR_length encR_getD encRw encPg spl shp AObj.shp rowM isSt isRpS isRd csh AObj.csh forall_const imp_self
attribute [local simp] encI_length encR_length
theorem c38 (p : Pg) : CallsA Try.prog 38 [.agg (encPg p)] (.fn 58 [.ep (encPg p)]) := by
  have hq : True := trivial
  refine callsA_of_tr Try.func38 rfl (Nat.le_of_ble_eq_true rfl) ?_
  simp only [Try.results38, envOf, Nat.reduceAdd]
  refine tr_seq fun K1 hK1 => ?_
  refine tr_region [1] rfl rfl fun K hK => ?_
  iterate 2 refine evR_p ?_
  refine evR_e hK ?_; clear hK K
  refine hK1 _ ?_
  refine tr_seq fun K2 hK2 => ?_
  refine tr_fz [.ptr 0 0] (by simp (maxSteps := 4000000) (disch := first | assumption | omega | (simp only [go_sem, *]; done) | (simp only [go_sem, *]; omega)) only [go_sem, hq, Int.reduceToNat, Nat.reduceBEq, Nat.reduceEqDiff, Nat.reduceAdd, Nat.reduceMul, Nat.reduceLeDiff, Nat.reduceLT, Nat.reduceSub, ↓reduceIte, reduceCtorEq]; (try rfl)) ?_
  refine tr_region [2] rfl rfl fun K hK => ?_
  iterate 2 refine evR_p ?_
  refine evR_e hK ?_; clear hK K
  refine hK2 _ ?_
  refine tr_ret ?_
  (try simp only [thenE, inBlkE])
  simp (maxSteps := 4000000) (disch := first | assumption | omega | (simp only [go_sem, *]; done) | (simp only [go_sem, *]; omega)) only [postA, postO, resV1, fzAll, go_sem, hq, Int.reduceToNat, Nat.reduceBEq, Nat.reduceEqDiff, Nat.reduceAdd, Nat.reduceMul, Nat.reduceLeDiff, Nat.reduceLT, Nat.reduceSub, ↓reduceIte, reduceCtorEq]
  all_goals (rfl)

theorem c59 (r : Rw) (hm : r.coef.length ≤ maxLen) (set : Int) : CallsA Try.prog 59 [.agg (encRw r), .ep [.int .i64 set]] (.bool (keptB r set)) := by
  have hq : True := trivial
  refine callsA_of_tr Try.func59 rfl (Nat.le_of_ble_eq_true rfl) ?_
  simp only [Try.results59, envOf, Nat.reduceAdd]
  refine tr_seq fun K1 hK1 => ?_
  refine tr_region [1, 2] rfl rfl fun K hK => ?_
  iterate 2 refine evR_p ?_
  refine evR_e hK ?_; clear hK K
  refine hK1 _ ?_
  refine tr_seq fun K2 hK2 => ?_
  refine tr_region [3] rfl rfl fun K hK => ?_
  iterate 2 refine evR_p ?_
  refine evR_c (hc := (c55 r hm set)) (k := ?_)
  refine evR_p ?_
  refine evR_e hK ?_; clear hK K
  refine hK2 _ ?_
  refine tr_ret ?_
  (try simp only [thenE, inBlkE])
  simp (maxSteps := 4000000) (disch := first | assumption | omega | (simp only [go_sem, *]; done) | (simp only [go_sem, *]; omega)) only [postA, postO, resV1, fzAll, go_sem, hq, Int.reduceToNat, Nat.reduceBEq, Nat.reduceEqDiff, Nat.reduceAdd, Nat.reduceMul, Nat.reduceLeDiff, Nat.reduceLT, Nat.reduceSub, ↓reduceIte, reduceCtorEq]
  all_goals (skip)

section
attribute [local go_sem] fzL_mapI
theorem c58 (p : Pg) (hr : p.rows.length ≤ maxLen) (hg : p.gain.length ≤ maxLen) (hc : ∀ r ∈ p.rows, r.coef.length ≤ maxLen) (hv : validB p = true) : SeqA Try.prog (Value.int .i64) 58 [.ep (encPg p)] (fun xs => xs = choiceL p) 4096 := by
  obtain ⟨v, hv1, hv2, hv3, hv4⟩ := vars_pow hv
  have hq := And.intro hv1 (hv3)
  refine seqA_of_tr Try.func58 rfl (by rw [Try.results58]) enok_int (Nat.le_of_ble_eq_true rfl) (Nat.le_of_ble_eq_true rfl) fun l ys C hys hCY => ?_
  obtain ⟨y0, rfl⟩ : ∃ y0, ys = [y0] := by match ys, hys with | [y0], _ => exact ⟨y0, rfl⟩
  simp only [List.zipWith_cons_cons, List.zipWith_nil_left, List.zip_cons_cons, List.zip_nil_left, envOf, List.cons_append, List.nil_append, Nat.reduceAdd] at hCY ⊢
  refine tr_seq fun K1 hK1 => ?_
  refine tr_region [0, 1, 6, 7, 1000000, 1000001] rfl rfl fun K hK => ?_
  iterate 4 refine evR_p ?_
  refine evR_e hK ?_; clear hK K
  refine hK1 _ ?_
  refine tr_block ?_
  -- loop 1: live [0, 1, 6, 7]
  refine tr_loopW (fun m σ => ∃ i : Nat, i + m = 2 ^ v ∧ σ = ⟨[(0, .yl l), (1, .eq y0 (.ep [.int .i64 (v : Nat), .sl 6 (encR p.rows), .sl 1 (encI p.gain)])), (6, .int .i64 ((2 ^ v : Nat) : Int)), (7, .int .i64 (i : Nat)), (1000000, .tup ((chL p.rows i).map (V.int .i64))), (1000001, .bool false)], [], 0⟩) (2 ^ v) ?_ ?_
  · exact ⟨_, Wk.refl _, 0, by omega, rfl⟩
  · rintro m σ ⟨i, hi, rfl⟩ KL1 hKL1
    refine tr_seq fun K2 hK2 => ?_
    refine tr_region [0, 1, 6, 7, 8, 1000000, 1000001] rfl rfl fun K hK => ?_
    refine evR_p ?_
    refine evR_e hK ?_; clear hK K
    refine hK2 _ ?_
    refine tr_seq fun K3 hK3 => ?_
    refine tr_condB (fun ht1 => ?_) (fun ht1 => ?_)
    · skip
      (first | (exfalso; simp_all; done) | skip)
      all_goals
        have hil : i < 2 ^ v := by omega
        have hcl := chL_length p.rows i
        replace hq := And.intro hq (hil)
        refine tr_skip ?_
        (try simp only [thenE, inBlkE])
        refine hK3 _ ?_
        refine tr_seq fun K4 hK4 => ?_
        refine tr_block ?_
        refine tr_seq fun K5 hK5 => ?_
        refine tr_region [0, 1, 3, 6, 7, 1000000, 1000001] rfl rfl fun K hK => ?_
        iterate 3 refine evR_p ?_
        refine evR_e hK ?_; clear hK K
        refine hK5 _ ?_
        refine tr_seq fun K6 hK6 => ?_
        refine tr_region [0, 1, 6, 7, 19, 1000000, 1000001] rfl rfl fun K hK => ?_
        iterate 3 refine evR_p ?_
        refine evR_c (hc := (c46 p.rows 59 [.ep [.int .i64 (i : Nat)]] (fun r => keptB r (i : Nat)) okF_59 rfl (fun r h => c59 r (hc r h) (i : Nat)) hr)) (k := ?_)
        refine evR_p ?_
        iterate 2 refine evR_g ?_
        refine evR_stepY rfl rfl fun Kq hKq => ⟨fun hyt => hCY _ _ _ ?_, fun hyt => ⟨.bool false, hKq _ ?_⟩⟩
        (try simp only [decide_eq_true_eq, decide_eq_false_iff_not, Bool.not_eq_true', Bool.not_eq_false', Bool.and_eq_true, Bool.or_eq_true, Bool.and_eq_false_iff, Bool.or_eq_false_iff, beq_true, beq_false] at hyt)
        simp (maxSteps := 4000000) (disch := first | assumption | omega | (simp only [go_sem, *]; done) | (simp only [go_sem, *]; omega)) only [YI, go_sem, hq, Int.reduceToNat, Nat.reduceBEq, Nat.reduceEqDiff, Nat.reduceAdd, Nat.reduceMul, Nat.reduceLeDiff, Nat.reduceLT, Nat.reduceSub, ↓reduceIte, reduceCtorEq]
        (repeat (refine And.intro (by first | assumption | omega | decide | (simp; done) | (simp; omega) | (have hq := hvv hgt; omega) | (simp_all; done)) ?_))
        refine ⟨((i : Nat) : Int), chL p.rows i, [1], ?_⟩
        (repeat (refine And.intro (by first | rfl | exact (show (chL p.rows i).length < 4096 by omega) | (intro t ht; rw [List.mem_singleton] at ht; subst ht; exact ⟨_, List.mem_singleton.2 rfl, rfl⟩) | (rfl)) ?_))
        refine ⟨hKq _ ?_, hKq _ ?_⟩
        all_goals try simp only [goY, stY, keepE, simE, V.simpl, V.simp, List.cons_append, List.nil_append, St.put, St.slot, List.lookup, Option.getD_some, Nat.reduceBEq]
        all_goals (try clear hKq Kq)
        all_goals (try simp only [decide_eq_true_eq, decide_eq_false_iff_not, Bool.not_eq_true', Bool.not_eq_false', Bool.and_eq_true, Bool.or_eq_true, Bool.and_eq_false_iff, Bool.or_eq_false_iff, beq_true, beq_false] at hyt)
        all_goals
          refine evR_g ?_
          refine evR_p ?_
          refine evR_e hK ?_; clear hK K
          refine hK6 _ ?_
          refine tr_condB (fun ht2 => ?_) (fun ht2 => ?_)
          · skip
            (first | (exfalso; simp_all; done) | skip)
            all_goals
              refine tr_ret ?_
              (try simp only [thenE, inBlkE])
              simp (maxSteps := 4000000) (disch := first | assumption | omega | (simp only [go_sem, *]; done) | (simp only [go_sem, *]; omega)) only [postI, go_sem, hq, Int.reduceToNat, Nat.reduceBEq, Nat.reduceEqDiff, Nat.reduceAdd, Nat.reduceMul, Nat.reduceLeDiff, Nat.reduceLT, Nat.reduceSub, ↓reduceIte, reduceCtorEq]
              all_goals (first | exact Or.inl trivial | exact Or.inl rfl | exact Or.inr ⟨_, by unfold choiceL; rw [hv1]; rfl, rfl⟩)
          · skip
            (first | (exfalso; simp_all; done) | skip)
            all_goals
              refine tr_skip ?_
              (try simp only [thenE, inBlkE])
              refine hK4 _ ?_
              refine tr_region [0, 1, 6, 7, 1000000, 1000001] rfl rfl fun K hK => ?_
              iterate 2 refine evR_p ?_
              refine evR_e hK ?_; clear hK K
              refine hKL1 _ ?_
              first
                | exact ⟨m - 1, _, by omega, Wk.cut 0 (by simp only [St.cutOK, List.all_cons, List.all_nil, V.upto, uptoL_mapI, Bool.and_self, List.filter_nil]), i + 1, by omega, by rw [w64 (x := (i : Int) + 1) (by omega), chL_t hyt]; rfl⟩
                | exact ⟨m - 1, _, by omega, Wk.cut 0 (by simp only [St.cutOK, List.all_cons, List.all_nil, V.upto, uptoL_mapI, Bool.and_self, List.filter_nil]), i + 1, by omega, by rw [w64 (x := (i : Int) + 1) (by omega), chL_f hyt]; rfl⟩
    · skip
      (first | (exfalso; simp_all; done) | skip)
      all_goals
        have hil : i = 2 ^ v := by omega
        subst hil
        refine tr_exit ?_
        simp only [thenE, inBlkE, Nat.reduceEqDiff, ↓reduceIte]
        simp (maxSteps := 4000000) (disch := first | assumption | omega | (simp only [go_sem, *]; done) | (simp only [go_sem, *]; omega)) only [postI, go_sem, hq, Int.reduceToNat, Nat.reduceBEq, Nat.reduceEqDiff, Nat.reduceAdd, Nat.reduceMul, Nat.reduceLeDiff, Nat.reduceLT, Nat.reduceSub, ↓reduceIte, reduceCtorEq]
        all_goals (first | exact Or.inl trivial | exact Or.inl rfl | exact Or.inr ⟨_, by unfold choiceL; rw [hv1]; rfl, rfl⟩)
end

theorem c65 (f : FuncId) (caps : List V) (xs : List Int) (hit : SeqA Try.prog (Value.int .i64) f caps (fun ys => ys = xs) 4096) (hcl : V.clL caps = true) (hok : okF Try.prog f = true) : CallsA Try.prog 65 [.nsl, .fn f caps] (.sl 1 (encI xs)) := by
  have hq : True := trivial
  refine callsA_of_tr Try.func65 rfl (Nat.le_of_ble_eq_true rfl) ?_
  simp only [Try.results65, envOf, Nat.reduceAdd]
  refine tr_seq fun K1 hK1 => ?_
  refine tr_region [1, 2] rfl rfl fun K hK => ?_
  iterate 2 refine evR_p ?_
  refine evR_e hK ?_; clear hK K
  refine hK1 _ ?_
  refine tr_seq fun K2 hK2 => ?_
  refine tr_seq fun K3 hK3 => ?_
  refine tr_region [2, 6] rfl rfl fun K hK => ?_
  refine evR_p ?_
  refine evR_e hK ?_; clear hK K
  refine hK3 _ ?_
  refine tr_block ?_
  -- loop over a function 1: live [2]
  refine tr_wk (Wk.nilown 3 1 0 0 rfl (Nat.le_of_ble_eq_true rfl) rfl) ?_
  try simp only [List.map_cons, List.map_nil, Nat.reduceEqDiff, ↓reduceIte, List.set_cons_zero, List.set_cons_succ, Nat.reduceAdd]
  refine tr_rangeFunc (en := V.int .i64) hit enok_int.rel rfl hcl hok rfl (fun pre σ => σ = ⟨[(2, .ptr 0 0)], [(1, .row 3 1 (encI pre)), (0, .cells [.own 1])], 2⟩) [2] ?_ ?_ ?_
  · rfl
  · rintro pre x σ rfl hpre KL1 hKL1 KA1 hKA1
    simp only [St.rd, List.filter_cons, List.filter_nil, List.map_cons, List.map_nil, Nat.blt_eq, Nat.reduceLT, ↓reduceIte, List.cons_append, List.nil_append, Nat.reduceAdd]
    refine tr_region [2, 5, 2000002] rfl rfl fun K hK => ?_
    refine evR_p ?_
    refine evR_e hK ?_; clear hK K
    refine hKA1 _ ?_
    refine tr_block ?_
    refine tr_region [2000002] rfl rfl fun K hK => ?_
    iterate 2 refine evR_p ?_
    refine evR_bs ?_
    iterate 2 refine evR_p ?_
    refine evR_e hK ?_; clear hK K
    refine hKL1 _ ?_
    simp only [St.bk, List.filterMap_cons, List.filterMap_nil, Nat.ble_eq, Nat.reduceLeDiff, ↓reduceIte, Nat.reduceSub]
    exact ⟨_, Wk.trans (Wk.ren 2 1 (Nat.le_of_ble_eq_true rfl) (Nat.le_of_ble_eq_true rfl) rfl) (Wk.cut 2 rfl), by rw [encI_snoc]; rfl⟩
  · rintro pre σ hS rfl
    subst hS
    refine hK2 _ ?_
    refine tr_seq fun K4 hK4 => ?_
    refine tr_region [4] rfl rfl fun K hK => ?_
    iterate 2 refine evR_p ?_
    refine evR_e hK ?_; clear hK K
    refine hK4 _ ?_
    refine tr_ret ?_
    (try simp only [thenE, inBlkE])
    simp (maxSteps := 4000000) (disch := first | assumption | omega | (simp only [go_sem, *]; done) | (simp only [go_sem, *]; omega)) only [postA, postO, resV1, fzAll, go_sem, hq, Int.reduceToNat, Nat.reduceBEq, Nat.reduceEqDiff, Nat.reduceAdd, Nat.reduceMul, Nat.reduceLeDiff, Nat.reduceLT, Nat.reduceSub, ↓reduceIte, reduceCtorEq]
    all_goals (rfl)

end Go.Proofs.Ytcphhbiehaimeaa

