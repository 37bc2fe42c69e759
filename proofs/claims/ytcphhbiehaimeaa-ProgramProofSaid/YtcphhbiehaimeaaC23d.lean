import Derived.Test.YtcphhbiehaimeaaF23
import Derived.Test.YtcphhbiehaimeaaAi24
import Derived.Test.YtcphhbiehaimeaaP23
import Derived.Test.YtcphhbiehaimeaaC23a
import Derived.Test.YtcphhbiehaimeaaC23b
import Derived.Test.YtcphhbiehaimeaaC23c
namespace Go.Proofs.Ytcphhbiehaimeaa
open Go.RowKit
set_option linter.unusedVariables false
set_option linter.unusedSimpArgs false
set_option maxRecDepth 100000
attribute [local go_sem] Nat.zero_add Nat.add_zero Nat.mul_one eq_self ne_eq not_true_eq_false not_false_eq_true decide_true decide_false decide_not Bool.false_eq_true List.filter_cons List.filter_nil true_and and_true beq_false beq_true Bool.not_true Bool.not_false Bool.and_true Bool.true_and Option.getD_some Option.getD_none imp_self implies_true Int.toNat_natCast List.cons_append List.nil_append List.map_cons List.map_nil List.length_cons List.length_nil List.getD_cons_zero List.getD_cons_succ List.drop_zero List.drop_succ_cons List.take_succ_cons List.take_zero
attribute [local go_sem] isE isO stpO notIn St.bare evO evDO isEff stp St.get St.slot St.put List.lookup un unL ofVal gof nth pickV pkB_false pkB_true binV unV loadV idxV fldV partV buildV fillV lenV sliV appV appR rowsV winV V.parts V.okp V.sc Mem.look_cons Mem.look_nil V.cl V.clL AObj.clo fzAll exps St.fz Mem.fz V.fz V.fzL AObj.fz Option.isSome_some Option.isSome_none Bool.or_true Bool.true_or Bool.or_false Bool.false_or false_and and_false false_or or_false arT_22 arT_23 arT_24 arT_27 arT_34 arT_35 arT_50 arT_59 arT_61 arT_64 arT_65 arT_68 boolT_24 boolT_3 boolT_38 boolT_4 boolT_79 flatT_24 flatT_3 flatT_38 flatT_4 flatT_79 intT_3 intT_93 lay_23 lay_24 lay_26 lay_27 lay_29 lay_3 lay_32 lay_35 lay_37 lay_4 lay_59 lay_68 lay_70 lay_79 lay_82 lay_88 okF_10 okF_11 okF_12 okF_13 okF_14 okF_15 okF_16 okF_17 okF_18 okF_19 okF_20 okF_21 okF_22 okF_23 okF_24 okF_25 okF_26 okF_27 okF_28 okF_29 okF_3 okF_30 okF_31 okF_32 okF_33 okF_34 okF_35 okF_36 okF_37 okF_38 okF_39 okF_4 okF_40 okF_41 okF_42 okF_43 okF_44 okF_45 okF_46 okF_47 okF_48 okF_49 okF_5 okF_50 okF_51 okF_52 okF_53 okF_54 okF_55 okF_56 okF_57 okF_58 okF_59 okF_6 okF_60 okF_61 okF_62 okF_63 okF_64 okF_65 okF_66 okF_67 okF_68 okF_69 okF_7 okF_70 okF_71 okF_72 okF_73 okF_74 okF_75 okF_8 okF_9 plT_26 plT_29 plT_37 plT_70 plT_79 slT_22 slT_23 slT_24 slT_27 slT_34 slT_35 slT_50 slT_59 slT_61 slT_64 slT_65 slT_68 stT_26_0 stT_26_1 stT_26_2 stT_26_3 stT_26_4 stT_26_5 stT_29_0 stT_29_1 stT_29_2 stT_37_0 stT_37_1 stT_37_2 stT_37_3 stT_70_0 stT_70_1 stT_70_2 stT_70_3 stT_79_0 stT_79_1 zeroT_24 zeroT_26 zeroT_29 zeroT_3 zeroT_32 zeroT_35 zeroT_37 zeroT_59 zeroT_65 zeroT_70 zeroT_79
attribute [local go_sem] List.getElem?_cons_zero List.getElem?_cons_succ List.zip_cons_cons List.zip_nil_left List.zip_nil_right Bool.false_and Bool.and_false List.length_append List.length_set List.length_replicate List.all_cons List.all_nil encI_length encI_getD encR_length encR_getD encRw encPg spl shp AObj.shp rowM isSt isRpS isRd csh AObj.csh forall_const imp_self
attribute [local simp] encI_length encR_length
section
attribute [local go_sem] encS_one encS_leaf encS_length
theorem c60s (rows : List Rw) (hr : rows.length ≤ maxLen) (hm : ∀ r ∈ rows, r.coef.length ≤ maxLen) (n d : Nat) (set : Int) (out : List Stp) (hc : ∀ r ∈ rows, r.coef.length = d + n) (hd : d + n ≤ 12) (hinf : infN rows n d set) (ho : out.length + 2 ^ (n + 1) ≤ 100000)
    (ih : ∀ (m : Nat), m + 1 = n → ∀ (set : Int) (out : List Stp), infN rows m (d + 1) set → out.length + 2 ^ (m + 1) ≤ 100000 → CallsM Try.prog 60 [.int .i64 ((d + 1 : Nat) : Int), .int .i64 set, .ptr 1 0, .ptr 0 0, .ptr 2 0] [(3, .row 70 4 (encS out)), (2, .cells [.fn 60 [.ptr 1 0, .ptr 0 0, .ptr 2 0]]), (1, .cells [.own 3]), (0, .cells [.sl 6 (encR rows)])] 4 (.int .i64 ((out).length : Nat)) [(4, .row 70 4 (encS (growN rows m (d + 1) set out))), (2, .cells [.fn 60 [.ptr 1 0, .ptr 0 0, .ptr 2 0]]), (1, .cells [.own 4]), (0, .cells [.sl 6 (encR rows)])] 5) : CallsM Try.prog 60 [.int .i64 (d : Nat), .int .i64 set, .ptr 1 0, .ptr 0 0, .ptr 2 0] ([(3, .row 70 4 (encS out)), (2, .cells [.fn 60 [.ptr 1 0, .ptr 0 0, .ptr 2 0]]), (1, .cells [.own 3]), (0, .cells [.sl 6 (encR rows)])]) (4) (.int .i64 (out.length : Nat)) ([(4, .row 70 4 (encS (growN rows n d set out))), (2, .cells [.fn 60 [.ptr 1 0, .ptr 0 0, .ptr 2 0]]), (1, .cells [.own 4]), (0, .cells [.sl 6 (encR rows)])]) (5) := by
  have hw1 : IntKind.i64.wrap ((d : Int) + 1) = ((d + 1 : Nat) : Int) := w64 (by omega)
  have hp2 : 2 ≤ 2 ^ (n + 1) := (by have := Nat.one_le_two_pow (n := n); rw [Nat.pow_succ]; omega)
  have hq := hw1
  refine callsM_of_tr Try.func60 rfl (Nat.le_of_ble_eq_true rfl) (Nat.le_of_ble_eq_true rfl) (Nat.le_of_ble_eq_true rfl) ?_
  simp only [Try.results60, envOf, gh, gv, List.cons_append, List.nil_append, Nat.reduceAdd]
  refine tr_seq fun K1 hK1 => ?_
  refine tr_region [2, 3, 4, 5, 6, 1000000, 1000001, 1000002, 1000003] rfl rfl fun K hK => ?_
  iterate 3 refine evR_p ?_
  refine evR_e hK ?_; clear hK K
  refine hK1 _ ?_
  refine tr_seq fun K2 hK2 => ?_
  refine tr_region [2, 3, 4, 5, 6, 8, 1000000, 1000001, 1000002, 1000003] rfl rfl fun K hK => ?_
  iterate 3 refine evR_p ?_
  refine evR_e hK ?_; clear hK K
  refine hK2 _ ?_
  refine tr_seq fun K3 hK3 => ?_
  refine tr_region [2, 4, 5, 6, 8, 9, 1000000, 1000001, 1000002, 1000003] rfl rfl fun K hK => ?_
  iterate 2 refine evR_p ?_
  refine evR_c (hc := (c61 rows 62 [.ep [.int .i64 d], .ep [.int .i64 set]] (overB d set) okF_62 rfl (fun r h => c62 r (hm r h) d set (by rw [hc r h]; omega)) hr)) (k := ?_)
  refine evR_p ?_
  refine evR_e hK ?_; clear hK K
  refine hK3 _ ?_
  refine tr_seq fun K4 hK4 => ?_
  refine tr_seq fun K5 hK5 => ?_
  refine tr_region [2, 4, 5, 6, 8, 9, 18, 1000000, 1000001, 1000002, 1000003] rfl rfl fun K hK => ?_
  iterate 2 refine evR_p ?_
  refine evR_e hK ?_; clear hK K
  refine hK5 _ ?_
  refine tr_condB (fun ht1 => ?_) (fun ht1 => ?_)
  · skip
    (first | (have hneg : ¬ (0 ≤ idxOf (overB d set) rows) := ht1; obtain ⟨m, hnm, hi1, hi2⟩ := infN_step hinf hneg; have hg1 := growN_length rows m (d + 1) set (out ++ [⟨d, 0, 0, none⟩]); have hg2 := growN_length rows m (d + 1) (setBit set d) (growN rows m (d + 1) set (out ++ [⟨d, 0, 0, none⟩])); simp only [List.length_append, List.length_cons, List.length_nil] at hg1) | skip)
    refine tr_seq fun K6 hK6 => ?_
    refine tr_region [8, 1000000, 1000001, 1000002, 1000003] rfl rfl fun K hK => ?_
    iterate 3 refine evR_p ?_
    refine evR_bs ?_
    refine evR_p ?_
    refine evR_bs ?_
    iterate 2 refine evR_p ?_
    refine evR_e hK ?_; clear hK K
    refine hK6 _ ?_
    refine tr_seq fun K7 hK7 => ?_
    refine tr_region [7, 1000000, 1000001, 1000002, 1000003] rfl rfl fun K hK => ?_
    iterate 2 refine evR_p ?_
    refine evR_e hK ?_; clear hK K
    refine hK7 _ ?_
    refine tr_ret ?_
    (try simp only [thenE, inBlkE])
    all_goals first | refine ⟨_, (Wk.trans (Wk.ren 6 4 (Nat.le_of_ble_eq_true rfl) (Nat.le_of_ble_eq_true rfl) rfl) (Wk.cut 5 rfl)), ?_⟩ | refine ⟨_, (Wk.trans (Wk.ren 8 4 (Nat.le_of_ble_eq_true rfl) (Nat.le_of_ble_eq_true rfl) rfl) (Wk.cut 5 rfl)), ?_⟩
    simp (maxSteps := 4000000) (disch := first | assumption | omega | (simp only [go_sem, *]; done) | (simp only [go_sem, *]; omega)) only [postM, ghOK, gv, St.ren, St.cut, V.ren, V.renL, AObj.ren, Nat.blt_eq, resV1, go_sem, hq, Int.reduceToNat, Nat.reduceBEq, Nat.reduceEqDiff, Nat.reduceAdd, Nat.reduceMul, Nat.reduceLeDiff, Nat.reduceLT, Nat.reduceSub, ↓reduceIte, reduceCtorEq]
    all_goals ((first | (rw [growN_leaf ht1]; done) | (subst hnm; rw [grow_fin (by omega) growN_at]; simp only [growN, if_neg hneg]; rfl)))
  · skip
    (first | (have hneg : ¬ (0 ≤ idxOf (overB d set) rows) := ht1; obtain ⟨m, hnm, hi1, hi2⟩ := infN_step hinf hneg; have hg1 := growN_length rows m (d + 1) set (out ++ [⟨d, 0, 0, none⟩]); have hg2 := growN_length rows m (d + 1) (setBit set d) (growN rows m (d + 1) set (out ++ [⟨d, 0, 0, none⟩])); simp only [List.length_append, List.length_cons, List.length_nil] at hg1) | skip)
    refine tr_skip ?_
    (try simp only [thenE, inBlkE])
    refine hK4 _ ?_
    refine tr_seq fun K8 hK8 => ?_
    refine tr_region [2, 4, 5, 6, 8, 1000000, 1000001, 1000002, 1000003] rfl rfl fun K hK => ?_
    iterate 3 refine evR_p ?_
    refine evR_bs ?_
    iterate 2 refine evR_p ?_
    refine evR_e hK ?_; clear hK K
    refine hK8 _ ?_
    refine tr_seq fun K9 hK9 => ?_
    refine tr_region [2, 4, 5, 6, 8, 10, 1000000, 1000001, 1000002, 1000003] rfl rfl fun K hK => ?_
    iterate 4 refine evR_p ?_
    refine evR_stepX fun Kq hKq => Or.inr ?_
    simp (maxSteps := 4000000) (disch := first | assumption | omega | (simp only [go_sem, *]; done) | (simp only [go_sem, *]; omega)) only [stpM, go_sem, hq, Int.reduceToNat, Nat.reduceBEq, Nat.reduceEqDiff, Nat.reduceAdd, Nat.reduceMul, Nat.reduceLeDiff, Nat.reduceLT, Nat.reduceSub, ↓reduceIte, reduceCtorEq]
    refine ⟨[0, 1, 2, 6], ?_⟩
    simp (maxSteps := 4000000) (disch := first | assumption | omega | (simp only [go_sem, *]; done) | (simp only [go_sem, *]; omega)) only [V.mapL, V.map, gJ, footJ, inJ, AObj.map, ndJ, ltJ, V.domL, V.dom, AObj.dom, kC, kR, AObj.isC, hJ, backJ, List.any_cons, List.any_nil, Nat.ble_eq, Nat.blt_eq, Nat.reduceLT, Nat.reduceLeDiff, Bool.or_true, Bool.true_or, Bool.or_false, Bool.false_or, Bool.and_self, go_sem, hq, Int.reduceToNat, Nat.reduceBEq, Nat.reduceEqDiff, Nat.reduceAdd, Nat.reduceMul, Nat.reduceLeDiff, Nat.reduceLT, Nat.reduceSub, ↓reduceIte, reduceCtorEq]
    refine ⟨_, _, _, (ih m hnm set _ hi1 (by subst hnm; rw [Nat.pow_succ] at ho; simp only [List.length_append, List.length_cons, List.length_nil]; omega)), ?_⟩
    simp (maxSteps := 4000000) (disch := first | assumption | omega | (simp only [go_sem, *]; done) | (simp only [go_sem, *]; omega)) only [V.mapL, V.map, gJ, footJ, inJ, AObj.map, ndJ, ltJ, V.domL, V.dom, AObj.dom, kC, kR, AObj.isC, hJ, backJ, List.any_cons, List.any_nil, Nat.ble_eq, Nat.blt_eq, Nat.reduceLT, Nat.reduceLeDiff, Bool.or_true, Bool.true_or, Bool.or_false, Bool.false_or, Bool.and_self, go_sem, hq, Int.reduceToNat, Nat.reduceBEq, Nat.reduceEqDiff, Nat.reduceAdd, Nat.reduceMul, Nat.reduceLeDiff, Nat.reduceLT, Nat.reduceSub, ↓reduceIte, reduceCtorEq]
    (repeat (refine And.intro (by first | assumption | omega | decide | (simp; done) | (simp; omega) | (have hq := hvv hgt; omega) | (simp_all; done)) ?_))
    refine hKq _ ?_; clear hKq Kq
    refine evR_p ?_
    refine evR_e hK ?_; clear hK K
    refine hK9 _ ?_
    refine tr_seq fun K10 hK10 => ?_
    refine tr_draw [44] [2, 8, 10, 11, 1000000, 1000001, 1000002, 1000003] mixed rfl (by kernel_rfl) rfl fun K hK => ?_
    iterate 7 refine evD_p ?_
    refine evD_step fun Kq hKq => ?_
    simp (maxSteps := 4000000) (disch := first | assumption | omega | (simp only [go_sem, *]; done) | (simp only [go_sem, *]; omega)) only [go_sem, hq, Int.reduceToNat, Nat.reduceBEq, Nat.reduceEqDiff, Nat.reduceAdd, Nat.reduceMul, Nat.reduceLeDiff, Nat.reduceLT, Nat.reduceSub, ↓reduceIte, reduceCtorEq]
    refine Or.inr ?_
    simp (maxSteps := 4000000) (disch := first | assumption | omega | (simp only [go_sem, *]; done) | (simp only [go_sem, *]; omega)) only [stpM, go_sem, hq, Int.reduceToNat, Nat.reduceBEq, Nat.reduceEqDiff, Nat.reduceAdd, Nat.reduceMul, Nat.reduceLeDiff, Nat.reduceLT, Nat.reduceSub, ↓reduceIte, reduceCtorEq]
    refine ⟨[0, 1, 2, 7], ?_⟩
    simp (maxSteps := 4000000) (disch := first | assumption | omega | (simp only [go_sem, *]; done) | (simp only [go_sem, *]; omega)) only [V.mapL, V.map, gJ, footJ, inJ, AObj.map, ndJ, ltJ, V.domL, V.dom, AObj.dom, kC, kR, AObj.isC, hJ, backJ, List.any_cons, List.any_nil, Nat.ble_eq, Nat.blt_eq, Nat.reduceLT, Nat.reduceLeDiff, Bool.or_true, Bool.true_or, Bool.or_false, Bool.false_or, Bool.and_self, go_sem, hq, Int.reduceToNat, Nat.reduceBEq, Nat.reduceEqDiff, Nat.reduceAdd, Nat.reduceMul, Nat.reduceLeDiff, Nat.reduceLT, Nat.reduceSub, ↓reduceIte, reduceCtorEq]
    refine ⟨_, _, _, (ih m hnm (setBit set d) _ hi2 (by subst hnm; rw [Nat.pow_succ] at ho; omega)), ?_⟩
    simp (maxSteps := 4000000) (disch := first | assumption | omega | (simp only [go_sem, *]; done) | (simp only [go_sem, *]; omega)) only [V.mapL, V.map, gJ, footJ, inJ, AObj.map, ndJ, ltJ, V.domL, V.dom, AObj.dom, kC, kR, AObj.isC, hJ, backJ, List.any_cons, List.any_nil, Nat.ble_eq, Nat.blt_eq, Nat.reduceLT, Nat.reduceLeDiff, Bool.or_true, Bool.true_or, Bool.or_false, Bool.false_or, Bool.and_self, go_sem, hq, Int.reduceToNat, Nat.reduceBEq, Nat.reduceEqDiff, Nat.reduceAdd, Nat.reduceMul, Nat.reduceLeDiff, Nat.reduceLT, Nat.reduceSub, ↓reduceIte, reduceCtorEq]
    (repeat (refine And.intro (by first | assumption | omega | decide | (simp; done) | (simp; omega) | (have hq := hvv hgt; omega) | (simp_all; done)) ?_))
    refine hKq _ ?_; clear hKq Kq
    refine evD_p ?_
    refine evD_e hK ?_; clear hK K
    refine hK10 _ ?_
    refine tr_seq fun K11 hK11 => ?_
    refine tr_draw [999999] [8, 1000000, 1000001, 1000002, 1000003] mixed rfl (by kernel_rfl) rfl fun K hK => ?_
    iterate 12 refine evD_p ?_
    refine evD_e hK ?_; clear hK K
    refine hK11 _ ?_
    refine tr_seq fun K12 hK12 => ?_
    refine tr_region [7, 1000000, 1000001, 1000002, 1000003] rfl rfl fun K hK => ?_
    iterate 2 refine evR_p ?_
    refine evR_e hK ?_; clear hK K
    refine hK12 _ ?_
    refine tr_ret ?_
    (try simp only [thenE, inBlkE])
    all_goals first | refine ⟨_, (Wk.trans (Wk.ren 6 4 (Nat.le_of_ble_eq_true rfl) (Nat.le_of_ble_eq_true rfl) rfl) (Wk.cut 5 rfl)), ?_⟩ | refine ⟨_, (Wk.trans (Wk.ren 8 4 (Nat.le_of_ble_eq_true rfl) (Nat.le_of_ble_eq_true rfl) rfl) (Wk.cut 5 rfl)), ?_⟩
    simp (maxSteps := 4000000) (disch := first | assumption | omega | (simp only [go_sem, *]; done) | (simp only [go_sem, *]; omega)) only [postM, ghOK, gv, St.ren, St.cut, V.ren, V.renL, AObj.ren, Nat.blt_eq, resV1, go_sem, hq, Int.reduceToNat, Nat.reduceBEq, Nat.reduceEqDiff, Nat.reduceAdd, Nat.reduceMul, Nat.reduceLeDiff, Nat.reduceLT, Nat.reduceSub, ↓reduceIte, reduceCtorEq]
    all_goals ((first | (rw [growN_leaf ht1]; done) | (subst hnm; rw [grow_fin (by omega) growN_at]; simp only [growN, if_neg hneg]; rfl)))
end

end Go.Proofs.Ytcphhbiehaimeaa

