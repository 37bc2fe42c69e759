/- Texts of this proof, put together. -/
import Derived.Test.YtfamkbofdamkkaaGreatDoorKUb
import Derived.Test.YtfamkbofdamkkaaGreatDoorKUc
import Derived.Test.YtfamkbofdamkkaaGreatDoorKUd
namespace Go.Proofs.YtfamkbofdamkkaaGreatDoor
open Go.RowKit
set_option linter.unusedVariables false
set_option linter.unusedSimpArgs false
set_option maxRecDepth 100000
attribute [local go_sem] Nat.zero_add Nat.add_zero Nat.mul_one eq_self ne_eq not_true_eq_false not_false_eq_true decide_true decide_false decide_not Bool.false_eq_true List.filter_cons List.filter_nil true_and and_true beq_false beq_true Bool.not_true Bool.not_false Bool.and_true Bool.true_and Option.getD_some Option.getD_none imp_self implies_true Int.toNat_natCast List.cons_append List.nil_append List.map_cons List.map_nil List.length_cons List.length_nil List.getD_cons_zero List.getD_cons_succ List.drop_zero List.drop_succ_cons List.take_succ_cons List.take_zero
attribute [local go_sem] Option.isNone_none Option.isNone_some Option.isSome_none List.lookup Option.isSome_some Option.isSome_none Bool.or_true Bool.true_or Bool.or_false Bool.false_or false_and and_false false_or or_false
attribute [local go_sem] List.getElem?_cons_zero List.getElem?_cons_succ List.zip_cons_cons List.zip_nil_left List.zip_nil_right Bool.false_and Bool.and_false List.length_append List.length_set List.length_replicate List.all_cons List.all_nil encR_length encR_getD encRw encPg forall_const imp_self
attribute [local go_sem] encSg encW encSgs_length encWs_length encSgs_getD encWs_getD lookV lkM putM
attribute [local simp] encI_length encR_length cellsI_length encSgs_length encWs_length
set_option maxHeartbeats 16000000 in
theorem k68 (p : Pg) (hr0 : p.rows.length ≤ maxLen) (hg : p.gain.length ≤ maxLen) (hc : ∀ r ∈ p.rows, r.coef.length ≤ maxLen) (rows : List Rw) (l : List Sg) (hlm : l.length ≤ maxLen) (hwl : ∀ k, k < l.length → ∀ s, l.getD k sg0 = s → s.ws.length ≤ maxLen) (hvp : validB p = true → (0 ≤ p.vars ∧ p.vars ≤ 12) ∧ rows.length ≤ 301 ∧ ∀ r ∈ rows, okRw p.vars.toNat r) : CallsA Tryz.prog 36 [.agg (encPg p), .sl 6 (encR rows), .sl 4 (encSgs l)] (.tup [.int .i64 (wrongX p rows l), usedV p rows l]) := by
 rw [← checkR_eq]
 unfold maxLen at hlm
 have hq : True := trivial
 refine callsA_of_trD (p1 := 6) (p2 := 7) (t0 := 17) (ty1 := 3) (ty2 := 70) (wr := wr) Tryz.func36 rfl (Nat.le_of_ble_eq_true rfl) (by rw [Tryz.results36]) lay_3 lay_70 rfl okF_61 idle116 catch116 ?_
 simp only [Tryz.results36, envOf, Nat.reduceAdd]
 refine trD_seq fun KD1 hKD1 => ?_
 refine tr_region [1, 2, 3, 6, 7, 17] rfl rfl fun K hK => ?_
 iterate 3 refine evR_p ?_
 refine evR_e hK ?_; clear hK K
 refine hKD1 _ ?_
 refine trD_seq fun KD2 hKD2 => ?_
 refine tr_sR [1, 2, 3, 6, 7, 16, 17] fun K hK => ?_
 refine evR_p ?_
 refine evR_c (hc := (k115 p hr0 hg hc)) (k := ?_)
 iterate 2 refine evR_p ?_
 iterate 3 refine evR_g ?_
 refine evR_p ?_
 refine evR_z hK ?_; clear hK K
 refine tr_condB (fun ht1 => ?_) (fun ht1 => ?_)
 ·
  skip
  refine tr_sR [6, 7, 17] fun K hK => ?_
  iterate 2 refine evR_p ?_
  refine evR_z hK ?_; clear hK K
  refine retZ ?_; try exact ⟨⟩
  all_goals (first | (rw [checkR_out ht1]; done) | (rw [checkR_good hval hll hlp hp2]; done))
 ·
  skip
  refine skipZ ?_
  refine hKD2 _ ?_
  obtain ⟨hval, hl0⟩ := ht1
  have hll : l.length ≤ 8192 := by omega
  obtain ⟨⟨h0, h1⟩, hrn, hrw⟩ := hvp hval
  refine trD_defer [1, 2, 3, 6, 7, 17] rfl rfl fun K hK => ?_
  simp (maxSteps := 4000000) (disch := first | assumption | omega | (simp only [go_sem, *]; done) | (simp only [go_sem, *]; omega)) only [go_sem, hq, Int.reduceToNat, Nat.reduceBEq, Nat.reduceEqDiff, Nat.reduceAdd, Nat.reduceMul, Nat.reduceLeDiff, Nat.reduceLT, Nat.reduceSub, ↓reduceIte, reduceCtorEq]
  refine hK _ _ _ rfl (fun x => ?_); clear hK K
  simp only [St.norm, St.eqv, List.filterMap_cons, List.filterMap_nil, List.lookup, Option.map, Nat.reduceBEq, List.map_cons, List.map_nil, Nat.reduceEqDiff, ↓reduceIte]
  refine tr_sR [2, 6, 7, 8, 17] fun K hK => ?_
  iterate 8 refine evR_p ?_
  refine evR_z hK ?_; clear hK K
  refine tr_seq fun K4 hK4 => ?_
  by_cases hp1 : decide ((l.length : Int) > 0) = true
  rotate_left 1
  ·
   skip
   refine tr_regionP (x := wr 0) rfl rfl fun K hK => ?_
   refine evP_p ?_
   refine evP_p ?_
   refine evP_p ?_
   refine evP_end ?_
   simp (maxSteps := 4000000) (disch := first | assumption | omega | (simp only [go_sem, *]; done) | (simp only [go_sem, *]; omega)) only [stpP, go_sem, hq, Int.reduceToNat, Nat.reduceBEq, Nat.reduceEqDiff, Nat.reduceAdd, Nat.reduceMul, Nat.reduceLeDiff, Nat.reduceLT, Nat.reduceSub, ↓reduceIte, reduceCtorEq]
   (repeat (refine And.intro (by first | assumption | omega | decide | (simp; done) | (simp; omega) | (have hq := hvv hgt; omega) | (have hq := hvv hgt.1; omega) | (simp_all; done)) ?_))
   refine ⟨[], ?_⟩
   simp (maxSteps := 4000000) (disch := first | assumption | omega | (simp only [go_sem, *]; done) | (simp only [go_sem, *]; omega)) only [V.mapL, V.map, gJ, footJ, inJ, AObj.map, ndJ, ltJ, V.domL, V.dom, AObj.dom, kC, kR, AObj.isC, hJ, backJ, List.any_cons, List.any_nil, Nat.ble_eq, Nat.blt_eq, Nat.reduceLT, Nat.reduceLeDiff, Bool.or_true, Bool.true_or, Bool.or_false, Bool.false_or, Bool.and_self, go_sem, hq, Int.reduceToNat, Nat.reduceBEq, Nat.reduceEqDiff, Nat.reduceAdd, Nat.reduceMul, Nat.reduceLeDiff, Nat.reduceLT, Nat.reduceSub, ↓reduceIte, reduceCtorEq]
   refine And.intro (by exact (needF _ _ (Bool.eq_false_iff.2 hp1))) ?_
   (repeat (refine And.intro (by first | assumption | omega | decide | (simp; done) | (simp; omega) | (have hq := hvv hgt; omega) | (have hq := hvv hgt.1; omega) | (simp_all; done)) ?_))
   refine hK _ ?_; clear hK K
   exact ⟨1, 2, _, _, by decide, rfl, rfl, rfl, .inr ⟨_, rfl, rfl, rfl, (checkR_zero hval hll hp1).symm⟩⟩
  have hlp : 0 < l.length := by have h9 := hp1; simp at h9; omega
  refine tr_region [6, 7, 8, 17] rfl rfl fun K hK => ?_
  iterate 3 refine evR_p ?_
  refine evR_c (hc := (needT _ _ hp1)) (k := ?_)
  refine evR_e hK ?_; clear hK K
  refine hK4 _ ?_
  refine tr_seq fun K5 hK5 => ?_
  by_cases hp2 : wkB p.vars rows l l.length 0 zero12 = true
  rotate_left 1
  ·
   skip
   refine tr_regionP (x := wr (wkX p.vars rows l l.length 0 zero12)) rfl rfl fun K hK => ?_
   refine evP_p ?_
   refine evP_p ?_
   refine evP_end ?_
   simp (maxSteps := 4000000) (disch := first | assumption | omega | (simp only [go_sem, *]; done) | (simp only [go_sem, *]; omega)) only [stpP, go_sem, hq, Int.reduceToNat, Nat.reduceBEq, Nat.reduceEqDiff, Nat.reduceAdd, Nat.reduceMul, Nat.reduceLeDiff, Nat.reduceLT, Nat.reduceSub, ↓reduceIte, reduceCtorEq]
   (repeat (refine And.intro (by first | assumption | omega | decide | (simp; done) | (simp; omega) | (have hq := hvv hgt; omega) | (have hq := hvv hgt.1; omega) | (simp_all; done)) ?_))
   refine ⟨[4, 3], ?_⟩
   simp (maxSteps := 4000000) (disch := first | assumption | omega | (simp only [go_sem, *]; done) | (simp only [go_sem, *]; omega)) only [V.mapL, V.map, gJ, footJ, inJ, AObj.map, ndJ, ltJ, V.domL, V.dom, AObj.dom, kC, kR, AObj.isC, hJ, backJ, List.any_cons, List.any_nil, Nat.ble_eq, Nat.blt_eq, Nat.reduceLT, Nat.reduceLeDiff, Bool.or_true, Bool.true_or, Bool.or_false, Bool.false_or, Bool.and_self, go_sem, hq, Int.reduceToNat, Nat.reduceBEq, Nat.reduceEqDiff, Nat.reduceAdd, Nat.reduceMul, Nat.reduceLeDiff, Nat.reduceLT, Nat.reduceSub, ↓reduceIte, reduceCtorEq]
   refine And.intro (by exact (k118 p.vars rows l p.vars.toNat ⟨h0, h1⟩ hrw (by omega) hrn (by omega) hwl l.length 0 zero12 [] hlp (by omega) rfl (okU.nil _)).2 (Bool.eq_false_iff.2 hp2)) ?_
   (repeat (refine And.intro (by first | assumption | omega | decide | (simp; done) | (simp; omega) | (have hq := hvv hgt; omega) | (have hq := hvv hgt.1; omega) | (simp_all; done)) ?_))
   refine hK _ ?_; clear hK K
   exact ⟨1, 2, _, _, by decide, rfl, rfl, rfl, .inr ⟨_, rfl, rfl, rfl, (checkR_bad hval hll hlp hp2).symm⟩⟩
  refine tr_region [6, 7, 8, 17] rfl rfl fun K hK => ?_
  iterate 2 refine evR_p ?_
  refine evR_stepX fun Kq hKq => Or.inr ?_
  simp (maxSteps := 4000000) (disch := first | assumption | omega | (simp only [go_sem, *]; done) | (simp only [go_sem, *]; omega)) only [stpM, go_sem, hq, Int.reduceToNat, Nat.reduceBEq, Nat.reduceEqDiff, Nat.reduceAdd, Nat.reduceMul, Nat.reduceLeDiff, Nat.reduceLT, Nat.reduceSub, ↓reduceIte, reduceCtorEq]
  refine ⟨[4, 3], ?_⟩
  simp (maxSteps := 4000000) (disch := first | assumption | omega | (simp only [go_sem, *]; done) | (simp only [go_sem, *]; omega)) only [V.mapL, V.map, gJ, footJ, inJ, AObj.map, ndJ, ltJ, V.domL, V.dom, AObj.dom, kC, kR, AObj.isC, hJ, backJ, List.any_cons, List.any_nil, Nat.ble_eq, Nat.blt_eq, Nat.reduceLT, Nat.reduceLeDiff, Bool.or_true, Bool.true_or, Bool.or_false, Bool.false_or, Bool.and_self, go_sem, hq, Int.reduceToNat, Nat.reduceBEq, Nat.reduceEqDiff, Nat.reduceAdd, Nat.reduceMul, Nat.reduceLeDiff, Nat.reduceLT, Nat.reduceSub, ↓reduceIte, reduceCtorEq]
  refine ⟨_, _, _, (k118 p.vars rows l p.vars.toNat ⟨h0, h1⟩ hrw (by omega) hrn (by omega) hwl l.length 0 zero12 [] hlp (by omega) rfl (okU.nil _)).1 hp2, ?_⟩
  simp (maxSteps := 4000000) (disch := first | assumption | omega | (simp only [go_sem, *]; done) | (simp only [go_sem, *]; omega)) only [V.mapL, V.map, gJ, footJ, inJ, AObj.map, ndJ, ltJ, V.domL, V.dom, AObj.dom, kC, kR, AObj.isC, hJ, backJ, List.any_cons, List.any_nil, Nat.ble_eq, Nat.blt_eq, Nat.reduceLT, Nat.reduceLeDiff, Bool.or_true, Bool.true_or, Bool.or_false, Bool.false_or, Bool.and_self, go_sem, hq, Int.reduceToNat, Nat.reduceBEq, Nat.reduceEqDiff, Nat.reduceAdd, Nat.reduceMul, Nat.reduceLeDiff, Nat.reduceLT, Nat.reduceSub, ↓reduceIte, reduceCtorEq]
  (repeat (refine And.intro (by first | assumption | omega | decide | (simp; done) | (simp; omega) | (have hq := hvv hgt; omega) | (have hq := hvv hgt.1; omega) | (simp_all; done)) ?_))
  refine hKq _ ?_; clear hKq Kq
  refine evR_e hK ?_; clear hK K
  refine hK5 _ ?_
  refine tr_seq fun K6 hK6 => ?_
  refine tr_fz [.mp 3, .ptr 4 0] (by simp (maxSteps := 4000000) (disch := first | assumption | omega | (simp only [go_sem, *]; done) | (simp only [go_sem, *]; omega)) only [go_sem, hq, Int.reduceToNat, Nat.reduceBEq, Nat.reduceEqDiff, Nat.reduceAdd, Nat.reduceMul, Nat.reduceLeDiff, Nat.reduceLT, Nat.reduceSub, ↓reduceIte, reduceCtorEq]; (try rfl)) ?_
  refine tr_draw [35] [6, 7, 17] mixed rfl (by kernel_rfl) rfl fun K hK => ?_
  iterate 6 refine evD_p ?_
  refine evD_e hK ?_; clear hK K
  refine hK6 _ ?_
  refine tr_ret ?_
  (try simp only [thenE, inBlkE])
  refine ⟨1, 2, _, _, by decide, rfl, rfl, rfl, .inl ⟨rfl, ?_⟩⟩
  refine postZ ?_; try exact ⟨⟩
  all_goals (first | (rw [checkR_out ht1]; done) | (rw [checkR_good hval hll hlp hp2]; done))

theorem k26a (p : Pg) (hr0 : p.rows.length ≤ maxLen) (hg : p.gain.length ≤ maxLen) (hc : ∀ r ∈ p.rows, r.coef.length ≤ maxLen) (l : List Sg) (hlm : l.length ≤ maxLen) (hwl : ∀ k, k < l.length → ∀ s, l.getD k sg0 = s → s.ws.length ≤ maxLen) (hU : usedV p p.rows l = .nm) : CallsA Tryz.prog 35 [.agg (encPg p), .sl 4 (encSgs l)] (.int .i64 (wrongW p l)) := by
 have hk68 := k68 p hr0 hg hc p.rows l hlm hwl valid_okRw
 rw [hU] at hk68
 have hq : True := trivial
 refine callsA_of_tr Tryz.func35 rfl (Nat.le_of_ble_eq_true rfl) ?_
 simp only [Tryz.results35, envOf, Nat.reduceAdd]
 refine tr_sR [1, 2] fun K hK => ?_
 iterate 2 refine evR_p ?_
 refine evR_z hK ?_; clear hK K
 refine tr_sR [5] fun K hK => ?_
 iterate 4 refine evR_p ?_
 refine evR_c (hc := hk68) (k := ?_)
 iterate 5 refine evR_p ?_
 refine evR_z hK ?_; clear hK K
 refine tr_sR [4] fun K hK => ?_
 iterate 2 refine evR_p ?_
 refine evR_z hK ?_; clear hK K
 refine retZ ?_; try exact ⟨⟩
 all_goals ((rw [wrongX_wrong]; done))

theorem k26b (p : Pg) (hr0 : p.rows.length ≤ maxLen) (hg : p.gain.length ≤ maxLen) (hc : ∀ r ∈ p.rows, r.coef.length ≤ maxLen) (l : List Sg) (hlm : l.length ≤ maxLen) (hwl : ∀ k, k < l.length → ∀ s, l.getD k sg0 = s → s.ws.length ≤ maxLen) (es : List (Int × Bool)) (hU : usedV p p.rows l = .fm es) : CallsA Tryz.prog 35 [.agg (encPg p), .sl 4 (encSgs l)] (.int .i64 (wrongW p l)) := by
 have hk68 := k68 p hr0 hg hc p.rows l hlm hwl valid_okRw
 rw [hU] at hk68
 have hq : True := trivial
 refine callsA_of_tr Tryz.func35 rfl (Nat.le_of_ble_eq_true rfl) ?_
 simp only [Tryz.results35, envOf, Nat.reduceAdd]
 refine tr_sR [1, 2] fun K hK => ?_
 iterate 2 refine evR_p ?_
 refine evR_z hK ?_; clear hK K
 refine tr_sR [5] fun K hK => ?_
 iterate 4 refine evR_p ?_
 refine evR_c (hc := hk68) (k := ?_)
 iterate 5 refine evR_p ?_
 refine evR_z hK ?_; clear hK K
 refine tr_sR [4] fun K hK => ?_
 iterate 2 refine evR_p ?_
 refine evR_z hK ?_; clear hK K
 refine retZ ?_; try exact ⟨⟩
 all_goals ((rw [wrongX_wrong]; done))
theorem k26 (p : Pg) (hr0 : p.rows.length ≤ maxLen) (hg : p.gain.length ≤ maxLen) (hc : ∀ r ∈ p.rows, r.coef.length ≤ maxLen) (l : List Sg) (hlm : l.length ≤ maxLen) (hwl : ∀ k, k < l.length → ∀ s, l.getD k sg0 = s → s.ws.length ≤ maxLen) : CallsA Tryz.prog 35 [.agg (encPg p), .sl 4 (encSgs l)] (.int .i64 (wrongW p l)) := by
 rcases usedV_cases p p.rows l with h | ⟨es, h⟩
 ·
  exact k26a p hr0 hg hc l hlm hwl h
 ·
  exact k26b p hr0 hg hc l hlm hwl es h

theorem k24 (p : Pg) (hr0 : p.rows.length ≤ maxLen) (hg : p.gain.length ≤ maxLen) (hc : ∀ r ∈ p.rows, r.coef.length ≤ maxLen) (l : List Sg) (hlm : l.length ≤ maxLen) (hwl : ∀ k, k < l.length → ∀ s, l.getD k sg0 = s → s.ws.length ≤ maxLen) : CallsA Tryz.prog 13 [.agg (encPg p), .sl 4 (encSgs l)] (.bool (refutesW p l)) := by
 have hq : True := trivial
 refine callsA_of_tr Tryz.func13 rfl (Nat.le_of_ble_eq_true rfl) ?_
 simp only [Tryz.results13, envOf, Nat.reduceAdd]
 refine tr_sR [1, 2] fun K hK => ?_
 iterate 2 refine evR_p ?_
 refine evR_z hK ?_; clear hK K
 refine tr_sR [4] fun K hK => ?_
 iterate 2 refine evR_p ?_
 refine evR_c (hc := (k26 p hr0 hg hc l hlm hwl)) (k := ?_)
 iterate 2 refine evR_p ?_
 refine evR_z hK ?_; clear hK K
 refine retZ ?_; try exact ⟨⟩
 all_goals (rfl)


theorem k73a (es : List (Int × Bool)) : CallsM Tryz.prog 38 [.fm es] ([]) (0) (.fn 66 [.ptr 0 0]) ([(0, .cells [.fm es])]) (1) := by
 have hq : True := trivial
 refine callsM_of_tr Tryz.func38 rfl (Nat.le_of_ble_eq_true rfl) (Nat.le_of_ble_eq_true rfl) (Nat.le_of_ble_eq_true rfl) ?_
 simp only [Tryz.results38, envOf, gh, gv, List.cons_append, List.nil_append, Nat.reduceAdd]
 refine tr_sR [1] fun K hK => ?_
 iterate 2 refine evR_p ?_
 refine evR_z hK ?_; clear hK K
 refine tr_sR [2] fun K hK => ?_
 iterate 2 refine evR_p ?_
 refine evR_z hK ?_; clear hK K
 refine tr_ret ?_
 (try simp only [thenE, inBlkE])
 all_goals first | refine ⟨_, Wk.refl _, ?_⟩
 simp (maxSteps := 4000000) (disch := first | assumption | omega | (simp only [go_sem, *]; done) | (simp only [go_sem, *]; omega)) only [postM, ghOK, gv, St.ren, St.cut, V.ren, V.renL, AObj.ren, Nat.blt_eq, resV1, go_sem, hq, Int.reduceToNat, Nat.reduceBEq, Nat.reduceEqDiff, Nat.reduceAdd, Nat.reduceMul, Nat.reduceLeDiff, Nat.reduceLT, Nat.reduceSub, ↓reduceIte, reduceCtorEq]
 all_goals (rfl)

theorem k73b  : CallsM Tryz.prog 38 [.nm] ([]) (0) (.fn 66 [.ptr 0 0]) ([(0, .cells [.nm])]) (1) := by
 have hq : True := trivial
 refine callsM_of_tr Tryz.func38 rfl (Nat.le_of_ble_eq_true rfl) (Nat.le_of_ble_eq_true rfl) (Nat.le_of_ble_eq_true rfl) ?_
 simp only [Tryz.results38, envOf, gh, gv, List.cons_append, List.nil_append, Nat.reduceAdd]
 refine tr_sR [1] fun K hK => ?_
 iterate 2 refine evR_p ?_
 refine evR_z hK ?_; clear hK K
 refine tr_sR [2] fun K hK => ?_
 iterate 2 refine evR_p ?_
 refine evR_z hK ?_; clear hK K
 refine tr_ret ?_
 (try simp only [thenE, inBlkE])
 all_goals first | refine ⟨_, Wk.refl _, ?_⟩
 simp (maxSteps := 4000000) (disch := first | assumption | omega | (simp only [go_sem, *]; done) | (simp only [go_sem, *]; omega)) only [postM, ghOK, gv, St.ren, St.cut, V.ren, V.renL, AObj.ren, Nat.blt_eq, resV1, go_sem, hq, Int.reduceToNat, Nat.reduceBEq, Nat.reduceEqDiff, Nat.reduceAdd, Nat.reduceMul, Nat.reduceLeDiff, Nat.reduceLT, Nat.reduceSub, ↓reduceIte, reduceCtorEq]
 all_goals (rfl)

theorem k29a (p : Pg) (hr0 : p.rows.length ≤ maxLen) (hg : p.gain.length ≤ maxLen) (hc : ∀ r ∈ p.rows, r.coef.length ≤ maxLen) (l : List Sg) (hlm : l.length ≤ maxLen) (hwl : ∀ k, k < l.length → ∀ s, l.getD k sg0 = s → s.ws.length ≤ maxLen) (es : List (Int × Bool)) (hU : usedV p p.rows l = .fm es) (hes : es.length ≤ 100000) (hwf : ∀ k ∈ keyU es, (Lit.int .i64 k).wf = true) : CallsA Tryz.prog 14 [.agg (encPg p), .sl 4 (encSgs l)] (.sl 1 (encI (sortU es))) := by
 have hk68 := k68 p hr0 hg hc p.rows l hlm hwl valid_okRw
 rw [hU] at hk68
 have hq : True := trivial
 refine callsA_of_tr Tryz.func14 rfl (Nat.le_of_ble_eq_true rfl) ?_
 simp only [Tryz.results14, envOf, Nat.reduceAdd]
 refine tr_sR [1, 2] fun K hK => ?_
 iterate 2 refine evR_p ?_
 refine evR_z hK ?_; clear hK K
 refine tr_sR [6] fun K hK => ?_
 iterate 4 refine evR_p ?_
 refine evR_c (hc := hk68) (k := ?_)
 iterate 5 refine evR_p ?_
 refine evR_z hK ?_; clear hK K
 refine tr_sR [4] fun K hK => ?_
 refine evR_p ?_
 refine evR_stepX fun Kq hKq => Or.inr ?_
 simp (maxSteps := 4000000) (disch := first | assumption | omega | (simp only [go_sem, *]; done) | (simp only [go_sem, *]; omega)) only [stpM, go_sem, hq, Int.reduceToNat, Nat.reduceBEq, Nat.reduceEqDiff, Nat.reduceAdd, Nat.reduceMul, Nat.reduceLeDiff, Nat.reduceLT, Nat.reduceSub, ↓reduceIte, reduceCtorEq]
 refine ⟨[], ?_⟩
 simp (maxSteps := 4000000) (disch := first | assumption | omega | (simp only [go_sem, *]; done) | (simp only [go_sem, *]; omega)) only [V.mapL, V.map, gJ, footJ, inJ, AObj.map, ndJ, ltJ, V.domL, V.dom, AObj.dom, kC, kR, AObj.isC, hJ, backJ, List.any_cons, List.any_nil, Nat.ble_eq, Nat.blt_eq, Nat.reduceLT, Nat.reduceLeDiff, Bool.or_true, Bool.true_or, Bool.or_false, Bool.false_or, Bool.and_self, go_sem, hq, Int.reduceToNat, Nat.reduceBEq, Nat.reduceEqDiff, Nat.reduceAdd, Nat.reduceMul, Nat.reduceLeDiff, Nat.reduceLT, Nat.reduceSub, ↓reduceIte, reduceCtorEq]
 refine ⟨_, _, _, k73a es, ?_⟩
 simp (maxSteps := 4000000) (disch := first | assumption | omega | (simp only [go_sem, *]; done) | (simp only [go_sem, *]; omega)) only [V.mapL, V.map, gJ, footJ, inJ, AObj.map, ndJ, ltJ, V.domL, V.dom, AObj.dom, kC, kR, AObj.isC, hJ, backJ, List.any_cons, List.any_nil, Nat.ble_eq, Nat.blt_eq, Nat.reduceLT, Nat.reduceLeDiff, Bool.or_true, Bool.true_or, Bool.or_false, Bool.false_or, Bool.and_self, go_sem, hq, Int.reduceToNat, Nat.reduceBEq, Nat.reduceEqDiff, Nat.reduceAdd, Nat.reduceMul, Nat.reduceLeDiff, Nat.reduceLT, Nat.reduceSub, ↓reduceIte, reduceCtorEq]
 (repeat (refine And.intro (by first | assumption | omega | decide | (simp; done) | (simp; omega) | (have hq := hvv hgt; omega) | (have hq := hvv hgt.1; omega) | (simp_all; done)) ?_))
 refine hKq _ ?_; clear hKq Kq
 refine evR_stepX fun Kq hKq => Or.inr ?_
 simp (maxSteps := 4000000) (disch := first | assumption | omega | (simp only [go_sem, *]; done) | (simp only [go_sem, *]; omega)) only [stpM, go_sem, hq, Int.reduceToNat, Nat.reduceBEq, Nat.reduceEqDiff, Nat.reduceAdd, Nat.reduceMul, Nat.reduceLeDiff, Nat.reduceLT, Nat.reduceSub, ↓reduceIte, reduceCtorEq]
 refine ⟨[1], ?_⟩
 simp (maxSteps := 4000000) (disch := first | assumption | omega | (simp only [go_sem, *]; done) | (simp only [go_sem, *]; omega)) only [V.mapL, V.map, gJ, footJ, inJ, AObj.map, ndJ, ltJ, V.domL, V.dom, AObj.dom, kC, kR, AObj.isC, hJ, backJ, List.any_cons, List.any_nil, Nat.ble_eq, Nat.blt_eq, Nat.reduceLT, Nat.reduceLeDiff, Bool.or_true, Bool.true_or, Bool.or_false, Bool.false_or, Bool.and_self, go_sem, hq, Int.reduceToNat, Nat.reduceBEq, Nat.reduceEqDiff, Nat.reduceAdd, Nat.reduceMul, Nat.reduceLeDiff, Nat.reduceLT, Nat.reduceSub, ↓reduceIte, reduceCtorEq]
 refine ⟨_, _, _, k72 es hes hwf, ?_⟩
 simp (maxSteps := 4000000) (disch := first | assumption | omega | (simp only [go_sem, *]; done) | (simp only [go_sem, *]; omega)) only [V.mapL, V.map, gJ, footJ, inJ, AObj.map, ndJ, ltJ, V.domL, V.dom, AObj.dom, kC, kR, AObj.isC, hJ, backJ, List.any_cons, List.any_nil, Nat.ble_eq, Nat.blt_eq, Nat.reduceLT, Nat.reduceLeDiff, Bool.or_true, Bool.true_or, Bool.or_false, Bool.false_or, Bool.and_self, go_sem, hq, Int.reduceToNat, Nat.reduceBEq, Nat.reduceEqDiff, Nat.reduceAdd, Nat.reduceMul, Nat.reduceLeDiff, Nat.reduceLT, Nat.reduceSub, ↓reduceIte, reduceCtorEq]
 (repeat (refine And.intro (by first | assumption | omega | decide | (simp; done) | (simp; omega) | (have hq := hvv hgt; omega) | (have hq := hvv hgt.1; omega) | (simp_all; done)) ?_))
 refine hKq _ ?_; clear hKq Kq
 refine evR_p ?_
 refine evR_z hK ?_; clear hK K
 refine retZ ?_; try exact ⟨⟩
 all_goals (rfl)

theorem k29b (p : Pg) (hr0 : p.rows.length ≤ maxLen) (hg : p.gain.length ≤ maxLen) (hc : ∀ r ∈ p.rows, r.coef.length ≤ maxLen) (l : List Sg) (hlm : l.length ≤ maxLen) (hwl : ∀ k, k < l.length → ∀ s, l.getD k sg0 = s → s.ws.length ≤ maxLen) (hU : usedV p p.rows l = .nm) : CallsA Tryz.prog 14 [.agg (encPg p), .sl 4 (encSgs l)] (.sl 1 (encI [])) := by
 have hk68 := k68 p hr0 hg hc p.rows l hlm hwl valid_okRw
 rw [hU] at hk68
 have hq : True := trivial
 refine callsA_of_tr Tryz.func14 rfl (Nat.le_of_ble_eq_true rfl) ?_
 simp only [Tryz.results14, envOf, Nat.reduceAdd]
 refine tr_sR [1, 2] fun K hK => ?_
 iterate 2 refine evR_p ?_
 refine evR_z hK ?_; clear hK K
 refine tr_sR [6] fun K hK => ?_
 iterate 4 refine evR_p ?_
 refine evR_c (hc := hk68) (k := ?_)
 iterate 5 refine evR_p ?_
 refine evR_z hK ?_; clear hK K
 refine tr_sR [4] fun K hK => ?_
 refine evR_p ?_
 refine evR_stepX fun Kq hKq => Or.inr ?_
 simp (maxSteps := 4000000) (disch := first | assumption | omega | (simp only [go_sem, *]; done) | (simp only [go_sem, *]; omega)) only [stpM, go_sem, hq, Int.reduceToNat, Nat.reduceBEq, Nat.reduceEqDiff, Nat.reduceAdd, Nat.reduceMul, Nat.reduceLeDiff, Nat.reduceLT, Nat.reduceSub, ↓reduceIte, reduceCtorEq]
 refine ⟨[], ?_⟩
 simp (maxSteps := 4000000) (disch := first | assumption | omega | (simp only [go_sem, *]; done) | (simp only [go_sem, *]; omega)) only [V.mapL, V.map, gJ, footJ, inJ, AObj.map, ndJ, ltJ, V.domL, V.dom, AObj.dom, kC, kR, AObj.isC, hJ, backJ, List.any_cons, List.any_nil, Nat.ble_eq, Nat.blt_eq, Nat.reduceLT, Nat.reduceLeDiff, Bool.or_true, Bool.true_or, Bool.or_false, Bool.false_or, Bool.and_self, go_sem, hq, Int.reduceToNat, Nat.reduceBEq, Nat.reduceEqDiff, Nat.reduceAdd, Nat.reduceMul, Nat.reduceLeDiff, Nat.reduceLT, Nat.reduceSub, ↓reduceIte, reduceCtorEq]
 refine ⟨_, _, _, k73b, ?_⟩
 simp (maxSteps := 4000000) (disch := first | assumption | omega | (simp only [go_sem, *]; done) | (simp only [go_sem, *]; omega)) only [V.mapL, V.map, gJ, footJ, inJ, AObj.map, ndJ, ltJ, V.domL, V.dom, AObj.dom, kC, kR, AObj.isC, hJ, backJ, List.any_cons, List.any_nil, Nat.ble_eq, Nat.blt_eq, Nat.reduceLT, Nat.reduceLeDiff, Bool.or_true, Bool.true_or, Bool.or_false, Bool.false_or, Bool.and_self, go_sem, hq, Int.reduceToNat, Nat.reduceBEq, Nat.reduceEqDiff, Nat.reduceAdd, Nat.reduceMul, Nat.reduceLeDiff, Nat.reduceLT, Nat.reduceSub, ↓reduceIte, reduceCtorEq]
 (repeat (refine And.intro (by first | assumption | omega | decide | (simp; done) | (simp; omega) | (have hq := hvv hgt; omega) | (have hq := hvv hgt.1; omega) | (simp_all; done)) ?_))
 refine hKq _ ?_; clear hKq Kq
 refine evR_stepX fun Kq hKq => Or.inr ?_
 simp (maxSteps := 4000000) (disch := first | assumption | omega | (simp only [go_sem, *]; done) | (simp only [go_sem, *]; omega)) only [stpM, go_sem, hq, Int.reduceToNat, Nat.reduceBEq, Nat.reduceEqDiff, Nat.reduceAdd, Nat.reduceMul, Nat.reduceLeDiff, Nat.reduceLT, Nat.reduceSub, ↓reduceIte, reduceCtorEq]
 refine ⟨[1], ?_⟩
 simp (maxSteps := 4000000) (disch := first | assumption | omega | (simp only [go_sem, *]; done) | (simp only [go_sem, *]; omega)) only [V.mapL, V.map, gJ, footJ, inJ, AObj.map, ndJ, ltJ, V.domL, V.dom, AObj.dom, kC, kR, AObj.isC, hJ, backJ, List.any_cons, List.any_nil, Nat.ble_eq, Nat.blt_eq, Nat.reduceLT, Nat.reduceLeDiff, Bool.or_true, Bool.true_or, Bool.or_false, Bool.false_or, Bool.and_self, go_sem, hq, Int.reduceToNat, Nat.reduceBEq, Nat.reduceEqDiff, Nat.reduceAdd, Nat.reduceMul, Nat.reduceLeDiff, Nat.reduceLT, Nat.reduceSub, ↓reduceIte, reduceCtorEq]
 refine ⟨_, _, _, k72n, ?_⟩
 simp (maxSteps := 4000000) (disch := first | assumption | omega | (simp only [go_sem, *]; done) | (simp only [go_sem, *]; omega)) only [V.mapL, V.map, gJ, footJ, inJ, AObj.map, ndJ, ltJ, V.domL, V.dom, AObj.dom, kC, kR, AObj.isC, hJ, backJ, List.any_cons, List.any_nil, Nat.ble_eq, Nat.blt_eq, Nat.reduceLT, Nat.reduceLeDiff, Bool.or_true, Bool.true_or, Bool.or_false, Bool.false_or, Bool.and_self, go_sem, hq, Int.reduceToNat, Nat.reduceBEq, Nat.reduceEqDiff, Nat.reduceAdd, Nat.reduceMul, Nat.reduceLeDiff, Nat.reduceLT, Nat.reduceSub, ↓reduceIte, reduceCtorEq]
 (repeat (refine And.intro (by first | assumption | omega | decide | (simp; done) | (simp; omega) | (have hq := hvv hgt; omega) | (have hq := hvv hgt.1; omega) | (simp_all; done)) ?_))
 refine hKq _ ?_; clear hKq Kq
 refine evR_p ?_
 refine evR_z hK ?_; clear hK K
 refine retZ ?_; try exact ⟨⟩
 all_goals (rfl)
theorem k29 (p : Pg) (hr0 : p.rows.length ≤ maxLen) (hg : p.gain.length ≤ maxLen) (hc : ∀ r ∈ p.rows, r.coef.length ≤ maxLen) (l : List Sg) (hlm : l.length ≤ maxLen) (hwl : ∀ k, k < l.length → ∀ s, l.getD k sg0 = s → s.ws.length ≤ maxLen) : CallsA Tryz.prog 14 [.agg (encPg p), .sl 4 (encSgs l)] (.sl 1 (encI (usedI p l))) := by
 rcases usedV_cases p p.rows l with h | ⟨es, h⟩
 ·
  rw [usedI_nm h]; exact k29b p hr0 hg hc l hlm hwl h
 ·
  obtain ⟨h1, h2, h3⟩ := usedI_fm h
  rw [h1]
  exact k29a p hr0 hg hc l hlm hwl es h (by have := h2.len; omega) (fun k hk => wf_small (by have := h2.rg k hk; omega))

def lf (ws : List Wt) : Sg := ⟨-1, 0, 0, ws⟩
def spP : Pg := ⟨2, [⟨0, 0, 0, 0, [2, 2], 3⟩, ⟨0, 0, 0, 0, [-1, -1], -2⟩], [3, 4]⟩
def spQ : Pg := ⟨2, [⟨0, 0, 0, 0, [2, 2], 3⟩], [3, 4]⟩
def spN : Pg := ⟨-1, [], []⟩
def pf1 : List Sg := [lf [⟨0, 1⟩, ⟨1, 2⟩]]
def pf2 : List Sg := [lf [⟨0, 1⟩]]
def pf3 : List Sg := [⟨0, 1, 2, []⟩, lf [⟨1, 1⟩], ⟨1, 3, 4, []⟩, lf [⟨1, 1⟩], lf [⟨0, 1⟩]]
def pfG : List Sg := [lf [⟨0, 2⟩, ⟨1, 1⟩]]
theorem r1 : refutesW spP pf1 = true := by decide
theorem r2 : refutesW spP pf2 = false := by decide
theorem q1 : wrongW spP pf1 = -1 := by decide
theorem q2 : wrongW spP pf2 = 0 := by decide
def pv3 : V := .sl 4 [[.int .i64 0, .int .i64 1, .int .i64 2, .nsl], encSg (lf [⟨1, 1⟩]), [.int .i64 1, .int .i64 3, .int .i64 4, .nsl], encSg (lf [⟨1, 1⟩]), encSg (lf [⟨0, 1⟩])]
theorem encSt_le (s : Stp) (j : Nat) : V.Le0 ((encSt s).getD j .any) ((encSg (toSg s)).getD j .any) := by
 match j with
 | 0 | 1 | 2 => exact .refl _
 | 3 =>
  show V.Le0 (match s.leaf with | some i => V.sl 2 [[.int .i64 i, .int .i64 1]] | none => .nsl) (.sl 2 (encWs (toSg s).ws))
  cases h : s.leaf with
  | none => simp only [toSg, h]; exact .nsl 2
  | some i => simp only [toSg, h]; exact .refl _
 | j + 4 => exact .refl _
theorem encS_le (l : List Stp) : V.Le (.sl 4 (encS l)) (.sl 4 (encSgs (l.map toSg))) := by
 refine .sl 4 (by simp [encS, encSgs]) (fun i hi => ?_) (fun i j hi => ?_) <;> rw [encS_length] at hi
 ·
  rw [encS_getD _ _ hi, encSgs_getD _ _ (by simpa using hi)]; rfl
 ·
  rw [encS_getD _ _ hi, encSgs_getD _ _ (by simpa using hi), toSg_getD]; exact encSt_le _ j
theorem prf_ws (p : Pg) : ∀ s ∈ prfS p, s.ws.length ≤ 1000 := by
 intro s hs
 obtain ⟨t, -, rfl⟩ := List.mem_map.1 hs
 simp only [toSg]
 cases t.leaf <;> simp
section
variable {p : Pg} (hv : validB p = true)
include hv
end
def moresP (p : Pg) (rs : List Rw) : Pg := ⟨p.vars, p.rows ++ rs, p.gain⟩
theorem usedI_of {p : Pg} {l : List Sg} (h : refutesW p l = true) : usedI p l = sortU (usN l l.length 0 []) := by
 rw [wrong_spec] at h
 simp only [Bool.and_eq_true, decide_eq_true_eq] at h
 obtain ⟨h1, h2, h3⟩ := h
 unfold usedI
 rw [if_pos ⟨h1, by omega⟩, h3]
/-! #### a row and its opposite -/
def agR (r : Rw) (v : Nat) : Rw := ⟨0, 0, 0, 0, negG r.coef v, IntKind.i64.wrap (IntKind.i64.wrap (0 - r.most) - 1)⟩
def usP (p : Pg) (r : Rw) : Pg := moresP p [r, agR r p.vars.toNat]
open Go.RowKit Go.Maps Go.Sort Go.Shelf
theorem sortU_mem (es : List (Int × Bool)) (x : Int) : x ∈ sortU es ↔ x ∈ keyU es := by unfold sortU; rw [List.mem_mergeSort]
theorem sortU_srt {n : Nat} {es : List (Int × Bool)} (h : okU n es) : srt (sortU es) := by
 have h1 : (sortU es).Pairwise (fun a b => leI a b = true) := List.pairwise_mergeSort (le := leI) (fun a b c => by simp [leI]; omega) (fun a b => by simp [leI]; omega) _
 have h2 : (sortU es).Nodup := (List.mergeSort_perm (keyU es) leI).nodup_iff.2 h.nd
 intro i j hij hj
 have e1 : (sortU es).getD i 0 = (sortU es)[i] := by simp [List.getD, show i < (sortU es).length by omega]
 have e2 : (sortU es).getD j 0 = (sortU es)[j] := by simp [List.getD, hj]
 have k1 := List.pairwise_iff_getElem.1 h1 i j (by omega) hj hij
 have k2 := List.pairwise_iff_getElem.1 h2 i j (by omega) hj hij
 rw [e1, e2]
 simp only [leI, decide_eq_true_eq] at k1
 have : ¬ (sortU es)[i] = (sortU es)[j] := k2
 omega
/-- The rows from 0 on that a list does not name. -/
def offW (rows : List Int) : Nat → List Int
 | 0 => []
 | n + 1 => if atW rows n < rows.length ∧ rows.getD (atW rows n) 0 = n then offW rows n else offW rows n ++ [(n : Int)]
/-- What a proof that refutes uses. -/
theorem used_ok {p : Pg} {l : List Sg} (h : refutesW p l = true) : okRows p (usedI p l) = true ∧ ∀ s : Nat, s < 2 ^ p.vars.toNat → ∃ i : Nat, (i : Int) ∈ usedI p l ∧ i < p.rows.length ∧ keptB (p.rows.getD i rw0) s = false := by
 have hv : validB p = true := by rw [wrong_spec] at h; simp only [Bool.and_eq_true] at h; exact h.1
 have hn : wrkP p.vars p.rows l = none := by rw [wrong_spec] at h; simp only [Bool.and_eq_true, decide_eq_true_eq] at h; exact h.2.2
 have hn2 : wrkN p.vars p.rows l l.length 0 zero12 = none := by
  unfold wrkP at hn
  split at hn
  ·
   cases hn
  ·
   exact hn
 have hu := usN_ok l.length 0 zero12 [] (okU.nil _) hn2
 rw [usedI_of h]
 refine ⟨okRows_of hv (sortU_srt hu) fun x hx => hu.rg x ((sortU_mem _ _).1 hx), fun s hs => ?_⟩
 obtain ⟨v, hv1, hv2, -, -⟩ := vars_pow hv
 have ev : p.vars.toNat = v := by omega
 obtain ⟨-, -, -, -, -, h5⟩ := validB_all hv
 have hs2 : s < 65536 := by
  have h2 : 2 ^ v ≤ 2 ^ 12 := Nat.pow_le_pow_right (by decide) hv2
  rw [ev] at hs; omega
 obtain ⟨i, k1, k2, k3⟩ := wrk_used (t := s) hv1 hv2 (fun r hr => by have := (h5 r hr).1; omega) l.length 0 zero12 [] (by decide) (goes_zero _ _) hn2
 refine ⟨i, (sortU_mem _ _).2 k1, k2, ?_⟩
 obtain ⟨c1, c2, -⟩ := h5 _ (getD_mem (d := rw0) k2)
 rw [Bool.eq_false_iff]
 intro hk
 rw [keptB_iff, chosenW_sum c2 hs2 (by omega), sumS, show (p.rows.getD i rw0).coef.length = v by omega] at hk
 omega
/-- A row and its opposite are a leaf by themselves. -/
def shortS (n : Nat) : List Sg := [lf [⟨(n : Int) - 2, 1⟩, ⟨(n : Int) - 1, 1⟩]]
def encSol2 (p : Pg) : List V := [.bool (solveW p).found, .int .i64 (solveW p).set, .int .i64 (solveW p).gain, .sl 4 (encSgs (prfS p))]
theorem sol_le (p : Pg) : V.Le (.tup [.agg (encSol (solveW p)), .int .i64 0]) (.tup [.agg (encSol2 p), .int .i64 0]) :=
 .tup (.cons (.agg (.cons (.refl _) (.cons (.refl _) (.cons (.refl _) (.cons (encS_le _) .nil))))) (.cons (.refl _) .nil))
theorem s36 {p : Pg} (hv : validB p = true) : CallsA Tryz.prog 12 [.agg (encPg p)] (.tup [.agg (encSol2 p), .int .i64 0]) := by
 obtain ⟨a, b, c⟩ := valid_max hv
 exact (c14 p a b c hv).le (sol_le p)
/-- A proof that is no longer than any of these is. -/
structure okPf (l : List Sg) : Prop where
 len : l.length ≤ maxLen
 ws : ∀ s ∈ l, s.ws.length ≤ maxLen
theorem okPf.at {l : List Sg} (h : okPf l) : ∀ k, k < l.length → ∀ s, l.getD k sg0 = s → s.ws.length ≤ maxLen := fun k hk s hs => by
 subst hs; exact h.ws _ (getD_mem hk)
/-- A program that is no longer than any of these is. -/
structure okPr (p : Pg) : Prop where
 rows : p.rows.length ≤ 400
 gain : p.gain.length ≤ 1000
 coef : ∀ r ∈ p.rows, r.coef.length ≤ 1000
theorem okPr_valid {p : Pg} (hv : validB p = true) : okPr p := by
 obtain ⟨q0, q1, q2, q3, q4, q5⟩ := validB_all hv
 exact ⟨by omega, by omega, fun r hr => by have := (q5 r hr).1; omega⟩
section
variable {p : Pg} (hp : okPr p) {l : List Sg} (hl : okPf l)
include hp
theorem okPr.r : p.rows.length ≤ maxLen := by have := hp.rows; unfold maxLen; omega
theorem okPr.g : p.gain.length ≤ maxLen := by have := hp.gain; unfold maxLen; omega
theorem okPr.c : ∀ r ∈ p.rows, r.coef.length ≤ maxLen := fun r hr => by have := hp.coef r hr; unfold maxLen; omega
include hl
theorem s24 : CallsA Tryz.prog 13 [.agg (encPg p), .sl 4 (encSgs l)] (.bool (refutesW p l)) := k24 p hp.r hp.g hp.c l hl.len hl.at
theorem s29 : CallsA Tryz.prog 14 [.agg (encPg p), .sl 4 (encSgs l)] (.sl 1 (encI (usedI p l))) := k29 p hp.r hp.g hp.c l hl.len hl.at
end
theorem usedI_len (p : Pg) (l : List Sg) : (usedI p l).length ≤ 300 := by
 rcases usedV_cases p p.rows l with h | ⟨es, h⟩
 ·
  rw [usedI_nm h]; simp
 ·
  obtain ⟨h1, h2, h3⟩ := usedI_fm h
  have := h2.len
  rw [h1, sortU, List.length_mergeSort, keyU, List.length_map]; omega
theorem usedI_max (p : Pg) (l : List Sg) : (usedI p l).length ≤ maxLen := by have := usedI_len p l; unfold maxLen; omega
theorem okPf_prf {p : Pg} (hv : validB p = true) : okPf (prfS p) := ⟨by have := prf_len hv; unfold maxLen; omega, fun s hs => by have := prf_ws p s hs; unfold maxLen; omega⟩
theorem srt_nodup {l : List Int} (h : srt l) : l.Nodup := by
  refine List.pairwise_iff_getElem.2 fun i j hi hj hij e => ?_
  have := h i j hij hj
  simp only [List.getD, List.getElem?_eq_getElem hi, List.getElem?_eq_getElem hj, Option.getD_some] at this
  omega
theorem rows_rng {p : Pg} (hv : validB p = true) {U : List Int} (h : okRows p U = true) : ∀ x ∈ U, 0 ≤ x ∧ x < (p.rows.length : Int) := by
  intro x hx
  obtain ⟨k, hk, rfl⟩ := List.getElem_of_mem hx
  have h1 := okTo_iff.1 h k hk
  have h2 := (validB_all hv).2.2.1
  simp only [idxOk, Bool.and_eq_true, isInB_spec] at h1
  have h3 := h1.1
  rw [w64 (by omega)] at h3
  have e : U.getD k 0 = U[k] := by simp [List.getD, hk]
  rw [e] at h3; omega
theorem conf_compl {p : Pg} {s : Nat} (h : confS p s = true) : repS p (2 ^ p.rows.length - 1 - s) = false := by
  unfold confS at h; unfold repS; simpa using h
theorem compl_lt {n s : Nat} : 2 ^ n - 1 - s < 2 ^ n := by have := Nat.two_pow_pos n; omega
theorem rowsT_all {s n : Nat} (hs : s < 2 ^ n) : ∀ m, n ≤ m → rowsT s m = rowsT s n
  | 0, h => by have : n = 0 := by omega
               subst this; rfl
  | m + 1, h => by
    by_cases e : n = m + 1
    · subst e; rfl
    · have hb : s.testBit m = false := Nat.testBit_lt_two_pow (Nat.lt_of_lt_of_le hs (Nat.pow_le_pow_right (by decide) (by omega)))
      rw [rowsT_f hb, rowsT_all hs m (by omega)]
section
variable {p : Pg} (hv : validB p = true) (hn : p.rows.length ≤ 12) {s : Nat} (hs : s < 2 ^ p.rows.length)
include hn hs
theorem keep_rows : ∀ m, m ≤ p.rows.length → keepTo p (rowsN (2 ^ p.rows.length - 1 - s)) m = (rowsT s m).map fun x => p.rows.getD x.toNat rw0
  | 0, _ => rfl
  | m + 1, h => by
    have ih := keep_rows m (by omega)
    have hc := compl_bit hs m
    have hm : ((m : Nat) : Int) ∈ rowsN (2 ^ p.rows.length - 1 - s) ↔ s.testBit m = false := by
      rw [mem_rowsN]
      constructor
      · rintro ⟨i, e, hi, hb⟩
        have : i = m := by omega
        subst this
        rw [hc] at hb; simpa [show i < p.rows.length by omega] using hb
      · intro hb
        exact ⟨m, rfl, by omega, by rw [hc, hb]; simp; omega⟩
    cases hb : s.testBit m with
    | true => rw [keepTo_f (fun h2 => by rw [hm.1 h2] at hb; cases hb), rowsT_t hb, List.map_append, ih]; rfl
    | false => rw [keepTo_t (hm.2 hb), rowsT_f hb, ih]
theorem left_rows : (withoutW p (rowsN (2 ^ p.rows.length - 1 - s))).rows = (rowsN s).map fun x => p.rows.getD x.toNat rw0 := by
  show keepTo p _ p.rows.length = _
  rw [keep_rows hn hs _ (Nat.le_refl _), ← rowsT_all hs 12 hn]; rfl
theorem left_len : (withoutW p (rowsN (2 ^ p.rows.length - 1 - s))).rows.length = (rowsN s).length := by rw [left_rows hn hs, List.length_map]
theorem left_getD {k : Nat} (hk : k < (rowsN s).length) : (withoutW p (rowsN (2 ^ p.rows.length - 1 - s))).rows.getD k rw0 = p.rows.getD ((rowsN s).getD k 0).toNat rw0 := by
  rw [left_rows hn hs]; simp [List.getD, hk]
include hv
omit hs in
theorem left_found (hc : confS p s = true) : (solveW (withoutW p (rowsN (2 ^ p.rows.length - 1 - s)))).found = false := by
  rw [found_without hv hn compl_lt]; exact conf_compl hc
omit hs in
theorem left_ref (hc : confS p s = true) : refutesW (withoutW p (rowsN (2 ^ p.rows.length - 1 - s))) (prfS (withoutW p (rowsN (2 ^ p.rows.length - 1 - s)))) = true :=
  prf_refutes (without_valid hv _) (left_found hv hn hc)
/-- Each row is named. -/
theorem left_used (hc : confS p s = true) (hm : ∀ k, k < (rowsN s).length → confS p (clrN s ((rowsN s).getD k 0).toNat) = false) :
    (usedI (withoutW p (rowsN (2 ^ p.rows.length - 1 - s))) (prfS (withoutW p (rowsN (2 ^ p.rows.length - 1 - s))))).length = (rowsN s).length ∧
    ∀ i : Nat, i < (rowsN s).length → (usedI (withoutW p (rowsN (2 ^ p.rows.length - 1 - s))) (prfS (withoutW p (rowsN (2 ^ p.rows.length - 1 - s))))).getD i 0 = (i : Int) := by
  obtain ⟨v, e, -⟩ := vars_pow hv
  have hr := left_ref hv hn hc (s := s)
  have hl := left_len hn hs
  have hg := fun k hk => left_getD hn hs (k := k) hk
  have hqv := without_valid hv (rowsN (2 ^ p.rows.length - 1 - s))
  have hvq : (withoutW p (rowsN (2 ^ p.rows.length - 1 - s))).vars = p.vars := rfl
  generalize withoutW p (rowsN (2 ^ p.rows.length - 1 - s)) = q at hr hl hg hqv hvq ⊢
  obtain ⟨ho, hu⟩ := used_ok hr
  generalize usedI q (prfS q) = U at ho hu ⊢
  have hsr := okRows_srt ho
  have hlt := rows_rng hqv ho
  have hall : ∀ j : Nat, j < (rowsN s).length → (j : Int) ∈ U := fun j hj => by
    refine Classical.byContradiction fun hnot => ?_
    obtain ⟨r, e1, hrn, hrb⟩ := rows_at hs hn hj
    have hcl := hm j hj
    rw [e1, Int.toNat_natCast] at hcl
    have hcs : clrN s r < 2 ^ p.rows.length := clr_lt hs
    have hnc : ¬ (confS p (clrN s r) = true) := by rw [hcl]; simp
    rw [confS_spec hv hn e hcs] at hnc
    obtain ⟨c, hc1, hc2⟩ : ∃ c, c < 2 ^ v ∧ ∀ i, i < p.rows.length → brkS p c i = true → (clrN s r).testBit i = false := by
      refine Classical.byContradiction fun hno => hnc fun c hc => ?_
      refine Classical.byContradiction fun hno2 => hno ⟨c, hc, fun i hi hb => ?_⟩
      cases hx : (clrN s r).testBit i with
      | false => rfl
      | true => exact (hno2 ⟨i, hi, hb, hx⟩).elim
    obtain ⟨i, hiU, hiq, hik⟩ := hu c (by rw [hvq, e, Int.toNat_natCast]; exact hc1)
    rw [hl] at hiq
    have hij : i ≠ j := fun h => hnot (h ▸ hiU)
    rw [hg i hiq] at hik
    obtain ⟨a, e2, han, hab⟩ := rows_at hs hn hiq
    rw [e2, Int.toNat_natCast] at hik
    have har : a ≠ r := fun h => by
      have hp := rowsN_pair s
      rcases Nat.lt_or_gt_of_ne hij with h3 | h3
      · have := pair_getD hp h3 hj; rw [e1, e2] at this; omega
      · have := pair_getD hp h3 hiq; rw [e1, e2] at this; omega
    have := hc2 a han (by unfold brkS; rw [hik]; rfl)
    unfold clrN at this
    rw [if_pos hrb, testBit_drop hrb] at this
    simp [hab, har] at this
  have hnd : U.Nodup := srt_nodup hsr
  have h1 : U.length ≤ (rowsN s).length := nodup_len _ U hnd fun k hk => by have := hlt k hk; omega
  have key : ∀ i : Nat, i < (rowsN s).length → i < U.length ∧ U.getD i 0 = (i : Int) := by
    intro i
    induction i using Nat.strongRecOn with
    | _ i ih =>
      intro hi
      obtain ⟨k, hk, hk2⟩ := List.getElem_of_mem (hall i hi)
      have hk3 : U.getD k 0 = (i : Int) := by simp [List.getD, hk, hk2]
      rcases Nat.lt_trichotomy k i with h | h | h
      · have := (ih k h (by omega)).2
        omega
      · subst h; exact ⟨hk, hk3⟩
      · have h4 := hsr i k h hk
        have h5 : (U.getD i 0) ∈ U := getD_mem (by omega)
        have h6 := hlt _ h5
        obtain ⟨m, hm'⟩ := Int.eq_ofNat_of_zero_le h6.1
        have h7 : m < i := by omega
        have h8 := ih m h7 (by omega)
        have h9 := hsr m i h7 (by omega)
        omega
  refine ⟨?_, fun i hi => (key i hi).2⟩
  by_cases h0 : (rowsN s).length = 0
  · omega
  · have := (key ((rowsN s).length - 1) (by omega)).1
    omega
end
theorem min_all {p : Pg} (hv : validB p = true) (hn : p.rows.length ≤ 12) {t : Nat} (ht : t < 2 ^ p.rows.length) (h : minB p (rowsN t) = true) :
    confS p t = true ∧ ∀ k, k < (rowsN t).length → confS p (clrN t ((rowsN t).getD k 0).toNat) = false := by
  have hsm := sm_of hv hn
  unfold minB at h
  rw [Bool.and_eq_true, cnf_of hsm ht, tbW_rows hn ht] at h
  refine ⟨h.1, fun k hk => ?_⟩
  have := List.all_eq_true.1 h.2 k (List.mem_range.2 hk)
  simpa [tbS] using this
theorem bsW_rows {n t : Nat} (hn : n ≤ 12) (ht : t < 2 ^ n) : bsW n (rowsN t) = (t : Int) := by unfold bsW; rw [tbW_rows hn ht]; rfl
end Go.Proofs.YtfamkbofdamkkaaGreatDoor
namespace Go.Proofs.YtfamkbofdamkkaaGreatDoor
open Go.RowKit
set_option linter.unusedVariables false
set_option linter.unusedSimpArgs false
set_option maxRecDepth 100000
attribute [local go_sem] Nat.zero_add Nat.add_zero Nat.mul_one eq_self ne_eq not_true_eq_false not_false_eq_true decide_true decide_false decide_not Bool.false_eq_true List.filter_cons List.filter_nil true_and and_true beq_false beq_true Bool.not_true Bool.not_false Bool.and_true Bool.true_and Option.getD_some Option.getD_none imp_self implies_true Int.toNat_natCast List.cons_append List.nil_append List.map_cons List.map_nil List.length_cons List.length_nil List.getD_cons_zero List.getD_cons_succ List.drop_zero List.drop_succ_cons List.take_succ_cons List.take_zero
attribute [local go_sem] Option.isNone_none Option.isNone_some Option.isSome_none Option.isSome_some List.lookup Option.isSome_some Option.isSome_none Bool.or_true Bool.true_or Bool.or_false Bool.false_or false_and and_false false_or or_false

attribute [local go_sem] List.getElem?_cons_zero List.getElem?_cons_succ List.zip_cons_cons List.zip_nil_left List.zip_nil_right Bool.false_and Bool.and_false List.length_append List.length_set List.length_replicate List.all_cons List.all_nil encR_length encR_getD encRw encPg forall_const imp_self
attribute [local simp] encI_length encR_length cellsI_length
section
attribute [local go_sem] gtab_len gtab_drop List.length_drop
theorem kc81 (s : Nat) (hs : s < 4096) (h0 : 0 < s) : CallsA Tryz.prog 69 [.int .u64 (s : Nat)] (.int .i64 (tzN s : Nat)) := by
 obtain ⟨ht0, ht1, ht2⟩ := tz_spec hs h0
 unfold tzI at ht0 ht1
 have hs0 : (s : Int) ≠ 0 := by omega
 have hq := And.intro ht0 (ht1)
 refine callsA_of_tr Tryz.func69 rfl (Nat.le_of_ble_eq_true rfl) ?_
 simp only [Tryz.results69, envOf, Nat.reduceAdd]
 refine tr_sR [0] fun K hK => ?_
 refine evR_p ?_
 refine evR_z hK ?_; clear hK K
 refine tr_seq fun K2 hK2 => ?_
 refine tr_sR [0, 4] fun K hK => ?_
 iterate 2 refine evR_p ?_
 refine evR_z hK ?_; clear hK K
 refine tr_condB (fun ht1 => ?_) (fun ht1 => ?_)
 ·
  skip
  refine tr_sR [2] fun K hK => ?_
  refine evR_p ?_
  refine evR_z hK ?_; clear hK K
  refine retZ ?_; try exact ⟨⟩
  all_goals (first | (exfalso; omega) | (rw [w64 (x := (tzN s : Int)) (by omega)]))
 ·
  skip
  refine skipZ ?_
  refine hK2 _ ?_
  refine tr_sR [2] fun K hK => ?_
  iterate 10 refine evR_p ?_
  refine evR_z hK ?_; clear hK K
  refine retZ ?_; try exact ⟨⟩
  all_goals (first | (exfalso; omega) | (rw [w64 (x := (tzN s : Int)) (by omega)]))
end

theorem kc62 (s : Nat) (hs : s < 4096) (h0 : 0 < s) : CallsA Tryz.prog 42 [.int .u64 (s : Nat)] (.int .i64 (tzN s : Nat)) := by
 have hq : True := trivial
 refine callsA_of_tr Tryz.func42 rfl (Nat.le_of_ble_eq_true rfl) ?_
 simp only [Tryz.results42, envOf, Nat.reduceAdd]
 refine tr_sR [0] fun K hK => ?_
 refine evR_p ?_
 refine evR_z hK ?_; clear hK K
 refine tr_seq fun K2 hK2 => ?_
 refine tr_cond rfl (fun h => by cases h) (fun _ => ?_)
 refine skipZ ?_
 refine hK2 _ ?_
 refine tr_sR [2] fun K hK => ?_
 refine evR_p ?_
 refine evR_c (hc := (kc81 s hs h0)) (k := ?_)
 refine evR_p ?_
 refine evR_z hK ?_; clear hK K
 refine retZ ?_; try exact ⟨⟩
 all_goals (exact ⟨trivial, rfl⟩)

theorem kc76 (s : Nat) (hs : s < 4096) : CallsA Tryz.prog 71 [.int .u64 (s : Nat)] (.int .i64 (popN s : Nat)) := by
 have hq : True := trivial
 refine callsA_of_tr Tryz.func71 rfl (Nat.le_of_ble_eq_true rfl) ?_
 simp only [Tryz.results71, envOf, Nat.reduceAdd]
 refine tr_sR [0] fun K hK => ?_
 refine evR_p ?_
 refine evR_z hK ?_; clear hK K
 refine tr_sR [0] fun K hK => ?_
 iterate 7 refine evR_p ?_
 refine evR_z hK ?_; clear hK K
 refine tr_sR [0] fun K hK => ?_
 iterate 7 refine evR_p ?_
 refine evR_z hK ?_; clear hK K
 refine tr_sR [0] fun K hK => ?_
 iterate 6 refine evR_p ?_
 refine evR_z hK ?_; clear hK K
 refine tr_sR [0] fun K hK => ?_
 iterate 5 refine evR_p ?_
 refine evR_z hK ?_; clear hK K
 refine tr_sR [0] fun K hK => ?_
 iterate 5 refine evR_p ?_
 refine evR_z hK ?_; clear hK K
 refine tr_sR [0] fun K hK => ?_
 iterate 5 refine evR_p ?_
 refine evR_z hK ?_; clear hK K
 refine tr_sR [2] fun K hK => ?_
 iterate 4 refine evR_p ?_
 refine evR_z hK ?_; clear hK K
 refine retZ ?_; try exact ⟨⟩
 all_goals (rw [← pc_spec hs]; rfl)

theorem kc56 (s : Nat) (hs : s < 4096) : CallsA Tryz.prog 44 [.int .u64 (s : Nat)] (.int .i64 (popN s : Nat)) := by
 have hq : True := trivial
 refine callsA_of_tr Tryz.func44 rfl (Nat.le_of_ble_eq_true rfl) ?_
 simp only [Tryz.results44, envOf, Nat.reduceAdd]
 refine tr_sR [0] fun K hK => ?_
 refine evR_p ?_
 refine evR_z hK ?_; clear hK K
 refine tr_seq fun K2 hK2 => ?_
 refine tr_cond rfl (fun h => by cases h) (fun _ => ?_)
 refine skipZ ?_
 refine hK2 _ ?_
 refine tr_sR [2] fun K hK => ?_
 refine evR_p ?_
 refine evR_c (hc := (kc76 s hs)) (k := ?_)
 refine evR_p ?_
 refine evR_z hK ?_; clear hK K
 refine retZ ?_; try exact ⟨⟩
 all_goals (exact ⟨trivial, rfl⟩)

theorem kc55 (s : Nat) (hs : s < 4096) : CallsA Tryz.prog 43 [.int .i64 (s : Nat)] (.int .i64 (popN s : Nat)) := by
 have hw := u64_small hs
 have hq := hw
 refine callsA_of_tr Tryz.func43 rfl (Nat.le_of_ble_eq_true rfl) ?_
 simp only [Tryz.results43, envOf, Nat.reduceAdd]
 refine tr_sR [0] fun K hK => ?_
 refine evR_p ?_
 refine evR_z hK ?_; clear hK K
 refine tr_sR [2] fun K hK => ?_
 iterate 2 refine evR_p ?_
 refine evR_c (hc := (kc56 s hs)) (k := ?_)
 refine evR_p ?_
 refine evR_z hK ?_; clear hK K
 refine retZ ?_; try exact ⟨⟩
 all_goals (exact ⟨trivial, rfl⟩)

theorem kc43 (s : Nat) (hs : s < 4096) : CallsA Tryz.prog 24 [.int .i64 (s : Nat)] (.sl 1 (encI (rowsN s))) := by
 have hq : True := trivial
 refine callsA_of_trL Tryz.func24 rfl (Nat.le_of_ble_eq_true rfl) ?_
 simp only [Tryz.results24, envOf, Nat.reduceAdd]
 refine tr_sR [0, 2] fun K hK => ?_
 refine evR_p ?_
 refine evR_z hK ?_; clear hK K
 refine tr_seq fun K2 hK2 => ?_
 refine tr_block ?_
 -- loop 1: live [0, 2]
 refine tr_loopW (fun m σ => ∃ (a : List Int) (k : Nat), k = m ∧ k < 4096 ∧ rowsN s = a ++ rowsN k ∧ σ = ⟨[(0, .int .i64 (k : Nat)), (2, .own 0)], [(0, .row 3 1 (encI a))], 1⟩) (s) ?_ ?_
 ·
  exact ⟨_, Wk.nilslot 3 1 2 rfl, [], s, rfl, hs, by simp, rfl⟩
 ·
  rintro m σ ⟨a, k, hk, hkl, hr, rfl⟩ KL1 hKL1
  refine tr_seq fun K3 hK3 => ?_
  refine tr_sR [0, 2, 4] fun K hK => ?_
  iterate 2 refine evR_p ?_
  refine evR_z hK ?_; clear hK K
  refine tr_condB (fun ht1 => ?_) (fun ht1 => ?_)
  ·
   skip
   have hk0 : 0 < k := by omega
   obtain ⟨hs1, hs2⟩ := rows_step hkl hk0
   have hw := u64_small hkl
   have hw1 := dec_and hkl hk0
   have hal : a.length ≤ 12 := by have h1 := rowsN_le s; rw [hr] at h1; simp at h1; omega
   replace hq := And.intro hq (And.intro hw (hw1))
   refine skipZ ?_
   refine hK3 _ ?_
   refine tr_seq fun K5 hK5 => ?_
   refine tr_block ?_
   refine tr_region [0, 2] rfl rfl fun K hK => ?_
   iterate 3 refine evR_p ?_
   refine evR_c (hc := (kc62 k hkl hk0)) (k := ?_)
   refine evR_bs ?_
   iterate 2 refine evR_p ?_
   refine evR_e hK ?_; clear hK K
   refine hK5 _ ?_
   refine tr_region [0, 2] rfl rfl fun K hK => ?_
   iterate 5 refine evR_p ?_
   refine evR_e hK ?_; clear hK K
   refine hKL1 _ ?_
   exact ⟨k &&& (k - 1), _, by omega, (Wk.trans (Wk.ren 1 0 (Nat.le_of_ble_eq_true rfl) (Nat.le_of_ble_eq_true rfl) rfl) (Wk.cut 1 rfl)), a ++ [(tzN k : Int)], _, rfl, by omega, by rw [hr, hs1]; simp, by simp [encI]; rfl⟩
  ·
   skip
   have hk0 : k = 0 := by omega
   subst hk0
   rw [rowsN_0, List.append_nil] at hr
   subst hr
   refine tr_exit ?_
   simp only [thenE, inBlkE, Nat.reduceEqDiff, ↓reduceIte]
   refine hK2 _ ?_
   refine tr_sR [2] fun K hK => ?_
   iterate 2 refine evR_p ?_
   refine evR_z hK ?_; clear hK K
   refine retZ ?_; try exact ⟨⟩
   all_goals (exact .refl _)

theorem kc57 (s : Nat) (hs : s < 4096) : CallsA Tryz.prog 45 [.int .u16 (s : Nat)] (.int .u16 (rvN s : Nat)) := by
 obtain ⟨⟨h1, h2⟩, h3, h4⟩ := b16 hs
 have hq := And.intro h1 (And.intro h2 (And.intro h3 (h4)))
 refine callsA_of_tr Tryz.func45 rfl (Nat.le_of_ble_eq_true rfl) ?_
 simp only [Tryz.results45, envOf, Nat.reduceAdd]
 refine tr_sR [0] fun K hK => ?_
 refine evR_p ?_
 refine evR_z hK ?_; clear hK K
 refine tr_sD [] [2] fun K hK => ?_
 iterate 11 refine evD_p ?_
 refine evD_z hK ?_; clear hK K
 refine retZ ?_; try exact ⟨⟩
 all_goals ((refine congrArg (V.int .u16) ?_; rw [rev_get, rev_get]; exact rev_spec hs; all_goals first | omega | (clear hq h1 h2 h3 h4; decide +kernel)))

theorem kc32 (p : Pg) (hr : p.rows.length ≤ maxLen) (hg : p.gain.length ≤ maxLen) (hc : ∀ r ∈ p.rows, r.coef.length ≤ maxLen) : CallsA Tryz.prog 22 [.agg (encPg p)] (.bool (smallB p)) := by
 have hq : True := trivial
 refine callsA_of_tr Tryz.func22 rfl (Nat.le_of_ble_eq_true rfl) ?_
 simp only [Tryz.results22, envOf, Nat.reduceAdd]
 refine tr_sR [1] fun K hK => ?_
 iterate 2 refine evR_p ?_
 refine evR_z hK ?_; clear hK K
 refine tr_sR [2] fun K hK => ?_
 iterate 5 refine evR_p ?_
 refine evR_g ?_
 refine evR_gc (hc := (c20 p hr hg hc)) (k := ?_)
 iterate 2 refine evR_p ?_
 refine evR_z hK ?_; clear hK K
 refine retZ ?_; try exact ⟨⟩
 all_goals (simp [smallB])

theorem kc42 (p : Pg) (hr : p.rows.length ≤ maxLen) (hg : p.gain.length ≤ maxLen) (hc : ∀ r ∈ p.rows, r.coef.length ≤ maxLen) (l : List Int) (hl : l.length ≤ maxLen) : CallsA Tryz.prog 21 [.agg (encPg p), .sl 1 (encI l)] (.tup [.int .i64 (tbS (tbW p.rows.length l)), .bool (tbI (tbW p.rows.length l))]) := by
 unfold maxLen at hr hl
 have hq : True := trivial
 refine callsA_of_tr Tryz.func21 rfl (Nat.le_of_ble_eq_true rfl) ?_
 simp only [Tryz.results21, envOf, Nat.reduceAdd]
 refine tr_sR [1, 2] fun K hK => ?_
 iterate 3 refine evR_p ?_
 refine evR_z hK ?_; clear hK K
 refine tr_sR [1, 2, 6, 7] fun K hK => ?_
 iterate 2 refine evR_p ?_
 refine evR_z hK ?_; clear hK K
 refine tr_seq fun K3 hK3 => ?_
 refine tr_sR [2, 6, 7, 10, 11, 12] fun K hK => ?_
 iterate 3 refine evR_p ?_
 refine evR_z hK ?_; clear hK K
 refine tr_block ?_
 -- loop 1: live [2, 6, 7, 10, 11, 12]
 refine tr_loopW (fun m σ => ∃ (i : Nat) (o t : Int), i + m = l.length ∧ tbG p.rows.length l i = some (o, t) ∧ σ = ⟨[(2, .ptr 0 0), (6, .int .i64 o), (7, .int .i64 t), (10, .sl 1 (encI l)), (11, .int .i64 l.length), (12, .int .i64 (i : Nat))], [(0, .cells (encPg p))], 1⟩) (l.length) ?_ ?_
 ·
  exact ⟨_, Wk.refl _, 0, 0, -1, by omega, rfl, rfl⟩
 ·
  rintro m σ ⟨i, o, t, hi, htb, rfl⟩ KL1 hKL1
  refine tr_sR [2, 6, 7, 10, 11, 12, 13] fun K hK => ?_
  refine evR_p ?_
  refine evR_z hK ?_; clear hK K
  refine tr_seq fun K6 hK6 => ?_
  refine tr_condB (fun ht1 => ?_) (fun ht1 => ?_)
  ·
   skip
   all_goals
    have hil : i < l.length := by omega
    obtain ⟨hla, hlb⟩ := tbG_last htb
    replace hq := And.intro hq (hil)
    refine skipZ ?_
    refine hK6 _ ?_
    refine tr_seq fun K7 hK7 => ?_
    refine tr_block ?_
    refine tr_sR [2, 6, 7, 9, 10, 11, 12] fun K hK => ?_
    iterate 3 refine evR_p ?_
    refine evR_z hK ?_; clear hK K
    refine tr_seq fun K9 hK9 => ?_
    refine tr_sR [2, 6, 9, 10, 11, 12, 25] fun K hK => ?_
    iterate 4 refine evR_p ?_
    iterate 5 refine evR_g ?_
    refine evR_p ?_
    refine evR_z hK ?_; clear hK K
    refine tr_condB (fun ht2 => ?_) (fun ht2 => ?_)
    ·
     skip
     all_goals
      refine tr_sR [4, 5] fun K hK => ?_
      iterate 2 refine evR_p ?_
      refine evR_z hK ?_; clear hK K
      refine retZ ?_; try exact ⟨⟩
      all_goals (first | (rw [tbW, htb]; rfl) | (rw [tbW_none (k := i + 1) (by omega) (tbG_no htb (by omega))]; rfl))
    ·
     skip
     all_goals
      refine skipZ ?_
      refine hK9 _ ?_
      refine tr_region [2, 6, 7, 10, 11, 12] rfl rfl fun K hK => ?_
      iterate 7 refine evR_p ?_
      refine evR_e hK ?_; clear hK K
      refine hK7 _ ?_
      refine tr_region [2, 6, 7, 10, 11, 12] rfl rfl fun K hK => ?_
      iterate 2 refine evR_p ?_
      refine evR_e hK ?_; clear hK K
      refine hKL1 _ ?_
      exact ⟨m - 1, _, by omega, Wk.refl _, i + 1, _, _, by omega, tbG_yes htb (by omega) (by omega), by rw [w64 (x := (i : Int) + 1) (by omega)]; rfl⟩
  ·
   skip
   all_goals
    have hil : i = l.length := by omega
    subst hil
    refine tr_exit ?_
    simp only [thenE, inBlkE, Nat.reduceEqDiff, ↓reduceIte]
    refine hK3 _ ?_
    refine tr_sR [4, 5] fun K hK => ?_
    iterate 3 refine evR_p ?_
    refine evR_z hK ?_; clear hK K
    refine retZ ?_; try exact ⟨⟩
    all_goals (first | (rw [tbW, htb]; rfl) | (rw [tbW_none (k := i + 1) (by omega) (tbG_no htb (by omega))]; rfl))

attribute [local simp] cellsB_length tab1_length cloR_length clo_length tabW_length
section
attribute [local go_sem] cellsB_length cellsB_getD cellsB_sc cellsB_cl cellsB_dropD cellsB_spl Bool.and_eq_true
set_option maxHeartbeats 4000000 in
theorem kc40 (p : Pg) (hr : p.rows.length ≤ maxLen) (hg : p.gain.length ≤ maxLen) (hc : ∀ r ∈ p.rows, r.coef.length ≤ maxLen) (hv : validB p = true) (hn : p.rows.length ≤ 12) : CallsA Tryz.prog 39 [.agg (encPg p)] (.ep (cellsB (tabW p))) := by
 obtain ⟨v, hv1, hv2, hv3, hv4⟩ := vars_pow hv
 have hv5 : shlW .i64 1 p.vars = ((2 ^ v : Nat) : Int) := by rw [hv1]; exact hv3
 have hn5 : shlW .i64 1 (p.rows.length : Nat) = ((2 ^ p.rows.length : Nat) : Int) := shl_pow hn
 have hpn := pow_4096 hn
 have hpv : 2 ^ v ≤ 4096 := pow_4096 (by omega)
 have htl := tab1_length p
 have hq := And.intro hv5 (And.intro hn5 (And.intro htl (And.intro clo_length (cloR_length))))
 refine callsA_of_tr Tryz.func39 rfl (Nat.le_of_ble_eq_true rfl) ?_
 simp only [Tryz.results39, envOf, Nat.reduceAdd]
 refine tr_sR [1] fun K hK => ?_
 iterate 2 refine evR_p ?_
 refine evR_z hK ?_; clear hK K
 refine tr_sR [1, 3] fun K hK => ?_
 refine evR_p ?_
 refine evR_z hK ?_; clear hK K
 refine tr_seq fun K3 hK3 => ?_
 refine tr_sR [1, 3, 12, 13] fun K hK => ?_
 iterate 4 refine evR_p ?_
 refine evR_z hK ?_; clear hK K
 refine tr_block ?_
 -- loop 1: live [1, 3, 12, 13]
 refine tr_loopW (fun m σ => ∃ i : Nat, i + m = 2 ^ v ∧ σ = ⟨[(1, .ptr 0 0), (3, .ptr 1 0), (12, .int .i64 ((2 ^ v : Nat) : Int)), (13, .int .i64 (i : Nat))], [(1, .cells (cellsB (tab1 p i))), (0, .cells (encPg p))], 2⟩) (2 ^ v) ?_ ?_
 ·
  exact ⟨_, Wk.refl _, 0, by omega, by rw [tab1, cellsB_rep]; rfl⟩
 ·
  rintro m σ ⟨i, hi, rfl⟩ KL1 hKL1
  refine tr_sR [1, 3, 12, 13, 14] fun K hK => ?_
  refine evR_p ?_
  refine evR_z hK ?_; clear hK K
  refine tr_seq fun K6 hK6 => ?_
  refine tr_condB (fun ht1 => ?_) (fun ht1 => ?_)
  ·
   skip
   (first | (exfalso; omega) | skip)
   all_goals
    have hil : i < 2 ^ v := by omega
    have hbn := broken_nn p (i : Nat)
    have hbl := brk_len p (i : Nat)
    have hst := setTo_lt hbn
    replace hq := And.intro hq (hil)
    refine skipZ ?_
    refine hK6 _ ?_
    refine tr_seq fun K7 hK7 => ?_
    refine tr_block ?_
    refine tr_sR [1, 3, 4, 12, 13] fun K hK => ?_
    iterate 2 refine evR_p ?_
    refine evR_z hK ?_; clear hK K
    refine tr_sR [1, 3, 4, 5, 12, 13] fun K hK => ?_
    refine evR_p ?_
    refine evR_z hK ?_; clear hK K
    refine tr_seq fun K10 hK10 => ?_
    refine tr_sR [1, 3, 5, 12, 13, 18, 19, 20] fun K hK => ?_
    iterate 2 refine evR_p ?_
    refine evR_c (hc := (c26 p hr hg hc (i : Nat))) (k := ?_)
    iterate 2 refine evR_p ?_
    refine evR_z hK ?_; clear hK K
    refine tr_block ?_
    -- loop 2: live [1, 3, 5, 12, 13, 18, 19, 20]
    refine tr_loopW (fun m σ => ∃ k : Nat, k + m = (brokenW p i).length ∧ σ = ⟨[(1, .ptr 0 0), (3, .ptr 1 0), (5, .int .i64 (setTo (brokenW p i) k : Nat)), (12, .int .i64 ((2 ^ v : Nat) : Int)), (13, .int .i64 (i : Nat)), (18, .sl 1 (encI (brokenW p i))), (19, .int .i64 (brokenW p i).length), (20, .int .i64 (k : Nat))], [(1, .cells (cellsB (tab1 p i))), (0, .cells (encPg p))], 2⟩) ((brokenW p i).length) ?_ ?_
    ·
     exact ⟨_, Wk.refl _, 0, by omega, rfl⟩
    ·
     rintro m2 σ ⟨k, hk, rfl⟩ KL2 hKL2
     refine tr_sR [1, 3, 5, 12, 13, 18, 19, 20, 21] fun K hK => ?_
     refine evR_p ?_
     refine evR_z hK ?_; clear hK K
     refine tr_seq fun K13 hK13 => ?_
     refine tr_condB (fun ht2 => ?_) (fun ht2 => ?_)
     ·
      skip
      (first | (exfalso; omega) | skip)
      all_goals
       have hkl : k < (brokenW p i).length := by omega
       have hm := hbn _ (getD_mem (d := 0) hkl)
       have hor := or_step (Nat.lt_of_lt_of_le (hst k) hpn) hm.1 (by omega)
       replace hq := And.intro hq (And.intro hkl (hor))
       refine skipZ ?_
       refine hK13 _ ?_
       refine tr_seq fun K14 hK14 => ?_
       refine tr_block ?_
       refine tr_sR [1, 3, 5, 7, 12, 13, 18, 19, 20] fun K hK => ?_
       iterate 3 refine evR_p ?_
       refine evR_z hK ?_; clear hK K
       refine tr_region [1, 3, 5, 12, 13, 18, 19, 20] rfl rfl fun K hK => ?_
       iterate 5 refine evR_p ?_
       refine evR_e hK ?_; clear hK K
       refine hK14 _ ?_
       refine tr_region [1, 3, 5, 12, 13, 18, 19, 20] rfl rfl fun K hK => ?_
       iterate 2 refine evR_p ?_
       refine evR_e hK ?_; clear hK K
       refine hKL2 _ ?_
       exact ⟨m2 - 1, _, by omega, Wk.refl _, k + 1, by omega, by rw [w64 (x := (k : Int) + 1) (by omega), setTo_succ hkl]; rfl⟩
     ·
      skip
      (first | (exfalso; omega) | skip)
      all_goals
       have hkl : k = (brokenW p i).length := by omega
       subst hkl
       rw [setTo_all]
       have hs4 : setN (brokenW p i) < 4096 := Nat.lt_of_lt_of_le (setN_lt hbn) hpn
       refine tr_exit ?_
       simp only [thenE, inBlkE, Nat.reduceEqDiff, ↓reduceIte]
       refine hK10 _ ?_
       refine tr_region [1, 3, 12, 13] rfl rfl fun K hK => ?_
       iterate 3 refine evR_p ?_
       refine evR_e hK ?_; clear hK K
       refine hK7 _ ?_
       refine tr_region [1, 3, 12, 13] rfl rfl fun K hK => ?_
       iterate 2 refine evR_p ?_
       refine evR_e hK ?_; clear hK K
       refine hKL1 _ ?_
       exact ⟨m - 1, _, by omega, Wk.refl _, i + 1, by omega, by rw [w64 (x := (i : Int) + 1) (by omega)]; rfl⟩
  ·
   skip
   (first | (exfalso; omega) | skip)
   all_goals
    have hil : i = 2 ^ v := by omega
    subst hil
    refine tr_exit ?_
    simp only [thenE, inBlkE, Nat.reduceEqDiff, ↓reduceIte]
    refine hK3 _ ?_
    refine tr_seq fun K16 hK16 => ?_
    refine tr_sR [1, 3, 34, 35] fun K hK => ?_
    iterate 4 refine evR_p ?_
    refine evR_z hK ?_; clear hK K
    refine tr_block ?_
    -- loop 3: live [1, 3, 34, 35]
    refine tr_loopW (fun m σ => ∃ r : Nat, r + m = p.rows.length ∧ σ = ⟨[(1, .ptr 0 0), (3, .ptr 1 0), (34, .int .i64 (p.rows.length : Nat)), (35, .int .i64 (r : Nat))], [(1, .cells (cellsB (cloR (tab1 p (2 ^ v)) p.rows.length r))), (0, .cells (encPg p))], 2⟩) (p.rows.length) ?_ ?_
    ·
     exact ⟨_, Wk.refl _, 0, by omega, rfl⟩
    ·
     rintro m3 σ ⟨r, hr2, rfl⟩ KL3 hKL3
     refine tr_sR [1, 3, 34, 35, 36] fun K hK => ?_
     refine evR_p ?_
     refine evR_z hK ?_; clear hK K
     refine tr_seq fun K19 hK19 => ?_
     refine tr_condB (fun ht3 => ?_) (fun ht3 => ?_)
     ·
      skip
      (first | (exfalso; omega) | skip)
      all_goals
       have hrl : r < p.rows.length := by omega
       replace hq := And.intro hq (hrl)
       refine skipZ ?_
       refine hK19 _ ?_
       refine tr_seq fun K20 hK20 => ?_
       refine tr_block ?_
       refine tr_sR [1, 3, 8, 34, 35] fun K hK => ?_
       iterate 2 refine evR_p ?_
       refine evR_z hK ?_; clear hK K
       refine tr_sR [1, 3, 8, 34, 35, 41, 42] fun K hK => ?_
       iterate 5 refine evR_p ?_
       refine evR_z hK ?_; clear hK K
       refine tr_block ?_
       -- loop 4: live [1, 3, 8, 34, 35, 41, 42]
       refine tr_loopW (fun m σ => ∃ s : Nat, s + m = 2 ^ p.rows.length ∧ σ = ⟨[(1, .ptr 0 0), (3, .ptr 1 0), (8, .int .i64 (r : Nat)), (34, .int .i64 (p.rows.length : Nat)), (35, .int .i64 (r : Nat)), (41, .int .i64 ((2 ^ p.rows.length : Nat) : Int)), (42, .int .i64 (s : Nat))], [(1, .cells (cellsB (clo (cloR (tab1 p (2 ^ v)) p.rows.length r) r s))), (0, .cells (encPg p))], 2⟩) (2 ^ p.rows.length) ?_ ?_
       ·
        exact ⟨_, Wk.refl _, 0, by omega, rfl⟩
       ·
        rintro m4 σ ⟨s, hs, rfl⟩ KL4 hKL4
        refine tr_sR [1, 3, 8, 34, 35, 41, 42, 43] fun K hK => ?_
        refine evR_p ?_
        refine evR_z hK ?_; clear hK K
        refine tr_seq fun K24 hK24 => ?_
        refine tr_condB (fun ht4 => ?_) (fun ht4 => ?_)
        ·
         skip
         (first | (exfalso; omega) | skip)
         all_goals
          have hsl : s < 2 ^ p.rows.length := by omega
          obtain ⟨hb1, hb2⟩ := nb_spec (s := s) (r := r) (by omega) (by omega)
          have hcl := clrN_le s r
          replace hq := And.intro hq (And.intro hsl (And.intro hb1 (hb2)))
          refine skipZ ?_
          refine hK24 _ ?_
          refine tr_seq fun K25 hK25 => ?_
          refine tr_block ?_
          refine tr_sR [1, 3, 8, 9, 34, 35, 41, 42] fun K hK => ?_
          iterate 2 refine evR_p ?_
          refine evR_z hK ?_; clear hK K
          refine tr_region [1, 3, 8, 34, 35, 41, 42] rfl rfl fun K hK => ?_
          iterate 5 refine evR_p ?_
          iterate 13 refine evR_g ?_
          iterate 3 refine evR_p ?_
          refine evR_e hK ?_; clear hK K
          refine hK25 _ ?_
          refine tr_region [1, 3, 8, 34, 35, 41, 42] rfl rfl fun K hK => ?_
          iterate 2 refine evR_p ?_
          refine evR_e hK ?_; clear hK K
          refine hKL4 _ ?_
          exact ⟨m4 - 1, _, by omega, Wk.refl _, s + 1, by omega, by (rw [w64 (x := (s : Int) + 1) (by omega), clo_step] <;> first | rfl | (cases hb : s.testBit r <;> simp))⟩
        ·
         skip
         (first | (exfalso; omega) | skip)
         all_goals
          have hsl : s = 2 ^ p.rows.length := by omega
          subst hsl
          refine tr_exit ?_
          simp only [thenE, inBlkE, Nat.reduceEqDiff, ↓reduceIte]
          refine hK20 _ ?_
          refine tr_region [1, 3, 34, 35] rfl rfl fun K hK => ?_
          iterate 2 refine evR_p ?_
          refine evR_e hK ?_; clear hK K
          refine hKL3 _ ?_
          exact ⟨m3 - 1, _, by omega, Wk.refl _, r + 1, by omega, by rw [w64 (x := (r : Int) + 1) (by omega)]; rfl⟩
     ·
      skip
      (first | (exfalso; omega) | skip)
      all_goals
       have hrl : r = p.rows.length := by omega
       refine tr_exit ?_
       simp only [thenE, inBlkE, Nat.reduceEqDiff, ↓reduceIte]
       refine hK16 _ ?_
       refine tr_seq fun K27 hK27 => ?_
       refine tr_fz [.ptr 1 0] (by simp (maxSteps := 4000000) (disch := first | assumption | omega | (simp only [go_sem, *]; done) | (simp only [go_sem, *]; omega)) only [go_sem, hq, Int.reduceToNat, Nat.reduceBEq, Nat.reduceEqDiff, Nat.reduceAdd, Nat.reduceMul, Nat.reduceLeDiff, Nat.reduceLT, Nat.reduceSub, ↓reduceIte, reduceCtorEq]; (try rfl)) ?_
       refine tr_region [2] rfl rfl fun K hK => ?_
       refine evR_p ?_
       refine evR_e hK ?_; clear hK K
       refine hK27 _ ?_
       refine retZ ?_; try exact ⟨⟩
       all_goals ((subst hrl; simp only [tabW, vars_nat hv1]))
end

section
attribute [local go_sem] cellsB_length cellsB_getD cellsB_dropD
theorem kc59 (p : Pg) (hn : p.rows.length ≤ 12) (s : Nat) (hs : s < 2 ^ p.rows.length) : CallsA Tryz.prog 41 [.int .i64 (s : Nat), .ep [.ep (cellsB (tabW p))], .ep [.int .i64 ((2 ^ p.rows.length - 1 : Nat) : Int)]] (.bool (confS p s)) := by
 have hpn := pow_4096 hn
 have htl := tabW_length p
 have han := compl_and hn hs
 have hq := And.intro htl (han)
 refine callsA_of_tr Tryz.func41 rfl (Nat.le_of_ble_eq_true rfl) ?_
 simp only [Tryz.results41, envOf, Nat.reduceAdd]
 refine tr_sR [0, 1, 2] fun K hK => ?_
 refine evR_p ?_
 refine evR_z hK ?_; clear hK K
 refine tr_sD [] [4] fun K hK => ?_
 iterate 9 refine evD_p ?_
 refine evD_z hK ?_; clear hK K
 refine retZ ?_; try exact ⟨⟩
 all_goals (rfl)
end

section
attribute [local go_sem] cellsB_length cellsB_getD cellsB_dropD
theorem kc41 (p : Pg) (hn : p.rows.length ≤ 12) (s : Nat) (hs : s < 2 ^ p.rows.length) : CallsA Tryz.prog 40 [.int .i64 (s : Nat), .ep [.ep (cellsB (tabW p))]] (.bool (repS p s)) := by
 have hpn := pow_4096 hn
 have htl := tabW_length p
 have hq := htl
 refine callsA_of_tr Tryz.func40 rfl (Nat.le_of_ble_eq_true rfl) ?_
 simp only [Tryz.results40, envOf, Nat.reduceAdd]
 refine tr_sR [0, 1] fun K hK => ?_
 refine evR_p ?_
 refine evR_z hK ?_; clear hK K
 refine tr_sR [3] fun K hK => ?_
 iterate 6 refine evR_p ?_
 refine evR_z hK ?_; clear hK K
 refine retZ ?_; try exact ⟨⟩
 all_goals (rfl)
end

theorem kc35 (p : Pg) (hr : p.rows.length ≤ maxLen) (hg : p.gain.length ≤ maxLen) (hc : ∀ r ∈ p.rows, r.coef.length ≤ maxLen) (hv : validB p = true) (hn : p.rows.length ≤ 12) : CallsA Tryz.prog 23 [.agg (encPg p)] (.fn 41 [.ep [.ep (cellsB (tabW p))], .ep [.int .i64 ((2 ^ p.rows.length - 1 : Nat) : Int)]]) := by
 have hpn := pow_4096 hn
 have hn5 : shlW .i64 1 (p.rows.length : Nat) = ((2 ^ p.rows.length : Nat) : Int) := shl_pow hn
 have hpp := Nat.two_pow_pos p.rows.length
 have hw : IntKind.i64.wrap (((2 ^ p.rows.length : Nat) : Int) - 1) = ((2 ^ p.rows.length - 1 : Nat) : Int) := by rw [w64 (by omega)]; omega
 have hq := And.intro hn5 (hw)
 refine callsA_of_tr Tryz.func23 rfl (Nat.le_of_ble_eq_true rfl) ?_
 simp only [Tryz.results23, envOf, Nat.reduceAdd]
 refine tr_sR [1] fun K hK => ?_
 iterate 2 refine evR_p ?_
 refine evR_z hK ?_; clear hK K
 refine tr_sR [1, 3] fun K hK => ?_
 refine evR_p ?_
 refine evR_c (hc := (kc40 p hr hg hc hv hn)) (k := ?_)
 iterate 2 refine evR_p ?_
 refine evR_z hK ?_; clear hK K
 refine tr_sR [3, 4] fun K hK => ?_
 iterate 7 refine evR_p ?_
 refine evR_z hK ?_; clear hK K
 refine tr_seq fun K4 hK4 => ?_
 refine tr_fz [.ptr 1 0, .ptr 2 0] (by simp (maxSteps := 4000000) (disch := first | assumption | omega | (simp only [go_sem, *]; done) | (simp only [go_sem, *]; omega)) only [go_sem, hq, Int.reduceToNat, Nat.reduceBEq, Nat.reduceEqDiff, Nat.reduceAdd, Nat.reduceMul, Nat.reduceLeDiff, Nat.reduceLT, Nat.reduceSub, ↓reduceIte, reduceCtorEq]; (try rfl)) ?_
 refine tr_region [2] rfl rfl fun K hK => ?_
 iterate 2 refine evR_p ?_
 refine evR_e hK ?_; clear hK K
 refine hK4 _ ?_
 refine retZ ?_; try exact ⟨⟩
 all_goals (rfl)

theorem kc34 (n : Int) (g : FuncId) (caps : List V) (hcl : V.clL caps = true) : CallsA Tryz.prog 26 [.int .i64 n, .fn g caps] (.fn 46 [.ep [.int .i64 n], .ep [.fn g caps]]) := by
 have hfz := fun id o => V.fzL_cl id o caps hcl
 have hq := And.intro hcl (hfz)
 refine callsA_of_tr Tryz.func26 rfl (Nat.le_of_ble_eq_true rfl) ?_
 simp only [Tryz.results26, envOf, Nat.reduceAdd]
 refine tr_sR [2, 3] fun K hK => ?_
 iterate 3 refine evR_p ?_
 refine evR_z hK ?_; clear hK K
 refine tr_seq fun K2 hK2 => ?_
 refine tr_fz [.ptr 0 0, .ptr 1 0] (by simp (maxSteps := 4000000) (disch := first | assumption | omega | (simp only [go_sem, *]; done) | (simp only [go_sem, *]; omega)) only [go_sem, hq, Int.reduceToNat, Nat.reduceBEq, Nat.reduceEqDiff, Nat.reduceAdd, Nat.reduceMul, Nat.reduceLeDiff, Nat.reduceLT, Nat.reduceSub, ↓reduceIte, reduceCtorEq]; (try rfl)) ?_
 refine tr_region [4] rfl rfl fun K hK => ?_
 iterate 2 refine evR_p ?_
 refine evR_e hK ?_; clear hK K
 refine hK2 _ ?_
 refine retZ ?_; try exact ⟨⟩
 all_goals (rfl)

theorem kc58 (n : Nat) (hn : n ≤ 12) (g : FuncId) (caps : List V) (q : Nat → Bool) (hok : okF Tryz.prog g = true) (hcl : V.clL caps = true) (hq1 : ∀ s : Nat, s < 2 ^ n → CallsA Tryz.prog g (.int .i64 (s : Nat) :: caps) (.bool (q s))) : SeqA Tryz.prog evS 46 [.ep [.int .i64 (n : Nat)], .ep [.fn g caps]] (fun xs => xs = setsT q (2 ^ n)) 4096 := by
 have hpn := pow_4096 hn
 have hn5 := shl_pow hn
 have hq := And.intro hn5 (And.intro hcl (hok))
 refine seqA_of_tr Tryz.func46 rfl (by rw [Tryz.results46]) enok_S (Nat.le_of_ble_eq_true rfl) (Nat.le_of_ble_eq_true rfl) fun l ys C hys hCY => ?_
 obtain ⟨y0, y1, rfl⟩ : ∃ y0 y1, ys = [y0, y1] := by match ys, hys with | [y0, y1], _ => exact ⟨y0, y1, rfl⟩
 simp only [List.zipWith_cons_cons, List.zipWith_nil_left, List.zip_cons_cons, List.zip_nil_left, envOf, List.cons_append, List.nil_append, Nat.reduceAdd] at hCY ⊢
 refine tr_sR [0, 2, 6, 7, 1000000, 1000001] fun K hK => ?_
 iterate 3 refine evR_p ?_
 refine evR_z hK ?_; clear hK K
 refine tr_block ?_
 -- loop 1: live [0, 2, 6, 7]
 refine tr_loopW (fun m σ => ∃ i : Nat, i + m = 2 ^ n ∧ σ = ⟨[(0, .yl l), (2, .eq y1 (.ep [.fn g caps])), (6, .int .i64 ((2 ^ n : Nat) : Int)), (7, .int .i64 (i : Nat)), (1000000, .tup ((setsT q i).map enS)), (1000001, .bool false)], [], 0⟩) (2 ^ n) ?_ ?_
 ·
  exact ⟨_, Wk.refl _, 0, by omega, rfl⟩
 ·
  rintro m σ ⟨i, hi, rfl⟩ KL1 hKL1
  refine tr_sR [0, 2, 6, 7, 8, 1000000, 1000001] fun K hK => ?_
  refine evR_p ?_
  refine evR_z hK ?_; clear hK K
  refine tr_seq fun K3 hK3 => ?_
  refine tr_condB (fun ht1 => ?_) (fun ht1 => ?_)
  ·
   skip
   (first | (exfalso; simp_all; done) | skip)
   all_goals
    have hil : i < 2 ^ n := by omega
    have hi4 : i < 4096 := by omega
    have hcl2 := setsT_length q i
    replace hq := And.intro hq (hil)
    refine skipZ ?_
    refine hK3 _ ?_
    refine tr_seq fun K4 hK4 => ?_
    refine tr_block ?_
    refine tr_sR [0, 2, 4, 6, 7, 1000000, 1000001] fun K hK => ?_
    iterate 2 refine evR_p ?_
    refine evR_z hK ?_; clear hK K
    refine tr_sR [0, 2, 6, 7, 18, 1000000, 1000001] fun K hK => ?_
    iterate 2 refine evR_p ?_
    refine evR_c (hc := (hq1 i hil)) (k := ?_)
    refine evR_p ?_
    iterate 2 refine evR_g ?_
    refine evR_stepY rfl rfl fun Kq hKq => ⟨fun hyt => hCY _ _ _ ?_, fun hyt => ⟨.bool false, hKq _ ?_⟩⟩
    (try simp only [decide_eq_true_eq, decide_eq_false_iff_not, Bool.not_eq_true', Bool.not_eq_false', Bool.and_eq_true, Bool.or_eq_true, Bool.and_eq_false_iff, Bool.or_eq_false_iff, beq_true, beq_false] at hyt)
    simp (maxSteps := 4000000) (disch := first | assumption | omega | (simp only [go_sem, *]; done) | (simp only [go_sem, *]; omega)) only [YI, go_sem, hq, Int.reduceToNat, Nat.reduceBEq, Nat.reduceEqDiff, Nat.reduceAdd, Nat.reduceMul, Nat.reduceLeDiff, Nat.reduceLT, Nat.reduceSub, ↓reduceIte, reduceCtorEq]
    (repeat (refine And.intro (by first | assumption | omega | decide | (simp; done) | (simp; omega) | (have hq := hvv hgt; omega) | (have hq := hvv hgt.1; omega) | (simp_all; done)) ?_))
    refine ⟨⟨i, hi4⟩, setsT q i, [2], ?_⟩
    (repeat (refine And.intro (by first | rfl | exact (show (setsT q i).length < 4096 by omega) | (intro t ht; rw [List.mem_singleton] at ht; subst ht; exact ⟨_, List.mem_singleton.2 rfl, rfl⟩) | (intro t ht; rw [List.mem_singleton] at ht; subst ht; exact ⟨_, List.mem_cons_of_mem _ (List.mem_singleton.2 rfl), rfl⟩)) ?_))
    refine ⟨hKq _ ?_, hKq _ ?_⟩
    all_goals try simp only [goY, stY, keepE, simE, V.simpl, V.simp, List.cons_append, List.nil_append, St.put, St.slot, List.lookup, Option.getD_some, Nat.reduceBEq]
    all_goals (try clear hKq Kq)
    all_goals (try simp only [decide_eq_true_eq, decide_eq_false_iff_not, Bool.not_eq_true', Bool.not_eq_false', Bool.and_eq_true, Bool.or_eq_true, Bool.and_eq_false_iff, Bool.or_eq_false_iff, beq_true, beq_false] at hyt)
    all_goals
     refine evR_g ?_
     refine evR_p ?_
     refine evR_z hK ?_; clear hK K
     refine tr_condB (fun ht2 => ?_) (fun ht2 => ?_)
     ·
      skip
      (first | (exfalso; simp_all; done) | skip)
      all_goals
       refine tr_ret ?_
       (try simp only [thenE, inBlkE])
       simp (maxSteps := 4000000) (disch := first | assumption | omega | (simp only [go_sem, *]; done) | (simp only [go_sem, *]; omega)) only [postI, go_sem, hq, Int.reduceToNat, Nat.reduceBEq, Nat.reduceEqDiff, Nat.reduceAdd, Nat.reduceMul, Nat.reduceLeDiff, Nat.reduceLT, Nat.reduceSub, ↓reduceIte, reduceCtorEq]
       all_goals (first | exact Or.inl trivial | exact Or.inl rfl | exact Or.inr ⟨_, rfl, rfl⟩)
     ·
      skip
      (first | (exfalso; simp_all; done) | skip)
      all_goals
       refine skipZ ?_
       refine hK4 _ ?_
       refine tr_region [0, 2, 6, 7, 1000000, 1000001] rfl rfl fun K hK => ?_
       iterate 2 refine evR_p ?_
       refine evR_e hK ?_; clear hK K
       refine hKL1 _ ?_
       first
        | exact ⟨m - 1, _, by omega, Wk.cut 0 (by simp only [St.cutOK, List.all_cons, List.all_nil, V.upto, enS_uptoL, Bool.and_self, List.filter_nil]), i + 1, by omega, by rw [w64 (x := (i : Int) + 1) (by omega), setsT_t hi4 hyt]; rfl⟩
        | exact ⟨m - 1, _, by omega, Wk.cut 0 (by simp only [St.cutOK, List.all_cons, List.all_nil, V.upto, enS_uptoL, Bool.and_self, List.filter_nil]), i + 1, by omega, by rw [w64 (x := (i : Int) + 1) (by omega), setsT_f hyt]; rfl⟩
  ·
   skip
   (first | (exfalso; simp_all; done) | skip)
   all_goals
    have hil : i = 2 ^ n := by omega
    subst hil
    refine tr_exit ?_
    simp only [thenE, inBlkE, Nat.reduceEqDiff, ↓reduceIte]
    simp (maxSteps := 4000000) (disch := first | assumption | omega | (simp only [go_sem, *]; done) | (simp only [go_sem, *]; omega)) only [postI, go_sem, hq, Int.reduceToNat, Nat.reduceBEq, Nat.reduceEqDiff, Nat.reduceAdd, Nat.reduceMul, Nat.reduceLeDiff, Nat.reduceLT, Nat.reduceSub, ↓reduceIte, reduceCtorEq]
    all_goals (first | exact Or.inl trivial | exact Or.inl rfl | exact Or.inr ⟨_, rfl, rfl⟩)

set_option maxHeartbeats 4000000 in
theorem kc33 (f : FuncId) (caps : List V) (xs : List (Fin 4096)) (hit : SeqA Tryz.prog evS f caps (fun ys => ys = xs) 4096) (hcl : V.clL caps = true) (hok : okF Tryz.prog f = true) : CallsA Tryz.prog 25 [.fn f caps] (.sl 1 (encI (rowsN (lstW xs).1))) := by
 have hq := hcl
 refine callsA_of_trL Tryz.func25 rfl (Nat.le_of_ble_eq_true rfl) ?_
 simp only [Tryz.results25, envOf, Nat.reduceAdd]
 refine tr_sR [0] fun K hK => ?_
 refine evR_p ?_
 refine evR_z hK ?_; clear hK K
 refine tr_sR [0, 3, 4] fun K hK => ?_
 iterate 4 refine evR_p ?_
 refine evR_z hK ?_; clear hK K
 refine tr_sR [0, 3, 4, 5] fun K hK => ?_
 iterate 2 refine evR_p ?_
 refine evR_z hK ?_; clear hK K
 refine tr_seq fun K4 hK4 => ?_
 refine tr_sR [3, 4, 5, 8] fun K hK => ?_
 refine evR_p ?_
 refine evR_z hK ?_; clear hK K
 refine tr_block ?_
 -- loop over a function 1: live [3, 4, 5]
 refine tr_rangeFunc (en := enS) hit enok_S.rel rfl hcl hok rfl (fun pre σ => σ = ⟨[(3, .ptr 0 0), (4, .ptr 1 0), (5, .ptr 2 0)], [(2, .cells [.fn 43 []]), (1, .cells [.bool (lstW pre).2]), (0, .cells [.int .i64 ((lstW pre).1 : Nat)])], 3⟩) [3, 4, 5] ?_ ?_ ?_
 ·
  rfl
 ·
  rintro pre x σ rfl hpre KL1 hKL1 KA1 hKA1
  simp only [St.rd, List.filter_cons, List.filter_nil, List.map_cons, List.map_nil, Nat.blt_eq, Nat.reduceLT, ↓reduceIte, List.cons_append, List.nil_append, Nat.reduceAdd]
  obtain ⟨n, hn1⟩ := x
  have hn2 := lstW_lt pre
  have hu1 := u16_small hn1
  have hu2 := u16_small hn2
  simp only [enS]
  replace hq := And.intro hq (And.intro hu1 (hu2))
  refine tr_region [3, 4, 5, 6, 2000003, 2000004, 2000005] rfl rfl fun K hK => ?_
  refine evR_p ?_
  refine evR_e hK ?_; clear hK K
  refine hKA1 _ ?_
  refine tr_block ?_
  refine tr_sD [] [3, 4, 5, 6, 7, 2000003, 2000004, 2000005] fun K hK => ?_
  iterate 2 refine evD_p ?_
  refine evD_c (hc := (kc57 n hn1)) (k := ?_)
  iterate 2 refine evD_p ?_
  refine evD_c (hc := (kc57 (lstW pre).1 hn2)) (k := ?_)
  iterate 2 refine evD_p ?_
  refine evD_z hK ?_; clear hK K
  refine tr_sD [] [3, 4, 6, 39, 2000003, 2000004, 2000005] fun K hK => ?_
  iterate 3 refine evD_p ?_
  iterate 2 refine evD_g ?_
  refine evD_gc (hc := (kc55 n hn1)) (k := ?_)
  iterate 2 refine evD_g ?_
  refine evD_gc (hc := (kc55 (lstW pre).1 hn2)) (k := ?_)
  refine evD_g ?_
  iterate 2 refine evD_p ?_
  iterate 2 refine evD_g ?_
  refine evD_gc (hc := (kc55 n hn1)) (k := ?_)
  iterate 2 refine evD_g ?_
  refine evD_gc (hc := (kc55 (lstW pre).1 hn2)) (k := ?_)
  iterate 4 refine evD_g ?_
  refine evD_p ?_
  refine evD_z hK ?_; clear hK K
  refine tr_condB (fun ht1 => ?_) (fun ht1 => ?_)
  ·
   skip
   refine tr_region [2000003, 2000004, 2000005] rfl rfl fun K hK => ?_
   iterate 3 refine evR_p ?_
   refine evR_e hK ?_; clear hK K
   refine hKL1 _ ?_
   simp only [St.bk, List.filterMap_cons, List.filterMap_nil, Nat.ble_eq, Nat.reduceLeDiff, ↓reduceIte, Nat.reduceSub]
   first
    | exact ⟨_, Wk.refl _, by rw [lstW_snoc, lstS_t (lstB_t (by assumption))]; first | done | rfl⟩
    | exact ⟨_, Wk.refl _, by rw [lstW_snoc, lstS_f (lstB_f (by assumption))]; first | done | rfl⟩
  ·
   skip
   refine skipZ ?_
   refine hKL1 _ ?_
   simp only [St.bk, List.filterMap_cons, List.filterMap_nil, Nat.ble_eq, Nat.reduceLeDiff, ↓reduceIte, Nat.reduceSub]
   first
    | exact ⟨_, Wk.refl _, by rw [lstW_snoc, lstS_t (lstB_t (by assumption))]; first | done | rfl⟩
    | exact ⟨_, Wk.refl _, by rw [lstW_snoc, lstS_f (lstB_f (by assumption))]; first | done | rfl⟩
 ·
  rintro pre σ hS rfl
  subst hS
  have hn3 := lstW_lt pre
  refine hK4 _ ?_
  refine tr_sR [2] fun K hK => ?_
  refine evR_p ?_
  refine evR_c (hc := (kc43 _ hn3)) (k := ?_)
  refine evR_p ?_
  refine evR_z hK ?_; clear hK K
  refine retZ ?_; try exact ⟨⟩
  all_goals (exact .refl _)

end Go.Proofs.YtfamkbofdamkkaaGreatDoor
namespace Go.Proofs.YtfamkbofdamkkaaGreatDoor
open Go.RowKit
set_option linter.unusedVariables false
set_option linter.unusedSimpArgs false
set_option maxRecDepth 100000
attribute [local go_sem] Nat.zero_add Nat.add_zero Nat.mul_one eq_self ne_eq not_true_eq_false not_false_eq_true decide_true decide_false decide_not Bool.false_eq_true List.filter_cons List.filter_nil true_and and_true beq_false beq_true Bool.not_true Bool.not_false Bool.and_true Bool.true_and Option.getD_some Option.getD_none imp_self implies_true Int.toNat_natCast List.cons_append List.nil_append List.map_cons List.map_nil List.length_cons List.length_nil List.getD_cons_zero List.getD_cons_succ List.drop_zero List.drop_succ_cons List.take_succ_cons List.take_zero
attribute [local go_sem] Option.isNone_none Option.isNone_some Option.isSome_none Option.isSome_some List.lookup Option.isSome_some Option.isSome_none Bool.or_true Bool.true_or Bool.or_false Bool.false_or false_and and_false false_or or_false

attribute [local go_sem] List.getElem?_cons_zero List.getElem?_cons_succ List.zip_cons_cons List.zip_nil_left List.zip_nil_right Bool.false_and Bool.and_false List.length_append List.length_set List.length_replicate List.all_cons List.all_nil encR_length encR_getD encRw encPg forall_const imp_self
attribute [local simp] encI_length encR_length cellsI_length
theorem kc12 (p : Pg) (hr : p.rows.length ≤ maxLen) (hg : p.gain.length ≤ maxLen) (hc : ∀ r ∈ p.rows, r.coef.length ≤ maxLen) (hs : smallB p = true) : CallsA Tryz.prog 9 [.agg (encPg p)] (.tup [.sl 1 (encI (coreL p)), .int .i64 0]) := by
 obtain ⟨hn, hv⟩ := smallB_spec hs
 have hq := hs
 refine callsA_of_tr Tryz.func9 rfl (Nat.le_of_ble_eq_true rfl) ?_
 simp only [Tryz.results9, envOf, Nat.reduceAdd]
 refine tr_sR [1] fun K hK => ?_
 iterate 3 refine evR_p ?_
 refine evR_z hK ?_; clear hK K
 refine tr_seq fun K2 hK2 => ?_
 refine tr_sR [1, 6] fun K hK => ?_
 refine evR_p ?_
 refine evR_c (hc := (kc32 p hr hg hc)) (k := ?_)
 refine evR_p ?_
 refine evR_z hK ?_; clear hK K
 refine tr_condB (fun ht1 => ?_) (fun ht1 => ?_)
 ·
  skip
  (first | (exfalso; simp_all; done) | skip)
  all_goals
   refine tr_sR [2, 3] fun K hK => ?_
   iterate 2 refine evR_p ?_
   refine evR_z hK ?_; clear hK K
   refine retZ ?_; try exact ⟨⟩
   all_goals (rfl)
 ·
  skip
  (first | (exfalso; simp_all; done) | skip)
  all_goals
   refine skipZ ?_
   refine hK2 _ ?_
   refine tr_sD [] [2, 3] fun K hK => ?_
   iterate 4 refine evD_p ?_
   refine evD_c (hc := (kc35 p hr hg hc hv hn)) (k := ?_)
   refine evD_c (hc := (kc34 _ 41 [.ep [.ep (cellsB (tabW p))], .ep [.int .i64 ((2 ^ p.rows.length - 1 : Nat) : Int)]] rfl)) (k := ?_)
   refine evD_c (hc := (kc33 46 [.ep [.int .i64 (p.rows.length : Nat)], .ep [.fn 41 [.ep [.ep (cellsB (tabW p))], .ep [.int .i64 ((2 ^ p.rows.length - 1 : Nat) : Int)]]]] (setsT (confS p) (2 ^ p.rows.length)) (kc58 p.rows.length hn 41 [.ep [.ep (cellsB (tabW p))], .ep [.int .i64 ((2 ^ p.rows.length - 1 : Nat) : Int)]] (confS p) okF_41 rfl (fun s hs => kc59 p hn s hs)) rfl okF_46)) (k := ?_)
   iterate 2 refine evD_p ?_
   refine evD_z hK ?_; clear hK K
   refine retZ ?_; try exact ⟨⟩
   all_goals (rfl)

theorem kc12n (p : Pg) (hr : p.rows.length ≤ maxLen) (hg : p.gain.length ≤ maxLen) (hc : ∀ r ∈ p.rows, r.coef.length ≤ maxLen) (hs : smallB p = false) : CallsA Tryz.prog 9 [.agg (encPg p)] (.tup [.nsl, .int .i64 270]) := by
 have hq := hs
 refine callsA_of_tr Tryz.func9 rfl (Nat.le_of_ble_eq_true rfl) ?_
 simp only [Tryz.results9, envOf, Nat.reduceAdd]
 refine tr_sR [1] fun K hK => ?_
 iterate 3 refine evR_p ?_
 refine evR_z hK ?_; clear hK K
 refine tr_seq fun K2 hK2 => ?_
 refine tr_sR [1, 6] fun K hK => ?_
 refine evR_p ?_
 refine evR_c (hc := (kc32 p hr hg hc)) (k := ?_)
 refine evR_p ?_
 refine evR_z hK ?_; clear hK K
 refine tr_condB (fun ht1 => ?_) (fun ht1 => ?_)
 ·
  skip
  (first | (exfalso; simp_all; done) | skip)
  all_goals
   refine tr_sR [2, 3] fun K hK => ?_
   iterate 2 refine evR_p ?_
   refine evR_z hK ?_; clear hK K
   refine retZ ?_; try exact ⟨⟩
   all_goals (rfl)
 ·
  skip
  (first | (exfalso; simp_all; done) | skip)
  all_goals
   refine skipZ ?_
   refine hK2 _ ?_
   refine tr_sD [] [2, 3] fun K hK => ?_
   iterate 4 refine evD_p ?_
   refine evD_c (hc := (kc35 p hr hg hc hv hn)) (k := ?_)
   refine evD_c (hc := (kc34 _ 41 [.ep [.ep (cellsB (tabW p))], .ep [.int .i64 ((2 ^ p.rows.length - 1 : Nat) : Int)]] rfl)) (k := ?_)
   refine evD_c (hc := (kc33 46 [.ep [.int .i64 (p.rows.length : Nat)], .ep [.fn 41 [.ep [.ep (cellsB (tabW p))], .ep [.int .i64 ((2 ^ p.rows.length - 1 : Nat) : Int)]]]] (setsT (confS p) (2 ^ p.rows.length)) (kc58 p.rows.length hn 41 [.ep [.ep (cellsB (tabW p))], .ep [.int .i64 ((2 ^ p.rows.length - 1 : Nat) : Int)]] (confS p) okF_41 rfl (fun s hs => kc59 p hn s hs)) rfl okF_46)) (k := ?_)
   iterate 2 refine evD_p ?_
   refine evD_z hK ?_; clear hK K
   refine retZ ?_; try exact ⟨⟩
   all_goals (rfl)

theorem kc14 (p : Pg) (hr : p.rows.length ≤ maxLen) (hg : p.gain.length ≤ maxLen) (hc : ∀ r ∈ p.rows, r.coef.length ≤ maxLen) (hs : smallB p = true) : CallsA Tryz.prog 16 [.agg (encPg p)] (.tup [.sl 1 (encI (repL p)), .int .i64 0]) := by
 obtain ⟨hn, hv⟩ := smallB_spec hs
 have hq := hs
 refine callsA_of_tr Tryz.func16 rfl (Nat.le_of_ble_eq_true rfl) ?_
 simp only [Tryz.results16, envOf, Nat.reduceAdd]
 refine tr_sR [1] fun K hK => ?_
 iterate 3 refine evR_p ?_
 refine evR_z hK ?_; clear hK K
 refine tr_seq fun K2 hK2 => ?_
 refine tr_sR [1, 7] fun K hK => ?_
 refine evR_p ?_
 refine evR_c (hc := (kc32 p hr hg hc)) (k := ?_)
 refine evR_p ?_
 refine evR_z hK ?_; clear hK K
 refine tr_condB (fun ht1 => ?_) (fun ht1 => ?_)
 ·
  skip
  (first | (exfalso; simp_all; done) | skip)
  all_goals
   refine tr_sR [2, 3] fun K hK => ?_
   iterate 2 refine evR_p ?_
   refine evR_z hK ?_; clear hK K
   refine retZ ?_; try exact ⟨⟩
   all_goals (rfl)
 ·
  skip
  (first | (exfalso; simp_all; done) | skip)
  all_goals
   refine skipZ ?_
   refine hK2 _ ?_
   refine tr_sR [1, 4] fun K hK => ?_
   refine evR_p ?_
   refine evR_c (hc := (kc40 p hr hg hc hv hn)) (k := ?_)
   iterate 2 refine evR_p ?_
   refine evR_z hK ?_; clear hK K
   refine tr_seq fun K6 hK6 => ?_
   refine tr_fz [.ptr 1 0] (by simp (maxSteps := 4000000) (disch := first | assumption | omega | (simp only [go_sem, *]; done) | (simp only [go_sem, *]; omega)) only [go_sem, hq, Int.reduceToNat, Nat.reduceBEq, Nat.reduceEqDiff, Nat.reduceAdd, Nat.reduceMul, Nat.reduceLeDiff, Nat.reduceLT, Nat.reduceSub, ↓reduceIte, reduceCtorEq]; (try rfl)) ?_
   refine tr_region [2, 3] rfl rfl fun K hK => ?_
   iterate 4 refine evR_p ?_
   refine evR_c (hc := (kc34 _ 40 [.ep [.ep (cellsB (tabW p))]] rfl)) (k := ?_)
   refine evR_c (hc := (kc33 46 [.ep [.int .i64 (p.rows.length : Nat)], .ep [.fn 40 [.ep [.ep (cellsB (tabW p))]]]] (setsT (repS p) (2 ^ p.rows.length)) (kc58 p.rows.length hn 40 [.ep [.ep (cellsB (tabW p))]] (repS p) okF_40 rfl (fun s hs => kc41 p hn s hs)) rfl okF_46)) (k := ?_)
   iterate 2 refine evR_p ?_
   refine evR_e hK ?_; clear hK K
   refine hK6 _ ?_
   refine retZ ?_; try exact ⟨⟩
   all_goals (rfl)

theorem kc14n (p : Pg) (hr : p.rows.length ≤ maxLen) (hg : p.gain.length ≤ maxLen) (hc : ∀ r ∈ p.rows, r.coef.length ≤ maxLen) (hs : smallB p = false) : CallsA Tryz.prog 16 [.agg (encPg p)] (.tup [.nsl, .int .i64 270]) := by
 have hq := hs
 refine callsA_of_tr Tryz.func16 rfl (Nat.le_of_ble_eq_true rfl) ?_
 simp only [Tryz.results16, envOf, Nat.reduceAdd]
 refine tr_sR [1] fun K hK => ?_
 iterate 3 refine evR_p ?_
 refine evR_z hK ?_; clear hK K
 refine tr_seq fun K2 hK2 => ?_
 refine tr_sR [1, 7] fun K hK => ?_
 refine evR_p ?_
 refine evR_c (hc := (kc32 p hr hg hc)) (k := ?_)
 refine evR_p ?_
 refine evR_z hK ?_; clear hK K
 refine tr_condB (fun ht1 => ?_) (fun ht1 => ?_)
 ·
  skip
  (first | (exfalso; simp_all; done) | skip)
  all_goals
   refine tr_sR [2, 3] fun K hK => ?_
   iterate 2 refine evR_p ?_
   refine evR_z hK ?_; clear hK K
   refine retZ ?_; try exact ⟨⟩
   all_goals (rfl)
 ·
  skip
  (first | (exfalso; simp_all; done) | skip)
  all_goals
   refine skipZ ?_
   refine hK2 _ ?_
   refine tr_sR [1, 4] fun K hK => ?_
   refine evR_p ?_
   refine evR_c (hc := (kc40 p hr hg hc hv hn)) (k := ?_)
   iterate 2 refine evR_p ?_
   refine evR_z hK ?_; clear hK K
   refine tr_sR [2, 3] fun K hK => ?_
   iterate 4 refine evR_p ?_
   refine evR_c (hc := (kc34 _ 40 [.ep [.ep (cellsB (tabW p))]] rfl)) (k := ?_)
   refine evR_c (hc := (kc33 46 [.ep [.int .i64 (p.rows.length : Nat)], .ep [.fn 40 [.ep [.ep (cellsB (tabW p))]]]] (setsT (repS p) (2 ^ p.rows.length)) (kc58 p.rows.length hn 40 [.ep [.ep (cellsB (tabW p))]] (repS p) okF_40 rfl (fun s hs => kc41 p hn s hs)) rfl okF_46)) (k := ?_)
   iterate 2 refine evR_p ?_
   refine evR_z hK ?_; clear hK K
   refine retZ ?_; try exact ⟨⟩
   all_goals (rfl)

theorem kc59a (p : Pg) (l : List Int) (h : smallB p = true ∧ tbI (tbW p.rows.length l) = true) : CallsA Tryz.prog 41 [.int .i64 (tbS (tbW p.rows.length l)), .ep [.ep (cellsB (tabW p))], .ep [.int .i64 ((2 ^ p.rows.length - 1 : Nat) : Int)]] (.bool (confS p (tbS (tbW p.rows.length l)).toNat)) := by
 obtain ⟨s, hs, h1, h2⟩ := tb_nat (smallB_spec h.1).1 h.2
 have e : tbS (tbW p.rows.length l) = (s : Int) := by rw [hs]; rfl
 rw [e]
 exact kc59 p (smallB_spec h.1).1 s h1
theorem kc21 (p : Pg) (hr : p.rows.length ≤ maxLen) (hg : p.gain.length ≤ maxLen) (hc : ∀ r ∈ p.rows, r.coef.length ≤ maxLen) (l : List Int) (hl : l.length ≤ maxLen) : CallsA Tryz.prog 18 [.agg (encPg p), .sl 1 (encI l)] (.bool (cnfB p l)) := by
 have hq : True := trivial
 refine callsA_of_tr Tryz.func18 rfl (Nat.le_of_ble_eq_true rfl) ?_
 simp only [Tryz.results18, envOf, Nat.reduceAdd]
 refine tr_sR [1, 2] fun K hK => ?_
 iterate 2 refine evR_p ?_
 refine evR_z hK ?_; clear hK K
 refine tr_sR [2, 5, 6] fun K hK => ?_
 iterate 2 refine evR_p ?_
 refine evR_c (hc := (kc42 p hr hg hc l hl)) (k := ?_)
 iterate 5 refine evR_p ?_
 refine evR_z hK ?_; clear hK K
 refine tr_sR [4] fun K hK => ?_
 refine evR_p ?_
 refine evR_c (hc := (kc32 p hr hg hc)) (k := ?_)
 refine evR_p ?_
 refine evR_g ?_
 iterate 2 refine evR_p ?_
 refine evR_g ?_
 refine evR_gch (hc := fun hgt => (kc35 p hr hg hc (smallB_spec (Bool.and_eq_true_iff.1 hgt).1).2 (smallB_spec (Bool.and_eq_true_iff.1 hgt).1).1)) (k := ?_)
 refine evR_g ?_
 refine evR_gch (hc := fun hgt => (kc59a p l (Bool.and_eq_true_iff.1 hgt))) (k := ?_)
 iterate 2 refine evR_p ?_
 refine evR_z hK ?_; clear hK K
 refine retZ ?_; try exact ⟨⟩
 all_goals (rfl)

theorem kc19 (p : Pg) (hr : p.rows.length ≤ maxLen) (hg : p.gain.length ≤ maxLen) (hc : ∀ r ∈ p.rows, r.coef.length ≤ maxLen) (l : List Int) (hl : l.length ≤ maxLen) (hc1 : cnfB p l = true) : CallsA Tryz.prog 8 [.agg (encPg p), .sl 1 (encI l)] (.tup (shrV p l)) := by
 have hl0 := hl
 unfold maxLen at hl0
 obtain ⟨hs, s, hts, hs2, hrw, hcf⟩ := cnf_spec hc1
 obtain ⟨hn, hv⟩ := smallB_spec hs
 have hpn := pow_4096 hn
 have etb : tbS (tbW p.rows.length l) = (s : Int) := by rw [hts]; rfl
 have hq := And.intro hs (etb)
 refine callsA_of_tr Tryz.func8 rfl (Nat.le_of_ble_eq_true rfl) ?_
 simp only [Tryz.results8, envOf, Nat.reduceAdd]
 refine tr_sR [1, 2] fun K hK => ?_
 iterate 3 refine evR_p ?_
 refine evR_z hK ?_; clear hK K
 refine tr_sR [1, 2, 6, 7] fun K hK => ?_
 iterate 2 refine evR_p ?_
 refine evR_c (hc := (kc42 p hr hg hc l hl)) (k := ?_)
 iterate 5 refine evR_p ?_
 refine evR_z hK ?_; clear hK K
 refine tr_seq fun K3 hK3 => ?_
 refine tr_sR [1, 2, 6, 24] fun K hK => ?_
 refine evR_p ?_
 refine evR_c (hc := (kc32 p hr hg hc)) (k := ?_)
 iterate 2 refine evR_p ?_
 iterate 2 refine evR_g ?_
 refine evR_p ?_
 refine evR_z hK ?_; clear hK K
 refine tr_condB (fun ht1 => ?_) (fun ht1 => ?_)
 ·
  skip
  (first | (exfalso; simp_all [tbI]; done) | (exfalso; simp_all [tbI]; done) | skip)
  all_goals
   refine tr_sR [4, 5] fun K hK => ?_
   iterate 2 refine evR_p ?_
   refine evR_z hK ?_; clear hK K
   refine retZ ?_; try exact ⟨⟩
   all_goals (rw [shr_yes hc1 hts])
 ·
  skip
  (first | (exfalso; simp_all [tbI]; done) | (exfalso; simp_all [tbI]; done) | skip)
  all_goals
   refine skipZ ?_
   refine hK3 _ ?_
   refine tr_sR [1, 6, 8] fun K hK => ?_
   refine evR_p ?_
   refine evR_c (hc := (kc35 p hr hg hc hv hn)) (k := ?_)
   refine evR_p ?_
   refine evR_z hK ?_; clear hK K
   refine tr_seq fun K7 hK7 => ?_
   refine tr_sR [1, 6, 8, 30] fun K hK => ?_
   iterate 2 refine evR_p ?_
   refine evR_c (hc := (kc59 p hn s hs2)) (k := ?_)
   refine evR_p ?_
   refine evR_z hK ?_; clear hK K
   refine tr_condB (fun ht2 => ?_) (fun ht2 => ?_)
   ·
    skip
    (first | (exfalso; simp_all [tbI]; done) | (exfalso; simp_all [tbI]; done) | skip)
    all_goals
     refine tr_sR [4, 5] fun K hK => ?_
     iterate 2 refine evR_p ?_
     refine evR_z hK ?_; clear hK K
     refine retZ ?_; try exact ⟨⟩
     all_goals (rw [shr_yes hc1 hts])
   ·
    skip
    (first | (exfalso; simp_all [tbI]; done) | (exfalso; simp_all [tbI]; done) | skip)
    all_goals
     refine skipZ ?_
     refine hK7 _ ?_
     refine tr_seq fun K10 hK10 => ?_
     refine tr_sR [6, 8, 31, 32, 33] fun K hK => ?_
     iterate 3 refine evR_p ?_
     refine evR_z hK ?_; clear hK K
     refine tr_block ?_
     -- loop 1: live [6, 8, 31, 32, 33]
     refine tr_loopW (fun m σ => ∃ k : Nat, k + m = l.length ∧ σ = ⟨[(6, .int .i64 (shrG p l s k : Nat)), (8, .fn 41 [.ep [.ep (cellsB (tabW p))], .ep [.int .i64 ((2 ^ p.rows.length - 1 : Nat) : Int)]]), (31, .sl 1 (encI l)), (32, .int .i64 l.length), (33, .int .i64 (k : Nat))], [(0, .cells (encPg p))], 1⟩) (l.length) ?_ ?_
     ·
      exact ⟨_, Wk.refl _, 0, by omega, rfl⟩
     ·
      rintro m σ ⟨k, hk, rfl⟩ KL1 hKL1
      refine tr_sR [6, 8, 31, 32, 33, 34] fun K hK => ?_
      refine evR_p ?_
      refine evR_z hK ?_; clear hK K
      refine tr_seq fun K13 hK13 => ?_
      refine tr_condB (fun ht3 => ?_) (fun ht3 => ?_)
      ·
       skip
       (first | (exfalso; simp_all [tbI]; done) | (exfalso; simp_all [tbI]; done) | skip)
       all_goals
        have hkl : k < l.length := by omega
        obtain ⟨r, hlr, hrn, -⟩ := rows_at hs2 hn (k := k) (by rw [← hrw]; exact hkl)
        rw [← hrw] at hlr
        have hrt : (l.getD k 0).toNat = r := by rw [hlr]; rfl
        have hsg := shrG_le p l s k
        have hrs : clrN (shrG p l s k) r < 2 ^ p.rows.length := clr_lt (by omega)
        obtain ⟨hb1, hb2⟩ := nb_spec (s := shrG p l s k) (r := r) (by omega) (by omega)
        replace hq := And.intro hq (And.intro hkl (And.intro hlr (hb2)))
        refine skipZ ?_
        refine hK13 _ ?_
        refine tr_seq fun K14 hK14 => ?_
        refine tr_block ?_
        refine tr_sR [6, 8, 10, 31, 32, 33] fun K hK => ?_
        iterate 3 refine evR_p ?_
        refine evR_z hK ?_; clear hK K
        refine tr_sR [6, 8, 11, 31, 32, 33] fun K hK => ?_
        iterate 5 refine evR_p ?_
        refine evR_z hK ?_; clear hK K
        refine tr_sR [6, 8, 11, 31, 32, 33, 43] fun K hK => ?_
        iterate 2 refine evR_p ?_
        refine evR_c (hc := (kc59 p hn (clrN (shrG p l s k) r) hrs)) (k := ?_)
        refine evR_z hK ?_; clear hK K
        refine tr_condB (fun ht4 => ?_) (fun ht4 => ?_)
        ·
         skip
         (first | (exfalso; simp_all [tbI]; done) | (exfalso; simp_all [tbI]; done) | skip)
         all_goals
          refine tr_region [6, 8, 31, 32, 33] rfl rfl fun K hK => ?_
          iterate 2 refine evR_p ?_
          refine evR_e hK ?_; clear hK K
          refine hK14 _ ?_
          refine tr_region [6, 8, 31, 32, 33] rfl rfl fun K hK => ?_
          iterate 2 refine evR_p ?_
          refine evR_e hK ?_; clear hK K
          refine hKL1 _ ?_
          first
           | exact ⟨m - 1, _, by omega, Wk.refl _, k + 1, by omega, by rw [w64 (x := (k : Int) + 1) (by omega), shrG_t (by rw [hrt]; assumption), hrt]; rfl⟩
           | exact ⟨m - 1, _, by omega, Wk.refl _, k + 1, by omega, by rw [w64 (x := (k : Int) + 1) (by omega), shrG_f (by rw [hrt]; assumption)]; rfl⟩
        ·
         skip
         (first | (exfalso; simp_all [tbI]; done) | (exfalso; simp_all [tbI]; done) | skip)
         all_goals
          refine skipZ ?_
          refine hK14 _ ?_
          refine tr_region [6, 8, 31, 32, 33] rfl rfl fun K hK => ?_
          iterate 2 refine evR_p ?_
          refine evR_e hK ?_; clear hK K
          refine hKL1 _ ?_
          first
           | exact ⟨m - 1, _, by omega, Wk.refl _, k + 1, by omega, by rw [w64 (x := (k : Int) + 1) (by omega), shrG_t (by rw [hrt]; assumption), hrt]; rfl⟩
           | exact ⟨m - 1, _, by omega, Wk.refl _, k + 1, by omega, by rw [w64 (x := (k : Int) + 1) (by omega), shrG_f (by rw [hrt]; assumption)]; rfl⟩
      ·
       skip
       (first | (exfalso; simp_all [tbI]; done) | (exfalso; simp_all [tbI]; done) | skip)
       all_goals
        have hkl : k = l.length := by omega
        subst hkl
        have hs4 : shrG p l s l.length < 4096 := Nat.lt_of_le_of_lt (shrG_le p l s _) (by omega)
        refine tr_exit ?_
        simp only [thenE, inBlkE, Nat.reduceEqDiff, ↓reduceIte]
        refine hK10 _ ?_
        refine tr_sR [4, 5] fun K hK => ?_
        refine evR_p ?_
        refine evR_c (hc := (kc43 _ hs4)) (k := ?_)
        iterate 2 refine evR_p ?_
        refine evR_z hK ?_; clear hK K
        refine retZ ?_; try exact ⟨⟩
        all_goals (rw [shr_yes hc1 hts])

theorem kc19n (p : Pg) (hr : p.rows.length ≤ maxLen) (hg : p.gain.length ≤ maxLen) (hc : ∀ r ∈ p.rows, r.coef.length ≤ maxLen) (l : List Int) (hl : l.length ≤ maxLen) (hc1 : cnfB p l = false) : CallsA Tryz.prog 8 [.agg (encPg p), .sl 1 (encI l)] (.tup [.nsl, .int .i64 270]) := by
 have hl0 := hl
 unfold maxLen at hl0
 have hq : True := trivial
 refine callsA_of_tr Tryz.func8 rfl (Nat.le_of_ble_eq_true rfl) ?_
 simp only [Tryz.results8, envOf, Nat.reduceAdd]
 refine tr_sR [1, 2] fun K hK => ?_
 iterate 3 refine evR_p ?_
 refine evR_z hK ?_; clear hK K
 refine tr_sR [1, 2, 6, 7] fun K hK => ?_
 iterate 2 refine evR_p ?_
 refine evR_c (hc := (kc42 p hr hg hc l hl)) (k := ?_)
 iterate 5 refine evR_p ?_
 refine evR_z hK ?_; clear hK K
 refine tr_seq fun K3 hK3 => ?_
 refine tr_sR [1, 2, 6, 24] fun K hK => ?_
 refine evR_p ?_
 refine evR_c (hc := (kc32 p hr hg hc)) (k := ?_)
 iterate 2 refine evR_p ?_
 iterate 2 refine evR_g ?_
 refine evR_p ?_
 refine evR_z hK ?_; clear hK K
 refine tr_condB (fun ht1 => ?_) (fun ht1 => ?_)
 ·
  skip
  (first | (exfalso; simp_all; done) | (have hcn := cnf_no hc1 ht1.1 ht1.2) | skip)
  all_goals
   refine tr_sR [4, 5] fun K hK => ?_
   iterate 2 refine evR_p ?_
   refine evR_z hK ?_; clear hK K
   refine retZ ?_; try exact ⟨⟩
   all_goals (rfl)
 ·
  skip
  (first | (exfalso; simp_all; done) | (have hcn := cnf_no hc1 ht1.1 ht1.2) | skip)
  all_goals
   refine skipZ ?_
   refine hK3 _ ?_
   refine tr_sR [1, 6, 8] fun K hK => ?_
   refine evR_p ?_
   refine evR_c (hc := (kc35 p hr hg hc (smallB_spec ht1.1).2 (smallB_spec ht1.1).1)) (k := ?_)
   refine evR_p ?_
   refine evR_z hK ?_; clear hK K
   refine tr_seq fun K7 hK7 => ?_
   refine tr_sR [1, 6, 8, 30] fun K hK => ?_
   iterate 2 refine evR_p ?_
   refine evR_c (hc := (kc59a p l ht1)) (k := ?_)
   refine evR_p ?_
   refine evR_z hK ?_; clear hK K
   refine tr_condB (fun ht2 => ?_) (fun ht2 => ?_)
   ·
    skip
    (first | (exfalso; simp_all; done) | (have hcn := cnf_no hc1 ht1.1 ht1.2) | skip)
    all_goals
     refine tr_sR [4, 5] fun K hK => ?_
     iterate 2 refine evR_p ?_
     refine evR_z hK ?_; clear hK K
     refine retZ ?_; try exact ⟨⟩
     all_goals (rfl)
   ·
    skip
    (first | (exfalso; simp_all; done) | (have hcn := cnf_no hc1 ht1.1 ht1.2) | skip)
    all_goals
     refine skipZ ?_
     refine hK7 _ ?_
     refine tr_seq fun K10 hK10 => ?_
     refine tr_sR [6, 8, 31, 32, 33] fun K hK => ?_
     iterate 3 refine evR_p ?_
     refine evR_z hK ?_; clear hK K
     refine tr_block ?_
     -- loop 1: live [6, 8, 31, 32, 33]
     refine tr_loopW (fun m σ => ∃ k : Nat, k + m = l.length ∧ σ = ⟨[(6, .int .i64 (shrG p l s k : Nat)), (8, .fn 41 [.ep [.ep (cellsB (tabW p))], .ep [.int .i64 ((2 ^ p.rows.length - 1 : Nat) : Int)]]), (31, .sl 1 (encI l)), (32, .int .i64 l.length), (33, .int .i64 (k : Nat))], [(0, .cells (encPg p))], 1⟩) (l.length) ?_ ?_
     ·
      exact ⟨_, Wk.refl _, 0, by omega, rfl⟩
     ·
      rintro m σ ⟨k, hk, rfl⟩ KL1 hKL1
      refine tr_sR [6, 8, 31, 32, 33, 34] fun K hK => ?_
      refine evR_p ?_
      refine evR_z hK ?_; clear hK K
      refine tr_seq fun K13 hK13 => ?_
      refine tr_condB (fun ht3 => ?_) (fun ht3 => ?_)
      ·
       skip
       (first | (exfalso; simp_all; done) | (have hcn := cnf_no hc1 ht1.1 ht1.2) | skip)
       all_goals
        have hkl : k < l.length := by omega
        obtain ⟨r, hlr, hrn, -⟩ := rows_at hs2 hn (k := k) (by rw [← hrw]; exact hkl)
        rw [← hrw] at hlr
        have hrt : (l.getD k 0).toNat = r := by rw [hlr]; rfl
        have hsg := shrG_le p l s k
        have hrs : clrN (shrG p l s k) r < 2 ^ p.rows.length := clr_lt (by omega)
        obtain ⟨hb1, hb2⟩ := nb_spec (s := shrG p l s k) (r := r) (by omega) (by omega)
        replace hq := And.intro hq (And.intro hkl (And.intro hlr (hb2)))
        refine skipZ ?_
        refine hK13 _ ?_
        refine tr_seq fun K14 hK14 => ?_
        refine tr_block ?_
        refine tr_sR [6, 8, 10, 31, 32, 33] fun K hK => ?_
        iterate 3 refine evR_p ?_
        refine evR_z hK ?_; clear hK K
        refine tr_sR [6, 8, 11, 31, 32, 33] fun K hK => ?_
        iterate 5 refine evR_p ?_
        refine evR_z hK ?_; clear hK K
        refine tr_sR [6, 8, 11, 31, 32, 33, 43] fun K hK => ?_
        iterate 2 refine evR_p ?_
        refine evR_c (hc := (kc59 p hn (clrN (shrG p l s k) r) hrs)) (k := ?_)
        refine evR_z hK ?_; clear hK K
        refine tr_condB (fun ht4 => ?_) (fun ht4 => ?_)
        ·
         skip
         (first | (exfalso; simp_all; done) | (have hcn := cnf_no hc1 ht1.1 ht1.2) | skip)
         all_goals
          refine tr_region [6, 8, 31, 32, 33] rfl rfl fun K hK => ?_
          iterate 2 refine evR_p ?_
          refine evR_e hK ?_; clear hK K
          refine hK14 _ ?_
          refine tr_region [6, 8, 31, 32, 33] rfl rfl fun K hK => ?_
          iterate 2 refine evR_p ?_
          refine evR_e hK ?_; clear hK K
          refine hKL1 _ ?_
          first
           | exact ⟨m - 1, _, by omega, Wk.refl _, k + 1, by omega, by rw [w64 (x := (k : Int) + 1) (by omega), shrG_t (by rw [hrt]; assumption), hrt]; rfl⟩
           | exact ⟨m - 1, _, by omega, Wk.refl _, k + 1, by omega, by rw [w64 (x := (k : Int) + 1) (by omega), shrG_f (by rw [hrt]; assumption)]; rfl⟩
        ·
         skip
         (first | (exfalso; simp_all; done) | (have hcn := cnf_no hc1 ht1.1 ht1.2) | skip)
         all_goals
          refine skipZ ?_
          refine hK14 _ ?_
          refine tr_region [6, 8, 31, 32, 33] rfl rfl fun K hK => ?_
          iterate 2 refine evR_p ?_
          refine evR_e hK ?_; clear hK K
          refine hKL1 _ ?_
          first
           | exact ⟨m - 1, _, by omega, Wk.refl _, k + 1, by omega, by rw [w64 (x := (k : Int) + 1) (by omega), shrG_t (by rw [hrt]; assumption), hrt]; rfl⟩
           | exact ⟨m - 1, _, by omega, Wk.refl _, k + 1, by omega, by rw [w64 (x := (k : Int) + 1) (by omega), shrG_f (by rw [hrt]; assumption)]; rfl⟩
      ·
       skip
       (first | (exfalso; simp_all; done) | (have hcn := cnf_no hc1 ht1.1 ht1.2) | skip)
       all_goals
        have hkl : k = l.length := by omega
        subst hkl
        have hs4 : shrG p l s l.length < 4096 := Nat.lt_of_le_of_lt (shrG_le p l s _) (by omega)
        refine tr_exit ?_
        simp only [thenE, inBlkE, Nat.reduceEqDiff, ↓reduceIte]
        refine hK10 _ ?_
        refine tr_sR [4, 5] fun K hK => ?_
        refine evR_p ?_
        refine evR_c (hc := (kc43 _ hs4)) (k := ?_)
        iterate 2 refine evR_p ?_
        refine evR_z hK ?_; clear hK K
        refine retZ ?_; try exact ⟨⟩
        all_goals (rfl)

theorem kc23 (p : Pg) (hr : p.rows.length ≤ maxLen) (hg : p.gain.length ≤ maxLen) (hc : ∀ r ∈ p.rows, r.coef.length ≤ maxLen) (l : List Int) (hl : l.length ≤ maxLen) (hc1 : cnfB p l = true) : CallsA Tryz.prog 19 [.agg (encPg p), .sl 1 (encI l)] (.bool (minB p l)) := by
 have hl0 := hl
 unfold maxLen at hl0
 obtain ⟨hs, s, hts, hs2, hrw, hcf⟩ := cnf_spec hc1
 obtain ⟨hn, hv⟩ := smallB_spec hs
 have hpn := pow_4096 hn
 have etb : tbS (tbW p.rows.length l) = (s : Int) := by rw [hts]; rfl
 have hq := And.intro hs (etb)
 refine callsA_of_tr Tryz.func19 rfl (Nat.le_of_ble_eq_true rfl) ?_
 simp only [Tryz.results19, envOf, Nat.reduceAdd]
 refine tr_sR [1, 2] fun K hK => ?_
 iterate 2 refine evR_p ?_
 refine evR_z hK ?_; clear hK K
 refine tr_sR [1, 2, 5, 6] fun K hK => ?_
 iterate 2 refine evR_p ?_
 refine evR_c (hc := (kc42 p hr hg hc l hl)) (k := ?_)
 iterate 5 refine evR_p ?_
 refine evR_z hK ?_; clear hK K
 refine tr_seq fun K3 hK3 => ?_
 refine tr_sR [1, 2, 5, 22] fun K hK => ?_
 refine evR_p ?_
 refine evR_c (hc := (kc32 p hr hg hc)) (k := ?_)
 iterate 2 refine evR_p ?_
 iterate 2 refine evR_g ?_
 refine evR_p ?_
 refine evR_z hK ?_; clear hK K
 refine tr_condB (fun ht1 => ?_) (fun ht1 => ?_)
 ·
  skip
  (first | (exfalso; simp_all [tbI]; done) | (exfalso; simp_all [tbI]; done) | skip)
  all_goals
   refine tr_sR [4] fun K hK => ?_
   refine evR_p ?_
   refine evR_z hK ?_; clear hK K
   refine retZ ?_; try exact ⟨⟩
   all_goals (first | (rw [min_yes hc1 hts hno]; done) | (rw [min_no hts hkl (by rw [hrt]; assumption)]; done))
 ·
  skip
  (first | (exfalso; simp_all [tbI]; done) | (exfalso; simp_all [tbI]; done) | skip)
  all_goals
   refine skipZ ?_
   refine hK3 _ ?_
   refine tr_sR [1, 5, 7] fun K hK => ?_
   refine evR_p ?_
   refine evR_c (hc := (kc35 p hr hg hc hv hn)) (k := ?_)
   refine evR_p ?_
   refine evR_z hK ?_; clear hK K
   refine tr_seq fun K7 hK7 => ?_
   refine tr_sR [1, 5, 7, 28] fun K hK => ?_
   iterate 2 refine evR_p ?_
   refine evR_c (hc := (kc59 p hn s hs2)) (k := ?_)
   refine evR_p ?_
   refine evR_z hK ?_; clear hK K
   refine tr_condB (fun ht2 => ?_) (fun ht2 => ?_)
   ·
    skip
    (first | (exfalso; simp_all [tbI]; done) | (exfalso; simp_all [tbI]; done) | skip)
    all_goals
     refine tr_sR [4] fun K hK => ?_
     refine evR_p ?_
     refine evR_z hK ?_; clear hK K
     refine retZ ?_; try exact ⟨⟩
     all_goals (first | (rw [min_yes hc1 hts hno]; done) | (rw [min_no hts hkl (by rw [hrt]; assumption)]; done))
   ·
    skip
    (first | (exfalso; simp_all [tbI]; done) | (exfalso; simp_all [tbI]; done) | skip)
    all_goals
     refine skipZ ?_
     refine hK7 _ ?_
     refine tr_seq fun K10 hK10 => ?_
     refine tr_sR [5, 7, 29, 30, 31] fun K hK => ?_
     iterate 3 refine evR_p ?_
     refine evR_z hK ?_; clear hK K
     refine tr_block ?_
     -- loop 1: live [5, 7, 29, 30, 31]
     refine tr_loopW (fun m σ => ∃ k : Nat, k + m = l.length ∧ (∀ j, j < k → confS p (clrN s (l.getD j 0).toNat) = false) ∧ σ = ⟨[(5, .int .i64 (s : Nat)), (7, .fn 41 [.ep [.ep (cellsB (tabW p))], .ep [.int .i64 ((2 ^ p.rows.length - 1 : Nat) : Int)]]), (29, .sl 1 (encI l)), (30, .int .i64 l.length), (31, .int .i64 (k : Nat))], [(0, .cells (encPg p))], 1⟩) (l.length) ?_ ?_
     ·
      exact ⟨_, Wk.refl _, 0, by omega, (fun j hj => by omega), rfl⟩
     ·
      rintro m σ ⟨k, hk, hno, rfl⟩ KL1 hKL1
      refine tr_sR [5, 7, 29, 30, 31, 32] fun K hK => ?_
      refine evR_p ?_
      refine evR_z hK ?_; clear hK K
      refine tr_seq fun K13 hK13 => ?_
      refine tr_condB (fun ht3 => ?_) (fun ht3 => ?_)
      ·
       skip
       (first | (exfalso; simp_all [tbI]; done) | (exfalso; simp_all [tbI]; done) | skip)
       all_goals
        have hkl : k < l.length := by omega
        obtain ⟨r, hlr, hrn, -⟩ := rows_at hs2 hn (k := k) (by rw [← hrw]; exact hkl)
        rw [← hrw] at hlr
        have hrt : (l.getD k 0).toNat = r := by rw [hlr]; rfl
        have hrs : clrN s r < 2 ^ p.rows.length := clr_lt hs2
        obtain ⟨hb1, hb2⟩ := nb_spec (s := s) (r := r) (by omega) (by omega)
        replace hq := And.intro hq (And.intro hkl (And.intro hlr (hb2)))
        refine skipZ ?_
        refine hK13 _ ?_
        refine tr_seq fun K14 hK14 => ?_
        refine tr_block ?_
        refine tr_sR [5, 7, 9, 29, 30, 31] fun K hK => ?_
        iterate 3 refine evR_p ?_
        refine evR_z hK ?_; clear hK K
        refine tr_sR [5, 7, 29, 30, 31, 40] fun K hK => ?_
        iterate 5 refine evR_p ?_
        refine evR_c (hc := (kc59 p hn (clrN s r) hrs)) (k := ?_)
        refine evR_z hK ?_; clear hK K
        refine tr_condB (fun ht4 => ?_) (fun ht4 => ?_)
        ·
         skip
         (first | (exfalso; simp_all [tbI]; done) | (exfalso; simp_all [tbI]; done) | skip)
         all_goals
          refine tr_sR [4] fun K hK => ?_
          refine evR_p ?_
          refine evR_z hK ?_; clear hK K
          refine retZ ?_; try exact ⟨⟩
          all_goals (first | (rw [min_yes hc1 hts hno]; done) | (rw [min_no hts hkl (by rw [hrt]; assumption)]; done))
        ·
         skip
         (first | (exfalso; simp_all [tbI]; done) | (exfalso; simp_all [tbI]; done) | skip)
         all_goals
          refine skipZ ?_
          refine hK14 _ ?_
          refine tr_region [5, 7, 29, 30, 31] rfl rfl fun K hK => ?_
          iterate 2 refine evR_p ?_
          refine evR_e hK ?_; clear hK K
          refine hKL1 _ ?_
          exact ⟨m - 1, _, by omega, Wk.refl _, k + 1, by omega, (step_false (d := (0 : Int)) (xs := l) (p := fun x => confS p (clrN s x.toNat)) hno (by show confS p (clrN s (l.getD k 0).toNat) = false; rw [hrt]; assumption)), by rw [w64 (x := (k : Int) + 1) (by omega)]; rfl⟩
      ·
       skip
       (first | (exfalso; simp_all [tbI]; done) | (exfalso; simp_all [tbI]; done) | skip)
       all_goals
        have hkl : k = l.length := by omega
        subst hkl
        refine tr_exit ?_
        simp only [thenE, inBlkE, Nat.reduceEqDiff, ↓reduceIte]
        refine hK10 _ ?_
        refine tr_sR [4] fun K hK => ?_
        refine evR_p ?_
        refine evR_z hK ?_; clear hK K
        refine retZ ?_; try exact ⟨⟩
        all_goals (first | (rw [min_yes hc1 hts hno]; done) | (rw [min_no hts hkl (by rw [hrt]; assumption)]; done))

theorem kc23n (p : Pg) (hr : p.rows.length ≤ maxLen) (hg : p.gain.length ≤ maxLen) (hc : ∀ r ∈ p.rows, r.coef.length ≤ maxLen) (l : List Int) (hl : l.length ≤ maxLen) (hc1 : cnfB p l = false) : CallsA Tryz.prog 19 [.agg (encPg p), .sl 1 (encI l)] (.bool false) := by
 have hl0 := hl
 unfold maxLen at hl0
 have hq : True := trivial
 refine callsA_of_tr Tryz.func19 rfl (Nat.le_of_ble_eq_true rfl) ?_
 simp only [Tryz.results19, envOf, Nat.reduceAdd]
 refine tr_sR [1, 2] fun K hK => ?_
 iterate 2 refine evR_p ?_
 refine evR_z hK ?_; clear hK K
 refine tr_sR [1, 2, 5, 6] fun K hK => ?_
 iterate 2 refine evR_p ?_
 refine evR_c (hc := (kc42 p hr hg hc l hl)) (k := ?_)
 iterate 5 refine evR_p ?_
 refine evR_z hK ?_; clear hK K
 refine tr_seq fun K3 hK3 => ?_
 refine tr_sR [1, 2, 5, 22] fun K hK => ?_
 refine evR_p ?_
 refine evR_c (hc := (kc32 p hr hg hc)) (k := ?_)
 iterate 2 refine evR_p ?_
 iterate 2 refine evR_g ?_
 refine evR_p ?_
 refine evR_z hK ?_; clear hK K
 refine tr_condB (fun ht1 => ?_) (fun ht1 => ?_)
 ·
  skip
  (first | (exfalso; simp_all; done) | (have hcn := cnf_no hc1 ht1.1 ht1.2) | skip)
  all_goals
   refine tr_sR [4] fun K hK => ?_
   refine evR_p ?_
   refine evR_z hK ?_; clear hK K
   refine retZ ?_; try exact ⟨⟩
   all_goals (rfl)
 ·
  skip
  (first | (exfalso; simp_all; done) | (have hcn := cnf_no hc1 ht1.1 ht1.2) | skip)
  all_goals
   refine skipZ ?_
   refine hK3 _ ?_
   refine tr_sR [1, 5, 7] fun K hK => ?_
   refine evR_p ?_
   refine evR_c (hc := (kc35 p hr hg hc (smallB_spec ht1.1).2 (smallB_spec ht1.1).1)) (k := ?_)
   refine evR_p ?_
   refine evR_z hK ?_; clear hK K
   refine tr_seq fun K7 hK7 => ?_
   refine tr_sR [1, 5, 7, 28] fun K hK => ?_
   iterate 2 refine evR_p ?_
   refine evR_c (hc := (kc59a p l ht1)) (k := ?_)
   refine evR_p ?_
   refine evR_z hK ?_; clear hK K
   refine tr_condB (fun ht2 => ?_) (fun ht2 => ?_)
   ·
    skip
    (first | (exfalso; simp_all; done) | (have hcn := cnf_no hc1 ht1.1 ht1.2) | skip)
    all_goals
     refine tr_sR [4] fun K hK => ?_
     refine evR_p ?_
     refine evR_z hK ?_; clear hK K
     refine retZ ?_; try exact ⟨⟩
     all_goals (rfl)
   ·
    skip
    (first | (exfalso; simp_all; done) | (have hcn := cnf_no hc1 ht1.1 ht1.2) | skip)
    all_goals
     refine skipZ ?_
     refine hK7 _ ?_
     refine tr_seq fun K10 hK10 => ?_
     refine tr_sR [5, 7, 29, 30, 31] fun K hK => ?_
     iterate 3 refine evR_p ?_
     refine evR_z hK ?_; clear hK K
     refine tr_block ?_
     -- loop 1: live [5, 7, 29, 30, 31]
     refine tr_loopW (fun m σ => ∃ k : Nat, k + m = l.length ∧ (∀ j, j < k → confS p (clrN s (l.getD j 0).toNat) = false) ∧ σ = ⟨[(5, .int .i64 (s : Nat)), (7, .fn 41 [.ep [.ep (cellsB (tabW p))], .ep [.int .i64 ((2 ^ p.rows.length - 1 : Nat) : Int)]]), (29, .sl 1 (encI l)), (30, .int .i64 l.length), (31, .int .i64 (k : Nat))], [(0, .cells (encPg p))], 1⟩) (l.length) ?_ ?_
     ·
      exact ⟨_, Wk.refl _, 0, by omega, (fun j hj => by omega), rfl⟩
     ·
      rintro m σ ⟨k, hk, hno, rfl⟩ KL1 hKL1
      refine tr_sR [5, 7, 29, 30, 31, 32] fun K hK => ?_
      refine evR_p ?_
      refine evR_z hK ?_; clear hK K
      refine tr_seq fun K13 hK13 => ?_
      refine tr_condB (fun ht3 => ?_) (fun ht3 => ?_)
      ·
       skip
       (first | (exfalso; simp_all; done) | (have hcn := cnf_no hc1 ht1.1 ht1.2) | skip)
       all_goals
        have hkl : k < l.length := by omega
        obtain ⟨r, hlr, hrn, -⟩ := rows_at hs2 hn (k := k) (by rw [← hrw]; exact hkl)
        rw [← hrw] at hlr
        have hrt : (l.getD k 0).toNat = r := by rw [hlr]; rfl
        have hrs : clrN s r < 2 ^ p.rows.length := clr_lt hs2
        obtain ⟨hb1, hb2⟩ := nb_spec (s := s) (r := r) (by omega) (by omega)
        replace hq := And.intro hq (And.intro hkl (And.intro hlr (hb2)))
        refine skipZ ?_
        refine hK13 _ ?_
        refine tr_seq fun K14 hK14 => ?_
        refine tr_block ?_
        refine tr_sR [5, 7, 9, 29, 30, 31] fun K hK => ?_
        iterate 3 refine evR_p ?_
        refine evR_z hK ?_; clear hK K
        refine tr_sR [5, 7, 29, 30, 31, 40] fun K hK => ?_
        iterate 5 refine evR_p ?_
        refine evR_c (hc := (kc59 p hn (clrN s r) hrs)) (k := ?_)
        refine evR_z hK ?_; clear hK K
        refine tr_condB (fun ht4 => ?_) (fun ht4 => ?_)
        ·
         skip
         (first | (exfalso; simp_all; done) | (have hcn := cnf_no hc1 ht1.1 ht1.2) | skip)
         all_goals
          refine tr_sR [4] fun K hK => ?_
          refine evR_p ?_
          refine evR_z hK ?_; clear hK K
          refine retZ ?_; try exact ⟨⟩
          all_goals (rfl)
        ·
         skip
         (first | (exfalso; simp_all; done) | (have hcn := cnf_no hc1 ht1.1 ht1.2) | skip)
         all_goals
          refine skipZ ?_
          refine hK14 _ ?_
          refine tr_region [5, 7, 29, 30, 31] rfl rfl fun K hK => ?_
          iterate 2 refine evR_p ?_
          refine evR_e hK ?_; clear hK K
          refine hKL1 _ ?_
          exact ⟨m - 1, _, by omega, Wk.refl _, k + 1, by omega, (step_false (d := (0 : Int)) (xs := l) (p := fun x => confS p (clrN s x.toNat)) hno (by show confS p (clrN s (l.getD k 0).toNat) = false; rw [hrt]; assumption)), by rw [w64 (x := (k : Int) + 1) (by omega)]; rfl⟩
      ·
       skip
       (first | (exfalso; simp_all; done) | (have hcn := cnf_no hc1 ht1.1 ht1.2) | skip)
       all_goals
        have hkl : k = l.length := by omega
        subst hkl
        refine tr_exit ?_
        simp only [thenE, inBlkE, Nat.reduceEqDiff, ↓reduceIte]
        refine hK10 _ ?_
        refine tr_sR [4] fun K hK => ?_
        refine evR_p ?_
        refine evR_z hK ?_; clear hK K
        refine retZ ?_; try exact ⟨⟩
        all_goals (rfl)
theorem kc12a (p : Pg) (hr : p.rows.length ≤ maxLen) (hg : p.gain.length ≤ maxLen) (hc : ∀ r ∈ p.rows, r.coef.length ≤ maxLen) : CallsA Tryz.prog 9 [.agg (encPg p)] (.tup (coreV p)) := by
 unfold coreV
 cases h : smallB p with
 | true => exact kc12 p hr hg hc h
 | false => exact kc12n p hr hg hc h
theorem kc14a (p : Pg) (hr : p.rows.length ≤ maxLen) (hg : p.gain.length ≤ maxLen) (hc : ∀ r ∈ p.rows, r.coef.length ≤ maxLen) : CallsA Tryz.prog 16 [.agg (encPg p)] (.tup (repV p)) := by
 unfold repV
 cases h : smallB p with
 | true => exact kc14 p hr hg hc h
 | false => exact kc14n p hr hg hc h
theorem kc19a (p : Pg) (hr : p.rows.length ≤ maxLen) (hg : p.gain.length ≤ maxLen) (hc : ∀ r ∈ p.rows, r.coef.length ≤ maxLen) (l : List Int) (hl : l.length ≤ maxLen) : CallsA Tryz.prog 8 [.agg (encPg p), .sl 1 (encI l)] (.tup (shrV p l)) := by
 cases h : cnfB p l with
 | true => exact kc19 p hr hg hc l hl h
 | false => rw [shr_no h]; exact kc19n p hr hg hc l hl h
theorem kc23a (p : Pg) (hr : p.rows.length ≤ maxLen) (hg : p.gain.length ≤ maxLen) (hc : ∀ r ∈ p.rows, r.coef.length ≤ maxLen) (l : List Int) (hl : l.length ≤ maxLen) : CallsA Tryz.prog 19 [.agg (encPg p), .sl 1 (encI l)] (.bool (minB p l)) := by
 cases h : cnfB p l with
 | true => exact kc23 p hr hg hc l hl h
 | false => rw [min_none h]; exact kc23n p hr hg hc l hl h

theorem kc17 (s : Nat) (hs : s < 4096) : CallsA Tryz.prog 6 [.int .i64 (s : Nat)] (.sl 1 (encI (rowsN s))) := by
 have hq : True := trivial
 refine callsA_of_trL Tryz.func6 rfl (Nat.le_of_ble_eq_true rfl) ?_
 simp only [Tryz.results6, envOf, Nat.reduceAdd]
 refine tr_sR [0] fun K hK => ?_
 refine evR_p ?_
 refine evR_z hK ?_; clear hK K
 refine tr_sR [0, 3] fun K hK => ?_
 refine evR_p ?_
 refine evR_z hK ?_; clear hK K
 refine tr_seq fun K3 hK3 => ?_
 refine tr_sR [0, 3, 4] fun K hK => ?_
 refine evR_p ?_
 refine evR_z hK ?_; clear hK K
 refine tr_block ?_
 -- loop 1: live [0, 3, 4]
 refine tr_loopW (fun m σ => ∃ i : Nat, i + m = 12 ∧ σ = ⟨[(0, .int .i64 (s : Nat)), (3, .own 0), (4, .int .i64 (i : Nat))], [(0, .row 3 1 (encI (rowsT s i)))], 1⟩) (12) ?_ ?_
 ·
  exact ⟨_, Wk.nilslot 3 1 3 rfl, 0, by omega, rfl⟩
 ·
  rintro m σ ⟨i, hi, rfl⟩ KL1 hKL1
  refine tr_seq fun K5 hK5 => ?_
  refine tr_sR [0, 3, 4, 6] fun K hK => ?_
  iterate 2 refine evR_p ?_
  refine evR_z hK ?_; clear hK K
  refine tr_condB (fun ht1 => ?_) (fun ht1 => ?_)
  ·
   skip
   have hil : i < 12 := by omega
   have hlen := rowsT_length s i
   have hbit := rem_bit (s := s) (n := i) (by omega)
   replace hq := And.intro hq (And.intro hil (hbit))
   refine skipZ ?_
   refine hK5 _ ?_
   refine tr_seq fun K7 hK7 => ?_
   refine tr_block ?_
   refine tr_sR [0, 3, 4, 13] fun K hK => ?_
   iterate 5 refine evR_p ?_
   refine evR_z hK ?_; clear hK K
   refine tr_condB (fun ht2 => ?_) (fun ht2 => ?_)
   ·
    skip
    refine tr_region [0, 3, 4] rfl rfl fun K hK => ?_
    iterate 2 refine evR_p ?_
    refine evR_bs ?_
    iterate 2 refine evR_p ?_
    refine evR_e hK ?_; clear hK K
    refine hK7 _ ?_
    refine tr_region [0, 3, 4] rfl rfl fun K hK => ?_
    iterate 3 refine evR_p ?_
    refine evR_e hK ?_; clear hK K
    refine hKL1 _ ?_
    first
     | exact ⟨m - 1, _, by omega, (Wk.trans (Wk.ren 1 0 (Nat.le_of_ble_eq_true rfl) (Nat.le_of_ble_eq_true rfl) rfl) (Wk.cut 1 rfl)), i + 1, by omega, by rw [w64 (x := (i : Int) + 1) (by omega), rowsT_t (bit_of ht2), encI_snoc]; rfl⟩
     | exact ⟨m - 1, _, by omega, Wk.refl _, i + 1, by omega, by rw [w64 (x := (i : Int) + 1) (by omega), rowsT_f (bit_no ht2)]; rfl⟩
   ·
    skip
    refine skipZ ?_
    refine hK7 _ ?_
    refine tr_region [0, 3, 4] rfl rfl fun K hK => ?_
    iterate 3 refine evR_p ?_
    refine evR_e hK ?_; clear hK K
    refine hKL1 _ ?_
    first
     | exact ⟨m - 1, _, by omega, (Wk.trans (Wk.ren 1 0 (Nat.le_of_ble_eq_true rfl) (Nat.le_of_ble_eq_true rfl) rfl) (Wk.cut 1 rfl)), i + 1, by omega, by rw [w64 (x := (i : Int) + 1) (by omega), rowsT_t (bit_of ht2), encI_snoc]; rfl⟩
     | exact ⟨m - 1, _, by omega, Wk.refl _, i + 1, by omega, by rw [w64 (x := (i : Int) + 1) (by omega), rowsT_f (bit_no ht2)]; rfl⟩
  ·
   skip
   have hil : i = 12 := by omega
   subst hil
   rw [rowsT_12]
   refine tr_exit ?_
   simp only [thenE, inBlkE, Nat.reduceEqDiff, ↓reduceIte]
   refine hK3 _ ?_
   refine tr_sR [2] fun K hK => ?_
   iterate 2 refine evR_p ?_
   refine evR_z hK ?_; clear hK K
   refine retZ ?_; try exact ⟨⟩
   all_goals (exact .refl _)

theorem kc30  : CallsA Tryz.prog 15 [] (.agg (encPg exC)) := by
 have hq : True := trivial
 refine callsA_of_tr Tryz.func15 rfl (Nat.le_of_ble_eq_true rfl) ?_
 simp only [Tryz.results15, envOf, Nat.reduceAdd]
 refine tr_sR [0] fun K hK => ?_
 refine evR_p ?_
 refine evR_z hK ?_; clear hK K
 refine tr_sR [0] fun K hK => ?_
 refine evR_bs ?_
 refine evR_p ?_
 refine evR_bs ?_
 refine evR_p ?_
 refine evR_bs ?_
 refine evR_p ?_
 refine evR_bs ?_
 refine evR_p ?_
 iterate 2 refine evR_bs ?_
 iterate 2 refine evR_p ?_
 refine evR_z hK ?_; clear hK K
 refine retZ ?_; try exact ⟨⟩
 all_goals (rfl)

set_option maxHeartbeats 8000000 in
theorem kc9  : CallsA Tryz.prog 4 [] (.bool true) := by
 obtain ⟨x1, x2, x3⟩ := exC_cnf
 obtain ⟨y1, y2⟩ := exC_min
 obtain ⟨z1, z2⟩ := exC_shr
 have hq := And.intro x1 (And.intro x2 (And.intro x3 (And.intro y1 (y2))))
 refine callsA_of_tr Tryz.func4 rfl (Nat.le_of_ble_eq_true rfl) ?_
 simp only [Tryz.results4, envOf, Nat.reduceAdd]
 refine tr_sR [] fun K hK => ?_
 refine evR_p ?_
 refine evR_z hK ?_; clear hK K
 refine tr_sR [1] fun K hK => ?_
 refine evR_c (hc := kc30) (k := ?_)
 iterate 2 refine evR_p ?_
 refine evR_z hK ?_; clear hK K
 refine tr_sR [1, 2, 3] fun K hK => ?_
 refine evR_p ?_
 refine evR_c (hc := (exC_core ▸ kc12a exC exC_len.1 exC_len.2.1 exC_len.2.2)) (k := ?_)
 iterate 5 refine evR_p ?_
 refine evR_z hK ?_; clear hK K
 refine tr_sR [1, 2, 3, 4, 5] fun K hK => ?_
 refine evR_p ?_
 refine evR_c (hc := (exC_rep ▸ kc14a exC exC_len.1 exC_len.2.1 exC_len.2.2)) (k := ?_)
 iterate 5 refine evR_p ?_
 refine evR_z hK ?_; clear hK K
 refine tr_sR [1, 2, 3, 4, 5, 6, 7] fun K hK => ?_
 refine evR_p ?_
 refine evR_bs ?_
 refine evR_c (hc := (z1 ▸ (kc19a exC exC_len.1 exC_len.2.1 exC_len.2.2 [0, 1, 2, 3] (by simp [maxLen])))) (k := ?_)
 iterate 5 refine evR_p ?_
 refine evR_z hK ?_; clear hK K
 refine tr_sR [1, 2, 3, 4, 5, 6, 7, 9] fun K hK => ?_
 refine evR_p ?_
 refine evR_bs ?_
 refine evR_c (hc := (z2 ▸ (kc19a exC exC_len.1 exC_len.2.1 exC_len.2.2 [0, 1, 3] (by simp [maxLen])))) (k := ?_)
 iterate 5 refine evR_p ?_
 refine evR_z hK ?_; clear hK K
 refine tr_sR [1, 2, 3, 4, 5, 6, 7, 9, 11] fun K hK => ?_
 refine evR_p ?_
 refine evR_c (hc := (ex1_core ▸ ((kc12a ⟨1, [], []⟩ (by simp) (by simp) (by simp)).arg (.cons (.agg (.cons (.refl _) (.cons (.nsl 6) (.cons (.nsl 1) .nil)))) .nil)))) (k := ?_)
 iterate 5 refine evR_p ?_
 refine evR_z hK ?_; clear hK K
 refine tr_sR [1, 2, 3, 4, 5, 6, 7, 9, 11, 12] fun K hK => ?_
 refine evR_bs ?_
 refine evR_p ?_
 refine evR_z hK ?_; clear hK K
 refine tr_sR [0] fun K hK => ?_
 iterate 3 refine evR_p ?_
 iterate 2 refine evR_g ?_
 iterate 2 refine evR_p ?_
 iterate 2 refine evR_g ?_
 iterate 2 refine evR_p ?_
 iterate 2 refine evR_g ?_
 iterate 2 refine evR_p ?_
 iterate 2 refine evR_g ?_
 iterate 2 refine evR_p ?_
 iterate 2 refine evR_g ?_
 refine evR_gc (hc := (c19 [0, 1, 2] [0, 1, 2] (by simp [maxLen]) (by simp [maxLen]))) (k := ?_)
 iterate 2 refine evR_p ?_
 iterate 2 refine evR_g ?_
 refine evR_gc (hc := (c19 [0] [0] (by simp [maxLen]) (by simp [maxLen]))) (k := ?_)
 iterate 2 refine evR_p ?_
 iterate 2 refine evR_g ?_
 refine evR_gc (hc := (c19 [0, 1, 2] [0, 1, 2] (by simp [maxLen]) (by simp [maxLen]))) (k := ?_)
 iterate 2 refine evR_p ?_
 iterate 2 refine evR_g ?_
 refine evR_gc (hc := (kc21 exC exC_len.1 exC_len.2.1 exC_len.2.2 [0, 1, 3] (by simp [maxLen]))) (k := ?_)
 refine evR_g ?_
 iterate 2 refine evR_p ?_
 iterate 2 refine evR_g ?_
 refine evR_gc (hc := (kc21 exC exC_len.1 exC_len.2.1 exC_len.2.2 [0, 1, 2, 3] (by simp [maxLen]))) (k := ?_)
 iterate 2 refine evR_p ?_
 iterate 2 refine evR_g ?_
 refine evR_gc (hc := (kc23a exC exC_len.1 exC_len.2.1 exC_len.2.2 [0, 1, 2] (by simp [maxLen]))) (k := ?_)
 iterate 2 refine evR_p ?_
 iterate 2 refine evR_g ?_
 refine evR_gc (hc := (kc23a exC exC_len.1 exC_len.2.1 exC_len.2.2 [0, 1, 2, 3] (by simp [maxLen]))) (k := ?_)
 refine evR_g ?_
 iterate 2 refine evR_p ?_
 refine evR_z hK ?_; clear hK K
 refine retZ ?_; try exact ⟨⟩
 all_goals (simp)

set_option maxHeartbeats 4000000 in
theorem kc44 (p : Pg) (hr : p.rows.length ≤ maxLen) (hg : p.gain.length ≤ maxLen) (hc : ∀ r ∈ p.rows, r.coef.length ≤ maxLen) (hn : p.rows.length ≤ 12) (l : List Int) (hl : l.length ≤ maxLen) : CallsA Tryz.prog 10 [.agg (encPg p), .sl 1 (encI l)] (.int .i64 (bsW p.rows.length l)) := by
 unfold maxLen at hl
 have hq : True := trivial
 refine callsA_of_tr Tryz.func10 rfl (Nat.le_of_ble_eq_true rfl) ?_
 simp only [Tryz.results10, envOf, Nat.reduceAdd]
 refine tr_sR [1, 2] fun K hK => ?_
 iterate 2 refine evR_p ?_
 refine evR_z hK ?_; clear hK K
 refine tr_sR [1, 2, 5] fun K hK => ?_
 refine evR_p ?_
 refine evR_z hK ?_; clear hK K
 refine tr_seq fun K3 hK3 => ?_
 refine tr_sR [1, 2, 5, 6] fun K hK => ?_
 refine evR_p ?_
 refine evR_z hK ?_; clear hK K
 refine tr_block ?_
 -- loop 1: live [1, 2, 5, 6]
 refine tr_loopW (fun m σ => ∃ i : Nat, i + m = l.length ∧ tbG p.rows.length l i = some (((setTo l i : Nat) : Int), lastT l i) ∧ σ = ⟨[(1, .sl 1 (encI l)), (2, .ptr 0 0), (5, .int .i64 (setTo l i : Nat)), (6, .int .i64 (i : Nat))], [(0, .cells (encPg p))], 1⟩) (l.length) ?_ ?_
 ·
  exact ⟨_, Wk.refl _, 0, by omega, rfl, rfl⟩
 ·
  rintro m σ ⟨i, hi, htb, rfl⟩ KL1 hKL1
  refine tr_seq fun K5 hK5 => ?_
  refine tr_sR [1, 2, 5, 6, 10] fun K hK => ?_
  iterate 4 refine evR_p ?_
  refine evR_z hK ?_; clear hK K
  refine tr_condB (fun ht1 => ?_) (fun ht1 => ?_)
  ·
   skip
   (first | (exfalso; omega) | (have hby := bits_yes hn hil htb ht2; obtain ⟨hty, x, hx, hx12, hadd, hlt⟩ := hby; have hsx : shlW .i64 1 (x : Nat) = ((2 ^ x : Nat) : Int) := shl_pow (by omega); have hw2 : IntKind.i64.wrap (((setTo l i : Nat) : Int) + ((2 ^ x : Nat) : Int)) = ((setTo l (i + 1) : Nat) : Int) := (by rw [w64 (by omega)]; omega); replace hq := And.intro hq (And.intro hx (And.intro hsx hw2))) | skip)
   all_goals
    have hil : i < l.length := by omega
    have hwi : 0 < (i : Int) → IntKind.i64.wrap ((i : Int) - 1) = ((i - 1 : Nat) : Int) := fun h => by rw [w64 (by omega)]; omega
    replace hq := And.intro hq (And.intro hil (hwi))
    refine skipZ ?_
    refine hK5 _ ?_
    refine tr_seq fun K7 hK7 => ?_
    refine tr_block ?_
    refine tr_seq fun K8 hK8 => ?_
    refine tr_sD [] [1, 2, 5, 6, 43] fun K hK => ?_
    iterate 6 refine evD_p ?_
    iterate 8 refine evD_g ?_
    iterate 2 refine evD_p ?_
    iterate 14 refine evD_g ?_
    refine evD_p ?_
    refine evD_z hK ?_; clear hK K
    refine tr_condB (fun ht2 => ?_) (fun ht2 => ?_)
    ·
     skip
     (first | (exfalso; omega) | (have hby := bits_yes hn hil htb ht2; obtain ⟨hty, x, hx, hx12, hadd, hlt⟩ := hby; have hsx : shlW .i64 1 (x : Nat) = ((2 ^ x : Nat) : Int) := shl_pow (by omega); have hw2 : IntKind.i64.wrap (((setTo l i : Nat) : Int) + ((2 ^ x : Nat) : Int)) = ((setTo l (i + 1) : Nat) : Int) := (by rw [w64 (by omega)]; omega); replace hq := And.intro hq (And.intro hx (And.intro hsx hw2))) | skip)
     all_goals
      refine tr_sR [4] fun K hK => ?_
      refine evR_p ?_
      refine evR_z hK ?_; clear hK K
      refine retZ ?_; try exact ⟨⟩
      all_goals (first | (rw [bits_no hil htb ht2]; done) | (rw [bits_end htb]; done))
    ·
     skip
     (first | (exfalso; omega) | (have hby := bits_yes hn hil htb ht2; obtain ⟨hty, x, hx, hx12, hadd, hlt⟩ := hby; have hsx : shlW .i64 1 (x : Nat) = ((2 ^ x : Nat) : Int) := shl_pow (by omega); have hw2 : IntKind.i64.wrap (((setTo l i : Nat) : Int) + ((2 ^ x : Nat) : Int)) = ((setTo l (i + 1) : Nat) : Int) := (by rw [w64 (by omega)]; omega); replace hq := And.intro hq (And.intro hx (And.intro hsx hw2))) | skip)
     all_goals
      refine skipZ ?_
      refine hK8 _ ?_
      refine tr_region [1, 2, 5, 6] rfl rfl fun K hK => ?_
      iterate 8 refine evR_p ?_
      refine evR_e hK ?_; clear hK K
      refine hK7 _ ?_
      refine tr_region [1, 2, 5, 6] rfl rfl fun K hK => ?_
      iterate 3 refine evR_p ?_
      refine evR_e hK ?_; clear hK K
      refine hKL1 _ ?_
      exact ⟨m - 1, _, by omega, Wk.refl _, i + 1, by omega, hty, by rw [w64 (x := (i : Int) + 1) (by omega)]; rfl⟩
  ·
   skip
   (first | (exfalso; omega) | (have hby := bits_yes hn hil htb ht2; obtain ⟨hty, x, hx, hx12, hadd, hlt⟩ := hby; have hsx : shlW .i64 1 (x : Nat) = ((2 ^ x : Nat) : Int) := shl_pow (by omega); have hw2 : IntKind.i64.wrap (((setTo l i : Nat) : Int) + ((2 ^ x : Nat) : Int)) = ((setTo l (i + 1) : Nat) : Int) := (by rw [w64 (by omega)]; omega); replace hq := And.intro hq (And.intro hx (And.intro hsx hw2))) | skip)
   all_goals
    have hil : i = l.length := by omega
    subst hil
    refine tr_exit ?_
    simp only [thenE, inBlkE, Nat.reduceEqDiff, ↓reduceIte]
    refine hK3 _ ?_
    refine tr_sR [4] fun K hK => ?_
    iterate 2 refine evR_p ?_
    refine evR_z hK ?_; clear hK K
    refine retZ ?_; try exact ⟨⟩
    all_goals (first | (rw [bits_no hil htb ht2]; done) | (rw [bits_end htb]; done))

end Go.Proofs.YtfamkbofdamkkaaGreatDoor
namespace Go.Proofs.YtfamkbofdamkkaaGreatDoor
open Go.RowKit
set_option linter.unusedVariables false
set_option linter.unusedSimpArgs false
set_option maxRecDepth 100000
attribute [local go_sem] Nat.zero_add Nat.add_zero Nat.mul_one eq_self ne_eq not_true_eq_false not_false_eq_true decide_true decide_false decide_not Bool.false_eq_true List.filter_cons List.filter_nil true_and and_true beq_false beq_true Bool.not_true Bool.not_false Bool.and_true Bool.true_and Option.getD_some Option.getD_none imp_self implies_true Int.toNat_natCast List.cons_append List.nil_append List.map_cons List.map_nil List.length_cons List.length_nil List.getD_cons_zero List.getD_cons_succ List.drop_zero List.drop_succ_cons List.take_succ_cons List.take_zero
attribute [local go_sem] shL isSh Option.isNone_none Option.isNone_some Option.isSome_none lowN lowQ lowM isAl appOwn unw appF isE isO stpO notIn St.bare evO evDO isEff stp St.get St.slot St.put List.lookup un unL ofVal gof nth pickV pkB_false pkB_true binV unV loadV idxV fldV partV buildV fillV lenV sliV appV appR rowsV winV V.parts V.okp V.sc Mem.look_cons Mem.look_nil V.cl V.clL AObj.clo fzAll exps St.fz Mem.fz V.fz V.fzL AObj.fz Option.isSome_some Option.isSome_none Bool.or_true Bool.true_or Bool.or_false Bool.false_or false_and and_false false_or or_false arT_101 arT_102 arT_105 arT_116 arT_117 arT_22 arT_23 arT_25 arT_26 arT_39 arT_50 arT_9 arT_90 boolT_108 boolT_110 boolT_119 boolT_26 boolT_3 boolT_32 flatT_108 flatT_110 flatT_119 flatT_26 flatT_3 flatT_32 intT_108 intT_110 intT_126 intT_3 intT_5 intT_77 intT_79 lay_101 lay_102 lay_116 lay_117 lay_126 lay_23 lay_25 lay_26 lay_28 lay_3 lay_31 lay_39 lay_4 lay_41 lay_5 lay_52 lay_56 lay_70 lay_74 lay_78 lay_83 lay_89 lay_90 lay_92 lay_94 mapT_70 okF_10 okF_100 okF_101 okF_102 okF_103 okF_104 okF_11 okF_12 okF_125 okF_13 okF_14 okF_15 okF_16 okF_17 okF_18 okF_19 okF_20 okF_21 okF_22 okF_23 okF_24 okF_25 okF_26 okF_27 okF_28 okF_29 okF_3 okF_30 okF_31 okF_32 okF_33 okF_34 okF_35 okF_36 okF_37 okF_38 okF_39 okF_4 okF_40 okF_41 okF_42 okF_43 okF_44 okF_45 okF_46 okF_47 okF_48 okF_49 okF_5 okF_50 okF_51 okF_52 okF_53 okF_54 okF_55 okF_56 okF_57 okF_58 okF_59 okF_6 okF_60 okF_61 okF_62 okF_63 okF_64 okF_65 okF_66 okF_67 okF_68 okF_69 okF_7 okF_70 okF_71 okF_72 okF_73 okF_74 okF_75 okF_76 okF_77 okF_78 okF_79 okF_8 okF_80 okF_81 okF_82 okF_83 okF_84 okF_85 okF_86 okF_87 okF_88 okF_89 okF_9 okF_90 okF_91 okF_92 okF_93 okF_94 okF_95 okF_96 okF_97 okF_98 okF_99 plT_102 plT_116 plT_117 plT_28 plT_41 plT_52 plT_89 plT_92 plT_94 plT_98 slT_101 slT_102 slT_105 slT_116 slT_117 slT_22 slT_23 slT_25 slT_26 slT_39 slT_50 slT_90 stT_28_0 stT_28_1 stT_28_2 stT_41_0 stT_41_2 stT_41_3 stT_52_4 stT_52_5 stT_89_0 stT_89_1 stT_92_0 stT_92_1 stT_92_2 stT_92_3 stT_94_0 stT_98_0 stT_98_1 stT_98_2 stT_98_3 strT_101 strT_9 zeroT_101 zeroT_102 zeroT_116 zeroT_117 zeroT_126 zeroT_28 zeroT_3 zeroT_31 zeroT_39 zeroT_4 zeroT_41 zeroT_50 zeroT_52 zeroT_70 zeroT_74 zeroT_78 zeroT_89 zeroT_92 zeroT_94 zeroT_98 zeroT_105

attribute [local go_sem] List.getElem?_cons_zero List.getElem?_cons_succ List.zip_cons_cons List.zip_nil_left List.zip_nil_right Bool.false_and Bool.and_false List.length_append List.length_set List.length_replicate List.all_cons List.all_nil encI_length encI_getD encR_length encR_getD encRw encPg spl shp AObj.shp rowM isSt isRpS isRd csh AObj.csh forall_const imp_self
attribute [local go_sem] encSg encW encSgs_length encWs_length encSgs_getD encWs_getD lookV lkM putM
attribute [local simp] encI_length encR_length cellsI_length encSgs_length encWs_length
section
attribute [local go_sem] cellsI_cl cellsI_length encI_length encI_getD encR_length
set_option maxHeartbeats 16000000 in
theorem kc3a (a : Int) (x : List T3) (g : List Int) (ha : okI a) (hxl : x.length ≤ maxLen) (hx : ∀ t ∈ x, okT t) (hgl : g.length = 8) (hg : ∀ c ∈ g, okI c) (b : Int) (hb : okI b) (hc : ∀ k : Nat, pickW b ((2 ^ (madeW a x g).rows.length : Nat) : Int) = k → cnfB (madeW a x g) (rowsN k) = true) : CallsA Tryz.prog 3 [.int .i64 a, .sl 3 (encT x), .agg (cellsI g), .int .i64 b] (.bool true) := by
 have hc11 := c11 a x g ha hxl hgl
 have hv : validB (madeW a x g) = true := made_valid ha hx hg
 have hr8 := made_rows a x g
 obtain ⟨M, hM⟩ : ∃ M, madeW a x g = M := ⟨_, rfl⟩
 rw [hM] at hc11 hv hr8
 have hn : M.rows.length ≤ 12 := by omega
 have hpM := okPr_valid hv
 have hgk : List.take 8 (cellsI g) = cellsI g := List.take_of_length_le (by rw [cellsI_length, hgl]; decide)
 obtain ⟨k, hk0, hk⟩ := pick_pow hb hn
 have hp4 := pow_4096 hn
 have hpp := Nat.two_pow_pos M.rows.length
 have c7 : CallsA Tryz.prog 7 [.int .i64 b, .int .i64 ((2 ^ M.rows.length : Nat) : Int)] (.int .i64 (k : Nat)) := hk0 ▸ c12 b _ (by omega)
 have hsh : shlW .i64 1 (M.rows.length : Nat) = ((2 ^ M.rows.length : Nat) : Int) := shl1 (by omega)
 rw [hM] at hc
 have hcn := hc k hk0
 obtain ⟨t, ht, e8, -, -, -, hmin, hlp, -⟩ := shr_all hv hn hk hcn
 have c8 := kc19 M hpM.r hpM.g hpM.c (rowsN k) (rows_max k) hcn
 rw [e8] at c8
 obtain ⟨hct, hmt⟩ := min_all hv hn ht hmin
 have hp1 : IntKind.i64.wrap (((2 ^ M.rows.length : Nat) : Int) - 1) = ((2 ^ M.rows.length : Nat) : Int) - 1 := w64 (by omega)
 have hp2 : IntKind.i64.wrap (((2 ^ M.rows.length : Nat) : Int) - 1 - (t : Nat)) = ((2 ^ M.rows.length - 1 - t : Nat) : Int) := by rw [w64 (by omega)]; omega
 have c10 := kc44 M hpM.r hpM.g hpM.c hn (rowsN t) (rows_max t)
 rw [bsW_rows hn ht] at c10
 have c6b := kc17 (2 ^ M.rows.length - 1 - t) (by omega)
 have c11w := c30 M hpM.r hpM.g hpM.c (rowsN (2 ^ M.rows.length - 1 - t)) (rows_max _)
 rw [wth_rows hv compl_lt] at c11w
 have hvQ := without_valid hv (rowsN (2 ^ M.rows.length - 1 - t))
 have hfd := left_found hv hn hct
 have hrf := left_ref hv hn hct
 have hql := left_len hn ht
 obtain ⟨hul, hug⟩ := left_used hv hn ht hct hmt
 generalize withoutW M (rowsN (2 ^ M.rows.length - 1 - t)) = Q at c11w hvQ hfd hrf hql hul hug
 have hpQ := okPr_valid hvQ
 have hfQ := okPf_prf hvQ
 have c36 := s36 hvQ
 have c13 := s24 hpQ hfQ
 have c14u := s29 hpQ hfQ
 have hum := usedI_max Q (prfS Q)
 rw [hrf] at c13
 unfold encSol2 at c36
 rw [hfd] at c36
 generalize usedI Q (prfS Q) = U at c14u hul hug hum
 generalize prfS Q = PF at c36 c13 c14u
 generalize (solveW Q).set = SS at c36
 generalize (solveW Q).gain = SG at c36
 have hqi : (Q.rows.length : Int) = ((rowsN t).length : Nat) := by omega
 have hui : (U.length : Int) = ((rowsN t).length : Nat) := by omega
 have htn : ¬ ((t : Nat) : Int) < 0 := by omega
 simp only [encPg] at c11w c36 c13 c14u
 unfold maxLen at hum
 have hq := And.intro hgl (And.intro hgk (And.intro hsh (And.intro hp1 (And.intro hp2 (And.intro hqi (hui))))))
 refine callsA_of_tr Tryz.func3 rfl (Nat.le_of_ble_eq_true rfl) ?_
 simp only [Tryz.results3, envOf, Nat.reduceAdd]
 refine tr_seq fun K1 hK1 => ?_
 refine tr_region [0, 1, 3, 6] rfl rfl fun K hK => ?_
 iterate 2 refine evR_p ?_
 refine evR_e hK ?_; clear hK K
 refine hK1 _ ?_
 refine tr_seq fun K2 hK2 => ?_
 refine tr_region [0, 1, 3, 6, 9] rfl rfl fun K hK => ?_
 refine evR_c (hc := kc9) (k := ?_)
 refine evR_p ?_
 refine evR_e hK ?_; clear hK K
 refine hK2 _ ?_
 refine tr_seq fun K3 hK3 => ?_
 refine tr_seq fun K4 hK4 => ?_
 refine tr_region [0, 1, 3, 6, 9, 23] rfl rfl fun K hK => ?_
 iterate 2 refine evR_p ?_
 refine evR_e hK ?_; clear hK K
 refine hK4 _ ?_
 refine tr_condB (fun ht1 => ?_) (fun ht1 => ?_)
 ·
  exfalso; first | omega | (simp_all; done) | (simp_all; omega)
 ·
  skip
  (first | (exfalso; omega) | (exfalso; simp_all; done) | skip)
  all_goals
   refine tr_skip ?_
   (try simp only [thenE, inBlkE])
   refine hK3 _ ?_
   refine tr_seq fun K5 hK5 => ?_
   refine tr_region [3, 9, 10] rfl rfl fun K hK => ?_
   iterate 3 refine evR_p ?_
   refine evR_c (hc := hc11) (k := ?_)
   iterate 2 refine evR_p ?_
   refine evR_e hK ?_; clear hK K
   refine hK5 _ ?_
   refine tr_seq fun K6 hK6 => ?_
   refine tr_region [9, 10, 11] rfl rfl fun K hK => ?_
   iterate 5 refine evR_p ?_
   refine evR_c (hc := c7) (k := ?_)
   refine evR_c (hc := (kc17 k (by omega))) (k := ?_)
   refine evR_p ?_
   refine evR_e hK ?_; clear hK K
   refine hK6 _ ?_
   refine tr_seq fun K7 hK7 => ?_
   refine tr_region [9, 10, 12, 13] rfl rfl fun K hK => ?_
   iterate 2 refine evR_p ?_
   refine evR_c (hc := c8) (k := ?_)
   iterate 5 refine evR_p ?_
   refine evR_e hK ?_; clear hK K
   refine hK7 _ ?_
   refine tr_seq fun K8 hK8 => ?_
   refine tr_seq fun K9 hK9 => ?_
   refine tr_region [9, 10, 12, 42] rfl rfl fun K hK => ?_
   iterate 2 refine evR_p ?_
   refine evR_e hK ?_; clear hK K
   refine hK9 _ ?_
   refine tr_condB (fun ht2 => ?_) (fun ht2 => ?_)
   ·
    exfalso; first | omega | (simp_all; done) | (simp_all; omega)
   ·
    skip
    (first | (exfalso; omega) | (exfalso; simp_all; done) | skip)
    all_goals
     refine tr_skip ?_
     (try simp only [thenE, inBlkE])
     refine hK8 _ ?_
     refine tr_seq fun K10 hK10 => ?_
     refine tr_seq fun K11 hK11 => ?_
     refine tr_region [9, 10, 12, 50] rfl rfl fun K hK => ?_
     iterate 3 refine evR_p ?_
     refine evR_e hK ?_; clear hK K
     refine hK11 _ ?_
     refine tr_condB (fun ht3 => ?_) (fun ht3 => ?_)
     ·
      exfalso; first | omega | (simp_all; done) | (simp_all; omega)
     ·
      skip
      (first | (exfalso; omega) | (exfalso; simp_all; done) | skip)
      all_goals
       refine tr_skip ?_
       (try simp only [thenE, inBlkE])
       refine hK10 _ ?_
       refine tr_seq fun K12 hK12 => ?_
       refine tr_region [10, 12, 14] rfl rfl fun K hK => ?_
       iterate 2 refine evR_p ?_
       refine evR_c (hc := c10) (k := ?_)
       refine evR_p ?_
       refine evR_e hK ?_; clear hK K
       refine hK12 _ ?_
       refine tr_seq fun K13 hK13 => ?_
       refine tr_seq fun K14 hK14 => ?_
       refine tr_region [10, 12, 14, 56] rfl rfl fun K hK => ?_
       iterate 2 refine evR_p ?_
       refine evR_e hK ?_; clear hK K
       refine hK14 _ ?_
       refine tr_condB (fun ht4 => ?_) (fun ht4 => ?_)
       ·
        exfalso; first | omega | (simp_all; done) | (simp_all; omega)
       ·
        skip
        (first | (exfalso; omega) | (exfalso; simp_all; done) | skip)
        all_goals
         refine tr_skip ?_
         (try simp only [thenE, inBlkE])
         refine hK13 _ ?_
         refine tr_seq fun K15 hK15 => ?_
         refine tr_draw [3000002, 4000000] [12, 15, 16] mixed rfl (by kernel_rfl) rfl fun K hK => ?_
         iterate 8 refine evD_p ?_
         refine evD_c (hc := c6b) (k := ?_)
         refine evD_c (hc := c11w) (k := ?_)
         iterate 6 refine evD_p ?_
         refine evD_e hK ?_; clear hK K
         refine hK15 _ ?_
         refine tr_seq fun K16 hK16 => ?_
         refine tr_region [12, 15, 16, 17, 18] rfl rfl fun K hK => ?_
         refine evR_p ?_
         refine evR_c (hc := c36) (k := ?_)
         iterate 6 refine evR_p ?_
         refine evR_e hK ?_; clear hK K
         refine hK16 _ ?_
         refine tr_seq fun K17 hK17 => ?_
         refine tr_seq fun K18 hK18 => ?_
         refine tr_region [12, 15, 17, 99] rfl rfl fun K hK => ?_
         iterate 3 refine evR_p ?_
         iterate 2 refine evR_g ?_
         iterate 2 refine evR_p ?_
         iterate 2 refine evR_g ?_
         iterate 2 refine evR_p ?_
         iterate 6 refine evR_g ?_
         iterate 2 refine evR_p ?_
         iterate 3 refine evR_g ?_
         refine evR_gc (hc := c13) (k := ?_)
         refine evR_g ?_
         refine evR_p ?_
         refine evR_e hK ?_; clear hK K
         refine hK18 _ ?_
         refine tr_condB (fun ht5 => ?_) (fun ht5 => ?_)
         ·
          exfalso; first | omega | (simp_all; done) | (simp_all; omega)
         ·
          skip
          (first | (exfalso; omega) | (exfalso; simp_all; done) | skip)
          all_goals
           refine tr_skip ?_
           (try simp only [thenE, inBlkE])
           refine hK17 _ ?_
           refine tr_seq fun K19 hK19 => ?_
           refine tr_region [12, 19] rfl rfl fun K hK => ?_
           iterate 3 refine evR_p ?_
           refine evR_c (hc := c14u) (k := ?_)
           refine evR_p ?_
           refine evR_e hK ?_; clear hK K
           refine hK19 _ ?_
           refine tr_seq fun K20 hK20 => ?_
           refine tr_seq fun K21 hK21 => ?_
           refine tr_region [12, 19, 20] rfl rfl fun K hK => ?_
           refine evR_p ?_
           refine evR_e hK ?_; clear hK K
           refine hK21 _ ?_
           refine tr_block ?_
           -- loop 1: live [12, 19, 20]
           refine tr_loopW (fun m σ => ∃ i : Nat, i + m = U.length ∧ σ = ⟨[(12, .sl 1 (encI (rowsN t))), (19, .sl 1 (encI U)), (20, .int .i64 (i : Nat))], [], 4⟩) (U.length) ?_ ?_
           ·
            exact ⟨_, Wk.drop (fun _ => false), 0, by omega, rfl⟩
           ·
            rintro m σ ⟨i, hi, rfl⟩ KL1 hKL1
            refine tr_seq fun K22 hK22 => ?_
            refine tr_seq fun K23 hK23 => ?_
            refine tr_region [12, 19, 20, 107] rfl rfl fun K hK => ?_
            iterate 4 refine evR_p ?_
            refine evR_e hK ?_; clear hK K
            refine hK23 _ ?_
            refine tr_condB (fun ht6 => ?_) (fun ht6 => ?_)
            ·
             skip
             (first | (exfalso; omega) | (exfalso; simp_all; done) | skip)
             all_goals
              have hil : i < U.length := by omega
              have hui2 := hug i (by omega)
              replace hq := And.intro hq (And.intro hil (hui2))
              refine tr_skip ?_
              (try simp only [thenE, inBlkE])
              refine hK22 _ ?_
              refine tr_seq fun K24 hK24 => ?_
              refine tr_block ?_
              refine tr_seq fun K25 hK25 => ?_
              refine tr_region [12, 19, 20, 115] rfl rfl fun K hK => ?_
              iterate 6 refine evR_p ?_
              refine evR_e hK ?_; clear hK K
              refine hK25 _ ?_
              refine tr_condB (fun ht7 => ?_) (fun ht7 => ?_)
              ·
               skip
               (first | (exfalso; omega) | (exfalso; simp_all; done) | skip)
               all_goals
                refine tr_seq fun K26 hK26 => ?_
                refine tr_region [8] rfl rfl fun K hK => ?_
                refine evR_p ?_
                refine evR_e hK ?_; clear hK K
                refine hK26 _ ?_
                refine tr_ret ?_
                (try simp only [thenE, inBlkE])
                simp (maxSteps := 4000000) (disch := first | assumption | omega | (simp only [go_sem, *]; done) | (simp only [go_sem, *]; omega)) only [postA, postO, resV1, fzAll, go_sem, hq, Int.reduceToNat, Nat.reduceBEq, Nat.reduceEqDiff, Nat.reduceAdd, Nat.reduceMul, Nat.reduceLeDiff, Nat.reduceLT, Nat.reduceSub, ↓reduceIte, reduceCtorEq]
                all_goals (first | rfl | simp)
              ·
               skip
               (first | (exfalso; omega) | (exfalso; simp_all; done) | skip)
               all_goals
                refine tr_skip ?_
                (try simp only [thenE, inBlkE])
                refine hK24 _ ?_
                refine tr_region [12, 19, 20] rfl rfl fun K hK => ?_
                iterate 3 refine evR_p ?_
                refine evR_e hK ?_; clear hK K
                refine hKL1 _ ?_
                exact ⟨m - 1, _, by omega, Wk.refl _, i + 1, by omega, by rw [w64 (x := (i : Int) + 1) (by omega)]; rfl⟩
            ·
             skip
             (first | (exfalso; omega) | (exfalso; simp_all; done) | skip)
             all_goals
              have hil : i = U.length := by omega
              subst hil
              refine tr_exit ?_
              simp only [thenE, inBlkE, Nat.reduceEqDiff, ↓reduceIte]
              refine hK20 _ ?_
              refine tr_seq fun K27 hK27 => ?_
              refine tr_region [8] rfl rfl fun K hK => ?_
              iterate 6 refine evR_p ?_
              refine evR_e hK ?_; clear hK K
              refine hK27 _ ?_
              refine tr_ret ?_
              (try simp only [thenE, inBlkE])
              simp (maxSteps := 4000000) (disch := first | assumption | omega | (simp only [go_sem, *]; done) | (simp only [go_sem, *]; omega)) only [postA, postO, resV1, fzAll, go_sem, hq, Int.reduceToNat, Nat.reduceBEq, Nat.reduceEqDiff, Nat.reduceAdd, Nat.reduceMul, Nat.reduceLeDiff, Nat.reduceLT, Nat.reduceSub, ↓reduceIte, reduceCtorEq]
              all_goals (first | rfl | simp)
end

section
attribute [local go_sem] cellsI_cl cellsI_length encI_length encI_getD encR_length
set_option maxHeartbeats 16000000 in
theorem kc3b (a : Int) (x : List T3) (g : List Int) (ha : okI a) (hxl : x.length ≤ maxLen) (hx : ∀ t ∈ x, okT t) (hgl : g.length = 8) (hg : ∀ c ∈ g, okI c) (b : Int) (hb : okI b) (hc : ∀ k : Nat, pickW b ((2 ^ (madeW a x g).rows.length : Nat) : Int) = k → cnfB (madeW a x g) (rowsN k) = false) (hcr : (coreL (madeW a x g)).length ≠ 0) : CallsA Tryz.prog 3 [.int .i64 a, .sl 3 (encT x), .agg (cellsI g), .int .i64 b] (.bool true) := by
 have hc11 := c11 a x g ha hxl hgl
 have hv : validB (madeW a x g) = true := made_valid ha hx hg
 have hr8 := made_rows a x g
 obtain ⟨M, hM⟩ : ∃ M, madeW a x g = M := ⟨_, rfl⟩
 rw [hM] at hc11 hv hr8
 have hn : M.rows.length ≤ 12 := by omega
 have hpM := okPr_valid hv
 have hgk : List.take 8 (cellsI g) = cellsI g := List.take_of_length_le (by rw [cellsI_length, hgl]; decide)
 obtain ⟨k, hk0, hk⟩ := pick_pow hb hn
 have hp4 := pow_4096 hn
 have hpp := Nat.two_pow_pos M.rows.length
 have c7 : CallsA Tryz.prog 7 [.int .i64 b, .int .i64 ((2 ^ M.rows.length : Nat) : Int)] (.int .i64 (k : Nat)) := hk0 ▸ c12 b _ (by omega)
 have hsh : shlW .i64 1 (M.rows.length : Nat) = ((2 ^ M.rows.length : Nat) : Int) := shl1 (by omega)
 rw [hM] at hc hcr
 have hcn := hc k hk0
 have c8 := kc19n M hpM.r hpM.g hpM.c (rowsN k) (rows_max k) hcn
 have c9 := kc12 M hpM.r hpM.g hpM.c (sm_of hv hn)
 have hmin := core_min hv hn hcr
 obtain ⟨t, ht, ec, -⟩ := core_shape hv hn
 rw [ec] at c9 hmin hcr
 have hlp : 0 < (rowsN t).length := by omega
 obtain ⟨hct, hmt⟩ := min_all hv hn ht hmin
 have hp1 : IntKind.i64.wrap (((2 ^ M.rows.length : Nat) : Int) - 1) = ((2 ^ M.rows.length : Nat) : Int) - 1 := w64 (by omega)
 have hp2 : IntKind.i64.wrap (((2 ^ M.rows.length : Nat) : Int) - 1 - (t : Nat)) = ((2 ^ M.rows.length - 1 - t : Nat) : Int) := by rw [w64 (by omega)]; omega
 have c10 := kc44 M hpM.r hpM.g hpM.c hn (rowsN t) (rows_max t)
 rw [bsW_rows hn ht] at c10
 have c6b := kc17 (2 ^ M.rows.length - 1 - t) (by omega)
 have c11w := c30 M hpM.r hpM.g hpM.c (rowsN (2 ^ M.rows.length - 1 - t)) (rows_max _)
 rw [wth_rows hv compl_lt] at c11w
 have hvQ := without_valid hv (rowsN (2 ^ M.rows.length - 1 - t))
 have hfd := left_found hv hn hct
 have hrf := left_ref hv hn hct
 have hql := left_len hn ht
 obtain ⟨hul, hug⟩ := left_used hv hn ht hct hmt
 generalize withoutW M (rowsN (2 ^ M.rows.length - 1 - t)) = Q at c11w hvQ hfd hrf hql hul hug
 have hpQ := okPr_valid hvQ
 have hfQ := okPf_prf hvQ
 have c36 := s36 hvQ
 have c13 := s24 hpQ hfQ
 have c14u := s29 hpQ hfQ
 have hum := usedI_max Q (prfS Q)
 rw [hrf] at c13
 unfold encSol2 at c36
 rw [hfd] at c36
 generalize usedI Q (prfS Q) = U at c14u hul hug hum
 generalize prfS Q = PF at c36 c13 c14u
 generalize (solveW Q).set = SS at c36
 generalize (solveW Q).gain = SG at c36
 have hqi : (Q.rows.length : Int) = ((rowsN t).length : Nat) := by omega
 have hui : (U.length : Int) = ((rowsN t).length : Nat) := by omega
 have htn : ¬ ((t : Nat) : Int) < 0 := by omega
 simp only [encPg] at c11w c36 c13 c14u
 unfold maxLen at hum
 have hq := And.intro hgl (And.intro hgk (And.intro hsh (And.intro hp1 (And.intro hp2 (And.intro hqi (hui))))))
 refine callsA_of_tr Tryz.func3 rfl (Nat.le_of_ble_eq_true rfl) ?_
 simp only [Tryz.results3, envOf, Nat.reduceAdd]
 refine tr_seq fun K1 hK1 => ?_
 refine tr_region [0, 1, 3, 6] rfl rfl fun K hK => ?_
 iterate 2 refine evR_p ?_
 refine evR_e hK ?_; clear hK K
 refine hK1 _ ?_
 refine tr_seq fun K2 hK2 => ?_
 refine tr_region [0, 1, 3, 6, 9] rfl rfl fun K hK => ?_
 refine evR_c (hc := kc9) (k := ?_)
 refine evR_p ?_
 refine evR_e hK ?_; clear hK K
 refine hK2 _ ?_
 refine tr_seq fun K3 hK3 => ?_
 refine tr_seq fun K4 hK4 => ?_
 refine tr_region [0, 1, 3, 6, 9, 23] rfl rfl fun K hK => ?_
 iterate 2 refine evR_p ?_
 refine evR_e hK ?_; clear hK K
 refine hK4 _ ?_
 refine tr_condB (fun ht1 => ?_) (fun ht1 => ?_)
 ·
  exfalso; first | omega | (simp_all; done) | (simp_all; omega)
 ·
  skip
  (first | (exfalso; omega) | (exfalso; simp_all; done) | skip)
  all_goals
   refine tr_skip ?_
   (try simp only [thenE, inBlkE])
   refine hK3 _ ?_
   refine tr_seq fun K5 hK5 => ?_
   refine tr_region [3, 9, 10] rfl rfl fun K hK => ?_
   iterate 3 refine evR_p ?_
   refine evR_c (hc := hc11) (k := ?_)
   iterate 2 refine evR_p ?_
   refine evR_e hK ?_; clear hK K
   refine hK5 _ ?_
   refine tr_seq fun K6 hK6 => ?_
   refine tr_region [9, 10, 11] rfl rfl fun K hK => ?_
   iterate 5 refine evR_p ?_
   refine evR_c (hc := c7) (k := ?_)
   refine evR_c (hc := (kc17 k (by omega))) (k := ?_)
   refine evR_p ?_
   refine evR_e hK ?_; clear hK K
   refine hK6 _ ?_
   refine tr_seq fun K7 hK7 => ?_
   refine tr_region [9, 10, 12, 13] rfl rfl fun K hK => ?_
   iterate 2 refine evR_p ?_
   refine evR_c (hc := c8) (k := ?_)
   iterate 5 refine evR_p ?_
   refine evR_e hK ?_; clear hK K
   refine hK7 _ ?_
   refine tr_seq fun K8 hK8 => ?_
   refine tr_seq fun K9 hK9 => ?_
   refine tr_region [9, 10, 12, 42] rfl rfl fun K hK => ?_
   iterate 2 refine evR_p ?_
   refine evR_e hK ?_; clear hK K
   refine hK9 _ ?_
   refine tr_condB (fun ht2 => ?_) (fun ht2 => ?_)
   ·
    skip
    (first | (exfalso; omega) | (exfalso; simp_all; done) | skip)
    all_goals
     refine tr_region [9, 10, 12] rfl rfl fun K hK => ?_
     refine evR_p ?_
     refine evR_c (hc := c9) (k := ?_)
     iterate 4 refine evR_p ?_
     refine evR_e hK ?_; clear hK K
     refine hK8 _ ?_
     refine tr_seq fun K10 hK10 => ?_
     refine tr_seq fun K11 hK11 => ?_
     refine tr_region [9, 10, 12, 50] rfl rfl fun K hK => ?_
     iterate 3 refine evR_p ?_
     refine evR_e hK ?_; clear hK K
     refine hK11 _ ?_
     refine tr_condB (fun ht3 => ?_) (fun ht3 => ?_)
     ·
      exfalso; first | omega | (simp_all; done) | (simp_all; omega)
     ·
      skip
      (first | (exfalso; omega) | (exfalso; simp_all; done) | skip)
      all_goals
       refine tr_skip ?_
       (try simp only [thenE, inBlkE])
       refine hK10 _ ?_
       refine tr_seq fun K12 hK12 => ?_
       refine tr_region [10, 12, 14] rfl rfl fun K hK => ?_
       iterate 2 refine evR_p ?_
       refine evR_c (hc := c10) (k := ?_)
       refine evR_p ?_
       refine evR_e hK ?_; clear hK K
       refine hK12 _ ?_
       refine tr_seq fun K13 hK13 => ?_
       refine tr_seq fun K14 hK14 => ?_
       refine tr_region [10, 12, 14, 56] rfl rfl fun K hK => ?_
       iterate 2 refine evR_p ?_
       refine evR_e hK ?_; clear hK K
       refine hK14 _ ?_
       refine tr_condB (fun ht4 => ?_) (fun ht4 => ?_)
       ·
        exfalso; first | omega | (simp_all; done) | (simp_all; omega)
       ·
        skip
        (first | (exfalso; omega) | (exfalso; simp_all; done) | skip)
        all_goals
         refine tr_skip ?_
         (try simp only [thenE, inBlkE])
         refine hK13 _ ?_
         refine tr_seq fun K15 hK15 => ?_
         refine tr_draw [3000002, 4000000] [12, 15, 16] mixed rfl (by kernel_rfl) rfl fun K hK => ?_
         iterate 8 refine evD_p ?_
         refine evD_c (hc := c6b) (k := ?_)
         refine evD_c (hc := c11w) (k := ?_)
         iterate 6 refine evD_p ?_
         refine evD_e hK ?_; clear hK K
         refine hK15 _ ?_
         refine tr_seq fun K16 hK16 => ?_
         refine tr_region [12, 15, 16, 17, 18] rfl rfl fun K hK => ?_
         refine evR_p ?_
         refine evR_c (hc := c36) (k := ?_)
         iterate 6 refine evR_p ?_
         refine evR_e hK ?_; clear hK K
         refine hK16 _ ?_
         refine tr_seq fun K17 hK17 => ?_
         refine tr_seq fun K18 hK18 => ?_
         refine tr_region [12, 15, 17, 99] rfl rfl fun K hK => ?_
         iterate 3 refine evR_p ?_
         iterate 2 refine evR_g ?_
         iterate 2 refine evR_p ?_
         iterate 2 refine evR_g ?_
         iterate 2 refine evR_p ?_
         iterate 6 refine evR_g ?_
         iterate 2 refine evR_p ?_
         iterate 3 refine evR_g ?_
         refine evR_gc (hc := c13) (k := ?_)
         refine evR_g ?_
         refine evR_p ?_
         refine evR_e hK ?_; clear hK K
         refine hK18 _ ?_
         refine tr_condB (fun ht5 => ?_) (fun ht5 => ?_)
         ·
          exfalso; first | omega | (simp_all; done) | (simp_all; omega)
         ·
          skip
          (first | (exfalso; omega) | (exfalso; simp_all; done) | skip)
          all_goals
           refine tr_skip ?_
           (try simp only [thenE, inBlkE])
           refine hK17 _ ?_
           refine tr_seq fun K19 hK19 => ?_
           refine tr_region [12, 19] rfl rfl fun K hK => ?_
           iterate 3 refine evR_p ?_
           refine evR_c (hc := c14u) (k := ?_)
           refine evR_p ?_
           refine evR_e hK ?_; clear hK K
           refine hK19 _ ?_
           refine tr_seq fun K20 hK20 => ?_
           refine tr_seq fun K21 hK21 => ?_
           refine tr_region [12, 19, 20] rfl rfl fun K hK => ?_
           refine evR_p ?_
           refine evR_e hK ?_; clear hK K
           refine hK21 _ ?_
           refine tr_block ?_
           -- loop 1: live [12, 19, 20]
           refine tr_loopW (fun m σ => ∃ i : Nat, i + m = U.length ∧ σ = ⟨[(12, .sl 1 (encI (rowsN t))), (19, .sl 1 (encI U)), (20, .int .i64 (i : Nat))], [], 4⟩) (U.length) ?_ ?_
           ·
            exact ⟨_, Wk.drop (fun _ => false), 0, by omega, rfl⟩
           ·
            rintro m σ ⟨i, hi, rfl⟩ KL1 hKL1
            refine tr_seq fun K22 hK22 => ?_
            refine tr_seq fun K23 hK23 => ?_
            refine tr_region [12, 19, 20, 107] rfl rfl fun K hK => ?_
            iterate 4 refine evR_p ?_
            refine evR_e hK ?_; clear hK K
            refine hK23 _ ?_
            refine tr_condB (fun ht6 => ?_) (fun ht6 => ?_)
            ·
             skip
             (first | (exfalso; omega) | (exfalso; simp_all; done) | skip)
             all_goals
              have hil : i < U.length := by omega
              have hui2 := hug i (by omega)
              replace hq := And.intro hq (And.intro hil (hui2))
              refine tr_skip ?_
              (try simp only [thenE, inBlkE])
              refine hK22 _ ?_
              refine tr_seq fun K24 hK24 => ?_
              refine tr_block ?_
              refine tr_seq fun K25 hK25 => ?_
              refine tr_region [12, 19, 20, 115] rfl rfl fun K hK => ?_
              iterate 6 refine evR_p ?_
              refine evR_e hK ?_; clear hK K
              refine hK25 _ ?_
              refine tr_condB (fun ht7 => ?_) (fun ht7 => ?_)
              ·
               skip
               (first | (exfalso; omega) | (exfalso; simp_all; done) | skip)
               all_goals
                refine tr_seq fun K26 hK26 => ?_
                refine tr_region [8] rfl rfl fun K hK => ?_
                refine evR_p ?_
                refine evR_e hK ?_; clear hK K
                refine hK26 _ ?_
                refine tr_ret ?_
                (try simp only [thenE, inBlkE])
                simp (maxSteps := 4000000) (disch := first | assumption | omega | (simp only [go_sem, *]; done) | (simp only [go_sem, *]; omega)) only [postA, postO, resV1, fzAll, go_sem, hq, Int.reduceToNat, Nat.reduceBEq, Nat.reduceEqDiff, Nat.reduceAdd, Nat.reduceMul, Nat.reduceLeDiff, Nat.reduceLT, Nat.reduceSub, ↓reduceIte, reduceCtorEq]
                all_goals (first | rfl | simp)
              ·
               skip
               (first | (exfalso; omega) | (exfalso; simp_all; done) | skip)
               all_goals
                refine tr_skip ?_
                (try simp only [thenE, inBlkE])
                refine hK24 _ ?_
                refine tr_region [12, 19, 20] rfl rfl fun K hK => ?_
                iterate 3 refine evR_p ?_
                refine evR_e hK ?_; clear hK K
                refine hKL1 _ ?_
                exact ⟨m - 1, _, by omega, Wk.refl _, i + 1, by omega, by rw [w64 (x := (i : Int) + 1) (by omega)]; rfl⟩
            ·
             skip
             (first | (exfalso; omega) | (exfalso; simp_all; done) | skip)
             all_goals
              have hil : i = U.length := by omega
              subst hil
              refine tr_exit ?_
              simp only [thenE, inBlkE, Nat.reduceEqDiff, ↓reduceIte]
              refine hK20 _ ?_
              refine tr_seq fun K27 hK27 => ?_
              refine tr_region [8] rfl rfl fun K hK => ?_
              iterate 6 refine evR_p ?_
              refine evR_e hK ?_; clear hK K
              refine hK27 _ ?_
              refine tr_ret ?_
              (try simp only [thenE, inBlkE])
              simp (maxSteps := 4000000) (disch := first | assumption | omega | (simp only [go_sem, *]; done) | (simp only [go_sem, *]; omega)) only [postA, postO, resV1, fzAll, go_sem, hq, Int.reduceToNat, Nat.reduceBEq, Nat.reduceEqDiff, Nat.reduceAdd, Nat.reduceMul, Nat.reduceLeDiff, Nat.reduceLT, Nat.reduceSub, ↓reduceIte, reduceCtorEq]
              all_goals (first | rfl | simp)
   ·
    exfalso; first | omega | (simp_all; done) | (simp_all; omega)
end

section
attribute [local go_sem] cellsI_cl cellsI_length encI_length encI_getD encR_length
set_option maxHeartbeats 16000000 in
theorem kc3c (a : Int) (x : List T3) (g : List Int) (ha : okI a) (hxl : x.length ≤ maxLen) (hx : ∀ t ∈ x, okT t) (hgl : g.length = 8) (hg : ∀ c ∈ g, okI c) (b : Int) (hb : okI b) (hc : ∀ k : Nat, pickW b ((2 ^ (madeW a x g).rows.length : Nat) : Int) = k → cnfB (madeW a x g) (rowsN k) = false) (hcr : (coreL (madeW a x g)).length = 0) : CallsA Tryz.prog 3 [.int .i64 a, .sl 3 (encT x), .agg (cellsI g), .int .i64 b] (.bool true) := by
 have hc11 := c11 a x g ha hxl hgl
 have hv : validB (madeW a x g) = true := made_valid ha hx hg
 have hr8 := made_rows a x g
 obtain ⟨M, hM⟩ : ∃ M, madeW a x g = M := ⟨_, rfl⟩
 rw [hM] at hc11 hv hr8
 have hn : M.rows.length ≤ 12 := by omega
 have hpM := okPr_valid hv
 have hgk : List.take 8 (cellsI g) = cellsI g := List.take_of_length_le (by rw [cellsI_length, hgl]; decide)
 obtain ⟨k, hk0, hk⟩ := pick_pow hb hn
 have hp4 := pow_4096 hn
 have hpp := Nat.two_pow_pos M.rows.length
 have c7 : CallsA Tryz.prog 7 [.int .i64 b, .int .i64 ((2 ^ M.rows.length : Nat) : Int)] (.int .i64 (k : Nat)) := hk0 ▸ c12 b _ (by omega)
 have hsh : shlW .i64 1 (M.rows.length : Nat) = ((2 ^ M.rows.length : Nat) : Int) := shl1 (by omega)
 rw [hM] at hc hcr
 have hcn := hc k hk0
 have c8 := kc19n M hpM.r hpM.g hpM.c (rowsN k) (rows_max k) hcn
 have c9 := kc12 M hpM.r hpM.g hpM.c (sm_of hv hn)
 generalize coreL M = CL at c9 hcr
 have hlz : (CL.length : Int) = 0 := by omega
 have hq := And.intro hgl (And.intro hgk (hsh))
 refine callsA_of_tr Tryz.func3 rfl (Nat.le_of_ble_eq_true rfl) ?_
 simp only [Tryz.results3, envOf, Nat.reduceAdd]
 refine tr_seq fun K1 hK1 => ?_
 refine tr_region [0, 1, 3, 6] rfl rfl fun K hK => ?_
 iterate 2 refine evR_p ?_
 refine evR_e hK ?_; clear hK K
 refine hK1 _ ?_
 refine tr_seq fun K2 hK2 => ?_
 refine tr_region [0, 1, 3, 6, 9] rfl rfl fun K hK => ?_
 refine evR_c (hc := kc9) (k := ?_)
 refine evR_p ?_
 refine evR_e hK ?_; clear hK K
 refine hK2 _ ?_
 refine tr_seq fun K3 hK3 => ?_
 refine tr_seq fun K4 hK4 => ?_
 refine tr_region [0, 1, 3, 6, 9, 23] rfl rfl fun K hK => ?_
 iterate 2 refine evR_p ?_
 refine evR_e hK ?_; clear hK K
 refine hK4 _ ?_
 refine tr_condB (fun ht1 => ?_) (fun ht1 => ?_)
 ·
  exfalso; first | omega | (simp_all; done) | (simp_all; omega)
 ·
  skip
  (first | (exfalso; omega) | (exfalso; simp_all; done) | skip)
  all_goals
   refine tr_skip ?_
   (try simp only [thenE, inBlkE])
   refine hK3 _ ?_
   refine tr_seq fun K5 hK5 => ?_
   refine tr_region [3, 9, 10] rfl rfl fun K hK => ?_
   iterate 3 refine evR_p ?_
   refine evR_c (hc := hc11) (k := ?_)
   iterate 2 refine evR_p ?_
   refine evR_e hK ?_; clear hK K
   refine hK5 _ ?_
   refine tr_seq fun K6 hK6 => ?_
   refine tr_region [9, 10, 11] rfl rfl fun K hK => ?_
   iterate 5 refine evR_p ?_
   refine evR_c (hc := c7) (k := ?_)
   refine evR_c (hc := (kc17 k (by omega))) (k := ?_)
   refine evR_p ?_
   refine evR_e hK ?_; clear hK K
   refine hK6 _ ?_
   refine tr_seq fun K7 hK7 => ?_
   refine tr_region [9, 10, 12, 13] rfl rfl fun K hK => ?_
   iterate 2 refine evR_p ?_
   refine evR_c (hc := c8) (k := ?_)
   iterate 5 refine evR_p ?_
   refine evR_e hK ?_; clear hK K
   refine hK7 _ ?_
   refine tr_seq fun K8 hK8 => ?_
   refine tr_seq fun K9 hK9 => ?_
   refine tr_region [9, 10, 12, 42] rfl rfl fun K hK => ?_
   iterate 2 refine evR_p ?_
   refine evR_e hK ?_; clear hK K
   refine hK9 _ ?_
   refine tr_condB (fun ht2 => ?_) (fun ht2 => ?_)
   ·
    skip
    (first | (exfalso; omega) | (exfalso; simp_all; done) | skip)
    all_goals
     refine tr_region [9, 10, 12] rfl rfl fun K hK => ?_
     refine evR_p ?_
     refine evR_c (hc := c9) (k := ?_)
     iterate 4 refine evR_p ?_
     refine evR_e hK ?_; clear hK K
     refine hK8 _ ?_
     refine tr_seq fun K10 hK10 => ?_
     refine tr_seq fun K11 hK11 => ?_
     refine tr_region [9, 10, 12, 50] rfl rfl fun K hK => ?_
     iterate 3 refine evR_p ?_
     refine evR_e hK ?_; clear hK K
     refine hK11 _ ?_
     refine tr_condB (fun ht3 => ?_) (fun ht3 => ?_)
     ·
      skip
      (first | (exfalso; omega) | (exfalso; simp_all; done) | skip)
      all_goals
       refine tr_seq fun K12 hK12 => ?_
       refine tr_region [8] rfl rfl fun K hK => ?_
       iterate 2 refine evR_p ?_
       refine evR_e hK ?_; clear hK K
       refine hK12 _ ?_
       refine tr_ret ?_
       (try simp only [thenE, inBlkE])
       simp (maxSteps := 4000000) (disch := first | assumption | omega | (simp only [go_sem, *]; done) | (simp only [go_sem, *]; omega)) only [postA, postO, resV1, fzAll, go_sem, hq, Int.reduceToNat, Nat.reduceBEq, Nat.reduceEqDiff, Nat.reduceAdd, Nat.reduceMul, Nat.reduceLeDiff, Nat.reduceLT, Nat.reduceSub, ↓reduceIte, reduceCtorEq]
       all_goals (rfl)
     ·
      exfalso; first | omega | (simp_all; done) | (simp_all; omega)
   ·
    exfalso; first | omega | (simp_all; done) | (simp_all; omega)
end

theorem kc3 (a : Int) (x : List T3) (g : List Int) (ha : okI a) (hxl : x.length ≤ maxLen) (hx : ∀ t ∈ x, okT t) (hgl : g.length = 8) (hg : ∀ c ∈ g, okI c) (b : Int) (hb : okI b) : CallsA Tryz.prog 3 [.int .i64 a, .sl 3 (encT x), .agg (cellsI g), .int .i64 b] (.bool true) := by
 have hn : (madeW a x g).rows.length ≤ 12 := by have := made_rows a x g; omega
 obtain ⟨k, hk0, hk⟩ := pick_pow hb hn
 have hu : ∀ k' : Nat, pickW b ((2 ^ (madeW a x g).rows.length : Nat) : Int) = k' → k' = k := fun k' h => by rw [hk0] at h; omega
 cases hc : cnfB (madeW a x g) (rowsN k) with
 | true => exact kc3a a x g ha hxl hx hgl hg b hb fun k' h => by rw [hu k' h]; exact hc
 | false =>
  by_cases h0 : (coreL (madeW a x g)).length = 0
  ·
   exact kc3c a x g ha hxl hx hgl hg b hb (fun k' h => by rw [hu k' h]; exact hc) h0
  ·
   exact kc3b a x g ha hxl hx hgl hg b hb (fun k' h => by rw [hu k' h]; exact hc) h0
end Go.Proofs.YtfamkbofdamkkaaGreatDoor
