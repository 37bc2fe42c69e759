/- Texts of this proof, put together. -/
import Derived.Test.YtfamkbofdamkkaaGreatKZb
import Derived.Test.YtfamkbofdamkkaaGreatKZc
import Derived.Test.YtfamkbofdamkkaaGreatKZd
import Derived.Test.YtfamkbofdamkkaaGreatProg
import Derived.Tactics
import Derived.Tactics2
import Derived.Defers
import Derived.Recover
import Derived.Laws.Pointers
import Derived.TacticsInMore
import Derived.RegionIn
import Derived.LoopNIn
import Derived.RecoverIn
namespace Go.Proofs.YtfamkbofdamkkaaGreat
open Go.RowKit
set_option linter.unusedVariables false
set_option linter.unusedSimpArgs false
set_option maxRecDepth 100000
attribute [local go_sem] Nat.zero_add Nat.add_zero Nat.mul_one eq_self ne_eq not_true_eq_false not_false_eq_true decide_true decide_false decide_not Bool.false_eq_true List.filter_cons List.filter_nil true_and and_true beq_false beq_true Bool.not_true Bool.not_false Bool.and_true Bool.true_and Option.getD_some Option.getD_none imp_self implies_true Int.toNat_natCast List.cons_append List.nil_append List.map_cons List.map_nil List.length_cons List.length_nil List.getD_cons_zero List.getD_cons_succ List.drop_zero List.drop_succ_cons List.take_succ_cons List.take_zero
attribute [local go_sem] Option.isNone_none Option.isNone_some Option.isSome_none List.lookup Option.isSome_some Option.isSome_none Bool.or_true Bool.true_or Bool.or_false Bool.false_or false_and and_false false_or or_false
attribute [local go_sem] List.getElem?_cons_zero List.getElem?_cons_succ List.zip_cons_cons List.zip_nil_left List.zip_nil_right Bool.false_and Bool.and_false List.length_append List.length_set List.length_replicate List.all_cons List.all_nil encR_length encR_getD encRw encPg spl forall_const imp_self
attribute [local go_sem] encSg encW encSgs_length encWs_length encSgs_getD encWs_getD lookV lkM putM
attribute [local simp] encI_length encR_length cellsI_length encSgs_length encWs_length
section
attribute [local go_sem] cellsI_cl cellsI_length cellsI_getD cellsI_dropD cellsI_take cellsI_tset List.set_set cellsI_mapL cellsI_domL
set_option maxHeartbeats 16000000 in
theorem k118s (vars : Int) (rows : List Rw) (l : List Sg) (v : Nat) (hvv0 : 0 ≤ vars ∧ vars ≤ 12) (hr : ∀ r ∈ rows, okRw v r) (hv : v ≤ 12) (hn : rows.length ≤ 301) (hll : l.length ≤ 8192) (hwl : ∀ k, k < l.length → ∀ s, l.getD k sg0 = s → s.ws.length ≤ maxLen) (n : Nat) (ih : ∀ (k : Nat) (d : List Int) (es : List (Int × Bool)), k < l.length → l.length ≤ k + n → d.length = 12 → okU rows.length es → (wkB vars rows l n k d = true → CallsM Tryz.prog 105 [.ptr 0 0, .int .i64 (k : Nat), .agg (cellsI d)] [(0, .cells [.int .i64 vars, .sl 6 (encR rows), .sl 4 (encSgs l), .mp 1]), (1, .dict es)] 2 (.tup []) [(0, .cells [.int .i64 vars, .sl 6 (encR rows), .sl 4 (encSgs l), .mp 1]), (1, .dict (usN l n k es))] 2) ∧ (wkB vars rows l n k d = false → CallsP Tryz.prog 105 [.ptr 0 0, .int .i64 (k : Nat), .agg (cellsI d)] [(0, .cells [.int .i64 vars, .sl 6 (encR rows), .sl 4 (encSgs l), .mp 1]), (1, .dict es)] 2 (wr (wkX vars rows l n k d)))) (k : Nat) (d : List Int) (es : List (Int × Bool)) (hk : k < l.length) (hkn : l.length ≤ k + (n + 1)) (hd : d.length = 12) (hu : okU rows.length es) (s : Sg) (hs : l.getD k sg0 = s) : (wkB vars rows l (n + 1) k d = true → CallsM Tryz.prog 105 [.ptr 0 0, .int .i64 (k : Nat), .agg (cellsI d)] ([(0, .cells [.int .i64 vars, .sl 6 (encR rows), .sl 4 (encSgs l), .mp 1]), (1, .dict es)]) (2) (.tup []) ([(0, .cells [.int .i64 vars, .sl 6 (encR rows), .sl 4 (encSgs l), .mp 1]), (1, .dict (usN l (n + 1) k es))]) (2)) ∧ (wkB vars rows l (n + 1) k d = false → CallsP Tryz.prog 105 [.ptr 0 0, .int .i64 (k : Nat), .agg (cellsI d)] ([(0, .cells [.int .i64 vars, .sl 6 (encR rows), .sl 4 (encSgs l), .mp 1]), (1, .dict es)]) (2) (wr (wkX vars rows l (n + 1) k d))) := by
 have hkl : (k : Int) < l.length := by omega
 have hvv : isInB s.var 0 (vars - 1) = true → 0 ≤ s.var ∧ s.var < 12 := by rw [isInB_spec]; omega
 have hcs : caseOk vars s d = (isInB s.var 0 (vars - 1) && decide (d.getD s.var.toNat 0 = 0) && decide ((s.ws.length : Int) = 0)) := by
  have : decide (s.ws.length = 0) = decide ((s.ws.length : Int) = 0) := by congr 1; simp
  rw [caseOk, this, Bool.and_assoc]
 have hdv : isInB s.var 0 (vars - 1) = true → (List.drop s.var.toNat (cellsI d)).getD 0 V.any = V.int .i64 (d.getD s.var.toNat 0) := fun h => cellsI_dropD d _ (by have := hvv h; omega)
 have hw1 : IntKind.i64.wrap (vars - 1) = vars - 1 := w64 (by omega)
 have hw2 : IntKind.i64.wrap ((k : Int) + 1) = (k : Int) + 1 := w64 (by omega)
 have hw3 : IntKind.i64.wrap ((l.length : Int) - 1) = (l.length : Int) - 1 := w64 (by omega)
 have hq := And.intro hs (And.intro hd (And.intro hkl (And.intro hdv (And.intro hw1 (And.intro hw2 (hw3))))))
 refine callsMP_of_tr (g := wkB vars rows l (n + 1) k d) (x := wr (wkX vars rows l (n + 1) k d)) Tryz.func105 rfl (Nat.le_of_ble_eq_true rfl) (Nat.le_of_ble_eq_true rfl) (Nat.le_of_ble_eq_true rfl) ?_
 simp only [Tryz.results105, envOf, gh, gv, List.cons_append, List.nil_append, Nat.reduceAdd]
 refine tr_seq fun K1 hK1 => ?_
 refine tr_region [0, 1, 5, 1000000, 1000001] rfl rfl fun K hK => ?_
 refine evR_p ?_
 first | refine evR_e hK ?_ | refine evR_e (fun s h => hK s (Or.inr ⟨by first | exact wk_leafT hs ht1 hp1 | exact hend, h⟩)) ?_
 clear hK K
 refine hK1 _ ?_
 refine tr_seq fun K2 hK2 => ?_
 refine tr_region [0, 1, 5, 6, 1000000, 1000001] rfl rfl fun K hK => ?_
 iterate 9 refine evR_p ?_
 first | refine evR_e hK ?_ | refine evR_e (fun s h => hK s (Or.inr ⟨by first | exact wk_leafT hs ht1 hp1 | exact hend, h⟩)) ?_
 clear hK K
 refine hK2 _ ?_
 refine tr_seq fun K3 hK3 => ?_
 refine tr_seq fun K4 hK4 => ?_
 refine tr_region [0, 1, 5, 6, 16, 1000000, 1000001] rfl rfl fun K hK => ?_
 iterate 3 refine evR_p ?_
 first | refine evR_e hK ?_ | refine evR_e (fun s h => hK s (Or.inr ⟨by first | exact wk_leafT hs ht1 hp1 | exact hend, h⟩)) ?_
 clear hK K
 refine hK4 _ ?_
 refine tr_condB (fun ht1 => ?_) (fun ht1 => ?_)
 ·
  skip
  refine tr_seq fun K5 hK5 => ?_
  by_cases hp1 : leafOk rows s d = true
  rotate_left 1
  ·
   skip
   refine tr_regionP (x := wr (k : Nat)) rfl rfl fun K hK => ?_
   refine evP_p ?_
   refine evP_p ?_
   refine evP_p ?_
   refine evP_end ?_
   simp (maxSteps := 4000000) (disch := first | assumption | omega | (simp only [go_sem, *]; done) | (simp only [go_sem, *]; omega)) only [stpP, go_sem, hq, Int.reduceToNat, Nat.reduceBEq, Nat.reduceEqDiff, Nat.reduceAdd, Nat.reduceMul, Nat.reduceLeDiff, Nat.reduceLT, Nat.reduceSub, ↓reduceIte, reduceCtorEq]
   (repeat (refine And.intro (by first | assumption | omega | decide | (simp; done) | (simp; omega) | (have hq := hvv hgt; omega) | (have hq := hvv hgt.1; omega) | (simp_all; done)) ?_))
   refine ⟨[0, 1], ?_⟩
   simp (maxSteps := 4000000) (disch := first | assumption | omega | (simp only [go_sem, *]; done) | (simp only [go_sem, *]; omega)) only [V.mapL, V.map, gJ, footJ, inJ, AObj.map, ndJ, ltJ, V.domL, V.dom, AObj.dom, kC, kR, AObj.isC, hJ, backJ, List.any_cons, List.any_nil, Nat.ble_eq, Nat.blt_eq, Nat.reduceLT, Nat.reduceLeDiff, Bool.or_true, Bool.true_or, Bool.or_false, Bool.false_or, Bool.and_self, go_sem, hq, Int.reduceToNat, Nat.reduceBEq, Nat.reduceEqDiff, Nat.reduceAdd, Nat.reduceMul, Nat.reduceLeDiff, Nat.reduceLT, Nat.reduceSub, ↓reduceIte, reduceCtorEq]
   refine And.intro (by exact (k152 vars rows l v hr hv hn hll k hk s hs d hd es hu (hwl k hk s hs)).2 (Bool.eq_false_iff.2 hp1)) ?_
   (repeat (refine And.intro (by first | assumption | omega | decide | (simp; done) | (simp; omega) | (have hq := hvv hgt; omega) | (have hq := hvv hgt.1; omega) | (simp_all; done)) ?_))
   refine hK _ ?_; clear hK K
   obtain ⟨hb1, hb2⟩ := wk_leafF (vars := vars) (n := n) hs ht1 hp1; exact Or.inl ⟨hb1, by rw [hb2]⟩
  refine tr_region [1000000, 1000001] rfl rfl fun K hK => ?_
  iterate 3 refine evR_p ?_
  refine evR_stepX fun Kq hKq => Or.inr ?_
  simp (maxSteps := 4000000) (disch := first | assumption | omega | (simp only [go_sem, *]; done) | (simp only [go_sem, *]; omega)) only [stpM, go_sem, hq, Int.reduceToNat, Nat.reduceBEq, Nat.reduceEqDiff, Nat.reduceAdd, Nat.reduceMul, Nat.reduceLeDiff, Nat.reduceLT, Nat.reduceSub, ↓reduceIte, reduceCtorEq]
  refine ⟨[0, 1], ?_⟩
  simp (maxSteps := 4000000) (disch := first | assumption | omega | (simp only [go_sem, *]; done) | (simp only [go_sem, *]; omega)) only [V.mapL, V.map, gJ, footJ, inJ, AObj.map, ndJ, ltJ, V.domL, V.dom, AObj.dom, kC, kR, AObj.isC, hJ, backJ, List.any_cons, List.any_nil, Nat.ble_eq, Nat.blt_eq, Nat.reduceLT, Nat.reduceLeDiff, Bool.or_true, Bool.true_or, Bool.or_false, Bool.false_or, Bool.and_self, go_sem, hq, Int.reduceToNat, Nat.reduceBEq, Nat.reduceEqDiff, Nat.reduceAdd, Nat.reduceMul, Nat.reduceLeDiff, Nat.reduceLT, Nat.reduceSub, ↓reduceIte, reduceCtorEq]
  refine ⟨_, _, _, (k152 vars rows l v hr hv hn hll k hk s hs d hd es hu (hwl k hk s hs)).1 hp1, ?_⟩
  simp (maxSteps := 4000000) (disch := first | assumption | omega | (simp only [go_sem, *]; done) | (simp only [go_sem, *]; omega)) only [V.mapL, V.map, gJ, footJ, inJ, AObj.map, ndJ, ltJ, V.domL, V.dom, AObj.dom, kC, kR, AObj.isC, hJ, backJ, List.any_cons, List.any_nil, Nat.ble_eq, Nat.blt_eq, Nat.reduceLT, Nat.reduceLeDiff, Bool.or_true, Bool.true_or, Bool.or_false, Bool.false_or, Bool.and_self, go_sem, hq, Int.reduceToNat, Nat.reduceBEq, Nat.reduceEqDiff, Nat.reduceAdd, Nat.reduceMul, Nat.reduceLeDiff, Nat.reduceLT, Nat.reduceSub, ↓reduceIte, reduceCtorEq]
  (repeat (refine And.intro (by first | assumption | omega | decide | (simp; done) | (simp; omega) | (have hq := hvv hgt; omega) | (have hq := hvv hgt.1; omega) | (simp_all; done)) ?_))
  refine hKq _ ?_; clear hKq Kq
  first | refine evR_e hK ?_ | refine evR_e (fun s h => hK s (Or.inr ⟨by first | exact wk_leafT hs ht1 hp1 | exact hend, h⟩)) ?_
  clear hK K
  refine hK5 _ ?_
  refine tr_ret ?_
  (try simp only [thenE, inBlkE])
  all_goals first | refine Or.inr (And.intro (by first | exact wk_leafT hs ht1 hp1 | exact hend) ?_) | skip
  all_goals first | refine ⟨_, Wk.cut 2 rfl, ?_⟩
  simp (maxSteps := 4000000) (disch := first | assumption | omega | (simp only [go_sem, *]; done) | (simp only [go_sem, *]; omega)) only [postM, ghOK, gv, St.ren, St.cut, V.ren, V.renL, AObj.ren, Nat.blt_eq, resV1, go_sem, hq, Int.reduceToNat, Nat.reduceBEq, Nat.reduceEqDiff, Nat.reduceAdd, Nat.reduceMul, Nat.reduceLeDiff, Nat.reduceLT, Nat.reduceSub, ↓reduceIte, reduceCtorEq]
  all_goals (first | rw [us_case hs ht1 hno hyes] | rw [us_leaf hs ht1])
 ·
  skip
  refine skipZ ?_
  refine hK3 _ ?_
  refine tr_seq fun K6 hK6 => ?_
  by_cases hp2 : (isInB s.var 0 (vars - 1) && decide (d.getD s.var.toNat 0 = 0) && decide ((s.ws.length : Int) = 0)) = true
  rotate_left 1
  ·
   skip
   refine tr_drawP (x := wr (k : Nat)) [] mixed rfl (by kernel_rfl) (by kernel_rfl) rfl fun K hK => ?_
   refine evQ_p ?_
   refine evQ_p ?_
   refine evQ_p ?_
   refine evQ_p ?_
   refine evQ_p ?_
   refine evQ_p ?_
   refine evQ_p ?_
   refine evQ_c (hc := (k75 _ _ _)) (k := ?_)
   refine evQ_p ?_
   refine evQ_g ?_
   refine evQ_g ?_
   refine evQ_g ?_
   refine evQ_g ?_
   refine evQ_g ?_
   refine evQ_p ?_
   refine evQ_p ?_
   refine evQ_g ?_
   refine evQ_g ?_
   refine evQ_g ?_
   refine evQ_g ?_
   refine evQ_p ?_
   refine evQ_p ?_
   simp only [evQ]
   simp (maxSteps := 4000000) (disch := first | assumption | omega | (simp only [go_sem, *]; done) | (simp only [go_sem, *]; omega)) only [stpP, go_sem, hq, Int.reduceToNat, Nat.reduceBEq, Nat.reduceEqDiff, Nat.reduceAdd, Nat.reduceMul, Nat.reduceLeDiff, Nat.reduceLT, Nat.reduceSub, ↓reduceIte, reduceCtorEq]
   (repeat (refine And.intro (by first | assumption | omega | decide | (simp; done) | (simp; omega) | (have hq := hvv hgt; omega) | (have hq := hvv hgt.1; omega) | (simp_all; done)) ?_))
   refine ⟨[], ?_⟩
   simp (maxSteps := 4000000) (disch := first | assumption | omega | (simp only [go_sem, *]; done) | (simp only [go_sem, *]; omega)) only [V.mapL, V.map, gJ, footJ, inJ, AObj.map, ndJ, ltJ, V.domL, V.dom, AObj.dom, kC, kR, AObj.isC, hJ, backJ, List.any_cons, List.any_nil, Nat.ble_eq, Nat.blt_eq, Nat.reduceLT, Nat.reduceLeDiff, Bool.or_true, Bool.true_or, Bool.or_false, Bool.false_or, Bool.and_self, go_sem, hq, Int.reduceToNat, Nat.reduceBEq, Nat.reduceEqDiff, Nat.reduceAdd, Nat.reduceMul, Nat.reduceLeDiff, Nat.reduceLT, Nat.reduceSub, ↓reduceIte, reduceCtorEq]
   refine And.intro (by exact (needF _ _ (Bool.eq_false_iff.2 hp2))) ?_
   (repeat (refine And.intro (by first | assumption | omega | decide | (simp; done) | (simp; omega) | (have hq := hvv hgt; omega) | (have hq := hvv hgt.1; omega) | (simp_all; done)) ?_))
   refine hK _ ?_; clear hK K
   obtain ⟨hb1, hb2⟩ := wk_caseF (rows := rows) (n := n) hs ht1 (by rw [hcs]; exact hp2); exact Or.inl ⟨hb1, by rw [hb2]⟩
  have hcT : caseOk vars s d = true := by rw [hcs]; exact hp2
  obtain ⟨vn, hvn, hvl⟩ := case_nats (by omega) hcT
  refine tr_draw [] [0, 1, 5, 6, 1000000, 1000001] mixed rfl (by kernel_rfl) rfl fun K hK => ?_
  iterate 7 refine evD_p ?_
  refine evD_c (hc := (k75 _ _ _)) (k := ?_)
  refine evD_p ?_
  iterate 5 refine evD_g ?_
  iterate 2 refine evD_p ?_
  iterate 4 refine evD_g ?_
  iterate 2 refine evD_p ?_
  refine evD_c (hc := (needT _ _ hp2)) (k := ?_)
  first | refine evD_e hK ?_ | refine evD_e (fun s h => hK s (Or.inr ⟨by first | exact wk_leafT hs ht1 hp1 | exact hend, h⟩)) ?_
  clear hK K
  refine hK6 _ ?_
  refine tr_seq fun K7 hK7 => ?_
  by_cases hp3 : (isInB s.no ((k : Int) + 1) ((l.length : Int) - 1) && isInB s.yes ((k : Int) + 1) ((l.length : Int) - 1)) = true
  rotate_left 1
  ·
   skip
   refine tr_drawP (x := wr (k : Nat)) [] mixed rfl (by kernel_rfl) (by kernel_rfl) rfl fun K hK => ?_
   refine evQ_p ?_
   refine evQ_p ?_
   refine evQ_p ?_
   refine evQ_p ?_
   refine evQ_p ?_
   refine evQ_p ?_
   refine evQ_p ?_
   refine evQ_p ?_
   refine evQ_p ?_
   refine evQ_p ?_
   refine evQ_c (hc := (k75 _ _ _)) (k := ?_)
   refine evQ_p ?_
   refine evQ_g ?_
   refine evQ_g ?_
   refine evQ_g ?_
   refine evQ_g ?_
   refine evQ_g ?_
   refine evQ_g ?_
   refine evQ_g ?_
   refine evQ_g ?_
   refine evQ_g ?_
   refine evQ_g ?_
   refine evQ_gc (hc := (k75 _ _ _)) (k := ?_)
   refine evQ_p ?_
   refine evQ_p ?_
   simp only [evQ]
   simp (maxSteps := 4000000) (disch := first | assumption | omega | (simp only [go_sem, *]; done) | (simp only [go_sem, *]; omega)) only [stpP, go_sem, hq, Int.reduceToNat, Nat.reduceBEq, Nat.reduceEqDiff, Nat.reduceAdd, Nat.reduceMul, Nat.reduceLeDiff, Nat.reduceLT, Nat.reduceSub, ↓reduceIte, reduceCtorEq]
   (repeat (refine And.intro (by first | assumption | omega | decide | (simp; done) | (simp; omega) | (have hq := hvv hgt; omega) | (have hq := hvv hgt.1; omega) | (simp_all; done)) ?_))
   refine ⟨[], ?_⟩
   simp (maxSteps := 4000000) (disch := first | assumption | omega | (simp only [go_sem, *]; done) | (simp only [go_sem, *]; omega)) only [V.mapL, V.map, gJ, footJ, inJ, AObj.map, ndJ, ltJ, V.domL, V.dom, AObj.dom, kC, kR, AObj.isC, hJ, backJ, List.any_cons, List.any_nil, Nat.ble_eq, Nat.blt_eq, Nat.reduceLT, Nat.reduceLeDiff, Bool.or_true, Bool.true_or, Bool.or_false, Bool.false_or, Bool.and_self, go_sem, hq, Int.reduceToNat, Nat.reduceBEq, Nat.reduceEqDiff, Nat.reduceAdd, Nat.reduceMul, Nat.reduceLeDiff, Nat.reduceLT, Nat.reduceSub, ↓reduceIte, reduceCtorEq]
   refine And.intro (by exact (needF _ _ (Bool.eq_false_iff.2 hp3))) ?_
   (repeat (refine And.intro (by first | assumption | omega | decide | (simp; done) | (simp; omega) | (have hq := hvv hgt; omega) | (have hq := hvv hgt.1; omega) | (simp_all; done)) ?_))
   refine hK _ ?_; clear hK K
   obtain ⟨hb1, hb2⟩ := wk_goesF (rows := rows) (n := n) hs ht1 hcT hp3; exact Or.inl ⟨hb1, by rw [hb2]⟩
  have hgT : goesOk l s k = true := hp3
  obtain ⟨no, yes, hno, hyes, hkno, hkyes, hnl, hyl⟩ := goes_nats hgT
  replace hq := And.intro hq (And.intro hvn hvl)
  refine tr_draw [] [0, 5, 6, 1000000, 1000001] mixed rfl (by kernel_rfl) rfl fun K hK => ?_
  iterate 10 refine evD_p ?_
  refine evD_c (hc := (k75 _ _ _)) (k := ?_)
  refine evD_p ?_
  iterate 10 refine evD_g ?_
  refine evD_gc (hc := (k75 _ _ _)) (k := ?_)
  iterate 2 refine evD_p ?_
  refine evD_c (hc := (needT _ _ hp3)) (k := ?_)
  first | refine evD_e hK ?_ | refine evD_e (fun s h => hK s (Or.inr ⟨by first | exact wk_leafT hs ht1 hp1 | exact hend, h⟩)) ?_
  clear hK K
  refine hK7 _ ?_
  refine tr_seq fun K8 hK8 => ?_
  refine tr_region [0, 5, 6, 1000000, 1000001] rfl rfl fun K hK => ?_
  iterate 4 refine evR_p ?_
  first | refine evR_e hK ?_ | refine evR_e (fun s h => hK s (Or.inr ⟨by first | exact wk_leafT hs ht1 hp1 | exact hend, h⟩)) ?_
  clear hK K
  refine hK8 _ ?_
  refine tr_seq fun K9 hK9 => ?_
  by_cases hp4 : wkB vars rows l n no (d.set vn (-1)) = true
  rotate_left 1
  ·
   skip
   replace hq := And.intro hq (And.intro hno hyes)
   refine tr_regionP (x := wr (wkX vars rows l n no (d.set vn (-1)))) rfl rfl fun K hK => ?_
   refine evP_p ?_
   refine evP_p ?_
   refine evP_p ?_
   refine evP_p ?_
   refine evP_end ?_
   simp (maxSteps := 4000000) (disch := first | assumption | omega | (simp only [go_sem, *]; done) | (simp only [go_sem, *]; omega)) only [stpP, go_sem, hq, Int.reduceToNat, Nat.reduceBEq, Nat.reduceEqDiff, Nat.reduceAdd, Nat.reduceMul, Nat.reduceLeDiff, Nat.reduceLT, Nat.reduceSub, ↓reduceIte, reduceCtorEq]
   (repeat (refine And.intro (by first | assumption | omega | decide | (simp; done) | (simp; omega) | (have hq := hvv hgt; omega) | (have hq := hvv hgt.1; omega) | (simp_all; done)) ?_))
   refine ⟨[0, 1], ?_⟩
   simp (maxSteps := 4000000) (disch := first | assumption | omega | (simp only [go_sem, *]; done) | (simp only [go_sem, *]; omega)) only [V.mapL, V.map, gJ, footJ, inJ, AObj.map, ndJ, ltJ, V.domL, V.dom, AObj.dom, kC, kR, AObj.isC, hJ, backJ, List.any_cons, List.any_nil, Nat.ble_eq, Nat.blt_eq, Nat.reduceLT, Nat.reduceLeDiff, Bool.or_true, Bool.true_or, Bool.or_false, Bool.false_or, Bool.and_self, go_sem, hq, Int.reduceToNat, Nat.reduceBEq, Nat.reduceEqDiff, Nat.reduceAdd, Nat.reduceMul, Nat.reduceLeDiff, Nat.reduceLT, Nat.reduceSub, ↓reduceIte, reduceCtorEq]
   refine And.intro (by exact (ih no (d.set vn (-1)) es hnl (by omega) (by simp [hd]) hu).2 (Bool.eq_false_iff.2 hp4)) ?_
   (repeat (refine And.intro (by first | assumption | omega | decide | (simp; done) | (simp; omega) | (have hq := hvv hgt; omega) | (have hq := hvv hgt.1; omega) | (simp_all; done)) ?_))
   refine hK _ ?_; clear hK K
   obtain ⟨hb1, hb2⟩ := wk_noF hs ht1 hcT hgT hvn hno hyes hp4; exact Or.inl ⟨hb1, by rw [hb2]⟩
  replace hq := And.intro hq (And.intro hno hyes)
  have hu2 := usN_ok n no _ es hu (wkB_none hp4)
  obtain ⟨hy1, hy2⟩ := wk_yes hs ht1 hcT hgT hvn hno hyes hp4
  refine tr_region [0, 5, 6, 1000000, 1000001] rfl rfl fun K hK => ?_
  iterate 4 refine evR_p ?_
  refine evR_stepX fun Kq hKq => Or.inr ?_
  simp (maxSteps := 4000000) (disch := first | assumption | omega | (simp only [go_sem, *]; done) | (simp only [go_sem, *]; omega)) only [stpM, go_sem, hq, Int.reduceToNat, Nat.reduceBEq, Nat.reduceEqDiff, Nat.reduceAdd, Nat.reduceMul, Nat.reduceLeDiff, Nat.reduceLT, Nat.reduceSub, ↓reduceIte, reduceCtorEq]
  refine ⟨[0, 1], ?_⟩
  simp (maxSteps := 4000000) (disch := first | assumption | omega | (simp only [go_sem, *]; done) | (simp only [go_sem, *]; omega)) only [V.mapL, V.map, gJ, footJ, inJ, AObj.map, ndJ, ltJ, V.domL, V.dom, AObj.dom, kC, kR, AObj.isC, hJ, backJ, List.any_cons, List.any_nil, Nat.ble_eq, Nat.blt_eq, Nat.reduceLT, Nat.reduceLeDiff, Bool.or_true, Bool.true_or, Bool.or_false, Bool.false_or, Bool.and_self, go_sem, hq, Int.reduceToNat, Nat.reduceBEq, Nat.reduceEqDiff, Nat.reduceAdd, Nat.reduceMul, Nat.reduceLeDiff, Nat.reduceLT, Nat.reduceSub, ↓reduceIte, reduceCtorEq]
  refine ⟨_, _, _, (ih no (d.set vn (-1)) es hnl (by omega) (by simp [hd]) hu).1 hp4, ?_⟩
  simp (maxSteps := 4000000) (disch := first | assumption | omega | (simp only [go_sem, *]; done) | (simp only [go_sem, *]; omega)) only [V.mapL, V.map, gJ, footJ, inJ, AObj.map, ndJ, ltJ, V.domL, V.dom, AObj.dom, kC, kR, AObj.isC, hJ, backJ, List.any_cons, List.any_nil, Nat.ble_eq, Nat.blt_eq, Nat.reduceLT, Nat.reduceLeDiff, Bool.or_true, Bool.true_or, Bool.or_false, Bool.false_or, Bool.and_self, go_sem, hq, Int.reduceToNat, Nat.reduceBEq, Nat.reduceEqDiff, Nat.reduceAdd, Nat.reduceMul, Nat.reduceLeDiff, Nat.reduceLT, Nat.reduceSub, ↓reduceIte, reduceCtorEq]
  (repeat (refine And.intro (by first | assumption | omega | decide | (simp; done) | (simp; omega) | (have hq := hvv hgt; omega) | (have hq := hvv hgt.1; omega) | (simp_all; done)) ?_))
  refine hKq _ ?_; clear hKq Kq
  first | refine evR_e hK ?_ | refine evR_e (fun s h => hK s (Or.inr ⟨by first | exact wk_leafT hs ht1 hp1 | exact hend, h⟩)) ?_
  clear hK K
  refine hK9 _ ?_
  refine tr_seq fun K10 hK10 => ?_
  refine tr_region [0, 5, 6, 1000000, 1000001] rfl rfl fun K hK => ?_
  iterate 4 refine evR_p ?_
  first | refine evR_e hK ?_ | refine evR_e (fun s h => hK s (Or.inr ⟨by first | exact wk_leafT hs ht1 hp1 | exact hend, h⟩)) ?_
  clear hK K
  refine hK10 _ ?_
  by_cases hp5 : wkB vars rows l n yes (d.set vn 1) = true
  rotate_left 1
  ·
   skip
   refine tr_regionP (x := wr (wkX vars rows l n yes (d.set vn 1))) rfl rfl fun K hK => ?_
   refine evP_p ?_
   refine evP_p ?_
   refine evP_p ?_
   refine evP_p ?_
   refine evP_end ?_
   simp (maxSteps := 4000000) (disch := first | assumption | omega | (simp only [go_sem, *]; done) | (simp only [go_sem, *]; omega)) only [stpP, go_sem, hq, Int.reduceToNat, Nat.reduceBEq, Nat.reduceEqDiff, Nat.reduceAdd, Nat.reduceMul, Nat.reduceLeDiff, Nat.reduceLT, Nat.reduceSub, ↓reduceIte, reduceCtorEq]
   (repeat (refine And.intro (by first | assumption | omega | decide | (simp; done) | (simp; omega) | (have hq := hvv hgt; omega) | (have hq := hvv hgt.1; omega) | (simp_all; done)) ?_))
   refine ⟨[0, 1], ?_⟩
   simp (maxSteps := 4000000) (disch := first | assumption | omega | (simp only [go_sem, *]; done) | (simp only [go_sem, *]; omega)) only [V.mapL, V.map, gJ, footJ, inJ, AObj.map, ndJ, ltJ, V.domL, V.dom, AObj.dom, kC, kR, AObj.isC, hJ, backJ, List.any_cons, List.any_nil, Nat.ble_eq, Nat.blt_eq, Nat.reduceLT, Nat.reduceLeDiff, Bool.or_true, Bool.true_or, Bool.or_false, Bool.false_or, Bool.and_self, go_sem, hq, Int.reduceToNat, Nat.reduceBEq, Nat.reduceEqDiff, Nat.reduceAdd, Nat.reduceMul, Nat.reduceLeDiff, Nat.reduceLT, Nat.reduceSub, ↓reduceIte, reduceCtorEq]
   refine And.intro (by exact (ih yes (d.set vn 1) (usN l n no es) hyl (by omega) (by simp [hd]) hu2).2 (Bool.eq_false_iff.2 hp5)) ?_
   (repeat (refine And.intro (by first | assumption | omega | decide | (simp; done) | (simp; omega) | (have hq := hvv hgt; omega) | (have hq := hvv hgt.1; omega) | (simp_all; done)) ?_))
   refine hK _ ?_; clear hK K
   exact Or.inl ⟨by rw [hy1]; exact Bool.eq_false_iff.2 hp5, by rw [hy2]⟩
  have hend : wkB vars rows l (n + 1) k d = true := by rw [hy1]; exact hp5
  refine tr_region [1000000, 1000001] rfl rfl fun K hK => ?_
  iterate 4 refine evR_p ?_
  refine evR_stepX fun Kq hKq => Or.inr ?_
  simp (maxSteps := 4000000) (disch := first | assumption | omega | (simp only [go_sem, *]; done) | (simp only [go_sem, *]; omega)) only [stpM, go_sem, hq, Int.reduceToNat, Nat.reduceBEq, Nat.reduceEqDiff, Nat.reduceAdd, Nat.reduceMul, Nat.reduceLeDiff, Nat.reduceLT, Nat.reduceSub, ↓reduceIte, reduceCtorEq]
  refine ⟨[0, 1], ?_⟩
  simp (maxSteps := 4000000) (disch := first | assumption | omega | (simp only [go_sem, *]; done) | (simp only [go_sem, *]; omega)) only [V.mapL, V.map, gJ, footJ, inJ, AObj.map, ndJ, ltJ, V.domL, V.dom, AObj.dom, kC, kR, AObj.isC, hJ, backJ, List.any_cons, List.any_nil, Nat.ble_eq, Nat.blt_eq, Nat.reduceLT, Nat.reduceLeDiff, Bool.or_true, Bool.true_or, Bool.or_false, Bool.false_or, Bool.and_self, go_sem, hq, Int.reduceToNat, Nat.reduceBEq, Nat.reduceEqDiff, Nat.reduceAdd, Nat.reduceMul, Nat.reduceLeDiff, Nat.reduceLT, Nat.reduceSub, ↓reduceIte, reduceCtorEq]
  refine ⟨_, _, _, (ih yes (d.set vn 1) (usN l n no es) hyl (by omega) (by simp [hd]) hu2).1 hp5, ?_⟩
  simp (maxSteps := 4000000) (disch := first | assumption | omega | (simp only [go_sem, *]; done) | (simp only [go_sem, *]; omega)) only [V.mapL, V.map, gJ, footJ, inJ, AObj.map, ndJ, ltJ, V.domL, V.dom, AObj.dom, kC, kR, AObj.isC, hJ, backJ, List.any_cons, List.any_nil, Nat.ble_eq, Nat.blt_eq, Nat.reduceLT, Nat.reduceLeDiff, Bool.or_true, Bool.true_or, Bool.or_false, Bool.false_or, Bool.and_self, go_sem, hq, Int.reduceToNat, Nat.reduceBEq, Nat.reduceEqDiff, Nat.reduceAdd, Nat.reduceMul, Nat.reduceLeDiff, Nat.reduceLT, Nat.reduceSub, ↓reduceIte, reduceCtorEq]
  (repeat (refine And.intro (by first | assumption | omega | decide | (simp; done) | (simp; omega) | (have hq := hvv hgt; omega) | (have hq := hvv hgt.1; omega) | (simp_all; done)) ?_))
  refine hKq _ ?_; clear hKq Kq
  first | refine evR_e hK ?_ | refine evR_e (fun s h => hK s (Or.inr ⟨by first | exact wk_leafT hs ht1 hp1 | exact hend, h⟩)) ?_
  clear hK K
  all_goals first | refine Or.inr (And.intro (by first | exact wk_leafT hs ht1 hp1 | exact hend) ?_) | skip
  all_goals first | refine ⟨_, Wk.cut 2 rfl, ?_⟩
  simp (maxSteps := 4000000) (disch := first | assumption | omega | (simp only [go_sem, *]; done) | (simp only [go_sem, *]; omega)) only [postM, ghOK, gv, St.ren, St.cut, V.ren, V.renL, AObj.ren, Nat.blt_eq, resV1, go_sem, hq, Int.reduceToNat, Nat.reduceBEq, Nat.reduceEqDiff, Nat.reduceAdd, Nat.reduceMul, Nat.reduceLeDiff, Nat.reduceLT, Nat.reduceSub, ↓reduceIte, reduceCtorEq]
  all_goals (first | rw [us_case hs ht1 hno hyes] | rw [us_leaf hs ht1])
end
theorem k118 (vars : Int) (rows : List Rw) (l : List Sg) (v : Nat) (hvv0 : 0 ≤ vars ∧ vars ≤ 12) (hr : ∀ r ∈ rows, okRw v r) (hv : v ≤ 12) (hn : rows.length ≤ 301) (hll : l.length ≤ 8192) (hwl : ∀ k, k < l.length → ∀ s, l.getD k sg0 = s → s.ws.length ≤ maxLen) : ∀ (n k : Nat) (d : List Int) (es : List (Int × Bool)), k < l.length → l.length ≤ k + n → d.length = 12 → okU rows.length es → (wkB vars rows l n k d = true → CallsM Tryz.prog 105 [.ptr 0 0, .int .i64 (k : Nat), .agg (cellsI d)] [(0, .cells [.int .i64 vars, .sl 6 (encR rows), .sl 4 (encSgs l), .mp 1]), (1, .dict es)] 2 (.tup []) [(0, .cells [.int .i64 vars, .sl 6 (encR rows), .sl 4 (encSgs l), .mp 1]), (1, .dict (usN l n k es))] 2) ∧ (wkB vars rows l n k d = false → CallsP Tryz.prog 105 [.ptr 0 0, .int .i64 (k : Nat), .agg (cellsI d)] [(0, .cells [.int .i64 vars, .sl 6 (encR rows), .sl 4 (encSgs l), .mp 1]), (1, .dict es)] 2 (wr (wkX vars rows l n k d)))
 | 0, k, d, es, hk, hkn, hd, hu => by omega
 | n + 1, k, d, es, hk, hkn, hd, hu => k118s vars rows l v hvv0 hr hv hn hll hwl n (k118 vars rows l v hvv0 hr hv hn hll hwl n) k d es hk hkn hd hu _ rfl

open Go.RowKit (wrap32 wrap64)
theorem as_no (w : World) : (Instr.typeAssert .nilIface 20 136 true).run Tryz.prog w = .ok (.tuple #[.agg #[.int .i64 0], .bool false]) w := by kernel_rfl
theorem as_yes (v : Value) (w : World) : (Instr.typeAssert (.iface 136 v) 20 136 true).run Tryz.prog w = .ok (.tuple #[v, .bool true]) w := by kernel_rfl
theorem heap_alloc_lt {w : World} {o : Obj} {b : Nat} (h : b < w.heap.size) : (w.alloc o).heap[b]? = w.heap[b]? := by
 show (w.heap.push o)[b]? = w.heap[b]?
 rw [Array.getElem?_push, if_neg (Nat.ne_of_lt h)]
theorem below_alloc1 (w : World) (o : Obj) : RowKit.Below w.heap.size w (w.alloc o) := ⟨rfl, rfl, rfl, by show w.heap.size ≤ (w.heap.push o).size; simp, fun b hb => heap_alloc_lt hb⟩
set_option maxRecDepth 100000 in
theorem idle116 : IdleD Tryz.prog 103 := by
 intro b1 b2 w
 refine callsDIn_of_wpSIn Tryz.func103 rfl trivial fun c₀ cs hu => ?_
 apply wpSIn_seq
 apply wpSIn_region
 simp [wpOpsSIn, go_sem, recoverD, hu, Tryz.ntmps103, Exit.thenS, as_no]
 apply wpSIn_seq
 apply wpSIn_region
 simp [wpOpsSIn, go_sem, Exit.thenS]
 refine wpSIn_cond (t := false) (by simp [Act.eval, Array.replicate]) ?_
 simp only [Bool.false_eq_true, if_false]
 refine wpSIn_of_wpIn rfl (wpIn_skip ?_)
 have hb := below_alloc1 w (.cells #[.int .i64 0] 136)
 cases c₀
 simp_all [bodyPostS, results, Tryz.results103]
set_option maxRecDepth 100000 in
theorem catch116 : CatchD Tryz.prog 103 wr := by
 intro b1 b2 n w v1 v2 e1 e2 h1 h2 hne
 have hl1 := lt_of_block h1
 have hl2 := lt_of_block h2
 refine callsDIn_of_wpSIn Tryz.func103 rfl trivial fun c₀ cs hu => ?_
 apply wpSIn_seq
 apply wpSIn_region
 simp [wpOpsSIn, go_sem, recoverD, hu, Tryz.ntmps103, Exit.thenS, as_yes, wr]
 apply wpSIn_seq
 apply wpSIn_region
 simp [wpOpsSIn, go_sem, Exit.thenS]
 refine wpSIn_cond (t := true) (by simp [Act.eval, Array.replicate]) ?_
 simp only [if_true]
 have a1 : (w.alloc (.cells #[.int .i64 n] 136)).heap[b1]? = some (.cells #[v1] e1 (0, 0)) := by rw [heap_alloc_lt hl1]; exact h1
 have a2 : (w.alloc (.cells #[.int .i64 n] 136)).heap[b2]? = some (.cells #[v2] e2 (0, 0)) := by rw [heap_alloc_lt hl2]; exact h2
 have ha := below_alloc1 w (.cells #[.int .i64 n] 136)
 have hr : (w.alloc (.cells #[.int .i64 n] 136)).cell? ⟨w.heap.size, 0, none⟩ = some (.int .i64 n) := by simp [go_sem]
 have hrz : (w.alloc (.cells #[.int .i64 n] 136)).frozen? ⟨w.heap.size, 0, none⟩ = false := by simp [go_sem]
 generalize w.alloc (.cells #[.int .i64 n] 136) = W1 at *
 have c1 := cell_of_one a1
 have z1 := free_of_one a1
 have a3 : (W1.setCell ⟨b1, 0, none⟩ (.int .i64 n)).heap[b2]? = some (.cells #[v2] e2 (0, 0)) := by rw [RowKit.Below.heap_setCell _ _ _ _ (fun h => hne h.symm)]; exact a2
 have c2 := cell_of_one a3
 have z2 := free_of_one a3
 have f1 := one_setCell (u := .int .i64 n) a1
 have f2 := one_setCell (u := .map none) a3
 have f1' : ((W1.setCell ⟨b1, 0, none⟩ (.int .i64 n)).setCell ⟨b2, 0, none⟩ (.map none)).heap[b1]? = some (.cells #[.int .i64 n] e1 (0, 0)) := by rw [RowKit.Below.heap_setCell _ _ _ _ hne]; exact f1
 have fo : ∀ k, k < w.heap.size → ¬k = b1 → ¬k = b2 → ((W1.setCell ⟨b1, 0, none⟩ (.int .i64 n)).setCell ⟨b2, 0, none⟩ (.map none)).heap[k]? = w.heap[k]? := fun k hk g1 g2 => by
  rw [RowKit.Below.heap_setCell _ _ _ _ g2, RowKit.Below.heap_setCell _ _ _ _ g1]; exact ha.block k hk
 have fs : w.heap.size ≤ ((W1.setCell ⟨b1, 0, none⟩ (.int .i64 n)).setCell ⟨b2, 0, none⟩ (.map none)).heap.size := by
  rw [show ((W1.setCell ⟨b1, 0, none⟩ (.int .i64 n)).setCell ⟨b2, 0, none⟩ (.map none)).heap.size = W1.heap.size from by simp [World.setCell]]; exact ha.size
 have g1 : ((W1.setCell ⟨b1, 0, none⟩ (.int .i64 n)).setCell ⟨b2, 0, none⟩ (.map none)).os = w.os := ha.os
 have g2 : ((W1.setCell ⟨b1, 0, none⟩ (.int .i64 n)).setCell ⟨b2, 0, none⟩ (.map none)).tape = w.tape := ha.tape
 have g3 : ((W1.setCell ⟨b1, 0, none⟩ (.int .i64 n)).setCell ⟨b2, 0, none⟩ (.map none)).output = w.output := ha.output
 apply wpSIn_region
 simp [wpOpsSIn, go_sem, hr, hrz, c1, z1, c2, z2, bodyPostS, results, Tryz.results103]
 exact ⟨g1, ha.tape, g3, ha.size, fo, f1', f2⟩
end Go.Proofs.YtfamkbofdamkkaaGreat
namespace Go.Proofs.YtfamkbofdamkkaaGreat
open Go.RowKit
set_option linter.unusedVariables false
set_option linter.unusedSimpArgs false
set_option maxRecDepth 100000
attribute [local go_sem] Nat.zero_add Nat.add_zero Nat.mul_one eq_self ne_eq not_true_eq_false not_false_eq_true decide_true decide_false decide_not Bool.false_eq_true List.filter_cons List.filter_nil true_and and_true beq_false beq_true Bool.not_true Bool.not_false Bool.and_true Bool.true_and Option.getD_some Option.getD_none imp_self implies_true Int.toNat_natCast List.cons_append List.nil_append List.map_cons List.map_nil List.length_cons List.length_nil List.getD_cons_zero List.getD_cons_succ List.drop_zero List.drop_succ_cons List.take_succ_cons List.take_zero
attribute [local go_sem] Option.isNone_none Option.isNone_some Option.isSome_none List.lookup Option.isSome_some Option.isSome_none Bool.or_true Bool.true_or Bool.or_false Bool.false_or false_and and_false false_or or_false
attribute [local go_sem] List.getElem?_cons_zero List.getElem?_cons_succ List.zip_cons_cons List.zip_nil_left List.zip_nil_right Bool.false_and Bool.and_false List.length_append List.length_set List.length_replicate List.all_cons List.all_nil encR_length encR_getD encRw encPg spl forall_const imp_self
attribute [local go_sem] encSg encW encSgs_length encWs_length encSgs_getD encWs_getD lookV lkM putM
attribute [local simp] encI_length encR_length cellsI_length encSgs_length encWs_length
set_option maxHeartbeats 16000000 in
theorem k68 (p : Pg) (hr0 : p.rows.length ≤ maxLen) (hg : p.gain.length ≤ maxLen) (hc : ∀ r ∈ p.rows, r.coef.length ≤ maxLen) (rows : List Rw) (l : List Sg) (hlm : l.length ≤ maxLen) (hwl : ∀ k, k < l.length → ∀ s, l.getD k sg0 = s → s.ws.length ≤ maxLen) (hvp : validB p = true → (0 ≤ p.vars ∧ p.vars ≤ 12) ∧ rows.length ≤ 301 ∧ ∀ r ∈ rows, okRw p.vars.toNat r) : CallsA Tryz.prog 77 [.agg (encPg p), .sl 6 (encR rows), .sl 4 (encSgs l)] (.tup [.int .i64 (wrongX p rows l), usedV p rows l]) := by
 rw [← checkR_eq]
 unfold maxLen at hlm
 have hq : True := trivial
 refine callsA_of_trD (p1 := 6) (p2 := 7) (t0 := 17) (ty1 := 3) (ty2 := 70) (wr := wr) Tryz.func77 rfl (Nat.le_of_ble_eq_true rfl) (by rw [Tryz.results77]) lay_3 lay_70 rfl okF_103 idle116 catch116 ?_
 simp only [Tryz.results77, envOf, Nat.reduceAdd]
 refine trD_seq fun KD1 hKD1 => ?_
 refine tr_region [1, 2, 3, 6, 7, 17] rfl rfl fun K hK => ?_
 iterate 3 refine evR_p ?_
 refine evR_e hK ?_; clear hK K
 refine hKD1 _ ?_
 refine trD_seq fun KD2 hKD2 => ?_
 refine tr_sR [1, 2, 3, 6, 7, 16, 17] fun K hK => ?_
 refine evR_p ?_
 refine evR_c (hc := (k115 p hr0 hg hc)) (k := ?_)
 iterate 2 refine evR_p ?_
 iterate 3 refine evR_g ?_
 refine evR_p ?_
 refine evR_z hK ?_; clear hK K
 refine tr_condB (fun ht1 => ?_) (fun ht1 => ?_)
 ·
  skip
  refine tr_sR [6, 7, 17] fun K hK => ?_
  iterate 2 refine evR_p ?_
  refine evR_z hK ?_; clear hK K
  refine retZ ?_; try exact ⟨⟩
  all_goals (first | (rw [checkR_out ht1]; done) | (rw [checkR_good hval hll hlp hp2]; done))
 ·
  skip
  refine skipZ ?_
  refine hKD2 _ ?_
  obtain ⟨hval, hl0⟩ := ht1
  have hll : l.length ≤ 8192 := by omega
  obtain ⟨⟨h0, h1⟩, hrn, hrw⟩ := hvp hval
  refine trD_defer [1, 2, 3, 6, 7, 17] rfl rfl fun K hK => ?_
  simp (maxSteps := 4000000) (disch := first | assumption | omega | (simp only [go_sem, *]; done) | (simp only [go_sem, *]; omega)) only [go_sem, hq, Int.reduceToNat, Nat.reduceBEq, Nat.reduceEqDiff, Nat.reduceAdd, Nat.reduceMul, Nat.reduceLeDiff, Nat.reduceLT, Nat.reduceSub, ↓reduceIte, reduceCtorEq]
  refine hK _ _ _ rfl (fun x => ?_); clear hK K
  simp only [St.norm, St.eqv, List.filterMap_cons, List.filterMap_nil, List.lookup, Option.map, Nat.reduceBEq, List.map_cons, List.map_nil, Nat.reduceEqDiff, ↓reduceIte]
  refine tr_sR [2, 6, 7, 8, 17] fun K hK => ?_
  iterate 8 refine evR_p ?_
  refine evR_z hK ?_; clear hK K
  refine tr_seq fun K4 hK4 => ?_
  by_cases hp1 : decide ((l.length : Int) > 0) = true
  rotate_left 1
  ·
   skip
   refine tr_regionP (x := wr 0) rfl rfl fun K hK => ?_
   refine evP_p ?_
   refine evP_p ?_
   refine evP_p ?_
   refine evP_end ?_
   simp (maxSteps := 4000000) (disch := first | assumption | omega | (simp only [go_sem, *]; done) | (simp only [go_sem, *]; omega)) only [stpP, go_sem, hq, Int.reduceToNat, Nat.reduceBEq, Nat.reduceEqDiff, Nat.reduceAdd, Nat.reduceMul, Nat.reduceLeDiff, Nat.reduceLT, Nat.reduceSub, ↓reduceIte, reduceCtorEq]
   (repeat (refine And.intro (by first | assumption | omega | decide | (simp; done) | (simp; omega) | (have hq := hvv hgt; omega) | (have hq := hvv hgt.1; omega) | (simp_all; done)) ?_))
   refine ⟨[], ?_⟩
   simp (maxSteps := 4000000) (disch := first | assumption | omega | (simp only [go_sem, *]; done) | (simp only [go_sem, *]; omega)) only [V.mapL, V.map, gJ, footJ, inJ, AObj.map, ndJ, ltJ, V.domL, V.dom, AObj.dom, kC, kR, AObj.isC, hJ, backJ, List.any_cons, List.any_nil, Nat.ble_eq, Nat.blt_eq, Nat.reduceLT, Nat.reduceLeDiff, Bool.or_true, Bool.true_or, Bool.or_false, Bool.false_or, Bool.and_self, go_sem, hq, Int.reduceToNat, Nat.reduceBEq, Nat.reduceEqDiff, Nat.reduceAdd, Nat.reduceMul, Nat.reduceLeDiff, Nat.reduceLT, Nat.reduceSub, ↓reduceIte, reduceCtorEq]
   refine And.intro (by exact (needF _ _ (Bool.eq_false_iff.2 hp1))) ?_
   (repeat (refine And.intro (by first | assumption | omega | decide | (simp; done) | (simp; omega) | (have hq := hvv hgt; omega) | (have hq := hvv hgt.1; omega) | (simp_all; done)) ?_))
   refine hK _ ?_; clear hK K
   exact ⟨1, 2, _, _, by decide, rfl, rfl, rfl, .inr ⟨_, rfl, rfl, rfl, (checkR_zero hval hll hp1).symm⟩⟩
  have hlp : 0 < l.length := by have h9 := hp1; simp at h9; omega
  refine tr_region [6, 7, 8, 17] rfl rfl fun K hK => ?_
  iterate 3 refine evR_p ?_
  refine evR_c (hc := (needT _ _ hp1)) (k := ?_)
  refine evR_e hK ?_; clear hK K
  refine hK4 _ ?_
  refine tr_seq fun K5 hK5 => ?_
  by_cases hp2 : wkB p.vars rows l l.length 0 zero12 = true
  rotate_left 1
  ·
   skip
   refine tr_regionP (x := wr (wkX p.vars rows l l.length 0 zero12)) rfl rfl fun K hK => ?_
   refine evP_p ?_
   refine evP_p ?_
   refine evP_end ?_
   simp (maxSteps := 4000000) (disch := first | assumption | omega | (simp only [go_sem, *]; done) | (simp only [go_sem, *]; omega)) only [stpP, go_sem, hq, Int.reduceToNat, Nat.reduceBEq, Nat.reduceEqDiff, Nat.reduceAdd, Nat.reduceMul, Nat.reduceLeDiff, Nat.reduceLT, Nat.reduceSub, ↓reduceIte, reduceCtorEq]
   (repeat (refine And.intro (by first | assumption | omega | decide | (simp; done) | (simp; omega) | (have hq := hvv hgt; omega) | (have hq := hvv hgt.1; omega) | (simp_all; done)) ?_))
   refine ⟨[4, 3], ?_⟩
   simp (maxSteps := 4000000) (disch := first | assumption | omega | (simp only [go_sem, *]; done) | (simp only [go_sem, *]; omega)) only [V.mapL, V.map, gJ, footJ, inJ, AObj.map, ndJ, ltJ, V.domL, V.dom, AObj.dom, kC, kR, AObj.isC, hJ, backJ, List.any_cons, List.any_nil, Nat.ble_eq, Nat.blt_eq, Nat.reduceLT, Nat.reduceLeDiff, Bool.or_true, Bool.true_or, Bool.or_false, Bool.false_or, Bool.and_self, go_sem, hq, Int.reduceToNat, Nat.reduceBEq, Nat.reduceEqDiff, Nat.reduceAdd, Nat.reduceMul, Nat.reduceLeDiff, Nat.reduceLT, Nat.reduceSub, ↓reduceIte, reduceCtorEq]
   refine And.intro (by exact (k118 p.vars rows l p.vars.toNat ⟨h0, h1⟩ hrw (by omega) hrn (by omega) hwl l.length 0 zero12 [] hlp (by omega) rfl (okU.nil _)).2 (Bool.eq_false_iff.2 hp2)) ?_
   (repeat (refine And.intro (by first | assumption | omega | decide | (simp; done) | (simp; omega) | (have hq := hvv hgt; omega) | (have hq := hvv hgt.1; omega) | (simp_all; done)) ?_))
   refine hK _ ?_; clear hK K
   exact ⟨1, 2, _, _, by decide, rfl, rfl, rfl, .inr ⟨_, rfl, rfl, rfl, (checkR_bad hval hll hlp hp2).symm⟩⟩
  refine tr_region [6, 7, 8, 17] rfl rfl fun K hK => ?_
  iterate 2 refine evR_p ?_
  refine evR_stepX fun Kq hKq => Or.inr ?_
  simp (maxSteps := 4000000) (disch := first | assumption | omega | (simp only [go_sem, *]; done) | (simp only [go_sem, *]; omega)) only [stpM, go_sem, hq, Int.reduceToNat, Nat.reduceBEq, Nat.reduceEqDiff, Nat.reduceAdd, Nat.reduceMul, Nat.reduceLeDiff, Nat.reduceLT, Nat.reduceSub, ↓reduceIte, reduceCtorEq]
  refine ⟨[4, 3], ?_⟩
  simp (maxSteps := 4000000) (disch := first | assumption | omega | (simp only [go_sem, *]; done) | (simp only [go_sem, *]; omega)) only [V.mapL, V.map, gJ, footJ, inJ, AObj.map, ndJ, ltJ, V.domL, V.dom, AObj.dom, kC, kR, AObj.isC, hJ, backJ, List.any_cons, List.any_nil, Nat.ble_eq, Nat.blt_eq, Nat.reduceLT, Nat.reduceLeDiff, Bool.or_true, Bool.true_or, Bool.or_false, Bool.false_or, Bool.and_self, go_sem, hq, Int.reduceToNat, Nat.reduceBEq, Nat.reduceEqDiff, Nat.reduceAdd, Nat.reduceMul, Nat.reduceLeDiff, Nat.reduceLT, Nat.reduceSub, ↓reduceIte, reduceCtorEq]
  refine ⟨_, _, _, (k118 p.vars rows l p.vars.toNat ⟨h0, h1⟩ hrw (by omega) hrn (by omega) hwl l.length 0 zero12 [] hlp (by omega) rfl (okU.nil _)).1 hp2, ?_⟩
  simp (maxSteps := 4000000) (disch := first | assumption | omega | (simp only [go_sem, *]; done) | (simp only [go_sem, *]; omega)) only [V.mapL, V.map, gJ, footJ, inJ, AObj.map, ndJ, ltJ, V.domL, V.dom, AObj.dom, kC, kR, AObj.isC, hJ, backJ, List.any_cons, List.any_nil, Nat.ble_eq, Nat.blt_eq, Nat.reduceLT, Nat.reduceLeDiff, Bool.or_true, Bool.true_or, Bool.or_false, Bool.false_or, Bool.and_self, go_sem, hq, Int.reduceToNat, Nat.reduceBEq, Nat.reduceEqDiff, Nat.reduceAdd, Nat.reduceMul, Nat.reduceLeDiff, Nat.reduceLT, Nat.reduceSub, ↓reduceIte, reduceCtorEq]
  (repeat (refine And.intro (by first | assumption | omega | decide | (simp; done) | (simp; omega) | (have hq := hvv hgt; omega) | (have hq := hvv hgt.1; omega) | (simp_all; done)) ?_))
  refine hKq _ ?_; clear hKq Kq
  refine evR_e hK ?_; clear hK K
  refine hK5 _ ?_
  refine tr_seq fun K6 hK6 => ?_
  refine tr_fz [.mp 3, .ptr 4 0] (by simp (maxSteps := 4000000) (disch := first | assumption | omega | (simp only [go_sem, *]; done) | (simp only [go_sem, *]; omega)) only [go_sem, hq, Int.reduceToNat, Nat.reduceBEq, Nat.reduceEqDiff, Nat.reduceAdd, Nat.reduceMul, Nat.reduceLeDiff, Nat.reduceLT, Nat.reduceSub, ↓reduceIte, reduceCtorEq]; (try rfl)) ?_
  refine tr_draw [35] [6, 7, 17] mixed rfl (by kernel_rfl) rfl fun K hK => ?_
  iterate 6 refine evD_p ?_
  refine evD_e hK ?_; clear hK K
  refine hK6 _ ?_
  refine tr_ret ?_
  (try simp only [thenE, inBlkE])
  refine ⟨1, 2, _, _, by decide, rfl, rfl, rfl, .inl ⟨rfl, ?_⟩⟩
  refine postZ ?_; try exact ⟨⟩
  all_goals (first | (rw [checkR_out ht1]; done) | (rw [checkR_good hval hll hlp hp2]; done))

theorem k26a (p : Pg) (hr0 : p.rows.length ≤ maxLen) (hg : p.gain.length ≤ maxLen) (hc : ∀ r ∈ p.rows, r.coef.length ≤ maxLen) (l : List Sg) (hlm : l.length ≤ maxLen) (hwl : ∀ k, k < l.length → ∀ s, l.getD k sg0 = s → s.ws.length ≤ maxLen) (hU : usedV p p.rows l = .nm) : CallsA Tryz.prog 73 [.agg (encPg p), .sl 4 (encSgs l)] (.int .i64 (wrongW p l)) := by
 have hk68 := k68 p hr0 hg hc p.rows l hlm hwl valid_okRw
 rw [hU] at hk68
 have hq : True := trivial
 refine callsA_of_tr Tryz.func73 rfl (Nat.le_of_ble_eq_true rfl) ?_
 simp only [Tryz.results73, envOf, Nat.reduceAdd]
 refine tr_sR [1, 2] fun K hK => ?_
 iterate 2 refine evR_p ?_
 refine evR_z hK ?_; clear hK K
 refine tr_sR [5] fun K hK => ?_
 iterate 4 refine evR_p ?_
 refine evR_c (hc := hk68) (k := ?_)
 iterate 5 refine evR_p ?_
 refine evR_z hK ?_; clear hK K
 refine tr_sR [4] fun K hK => ?_
 iterate 2 refine evR_p ?_
 refine evR_z hK ?_; clear hK K
 refine retZ ?_; try exact ⟨⟩
 all_goals ((rw [wrongX_wrong]; done))

theorem k26b (p : Pg) (hr0 : p.rows.length ≤ maxLen) (hg : p.gain.length ≤ maxLen) (hc : ∀ r ∈ p.rows, r.coef.length ≤ maxLen) (l : List Sg) (hlm : l.length ≤ maxLen) (hwl : ∀ k, k < l.length → ∀ s, l.getD k sg0 = s → s.ws.length ≤ maxLen) (es : List (Int × Bool)) (hU : usedV p p.rows l = .fm es) : CallsA Tryz.prog 73 [.agg (encPg p), .sl 4 (encSgs l)] (.int .i64 (wrongW p l)) := by
 have hk68 := k68 p hr0 hg hc p.rows l hlm hwl valid_okRw
 rw [hU] at hk68
 have hq : True := trivial
 refine callsA_of_tr Tryz.func73 rfl (Nat.le_of_ble_eq_true rfl) ?_
 simp only [Tryz.results73, envOf, Nat.reduceAdd]
 refine tr_sR [1, 2] fun K hK => ?_
 iterate 2 refine evR_p ?_
 refine evR_z hK ?_; clear hK K
 refine tr_sR [5] fun K hK => ?_
 iterate 4 refine evR_p ?_
 refine evR_c (hc := hk68) (k := ?_)
 iterate 5 refine evR_p ?_
 refine evR_z hK ?_; clear hK K
 refine tr_sR [4] fun K hK => ?_
 iterate 2 refine evR_p ?_
 refine evR_z hK ?_; clear hK K
 refine retZ ?_; try exact ⟨⟩
 all_goals ((rw [wrongX_wrong]; done))
theorem k26 (p : Pg) (hr0 : p.rows.length ≤ maxLen) (hg : p.gain.length ≤ maxLen) (hc : ∀ r ∈ p.rows, r.coef.length ≤ maxLen) (l : List Sg) (hlm : l.length ≤ maxLen) (hwl : ∀ k, k < l.length → ∀ s, l.getD k sg0 = s → s.ws.length ≤ maxLen) : CallsA Tryz.prog 73 [.agg (encPg p), .sl 4 (encSgs l)] (.int .i64 (wrongW p l)) := by
 rcases usedV_cases p p.rows l with h | ⟨es, h⟩
 ·
  exact k26a p hr0 hg hc l hlm hwl h
 ·
  exact k26b p hr0 hg hc l hlm hwl es h

theorem k24 (p : Pg) (hr0 : p.rows.length ≤ maxLen) (hg : p.gain.length ≤ maxLen) (hc : ∀ r ∈ p.rows, r.coef.length ≤ maxLen) (l : List Sg) (hlm : l.length ≤ maxLen) (hwl : ∀ k, k < l.length → ∀ s, l.getD k sg0 = s → s.ws.length ≤ maxLen) : CallsA Tryz.prog 45 [.agg (encPg p), .sl 4 (encSgs l)] (.bool (refutesW p l)) := by
 have hq : True := trivial
 refine callsA_of_tr Tryz.func45 rfl (Nat.le_of_ble_eq_true rfl) ?_
 simp only [Tryz.results45, envOf, Nat.reduceAdd]
 refine tr_sR [1, 2] fun K hK => ?_
 iterate 2 refine evR_p ?_
 refine evR_z hK ?_; clear hK K
 refine tr_sR [4] fun K hK => ?_
 iterate 2 refine evR_p ?_
 refine evR_c (hc := (k26 p hr0 hg hc l hlm hwl)) (k := ?_)
 iterate 2 refine evR_p ?_
 refine evR_z hK ?_; clear hK K
 refine retZ ?_; try exact ⟨⟩
 all_goals (rfl)

section
attribute [local go_sem] List.replicate_succ List.replicate_zero List.set_cons_zero
set_option maxHeartbeats 16000000 in
theorem k32a (p : Pg) (hr0 : p.rows.length ≤ maxLen) (hg : p.gain.length ≤ maxLen) (hc : ∀ r ∈ p.rows, r.coef.length ≤ maxLen) (l : List Sg) (hlm : l.length ≤ maxLen) (hwl : ∀ k, k < l.length → ∀ s, l.getD k sg0 = s → s.ws.length ≤ maxLen) (hgs : p.gain.length ≤ 1000) (hrs : p.rows.length ≤ 100000) (gain : Int) (hU : usedV p (p.rows ++ [goalW p gain]) l = .nm) : CallsA Tryz.prog 47 [.agg (encPg p), .sl 4 (encSgs l), .int .i64 gain] (.bool (boundsW p l gain)) := by
 have hk680 := fun hv => k68 p hr0 hg hc (p.rows ++ [goalW p gain]) l hlm hwl hv
 rw [hU] at hk680
 unfold maxLen at hg hr0
 have hq : True := trivial
 refine callsA_of_tr Tryz.func47 rfl (Nat.le_of_ble_eq_true rfl) ?_
 simp only [Tryz.results47, envOf, Nat.reduceAdd]
 refine tr_sR [1, 2, 3] fun K hK => ?_
 iterate 2 refine evR_p ?_
 refine evR_z hK ?_; clear hK K
 refine tr_seq fun K2 hK2 => ?_
 refine tr_sR [1, 2, 3, 14] fun K hK => ?_
 refine evR_p ?_
 refine evR_c (hc := (k75 _ _ _)) (k := ?_)
 refine evR_p ?_
 refine evR_z hK ?_; clear hK K
 refine tr_condB (fun ht1 => ?_) (fun ht1 => ?_)
 ·
  skip
  refine tr_sR [6] fun K hK => ?_
  refine evR_p ?_
  refine evR_z hK ?_; clear hK K
  refine retZ ?_; try exact ⟨⟩
  all_goals (first | (rw [wrongX_bounds ht1]; done) | (rw [bounds_out ht1]; done))
 ·
  skip
  refine skipZ ?_
  refine hK2 _ ?_
  refine tr_sR [1, 3, 7] fun K hK => ?_
  iterate 6 refine evR_p ?_
  refine evR_z hK ?_; clear hK K
  refine tr_seq fun K6 hK6 => ?_
  refine tr_sR [1, 3, 7, 20, 21, 22] fun K hK => ?_
  iterate 4 refine evR_p ?_
  refine evR_z hK ?_; clear hK K
  refine tr_block ?_
  -- loop 1: live [1, 3, 7, 20, 21, 22]
  refine tr_loopW (fun m σ => ∃ i : Nat, i + m = p.gain.length ∧ σ = ⟨[(1, .sl 4 (encSgs l)), (3, .ptr 0 0), (7, .ptr 1 0), (20, .sl 1 (encI p.gain)), (21, .int .i64 p.gain.length), (22, .int .i64 (i : Nat))], [(2, .row 3 1 (encI (negG p.gain i))), (1, .cells [.int .i64 0, .int .i64 0, .int .i64 0, .int .i64 0, .own 2, .int .i64 (IntKind.i64.wrap (0 - IntKind.i64.wrap (gain + 1)))]), (0, .cells (encPg p))], 3⟩) (p.gain.length) ?_ ?_
  ·
   exact ⟨_, Wk.nilown 3 1 1 4 rfl (Nat.le_of_ble_eq_true rfl) rfl, 0, by omega, rfl⟩
  ·
   rintro m σ ⟨i, hi, rfl⟩ KL1 hKL1
   refine tr_sR [1, 3, 7, 20, 21, 22, 23] fun K hK => ?_
   refine evR_p ?_
   refine evR_z hK ?_; clear hK K
   refine tr_seq fun K9 hK9 => ?_
   refine tr_condB (fun ht2 => ?_) (fun ht2 => ?_)
   ·
    skip
    have hil : i < p.gain.length := by omega
    have hnl := negG_length p.gain i
    replace hq := And.intro hq (And.intro hil (hnl))
    refine skipZ ?_
    refine hK9 _ ?_
    refine tr_seq fun K10 hK10 => ?_
    refine tr_block ?_
    refine tr_sR [1, 3, 7, 9, 20, 21, 22] fun K hK => ?_
    iterate 3 refine evR_p ?_
    refine evR_z hK ?_; clear hK K
    refine tr_region [1, 3, 7, 20, 21, 22] rfl rfl fun K hK => ?_
    iterate 4 refine evR_p ?_
    refine evR_bs ?_
    iterate 3 refine evR_p ?_
    refine evR_e hK ?_; clear hK K
    refine hK10 _ ?_
    refine tr_region [1, 3, 7, 20, 21, 22] rfl rfl fun K hK => ?_
    iterate 2 refine evR_p ?_
    refine evR_e hK ?_; clear hK K
    refine hKL1 _ ?_
    exact ⟨m - 1, _, by omega, (Wk.trans (Wk.ren 3 2 (Nat.le_of_ble_eq_true rfl) (Nat.le_of_ble_eq_true rfl) rfl) (Wk.cut 3 rfl)), i + 1, by omega, by rw [w64 (x := (i : Int) + 1) (by omega), negG_succ hil, encI_snoc]; rfl⟩
   ·
    skip
    have hil : i = p.gain.length := by omega
    subst hil
    have hk68 := hk680 (fun hv => goal_okRws hv ht1)
    rw [show encR (p.rows ++ [goalW p gain]) = encR p.rows ++ [[.int .i64 0, .int .i64 0, .int .i64 0, .int .i64 0, .sl 1 (encI (negG p.gain p.gain.length)), .int .i64 (IntKind.i64.wrap (0 - IntKind.i64.wrap (gain + 1)))]] from by simp [encR, encRw, goalW]] at hk68
    have hT : List.take p.rows.length (encR p.rows) = encR p.rows := List.take_of_length_le (by rw [encR_length]; omega)
    replace hq := And.intro hq hT
    refine tr_exit ?_
    simp only [thenE, inBlkE, Nat.reduceEqDiff, ↓reduceIte]
    refine hK6 _ ?_
    refine tr_seq fun K12 hK12 => ?_
    refine tr_fz [.own 2] (by simp (maxSteps := 4000000) (disch := first | assumption | omega | (simp only [go_sem, *]; done) | (simp only [go_sem, *]; omega)) only [go_sem, hq, Int.reduceToNat, Nat.reduceBEq, Nat.reduceEqDiff, Nat.reduceAdd, Nat.reduceMul, Nat.reduceLeDiff, Nat.reduceLT, Nat.reduceSub, ↓reduceIte, reduceCtorEq]; (try rfl)) ?_
    refine tr_draw [46, 47] [10] mixed rfl (by kernel_rfl) rfl fun K hK => ?_
    iterate 11 refine evD_p ?_
    refine evD_step fun Kq hKq => ?_
    simp (maxSteps := 4000000) (disch := first | assumption | omega | (simp only [go_sem, *]; done) | (simp only [go_sem, *]; omega)) only [isE, isO, stpO, notIn, St.bare, go_sem, hq, Int.reduceToNat, Nat.reduceBEq, Nat.reduceEqDiff, Nat.reduceAdd, Nat.reduceMul, Nat.reduceLeDiff, Nat.reduceLT, Nat.reduceSub, ↓reduceIte, reduceCtorEq]
    (repeat (refine And.intro (by first | assumption | omega | decide | (simp; done) | (simp; omega) | (have hq := hvv hgt; omega) | (have hq := hvv hgt.1; omega) | (simp_all; done)) ?_))
    refine Or.inl (hKq _ ?_); clear hKq Kq
    iterate 2 refine evD_p ?_
    refine evD_c (hc := hk68) (k := ?_)
    iterate 5 refine evD_p ?_
    refine evD_e hK ?_; clear hK K
    refine hK12 _ ?_
    refine tr_sR [6] fun K hK => ?_
    iterate 3 refine evR_p ?_
    refine evR_z hK ?_; clear hK K
    refine retZ ?_; try exact ⟨⟩
    all_goals (first | (rw [wrongX_bounds ht1]; done) | (rw [bounds_out ht1]; done))
end

section
attribute [local go_sem] List.replicate_succ List.replicate_zero List.set_cons_zero
set_option maxHeartbeats 16000000 in
theorem k32b (p : Pg) (hr0 : p.rows.length ≤ maxLen) (hg : p.gain.length ≤ maxLen) (hc : ∀ r ∈ p.rows, r.coef.length ≤ maxLen) (l : List Sg) (hlm : l.length ≤ maxLen) (hwl : ∀ k, k < l.length → ∀ s, l.getD k sg0 = s → s.ws.length ≤ maxLen) (hgs : p.gain.length ≤ 1000) (hrs : p.rows.length ≤ 100000) (gain : Int) (es : List (Int × Bool)) (hU : usedV p (p.rows ++ [goalW p gain]) l = .fm es) : CallsA Tryz.prog 47 [.agg (encPg p), .sl 4 (encSgs l), .int .i64 gain] (.bool (boundsW p l gain)) := by
 have hk680 := fun hv => k68 p hr0 hg hc (p.rows ++ [goalW p gain]) l hlm hwl hv
 rw [hU] at hk680
 unfold maxLen at hg hr0
 have hq : True := trivial
 refine callsA_of_tr Tryz.func47 rfl (Nat.le_of_ble_eq_true rfl) ?_
 simp only [Tryz.results47, envOf, Nat.reduceAdd]
 refine tr_sR [1, 2, 3] fun K hK => ?_
 iterate 2 refine evR_p ?_
 refine evR_z hK ?_; clear hK K
 refine tr_seq fun K2 hK2 => ?_
 refine tr_sR [1, 2, 3, 14] fun K hK => ?_
 refine evR_p ?_
 refine evR_c (hc := (k75 _ _ _)) (k := ?_)
 refine evR_p ?_
 refine evR_z hK ?_; clear hK K
 refine tr_condB (fun ht1 => ?_) (fun ht1 => ?_)
 ·
  skip
  refine tr_sR [6] fun K hK => ?_
  refine evR_p ?_
  refine evR_z hK ?_; clear hK K
  refine retZ ?_; try exact ⟨⟩
  all_goals (first | (rw [wrongX_bounds ht1]; done) | (rw [bounds_out ht1]; done))
 ·
  skip
  refine skipZ ?_
  refine hK2 _ ?_
  refine tr_sR [1, 3, 7] fun K hK => ?_
  iterate 6 refine evR_p ?_
  refine evR_z hK ?_; clear hK K
  refine tr_seq fun K6 hK6 => ?_
  refine tr_sR [1, 3, 7, 20, 21, 22] fun K hK => ?_
  iterate 4 refine evR_p ?_
  refine evR_z hK ?_; clear hK K
  refine tr_block ?_
  -- loop 1: live [1, 3, 7, 20, 21, 22]
  refine tr_loopW (fun m σ => ∃ i : Nat, i + m = p.gain.length ∧ σ = ⟨[(1, .sl 4 (encSgs l)), (3, .ptr 0 0), (7, .ptr 1 0), (20, .sl 1 (encI p.gain)), (21, .int .i64 p.gain.length), (22, .int .i64 (i : Nat))], [(2, .row 3 1 (encI (negG p.gain i))), (1, .cells [.int .i64 0, .int .i64 0, .int .i64 0, .int .i64 0, .own 2, .int .i64 (IntKind.i64.wrap (0 - IntKind.i64.wrap (gain + 1)))]), (0, .cells (encPg p))], 3⟩) (p.gain.length) ?_ ?_
  ·
   exact ⟨_, Wk.nilown 3 1 1 4 rfl (Nat.le_of_ble_eq_true rfl) rfl, 0, by omega, rfl⟩
  ·
   rintro m σ ⟨i, hi, rfl⟩ KL1 hKL1
   refine tr_sR [1, 3, 7, 20, 21, 22, 23] fun K hK => ?_
   refine evR_p ?_
   refine evR_z hK ?_; clear hK K
   refine tr_seq fun K9 hK9 => ?_
   refine tr_condB (fun ht2 => ?_) (fun ht2 => ?_)
   ·
    skip
    have hil : i < p.gain.length := by omega
    have hnl := negG_length p.gain i
    replace hq := And.intro hq (And.intro hil (hnl))
    refine skipZ ?_
    refine hK9 _ ?_
    refine tr_seq fun K10 hK10 => ?_
    refine tr_block ?_
    refine tr_sR [1, 3, 7, 9, 20, 21, 22] fun K hK => ?_
    iterate 3 refine evR_p ?_
    refine evR_z hK ?_; clear hK K
    refine tr_region [1, 3, 7, 20, 21, 22] rfl rfl fun K hK => ?_
    iterate 4 refine evR_p ?_
    refine evR_bs ?_
    iterate 3 refine evR_p ?_
    refine evR_e hK ?_; clear hK K
    refine hK10 _ ?_
    refine tr_region [1, 3, 7, 20, 21, 22] rfl rfl fun K hK => ?_
    iterate 2 refine evR_p ?_
    refine evR_e hK ?_; clear hK K
    refine hKL1 _ ?_
    exact ⟨m - 1, _, by omega, (Wk.trans (Wk.ren 3 2 (Nat.le_of_ble_eq_true rfl) (Nat.le_of_ble_eq_true rfl) rfl) (Wk.cut 3 rfl)), i + 1, by omega, by rw [w64 (x := (i : Int) + 1) (by omega), negG_succ hil, encI_snoc]; rfl⟩
   ·
    skip
    have hil : i = p.gain.length := by omega
    subst hil
    have hk68 := hk680 (fun hv => goal_okRws hv ht1)
    rw [show encR (p.rows ++ [goalW p gain]) = encR p.rows ++ [[.int .i64 0, .int .i64 0, .int .i64 0, .int .i64 0, .sl 1 (encI (negG p.gain p.gain.length)), .int .i64 (IntKind.i64.wrap (0 - IntKind.i64.wrap (gain + 1)))]] from by simp [encR, encRw, goalW]] at hk68
    have hT : List.take p.rows.length (encR p.rows) = encR p.rows := List.take_of_length_le (by rw [encR_length]; omega)
    replace hq := And.intro hq hT
    refine tr_exit ?_
    simp only [thenE, inBlkE, Nat.reduceEqDiff, ↓reduceIte]
    refine hK6 _ ?_
    refine tr_seq fun K12 hK12 => ?_
    refine tr_fz [.own 2] (by simp (maxSteps := 4000000) (disch := first | assumption | omega | (simp only [go_sem, *]; done) | (simp only [go_sem, *]; omega)) only [go_sem, hq, Int.reduceToNat, Nat.reduceBEq, Nat.reduceEqDiff, Nat.reduceAdd, Nat.reduceMul, Nat.reduceLeDiff, Nat.reduceLT, Nat.reduceSub, ↓reduceIte, reduceCtorEq]; (try rfl)) ?_
    refine tr_draw [46, 47] [10] mixed rfl (by kernel_rfl) rfl fun K hK => ?_
    iterate 11 refine evD_p ?_
    refine evD_step fun Kq hKq => ?_
    simp (maxSteps := 4000000) (disch := first | assumption | omega | (simp only [go_sem, *]; done) | (simp only [go_sem, *]; omega)) only [isE, isO, stpO, notIn, St.bare, go_sem, hq, Int.reduceToNat, Nat.reduceBEq, Nat.reduceEqDiff, Nat.reduceAdd, Nat.reduceMul, Nat.reduceLeDiff, Nat.reduceLT, Nat.reduceSub, ↓reduceIte, reduceCtorEq]
    (repeat (refine And.intro (by first | assumption | omega | decide | (simp; done) | (simp; omega) | (have hq := hvv hgt; omega) | (have hq := hvv hgt.1; omega) | (simp_all; done)) ?_))
    refine Or.inl (hKq _ ?_); clear hKq Kq
    iterate 2 refine evD_p ?_
    refine evD_c (hc := hk68) (k := ?_)
    iterate 5 refine evD_p ?_
    refine evD_e hK ?_; clear hK K
    refine hK12 _ ?_
    refine tr_sR [6] fun K hK => ?_
    iterate 3 refine evR_p ?_
    refine evR_z hK ?_; clear hK K
    refine retZ ?_; try exact ⟨⟩
    all_goals (first | (rw [wrongX_bounds ht1]; done) | (rw [bounds_out ht1]; done))
end
theorem k32 (p : Pg) (hr0 : p.rows.length ≤ maxLen) (hg : p.gain.length ≤ maxLen) (hc : ∀ r ∈ p.rows, r.coef.length ≤ maxLen) (l : List Sg) (hlm : l.length ≤ maxLen) (hwl : ∀ k, k < l.length → ∀ s, l.getD k sg0 = s → s.ws.length ≤ maxLen) (hgs : p.gain.length ≤ 1000) (hrs : p.rows.length ≤ 100000) (gain : Int) : CallsA Tryz.prog 47 [.agg (encPg p), .sl 4 (encSgs l), .int .i64 gain] (.bool (boundsW p l gain)) := by
 rcases usedV_cases p (p.rows ++ [goalW p gain]) l with h | ⟨es, h⟩
 ·
  exact k32a p hr0 hg hc l hlm hwl hgs hrs gain h
 ·
  exact k32b p hr0 hg hc l hlm hwl hgs hrs gain es h

end Go.Proofs.YtfamkbofdamkkaaGreat
namespace Go.Proofs.YtfamkbofdamkkaaGreat
open Go.RowKit
set_option linter.unusedVariables false
set_option linter.unusedSimpArgs false
def lf (ws : List Wt) : Sg := ⟨-1, 0, 0, ws⟩
def spP : Pg := ⟨2, [⟨0, 0, 0, 0, [2, 2], 3⟩, ⟨0, 0, 0, 0, [-1, -1], -2⟩], [3, 4]⟩
def spQ : Pg := ⟨2, [⟨0, 0, 0, 0, [2, 2], 3⟩], [3, 4]⟩
def spN : Pg := ⟨-1, [], []⟩
def pf1 : List Sg := [lf [⟨0, 1⟩, ⟨1, 2⟩]]
def pf2 : List Sg := [lf [⟨0, 1⟩]]
def pf3 : List Sg := [⟨0, 1, 2, []⟩, lf [⟨1, 1⟩], ⟨1, 3, 4, []⟩, lf [⟨1, 1⟩], lf [⟨0, 1⟩]]
def pfG : List Sg := [lf [⟨0, 2⟩, ⟨1, 1⟩]]
theorem r1 : refutesW spP pf1 = true := by decide
theorem r2 : refutesW spP pf2 = false := by decide
theorem q1 : wrongW spP pf1 = -1 := by decide
theorem q2 : wrongW spP pf2 = 0 := by decide
def pv3 : V := .sl 4 [[.int .i64 0, .int .i64 1, .int .i64 2, .nsl], encSg (lf [⟨1, 1⟩]), [.int .i64 1, .int .i64 3, .int .i64 4, .nsl], encSg (lf [⟨1, 1⟩]), encSg (lf [⟨0, 1⟩])]
theorem encSt_le (s : Stp) (j : Nat) : V.Le0 ((encSt s).getD j .any) ((encSg (toSg s)).getD j .any) := by
 match j with
 | 0 | 1 | 2 => exact .refl _
 | 3 =>
  show V.Le0 (match s.leaf with | some i => V.sl 2 [[.int .i64 i, .int .i64 1]] | none => .nsl) (.sl 2 (encWs (toSg s).ws))
  cases h : s.leaf with
  | none => simp only [toSg, h]; exact .nsl 2
  | some i => simp only [toSg, h]; exact .refl _
 | j + 4 => exact .refl _
theorem encS_le (l : List Stp) : V.Le (.sl 4 (encS l)) (.sl 4 (encSgs (l.map toSg))) := by
 refine .sl 4 (by simp [encS, encSgs]) (fun i hi => ?_) (fun i j hi => ?_) <;> rw [encS_length] at hi
 ·
  rw [encS_getD _ _ hi, encSgs_getD _ _ (by simpa using hi)]; rfl
 ·
  rw [encS_getD _ _ hi, encSgs_getD _ _ (by simpa using hi), toSg_getD]; exact encSt_le _ j
theorem prf_ws (p : Pg) : ∀ s ∈ prfS p, s.ws.length ≤ 1000 := by
 intro s hs
 obtain ⟨t, -, rfl⟩ := List.mem_map.1 hs
 simp only [toSg]
 cases t.leaf <;> simp
section
variable {p : Pg} (hv : validB p = true)
include hv
theorem cmp_bound (hf : (solveB p).1 = true) : boundsW p (prfS p) (solveB p).2.2 = true := by
 obtain ⟨s, -, -, -, h1, h2⟩ := solveB_gain hv hf
 exact prf_bounds hv hf ⟨h1, h2⟩
end
end Go.Proofs.YtfamkbofdamkkaaGreat
namespace Go.Proofs.YtfamkbofdamkkaaGreat
def moresP (p : Pg) (rs : List Rw) : Pg := ⟨p.vars, p.rows ++ rs, p.gain⟩
/-! #### a row and its opposite -/
def agR (r : Rw) (v : Nat) : Rw := ⟨0, 0, 0, 0, negG r.coef v, IntKind.i64.wrap (IntKind.i64.wrap (0 - r.most) - 1)⟩
def usP (p : Pg) (r : Rw) : Pg := moresP p [r, agR r p.vars.toNat]
open Go.RowKit Go.Maps Go.Sort Go.Shelf
set_option linter.unusedVariables false
set_option linter.unusedSimpArgs false
/-- The rows from 0 on that a list does not name. -/
def offW (rows : List Int) : Nat → List Int
 | 0 => []
 | n + 1 => if atW rows n < rows.length ∧ rows.getD (atW rows n) 0 = n then offW rows n else offW rows n ++ [(n : Int)]
/-- A row and its opposite are a leaf by themselves. -/
def shortS (n : Nat) : List Sg := [lf [⟨(n : Int) - 2, 1⟩, ⟨(n : Int) - 1, 1⟩]]
end Go.Proofs.YtfamkbofdamkkaaGreat
namespace Go.Proofs.YtfamkbofdamkkaaGreat
open Go.RowKit
set_option linter.unusedVariables false
set_option linter.unusedSimpArgs false
theorem pickW_rangeL (c : Int) {n : Int} (hn : 0 < n) (hc : okI c) : 0 ≤ pickW c n ∧ pickW c n < n := by
 unfold okI at hc
 unfold pickW
 split
 ·
  rw [w64 (x := c + 1) (by omega), w64 (x := 0 - (c + 1)) (by omega)]
  exact ⟨Int.tmod_nonneg _ (by omega), Int.tmod_lt_of_pos _ hn⟩
 ·
  exact ⟨Int.tmod_nonneg _ (by omega), Int.tmod_lt_of_pos _ hn⟩
/-- The step that Bent makes of a step. -/
def bentS (n : Nat) (z : List Int) (s : Sg) : Sg :=
 if pickW (z.getD 1 0) 9 = 0 then ⟨pickW (z.getD 2 0) 9 - 1, s.no, s.yes, s.ws⟩
 else if pickW (z.getD 1 0) 9 = 1 then ⟨s.var, pickW (z.getD 2 0) (n + 1), s.yes, s.ws⟩
 else if pickW (z.getD 1 0) 9 = 2 then ⟨s.var, s.no, pickW (z.getD 2 0) (n + 1), s.ws⟩
 else if pickW (z.getD 1 0) 9 = 3 then (if 0 < s.ws.length then ⟨s.var, s.no, s.yes, s.ws.set 0 ⟨pickW (z.getD 2 0) 9, (s.ws.getD 0 wt0).tm⟩⟩ else s)
 else if pickW (z.getD 1 0) 9 = 4 then (if 0 < s.ws.length then ⟨s.var, s.no, s.yes, s.ws.set 0 ⟨(s.ws.getD 0 wt0).rw, pickW (z.getD 2 0) 1003 - 1⟩⟩ else s)
 else if pickW (z.getD 1 0) 9 = 5 then ⟨s.var, s.no, s.yes, s.ws ++ [⟨pickW (z.getD 2 0) 10, 1 + pickW (z.getD 3 0) 5⟩]⟩
 else if pickW (z.getD 1 0) 9 = 7 then ⟨s.var, s.yes, s.no, s.ws⟩
 else s
def bentW (l : List Sg) (z : List Int) : List Sg :=
 if l.length = 0 then l
 else if pickW (z.getD 1 0) 9 = 6 then (l.set (pickW (z.getD 0 0) l.length).toNat (bentS l.length z (l.getD (pickW (z.getD 0 0) l.length).toNat sg0))).take (pickW (z.getD 2 0) l.length + 1).toNat
 else l.set (pickW (z.getD 0 0) l.length).toNat (bentS l.length z (l.getD (pickW (z.getD 0 0) l.length).toNat sg0))
theorem bentS_6 {n : Nat} {z : List Int} {s : Sg} (h : pickW (z.getD 1 0) 9 = 6) : bentS n z s = s := by unfold bentS; rw [h]; rfl
theorem set_getD {α : Type} {l : List α} {k : Nat} {d : α} : l.set k (l.getD k d) = l := by
 apply List.ext_getElem?
 intro i
 rw [List.getElem?_set]
 split
 ·
  rename_i e; subst e
  split
  ·
   rename_i h; simp [List.getD, h]
  ·
   rename_i h; rw [List.getElem?_eq_none (by omega)]
 ·
  rfl
theorem bentW_6 {l : List Sg} {z : List Int} (h : pickW (z.getD 1 0) 9 = 6) (h0 : ¬ l.length = 0) : bentW l z = l.take (pickW (z.getD 2 0) l.length + 1).toNat := by
 unfold bentW
 rw [if_neg h0, if_pos h, bentS_6 h, set_getD]
theorem bentW_n {l : List Sg} {z : List Int} (h : ¬ pickW (z.getD 1 0) 9 = 6) (h0 : ¬ l.length = 0) : bentW l z = l.set (pickW (z.getD 0 0) l.length).toNat (bentS l.length z (l.getD (pickW (z.getD 0 0) l.length).toNat sg0)) := by
 unfold bentW
 rw [if_neg h0, if_neg h]
theorem bentS_ws (n : Nat) (z : List Int) (s : Sg) : (bentS n z s).ws.length ≤ s.ws.length + 1 := by
 unfold bentS
 repeat' split
 all_goals simp
theorem bentW_ws {l : List Sg} {z : List Int} {B : Nat} (h : ∀ s ∈ l, s.ws.length ≤ B) : ∀ s ∈ bentW l z, s.ws.length ≤ B + 1 := by
 have h2 : ∀ s ∈ l.set (pickW (z.getD 0 0) l.length).toNat (bentS l.length z (l.getD (pickW (z.getD 0 0) l.length).toNat sg0)), s.ws.length ≤ B + 1 := fun s hs => by
  rcases List.mem_or_eq_of_mem_set hs with hs | hs
  ·
   have := h s hs; omega
  ·
   rw [hs]
   have h3 := bentS_ws l.length z (l.getD (pickW (z.getD 0 0) l.length).toNat sg0)
   have h4 : (l.getD (pickW (z.getD 0 0) l.length).toNat sg0).ws.length ≤ B := by
    by_cases hk : (pickW (z.getD 0 0) l.length).toNat < l.length
    ·
     exact h _ (getD_mem hk)
    ·
     rw [getD_none (by omega)]; simp [sg0]
   omega
 intro s hs
 unfold bentW at hs
 split at hs
 ·
  have := h s hs; omega
 ·
  split at hs
  ·
   exact h2 s (List.mem_of_mem_take hs)
  ·
   exact h2 s hs
theorem bentW_len {l : List Sg} {z : List Int} : (bentW l z).length ≤ l.length := by
 unfold bentW
 split
 ·
  exact Nat.le_refl _
 ·
  split <;> simp
  omega
theorem pow_small {v u : Nat} (hv : v ≤ 12) (hu : u < 2 ^ v) : u < 65536 := by
 have : 2 ^ v ≤ 2 ^ 12 := Nat.pow_le_pow_right (by decide) hv
 omega
end Go.Proofs.YtfamkbofdamkkaaGreat
namespace Go.Proofs.YtfamkbofdamkkaaGreat
open Go.RowKit
set_option linter.unusedVariables false
set_option linter.unusedSimpArgs false
theorem union_len {l : List (List Int)} (hl : okAs l) : (unionL l).length = 16 := unionT_len hl _ (Nat.le_refl _)
theorem full_lt (v : Nat) : 2 ^ v - 1 < 2 ^ v := by have := Nat.two_pow_pos v; omega
def hasT (l : List (List Int)) (n u v : Int) : Nat → Bool
 | 0 => false
 | i + 1 => hasT l n u v i || (decide (Int.tmod (shrW .i64 n (i : Nat)) 2 = 1) && hasA (l.getD i []) u v)
def someT (l : List (List Int)) (u v : Int) : Nat → Bool
 | 0 => false
 | i + 1 => someT l u v i || hasA (l.getD i []) u v
theorem bit_rem (s : Nat) {i : Nat} (h : i < 64) : decide (Int.tmod (shrW .i64 (s : Nat) (i : Nat)) 2 = 1) = s.testBit i := by
 rw [rem_bit (s := s) (n := i) h]
 cases s.testBit i <;> rfl
def encSol2 (p : Pg) : List V := [.bool (solveW p).found, .int .i64 (solveW p).set, .int .i64 (solveW p).gain, .sl 4 (encSgs (prfS p))]
theorem sol_le (p : Pg) : V.Le (.tup [.agg (encSol (solveW p)), .int .i64 0]) (.tup [.agg (encSol2 p), .int .i64 0]) :=
 .tup (.cons (.agg (.cons (.refl _) (.cons (.refl _) (.cons (.refl _) (.cons (encS_le _) .nil))))) (.cons (.refl _) .nil))
theorem s36 {p : Pg} (hv : validB p = true) : CallsA Tryz.prog 37 [.agg (encPg p)] (.tup [.agg (encSol2 p), .int .i64 0]) := by
 obtain ⟨a, b, c⟩ := valid_max hv
 exact (c14 p a b c hv).le (sol_le p)
/-- A proof that is no longer than any of these is. -/
structure okPf (l : List Sg) : Prop where
 len : l.length ≤ maxLen
 ws : ∀ s ∈ l, s.ws.length ≤ maxLen
theorem okPf.at {l : List Sg} (h : okPf l) : ∀ k, k < l.length → ∀ s, l.getD k sg0 = s → s.ws.length ≤ maxLen := fun k hk s hs => by
 subst hs; exact h.ws _ (getD_mem hk)
/-- A program that is no longer than any of these is. -/
structure okPr (p : Pg) : Prop where
 rows : p.rows.length ≤ 400
 gain : p.gain.length ≤ 1000
 coef : ∀ r ∈ p.rows, r.coef.length ≤ 1000
theorem okPr_valid {p : Pg} (hv : validB p = true) : okPr p := by
 obtain ⟨q0, q1, q2, q3, q4, q5⟩ := validB_all hv
 exact ⟨by omega, by omega, fun r hr => by have := (q5 r hr).1; omega⟩
section
variable {p : Pg} (hp : okPr p) {l : List Sg} (hl : okPf l)
include hp
theorem okPr.r : p.rows.length ≤ maxLen := by have := hp.rows; unfold maxLen; omega
theorem okPr.g : p.gain.length ≤ maxLen := by have := hp.gain; unfold maxLen; omega
theorem okPr.c : ∀ r ∈ p.rows, r.coef.length ≤ maxLen := fun r hr => by have := hp.coef r hr; unfold maxLen; omega
include hl
theorem s24 : CallsA Tryz.prog 45 [.agg (encPg p), .sl 4 (encSgs l)] (.bool (refutesW p l)) := k24 p hp.r hp.g hp.c l hl.len hl.at
theorem s32 (n : Int) : CallsA Tryz.prog 47 [.agg (encPg p), .sl 4 (encSgs l), .int .i64 n] (.bool (boundsW p l n)) := k32 p hp.r hp.g hp.c l hl.len hl.at hp.gain (by have := hp.rows; omega) n
end
theorem okPf_prf {p : Pg} (hv : validB p = true) : okPf (prfS p) := ⟨by have := prf_len hv; unfold maxLen; omega, fun s hs => by have := prf_ws p s hs; unfold maxLen; omega⟩
/-! #### sets out of predicates -/
def ofB (p : Nat → Bool) : Nat → Nat
 | 0 => 0
 | n + 1 => if p n = true then ofB p n + 2 ^ n else ofB p n
def cntB (p : Nat → Bool) : Nat → Int
 | 0 => 0
 | n + 1 => cntB p n + if p n = true then 1 else 0
/-! #### a transmitter that is spared -/
def lessL (l : List (List Int)) (i : Nat) : List (List Int) := l.take i ++ l.drop (i + 1)
/-! #### what the check accepts -/
theorem minus_zero {a b : List Int} (ha : a.length = 16) (hb : b.length = 16) (va : validA a = true) (vb : validA b = true) : minusA a b = zeros16 ↔ withinA a b = true := by
 have hm := minus_has ha hb va vb
 rw [within_has ha hb va vb]
 constructor
 ·
  intro h x y hx hy hh
  have := hm.2 x y hx hy
  rw [h, zeros_has.2 x y hx hy, hh] at this
  simpa using this
 ·
  intro h
  refine has_ext (minusA_len ha hb) rfl hm.1 zeros_has.1 fun x y hx hy => ?_
  rw [hm.2 x y hx hy, zeros_has.2 x y hx hy]
  cases hh : hasA a x y with
  | false => rfl
  | true => rw [h x y hx hy hh]; rfl
theorem encA_take (l : List (List Int)) (n : Nat) : (encA l).take n = encA (l.take n) := by simp [encA, List.map_take]
/-- The other transmitter's number. -/
def otherN (i k n : Nat) : Nat := if i = k then (k + 1) % n else k
def tX (n : Int) : List Int := n :: List.replicate 15 0
theorem exR_ok : okAs exR := ⟨by simp [exR, maxLen], by intro a ha; simp [exR] at ha; rcases ha with rfl | rfl | rfl <;> rfl⟩
theorem ex_val {n : Int} (h : validA (tX n) = true) : validR exR (tX n) = true := validR_iff.2 ⟨by intro a ha; simp [exR] at ha; rcases ha with rfl | rfl | rfl <;> decide, by decide, h⟩
theorem ex255 : (solveW (progR exR (tX 255))).found = true ∧ (solveW (progR exR (tX 255))).set = 5 ∧ (solveW (progR exR (tX 255))).gain = -2 := by decide +kernel
theorem ex12 : (solveW (progR exR (tX 12))).found = true ∧ (solveW (progR exR (tX 12))).set = 1 ∧ (solveW (progR exR (tX 12))).gain = -1 := by decide +kernel
theorem ex24 : (solveW (progR exR (tX 24))).found = true ∧ (solveW (progR exR (tX 24))).set = 2 ∧ (solveW (progR exR (tX 24))).gain = -1 := by decide +kernel
theorem ex511 : (solveW (progR exR (tX 511))).found = false ∧ (solveW (progR exR (tX 511))).set = 0 ∧ (solveW (progR exR (tX 511))).gain = 0 := by decide +kernel
theorem exRows : (progR exR (tX 255)).rows = [⟨1, 0, 0, 0, [-1, 0, 0], -1⟩, ⟨1, 2, 0, 0, [-1, -1, 0], -1⟩, ⟨1, 4, 0, 0, [0, -1, -1], -1⟩, ⟨1, 6, 0, 0, [0, 0, -1], -1⟩] := by kernel_rfl
theorem exMiss : minusA (tX 511) (unionL exR) = tX 256 := by decide +kernel
theorem exReach : reachedL exR 3 = tX 63 := by decide +kernel
theorem exReach5 : minusA (tX 255) (reachedL exR 5) = zeros16 ∧ minusA (tX 255) (reachedL exR 7) = zeros16 := by decide +kernel
theorem unionT_app (a : List (List Int)) (x : List Int) : ∀ n, n ≤ a.length → unionT (a ++ [x]) n = unionT a n
 | 0, _ => rfl
 | n + 1, h => by
  simp only [unionT, unionT_app a x n (by omega)]
  congr 1
  simp [List.getD, List.getElem?_append_left (show n < a.length by omega)]
theorem unionL_snoc (a : List (List Int)) (x : List Int) : unionL (a ++ [x]) = unionA (unionL a) x := by
 show unionT (a ++ [x]) (a ++ [x]).length = _
 rw [List.length_append, List.length_singleton]
 simp only [unionT, unionT_app a x a.length (Nat.le_refl _)]
 congr 1
 simp [List.getD]
def reachT (l : List (List Int)) (s : Int) : Nat → List Int
 | 0 => zeros16
 | n + 1 => if decide (Int.tmod (shrW .i64 s (n : Nat)) 2 = 1) = true then unionA (reachT l s n) (l.getD n []) else reachT l s n
theorem reachT_t {l : List (List Int)} {s : Int} {n : Nat} (h : Int.tmod (shrW .i64 s (n : Nat)) 2 = 1) : reachT l s (n + 1) = unionA (reachT l s n) (l.getD n []) := by simp only [reachT, h, decide_true, if_true]
theorem reachT_f {l : List (List Int)} {s : Int} {n : Nat} (h : ¬ Int.tmod (shrW .i64 s (n : Nat)) 2 = 1) : reachT l s (n + 1) = reachT l s n := by simp only [reachT, h, decide_false]; rfl
theorem reachT_eq (l : List (List Int)) {s : Nat} (hs : s < 65536) : ∀ n, n ≤ 12 → reachT l s n = unionL (chosenT l s n)
 | 0, _ => rfl
 | n + 1, h => by
  have ih := reachT_eq l hs n (by omega)
  have e : decide (Int.tmod (shrW .i64 (s : Nat) (n : Nat)) 2 = 1) = cBit s n := by rw [bit_rem s (i := n) (by omega), cBit_nat hs (by omega)]
  simp only [reachT, e, ih]
  cases hb : cBit s n with
  | true => rw [chosenT_t hb, unionL_snoc]; rfl
  | false => rw [chosenT_f hb]; rfl
theorem reachT_all (l : List (List Int)) {s : Nat} (hs : s < 65536) (h12 : l.length ≤ 12) : reachT l s l.length = reachedL l s := reachT_eq l hs l.length h12
theorem reachT_len {l : List (List Int)} (hl : okAs l) (s : Int) : ∀ n, n ≤ l.length → (reachT l s n).length = 16
 | 0, _ => rfl
 | n + 1, h => by
  have ih := reachT_len hl s n (by omega)
  simp only [reachT]; split
  ·
   exact unionA_len ih (hl.at (by omega))
  ·
   exact ih
theorem chosen_full (l : List (List Int)) (h12 : l.length ≤ 12) : ∀ n, n ≤ l.length → chosenT l ((2 ^ l.length - 1 : Nat) : Int) n = l.take n
 | 0, _ => by simp [chosenT]
 | n + 1, h => by
  have ih := chosen_full l h12 n (by omega)
  have hb : cBit ((2 ^ l.length - 1 : Nat) : Int) n = true := by
   rw [cBit_nat (pow_small h12 (full_lt _)) (by omega), Nat.testBit_two_pow_sub_one]; simp; omega
  rw [chosenT_t hb, ih, List.take_succ_eq_append_getElem (by omega)]
  simp [List.getD, show n < l.length by omega]
theorem reached_full {l : List (List Int)} (h12 : l.length ≤ 12) : reachedL l ((2 ^ l.length - 1 : Nat) : Int) = unionL l := by
 unfold reachedL chosenL; rw [chosen_full l h12 l.length (Nat.le_refl _), List.take_length]
theorem set_bit {l : List (List Int)} (c : Nat × Nat) (h12 : l.length ≤ 12) {i : Nat} (hi : i < l.length) : decide (Int.tmod (shrW .i64 (setN l c l.length : Nat) (i : Nat)) 2 = 1) = hasC l c i := by
 rw [bit_rem _ (i := i) (by omega), setN_bit]; simp [hi]
theorem setN_add (l : List (List Int)) (c : Nat × Nat) {n : Nat} (hn : n ≤ 12) : IntKind.i64.wrap ((setN l c n : Nat) + shlW .i64 1 (n : Nat)) = ((setN l c n + 2 ^ n : Nat) : Int) := by
 rw [shl1 (by omega)]
 have := setN_lt l c n
 have h2 : 2 ^ n ≤ 2 ^ 12 := Nat.pow_le_pow_right (by decide) hn
 rw [w64 (by omega)]; omega
theorem setN_4096 (l : List (List Int)) (c : Nat × Nat) (h12 : l.length ≤ 12) : setN l c l.length < 4096 := by
 have := setN_lt l c l.length
 have h2 : 2 ^ l.length ≤ 2 ^ 12 := Nat.pow_le_pow_right (by decide) h12
 omega
/-- What has been seen. -/
def seenG (n : Nat) (m : List (Int × Bool)) : List Bool := (List.range n).map fun (k : Nat) => lkM m (k : Int)
def seenB (m : List (Int × Bool)) : List Bool := seenG 4096 m
theorem seenG_length (n : Nat) (m : List (Int × Bool)) : (seenG n m).length = n := by simp [seenG]
theorem seenB_length (m : List (Int × Bool)) : (seenB m).length = 4096 := seenG_length 4096 m
theorem seenG_get (m : List (Int × Bool)) {n k : Nat} (h : k < n) : (seenG n m).getD k false = lkM m (k : Int) := by simp [seenG, List.getD, List.getElem?_range h]
theorem seenB_get (m : List (Int × Bool)) {k : Nat} (h : k < 4096) : (seenB m).getD k false = lkM m (k : Int) := seenG_get m h
theorem seenG_nil (n : Nat) : seenG n [] = List.replicate n false := List.ext_getElem (by simp [seenG]) fun i h1 h2 => by simp [seenG, lkM]
theorem seenB_nil : cellsB (seenB []) = List.replicate 4096 (V.bool false) := by
 unfold seenB cellsB; rw [seenG_nil, List.map_replicate]
theorem seenG_set (m : List (Int × Bool)) {n k : Nat} (h : k < n) : (seenG n m).set k true = seenG n (putM m (k : Int) true) := by
 refine List.ext_getElem (by simp [seenG]) fun i h1 h2 => ?_
 rw [List.getElem_set]
 simp only [seenG, List.getElem_map, List.getElem_range]
 have e := lkM_put (k : Int) (i : Int) m
 by_cases e2 : k = i
 ·
  subst e2; rw [if_pos rfl]; exact (e.2 (.inr rfl)).symm
 ·
  rw [if_neg e2, Bool.eq_iff_iff, e]
  constructor
  ·
   exact .inl
  ·
   rintro (h | h)
   ·
    exact h
   ·
    exact absurd h (by omega)
theorem seenB_set (m : List (Int × Bool)) {k : Nat} (h : k < 4096) : (seenB m).set k true = seenB (putM m (k : Int) true) := seenG_set m h
theorem has_cell {t : List Int} (ht : t.length = 16) (hv : validA t = true) {x y : Nat} (hx : x < 16) (hy : y < 16) : hasA t x y = cellB (t.getD y 0) x := by
 have h1 : (0 : Int) ≤ minV x y := minV_nn (by omega) (by omega)
 have h2 : maxV (x : Int) y < 16 := maxV_lt (by omega) (by omega)
 simp [hasA, hv, h1, h2]
theorem validR_bad {l : List (List Int)} {t : List Int} (h : 12 < (l.length : Int) ∨ validA t = false) : validR l t = false := by
 unfold validR
 rcases h with h | h
 ·
  rw [decide_eq_false (show ¬ (l.length : Int) ≤ 12 by omega)]; simp
 ·
  rw [h]; simp
theorem validR_good {l : List (List Int)} {t : List Int} (h : ¬ 12 < (l.length : Int) ∧ validA t = true) (hp : ∀ i, i < l.length → validA (l.getD i []) = true) : validR l t = true := by
 rw [validR_yes hp, h.2, decide_eq_true (show (l.length : Int) ≤ 12 by omega)]; rfl
theorem cellsB_noA (j : Nat) : ∀ xs : List Bool, V.noL j (cellsB xs) = true
 | [] => rfl
 | x :: xs => by
  have := cellsB_noA j xs
  simp only [cellsB, List.map_cons, V.noL, V.no] at this ⊢; simpa using this
theorem cellsB_renA (i j : Nat) : ∀ xs : List Bool, V.renL i j (cellsB xs) = cellsB xs
 | [] => rfl
 | x :: xs => by
  have := cellsB_renA i j xs
  simp only [cellsB, List.map_cons, V.renL, V.ren] at this ⊢; rw [this]
theorem cellsB_uptoA (n : Nat) : ∀ xs : List Bool, V.uptoL n (cellsB xs) = true
 | [] => rfl
 | x :: xs => by
  have := cellsB_uptoA n xs
  simp only [cellsB, List.map_cons, V.uptoL, V.upto] at this ⊢; simpa using this
theorem cellsB_fzA (i : Nat) (o : AObj) : ∀ xs : List Bool, V.fzL i o (cellsB xs) = cellsB xs
 | [] => rfl
 | x :: xs => by
  have := cellsB_fzA i o xs
  simp only [cellsB, List.map_cons, V.fzL, V.fz] at this ⊢; rw [this]
theorem splB (xs : List Bool) (k : Nat) (b : Bool) (h : k < xs.length) : spl (cellsB xs) k [V.bool b] = cellsB (xs.set k b) := by
 have := cellsB_spl xs k b h
 simpa [spl] using this
theorem seen_spl (m : List (Int × Bool)) {k : Nat} (h : k < 4096) : spl (cellsB (seenB m)) k [V.bool true] = cellsB (seenB (putM m (k : Int) true)) := by
 rw [splB _ _ _ (by rw [seenB_length]; exact h), seenB_set m h]
def greatW (l : List Sg) (k : Nat) (n : Int) : List Sg := l.set k ⟨(l.getD k sg0).var, (l.getD k sg0).no, (l.getD k sg0).yes, mulW n (l.getD k sg0).ws⟩
def timesOk (n : Int) (ws : List Wt) (i : Nat) : Prop := ∀ j, j < i → 1 ≤ (ws.getD j wt0).tm ∧ (ws.getD j wt0).tm * n ≤ 1000
def wholeB (l : List Sg) : Nat → Bool
 | 0 => true
 | i + 1 => wholeB l i && (decide ((l.getD i sg0).no < (l.length : Int)) && decide ((l.getD i sg0).yes < (l.length : Int)))
/-! #### what has been multiplied, up to a weight -/
def mulT (n : Int) (ws : List Wt) (i : Nat) : List Wt := (ws.take i).map fun w => ⟨w.rw, w.tm * n⟩
theorem encWs_set (a : List Wt) (k : Nat) (x y : Int) : (encWs a).set k [V.int .i64 x, V.int .i64 y] = encWs (a.set k ⟨x, y⟩) := by simp [encWs, List.map_set, encW]
theorem encSgs_set (a : List Sg) (k : Nat) (v no yes : Int) (ws : List Wt) : (encSgs a).set k [V.int .i64 v, V.int .i64 no, V.int .i64 yes, V.sl 2 (encWs ws)] = encSgs (a.set k ⟨v, no, yes, ws⟩) := by simp [encSgs, List.map_set, encSg]
theorem encSgs_take (a : List Sg) (n : Nat) : (encSgs a).take n = encSgs (a.take n) := by simp [encSgs, List.map_take]
/-- The weights of a step of a changed plain proof are small. -/
def smallS (s : Sg) : Prop := ∀ w ∈ s.ws, -1 ≤ w.tm ∧ w.tm ≤ 1002
theorem s18 {p : Pg} (hv : validB p = true) : CallsA Tryz.prog 38 [.agg (encPg p)] (.tup [.agg (encSol2 p), .int .i64 0]) := by
 obtain ⟨a, b, c⟩ := valid_max hv
 exact (c15 p a b c hv).le (sol_le p)
theorem encWs_fzL (i : Nat) (o : AObj) (s : Sg) : V.fzL i o (encSg s) = encSg s := by simp [encSg, V.fzL, V.fz]
theorem encSgs_fz (i : Nat) (o : AObj) (l : List Sg) : (encSgs l).map (V.fzL i o) = encSgs l := by
 simp only [encSgs, List.map_map]
 exact List.map_congr_left fun s _ => encWs_fzL i o s
theorem encSgs_cl (l : List Sg) : (encSgs l).all V.clL = true := by
 rw [List.all_eq_true]
 intro r hr
 obtain ⟨s, -, rfl⟩ := List.mem_map.1 hr
 rfl
theorem encSgs_row (a : List Sg) (k : Nat) (r : List V) (h : k < a.length) : ((encSgs a).set k r).getD k [] = r := by simp [List.getD, encSgs_length, h]
theorem encWs_app1 (a : List Wt) (x y : Int) : encWs a ++ [[V.int .i64 x, V.int .i64 y]] = encWs (a ++ [⟨x, y⟩]) := by simp [encWs, encW]
/-- What is decided, as the reference notes it: 1: chosen, 0: not, -1: open. -/
def dR (x : Int) : Int := if x = 1 then 1 else if x < 0 then 0 else -1
def toD (dec : List Int) : List Int := (List.range 12).map fun k => if k < dec.length then dR (dec.getD k 0) else 0
theorem toD_len (dec : List Int) : (toD dec).length = 12 := by simp [toD]
theorem toD_getD {dec : List Int} {k : Nat} (h : k < 12) : (toD dec).getD k 0 = if k < dec.length then dR (dec.getD k 0) else 0 := by simp [toD, List.getD, List.getElem?_range h]
/-- Each thing is chosen, not chosen, or open. -/
def okD (v : Nat) (dec : List Int) : Prop := dec.length = v ∧ ∀ k, k < v → dec.getD k 0 = 1 ∨ dec.getD k 0 = 0 ∨ dec.getD k 0 = -1
theorem okD_set {v : Nat} {dec : List Int} (h : okD v dec) (k : Nat) {b : Int} (hb : b = 0 ∨ b = 1) : okD v (dec.set k b) := by
 refine ⟨by simp [h.1], fun j hj => ?_⟩
 by_cases hk : k < dec.length
 ·
  rw [getD_upd hk]
  split
  ·
   rcases hb with rfl | rfl <;> simp
  ·
   exact h.2 j hj
 ·
  rw [List.set_eq_of_length_le (by omega)]; exact h.2 j hj
theorem ext_getD0 {a b : List Int} (hl : a.length = b.length) (h : ∀ j, j < a.length → a.getD j 0 = b.getD j 0) : a = b := by
 refine List.ext_getElem hl fun j h1 h2 => ?_
 have := h j h1
 simpa [List.getD, h1, h2] using this
theorem toD_set {v : Nat} (hv : v ≤ 12) {dec : List Int} (h : okD v dec) {k : Nat} (hk : k < v) (b : Int) : toD (dec.set k b) = (toD dec).set k (dR b) := by
 refine ext_getD0 (by simp [toD]) fun j h1 => ?_
 have hj : j < 12 := by simpa [toD] using h1
 rw [toD_getD hj, getD_upd (show k < (toD dec).length by rw [toD_len]; omega), List.length_set, getD_upd (show k < dec.length by rw [h.1]; exact hk)]
 by_cases e : j = k
 ·
  subst e; rw [if_pos rfl, if_pos rfl, if_pos (by rw [h.1]; exact hk)]
 ·
  rw [if_neg e, if_neg e, toD_getD hj]
theorem toD_open (v : Nat) (hv : v ≤ 12) : toD (List.replicate v (-1)) = zero12 := by
 refine ext_getD0 (by simp [toD, zero12]) fun j h1 => ?_
 have hj : j < 12 := by simpa [toD] using h1
 rw [toD_getD hj]
 have e : zero12.getD j 0 = 0 := by unfold zero12; rw [List.getD_eq_getElem?_getD, List.getElem?_replicate, if_pos hj]; rfl
 rw [e, List.length_replicate]
 split
 ·
  rename_i h; simp [List.getD, h, dR]
 ·
  rfl
theorem okD_open (v : Nat) : okD v (List.replicate v (-1)) := ⟨by simp, fun k hk => by simp [List.getD, hk]⟩
/-- Thing k adds to the least sum: as the reference asks. -/
theorem low_step {v : Nat} {dec : List Int} (h : okD v dec) (hv : v ≤ 12) (rows : List Rw) (ws : List Wt) {k : Nat} (hk : k < v) :
  lowK rows ws (toD dec) (k + 1) = lowK rows ws (toD dec) k + (if dec.getD k 0 = 1 ∨ (dec.getD k 0 < 0 ∧ sumK rows ws k ws.length < 0) then sumK rows ws k ws.length else 0) := by
 have e : (toD dec).getD k 0 = dR (dec.getD k 0) := by rw [toD_getD (by omega), if_pos (by rw [h.1]; exact hk)]
 simp only [lowK]
 rw [e]
 congr 1
 rcases h.2 k hk with e | e | e <;> rw [e]
 ·
  simp [dR]
 ·
  simp [dR]
 ·
  simp [dR, minZ]
theorem low_t {v : Nat} {dec : List Int} (h : okD v dec) (hv : v ≤ 12) {rows : List Rw} {ws : List Wt} {k : Nat} (hk : k < v) (hc : dec.getD k 0 = 1 ∨ (dec.getD k 0 < 0 ∧ sumK rows ws k ws.length < 0)) : lowK rows ws (toD dec) (k + 1) = lowK rows ws (toD dec) k + sumK rows ws k ws.length := by rw [low_step h hv rows ws hk, if_pos hc]
theorem low_f {v : Nat} {dec : List Int} (h : okD v dec) (hv : v ≤ 12) {rows : List Rw} {ws : List Wt} {k : Nat} (hk : k < v) (hc : ¬ (dec.getD k 0 = 1 ∨ (dec.getD k 0 < 0 ∧ sumK rows ws k ws.length < 0))) : lowK rows ws (toD dec) (k + 1) = lowK rows ws (toD dec) k := by rw [low_step h hv rows ws hk, if_neg hc, Int.add_zero]
theorem low_all {v : Nat} (hv : v ≤ 12) {dec : List Int} {rows : List Rw} (hr : ∀ r ∈ rows, okRw v r) {ws : List Wt} (hw : ∀ j, j < ws.length → (ws.getD j wt0).rw.toNat < rows.length) : lowK rows ws (toD dec) 12 = lowK rows ws (toD dec) v := by
 have := lowK_cut (d := toD dec) (fun r h => (hr r h).len) hw (12 - v)
 rwa [show v + (12 - v) = 12 by omega] at this
/-- What the reference's walk says: the step that is wrong, or -1. -/
def rwX (vars : Int) (rows : List Rw) (l : List Sg) (n k : Nat) (d : List Int) : Int := match wrkN vars rows l n k d with | some j => (j : Int) | none => -1
theorem rwX_neg {vars : Int} {rows : List Rw} {l : List Sg} {n k : Nat} {d : List Int} : rwX vars rows l n k d = -1 ∨ (0 ≤ rwX vars rows l n k d) := by
 unfold rwX
 split
 ·
  right; omega
 ·
  left; rfl
theorem rwX_none {vars : Int} {rows : List Rw} {l : List Sg} {n k : Nat} {d : List Int} (h : rwX vars rows l n k d < 0) : wrkN vars rows l n k d = none := by
 unfold rwX at h
 split at h
 ·
  omega
 ·
  assumption
theorem rwX_some {vars : Int} {rows : List Rw} {l : List Sg} {n k : Nat} {d : List Int} (h : ¬ rwX vars rows l n k d < 0) : ∃ j : Nat, wrkN vars rows l n k d = some j ∧ rwX vars rows l n k d = j := by
 unfold rwX at h ⊢
 split at h
 ·
  rename_i j e; exact ⟨j, e, rfl⟩
 ·
  omega
section
variable {vars : Int} {rows : List Rw} {l : List Sg} {n k : Nat} {d : List Int} {s : Sg} (hs : l.getD k sg0 = s)
include hs
theorem rw_leaf (h : s.var = -1) : rwX vars rows l (n + 1) k d = if leafOk rows s d = true then (-1 : Int) else (k : Int) := by
 unfold rwX; simp only [wrkN, hs, if_pos h]
 cases leafOk rows s d <;> simp
theorem rw_case (h1 : ¬ s.var = -1) (h2 : ¬ (caseOk vars s d = true ∧ goesOk l s k = true)) : rwX vars rows l (n + 1) k d = k := by
 unfold rwX; simp only [wrkN, hs, if_neg h1]
 cases e1 : caseOk vars s d
 ·
  simp
 ·
  cases e2 : goesOk l s k
  ·
   simp
  ·
   exact absurd ⟨e1, e2⟩ h2
theorem rw_no (h1 : ¬ s.var = -1) (h2 : caseOk vars s d = true) (h3 : goesOk l s k = true) {vn no : Nat} (e1 : s.var = vn) (e2 : s.no = no) (h4 : ¬ rwX vars rows l n no (d.set vn (-1)) < 0) : rwX vars rows l (n + 1) k d = rwX vars rows l n no (d.set vn (-1)) := by
 obtain ⟨j, q1, q2⟩ := rwX_some h4
 rw [q2]
 unfold rwX; simp only [wrkN, hs, if_neg h1, h2, h3, e1, e2, Int.toNat_natCast, q1]
 simp
theorem rw_yes (h1 : ¬ s.var = -1) (h2 : caseOk vars s d = true) (h3 : goesOk l s k = true) {vn no yes : Nat} (e1 : s.var = vn) (e2 : s.no = no) (e3 : s.yes = yes) (h4 : rwX vars rows l n no (d.set vn (-1)) < 0) : rwX vars rows l (n + 1) k d = rwX vars rows l n yes (d.set vn 1) := by
 have q := rwX_none h4
 unfold rwX; simp only [wrkN, hs, if_neg h1, h2, h3, e1, e2, e3, Int.toNat_natCast, q]
 simp
end
theorem goes_lt {l : List Sg} {s : Sg} {k : Nat} : goesOk l s k = true ↔ ((k : Int) < s.no ∧ s.no < l.length) ∧ ((k : Int) < s.yes ∧ s.yes < l.length) := by
 simp only [goesOk, Bool.and_eq_true, isInB_spec]; omega
theorem case_iff {v : Nat} {dec : List Int} (h : okD v dec) (hv : v ≤ 12) {s : Sg} : caseOk v s (toD dec) = true ↔ (0 ≤ s.var ∧ s.var < v) ∧ dec.getD s.var.toNat 0 < 0 ∧ s.ws.length = 0 := by
 simp only [caseOk, Bool.and_eq_true, isInB_spec, decide_eq_true_eq]
 constructor
 ·
  rintro ⟨h1, h2, h3⟩
  refine ⟨by omega, ?_, h3⟩
  rw [toD_getD (by omega), if_pos (by rw [h.1]; omega)] at h2
  rcases h.2 s.var.toNat (by omega) with e | e | e
  ·
   rw [e] at h2; simp [dR] at h2
  ·
   rw [e] at h2; simp [dR] at h2
  ·
   omega
 ·
  rintro ⟨h1, h2, h3⟩
  refine ⟨by omega, ?_, h3⟩
  rw [toD_getD (by omega), if_pos (by rw [h.1]; omega)]
  rcases h.2 s.var.toNat (by omega) with e | e | e
  ·
   omega
  ·
   omega
  ·
   rw [e]; rfl
theorem wtOk_ref {n : Nat} {ws : List Wt} {i : Nat} (h : ∀ j, j < i → wtOk n ws j = true) : wtOk n ws i = true ↔ ((((0 ≤ (ws.getD i wt0).rw ∧ (ws.getD i wt0).rw < n) ∧ 1 ≤ (ws.getD i wt0).tm) ∧ (ws.getD i wt0).tm ≤ 1000) ∧ (0 < i → (ws.getD (i - 1) wt0).rw < (ws.getD i wt0).rw)) := by
 have hp := (pre_ws h).1
 simp only [wtOk, Bool.and_eq_true, isInB_spec]
 by_cases e : i = 0
 ·
  subst e; simp [prevW]; omega
 ·
  have : prevW ws i = (ws.getD (i - 1) wt0).rw := by simp [prevW, e]
  rw [this] at hp ⊢
  constructor
  ·
   rintro ⟨h1, h2⟩; exact ⟨⟨⟨by omega, by omega⟩, by omega⟩, fun _ => by omega⟩
  ·
   rintro ⟨⟨⟨h1, h2⟩, h3⟩, h4⟩
   have := h4 (by omega)
   exact ⟨by omega, by omega⟩
theorem wtOk_refF {n : Nat} {ws : List Wt} {i : Nat} (h0 : ∀ j, j < i → wtOk n ws j = true) (hc : (((((ws.getD i wt0).rw < 0 ∨ (n : Int) ≤ (ws.getD i wt0).rw) ∨ (ws.getD i wt0).tm < 1) ∨ 1000 < (ws.getD i wt0).tm) ∨ (0 < i ∧ (ws.getD i wt0).rw ≤ (ws.getD (i - 1) wt0).rw))) : wtOk n ws i = false := by
 rw [Bool.eq_false_iff]; intro h
 obtain ⟨h1, h2⟩ := (wtOk_ref h0).1 h
 omega
/-- The bounds of the reference's sums. -/
theorem low_bound {v : Nat} {rows : List Rw} (hr : ∀ r ∈ rows, okRw v r) {ws : List Wt} (hl : ws.length ≤ 8) (h : ∀ j, j < ws.length → wtOk rows.length ws j = true) (d : List Int) (k i : Nat) (hi : i ≤ ws.length) (hk : k ≤ 12) :
  (-100000000000000 ≤ lowK rows ws d k ∧ lowK rows ws d k ≤ 100000000000000) ∧ (-10000000000000 ≤ sumK rows ws k i ∧ sumK rows ws k i ≤ 10000000000000) ∧ (-10000000000000000 ≤ mostT rows ws i ∧ mostT rows ws i ≤ 10000000000000000) := by
 have hb := wt_both h
 have h1 := lowK_bnd hr hl hb d k
 have h2 := sumK_bnd hr k i (fun j hj => hb j (by omega))
 have h3 := mostT_bnd hr i (fun j hj => hb j (by omega))
 omega
def encSos (l : List Pg) : List (List V) := l.map encSol2
def encPfs (l : List (List Sg)) : List (List V) := l.map fun x => [V.sl 4 (encSgs x)]
def cutS (n : Nat) (s : Sg) : Sg := ⟨s.var, s.no, s.yes, s.ws.take n⟩
def fewS (l : List Sg) : List Sg := (l.take 40).map (cutS 9)
theorem okPf_bent {l : List Sg} (h1 : l.length ≤ 8192) (h2 : ∀ s ∈ l, s.ws.length ≤ 2000) : okPf l := ⟨by unfold maxLen; omega, fun s hs => by have := h2 s hs; unfold maxLen; omega⟩
theorem wrong_rw {p : Pg} {l : List Sg} (hv : validB p = true) (hl : l.length ≤ 8192) (h0 : ¬ l.length = 0) : rwX p.vars p.rows l l.length 0 zero12 = wrongW p l := by
 unfold wrongW wrkP rwX
 rw [if_neg h0, hv]
 have e : decide ((l.length : Int) ≤ 8192) = true := by simp; omega
 rw [e]; simp only [Bool.and_self, if_true]; cases wrkN p.vars p.rows l l.length 0 zero12 <;> rfl
theorem wrong_nil {p : Pg} {l : List Sg} (hv : validB p = true) (h0 : l.length = 0) : wrongW p l = 0 := by
 unfold wrongW wrkP
 rw [if_pos h0, hv, h0]; rfl
theorem wrong_out {p : Pg} {l : List Sg} (h : ¬ (validB p = true ∧ l.length ≤ 8192)) : wrongW p l = -2 := by
 unfold wrongW
 cases hv : validB p
 ·
  rfl
 ·
  have e : decide ((l.length : Int) ≤ 8192) = false := by simp; rw [hv] at h; simp at h; omega
  rw [e]; rfl
theorem bounds_rw {p : Pg} {l : List Sg} {g : Int} (hv : validB p = true) (hl : l.length ≤ 8192) (h0 : ¬ l.length = 0) (hg : isInB g (-12000000000) 12000000000 = true) : decide (rwX p.vars (p.rows ++ [goalW p g]) l l.length 0 zero12 = -1) = boundsW p l g := by
 unfold boundsW wrkP rwX
 rw [if_neg h0, hv, hg]
 have e : decide ((l.length : Int) ≤ 8192) = true := by simp; omega
 rw [e]; simp only [Bool.true_and]
 cases wrkN p.vars (p.rows ++ [goalW p g]) l l.length 0 zero12 <;> simp
theorem bounds_no {p : Pg} {l : List Sg} {g : Int} (h : ¬ (((validB p = true ∧ l.length ≤ 8192) ∧ ¬ l.length = 0) ∧ isInB g (-12000000000) 12000000000 = true)) : boundsW p l g = false := by
 rw [Bool.eq_false_iff]
 intro hb
 unfold boundsW at hb
 simp only [Bool.and_eq_true, decide_eq_true_eq] at hb
 obtain ⟨h1, h2, h3, h4⟩ := hb
 refine h ⟨⟨⟨h2, by omega⟩, fun h0 => ?_⟩, h1⟩
 unfold wrkP at h4; rw [if_pos h0] at h4; cases h4
/-! #### rows that are marked -/
def encB (us : List Bool) : List (List V) := us.map fun b => [V.bool b]
def markT (us : List Bool) (ws : List Wt) : Nat → List Bool
 | 0 => us
 | i + 1 => (markT us ws i).set (ws.getD i wt0).rw.toNat true
def markN (l : List Sg) : Nat → Nat → List Bool → List Bool
 | 0, _, us => us
 | n + 1, k, us => if (l.getD k sg0).var = -1 then markT us (l.getD k sg0).ws (l.getD k sg0).ws.length else markN l n (l.getD k sg0).yes.toNat (markN l n (l.getD k sg0).no.toNat us)
def marks (N : Nat) (us : List Bool) (es : List (Int × Bool)) : Prop := us.length = N ∧ ∀ i : Nat, i < N → (us.getD i false = true ↔ (i : Int) ∈ keyU es)
def trueL (us : List Bool) : Nat → List Int
 | 0 => []
 | i + 1 => if us.getD i false = true then trueL us i ++ [(i : Int)] else trueL us i
theorem leaf_good2 {rows : List Rw} {s : Sg} {d : List Int} (h1 : ((decide (s.no = 0) && decide (s.yes = 0)) && isInB (s.ws.length : Int) 1 8) = true) (h2 : ∀ i, i < s.ws.length → wtOk rows.length s.ws i = true) : leafOk rows s d = decide (mostT rows s.ws s.ws.length < lowK rows s.ws d 12) := by
 unfold leafOk wsOk
 rw [Bool.and_assoc] at h1
 rw [h1, allN_iff.2 h2]; rfl
/-- A program cut short. -/
def someP (p : Pg) : Pg := ⟨p.vars, (p.rows.take 20).map (cutR 12), p.gain.take 12⟩
set_option maxRecDepth 100000
attribute [local go_sem] Nat.zero_add Nat.add_zero Nat.mul_one eq_self ne_eq not_true_eq_false not_false_eq_true decide_true decide_false decide_not Bool.false_eq_true List.filter_cons List.filter_nil true_and and_true beq_false beq_true Bool.not_true Bool.not_false Bool.and_true Bool.true_and Option.getD_some Option.getD_none imp_self implies_true Int.toNat_natCast List.cons_append List.nil_append List.map_cons List.map_nil List.length_cons List.length_nil List.getD_cons_zero List.getD_cons_succ List.drop_zero List.drop_succ_cons List.take_succ_cons List.take_zero
attribute [local go_sem] Option.isNone_none Option.isNone_some Option.isSome_none List.lookup Option.isSome_some Option.isSome_none Bool.or_true Bool.true_or Bool.or_false Bool.false_or false_and and_false false_or or_false
attribute [local go_sem] List.getElem?_cons_zero List.getElem?_cons_succ List.zip_cons_cons List.zip_nil_left List.zip_nil_right Bool.false_and Bool.and_false List.length_append List.length_set List.length_replicate List.all_cons List.all_nil encR_length encR_getD encRw encPg spl forall_const imp_self
attribute [local go_sem] encSg encW encSgs_length encWs_length encSgs_getD encWs_getD lookV lkM putM
attribute [local simp] encI_length encR_length cellsI_length encSgs_length encWs_length
section
attribute [local go_sem] encSg
set_option maxHeartbeats 16000000 in
theorem k121 (rows : List Rw) (v : Nat) (hr : ∀ r ∈ rows, okRw v r) (hv : v ≤ 12) (hn : rows.length ≤ 301) (s : Sg) (hsw : s.ws.length ≤ maxLen) (dec : List Int) (hd : okD v dec) : CallsA Tryz.prog 109 [.sl 6 (encR rows), .agg (encSg s), .sl 1 (encI dec)] (.bool (leafOk rows s (toD dec))) := by
 unfold maxLen at hsw
 have hdl := hd.1
 have hq := hdl
 refine callsA_of_tr Tryz.func109 rfl (Nat.le_of_ble_eq_true rfl) ?_
 simp only [Tryz.results109, envOf, Nat.reduceAdd]
 refine tr_sR [0, 2, 4] fun K hK => ?_
 iterate 2 refine evR_p ?_
 refine evR_z hK ?_; clear hK K
 refine tr_seq fun K2 hK2 => ?_
 refine tr_seq fun K3 hK3 => ?_
 refine tr_fz [.ptr 0 0] (by simp (maxSteps := 4000000) (disch := first | assumption | omega | (simp only [go_sem, *]; done) | (simp only [go_sem, *]; omega)) only [go_sem, hq, Int.reduceToNat, Nat.reduceBEq, Nat.reduceEqDiff, Nat.reduceAdd, Nat.reduceMul, Nat.reduceLeDiff, Nat.reduceLT, Nat.reduceSub, ↓reduceIte, reduceCtorEq]; (try rfl)) ?_
 refine tr_region [0, 2, 4, 33] rfl rfl fun K hK => ?_
 iterate 4 refine evR_p ?_
 iterate 3 refine evR_g ?_
 iterate 2 refine evR_p ?_
 iterate 4 refine evR_g ?_
 iterate 2 refine evR_p ?_
 iterate 4 refine evR_g ?_
 refine evR_p ?_
 refine evR_e hK ?_; clear hK K
 refine hK3 _ ?_
 refine tr_condB (fun ht1 => ?_) (fun ht1 => ?_)
 ·
  skip
  (first | (exfalso; omega) | (exfalso; simp_all; done) | skip)
  all_goals
   refine tr_sR [6] fun K hK => ?_
   refine evR_p ?_
   refine evR_z hK ?_; clear hK K
   refine retZ ?_; try exact ⟨⟩
   all_goals (first | (rw [leaf_bad1 (by simp only [Bool.and_eq_true, decide_eq_true_eq, isInB_spec]; omega)]; done) | (rw [leaf_bad2 hil (by rw [wtOk_refF hpi (by omega)]; simp)]; done) | (rw [show leafOk rows s (toD dec) = decide (mostT rows s.ws s.ws.length < lowK rows s.ws (toD dec) 12) from leaf_good2 (by simp only [Bool.and_eq_true, decide_eq_true_eq, isInB_spec]; omega) hpi, low_all hv hr (fun j hj => by have := (pre_ws hpi).2 j hj; omega)]; congr 1; rw [decide_eq_decide]; omega))
 ·
  skip
  (first | (exfalso; omega) | (exfalso; simp_all; done) | skip)
  all_goals
   refine skipZ ?_
   refine hK2 _ ?_
   refine tr_seq fun K5 hK5 => ?_
   refine tr_sR [0, 2, 4, 7] fun K hK => ?_
   refine evR_p ?_
   refine evR_z hK ?_; clear hK K
   refine tr_block ?_
   -- loop 1: live [0, 2, 4, 7]
   refine tr_loopW (fun m σ => ∃ i : Nat, i + m = s.ws.length ∧ (∀ j, j < i → wtOk rows.length s.ws j = true) ∧ σ = ⟨[(0, .sl 6 (encR rows)), (2, .sl 1 (encI dec)), (4, .ep [.int .i64 s.var, .int .i64 s.no, .int .i64 s.yes, .sl 2 (encWs s.ws)]), (7, .int .i64 (i : Nat))], [], 1⟩) (s.ws.length) ?_ ?_
   ·
    exact ⟨_, Wk.refl _, 0, by omega, (by intro j hj; omega), rfl⟩
   ·
    rintro m σ ⟨i, hi, hpi, rfl⟩ KL1 hKL1
    refine tr_seq fun K7 hK7 => ?_
    refine tr_sR [0, 2, 4, 7, 38] fun K hK => ?_
    iterate 5 refine evR_p ?_
    refine evR_z hK ?_; clear hK K
    refine tr_condB (fun ht2 => ?_) (fun ht2 => ?_)
    ·
     skip
     (first | (exfalso; omega) | (exfalso; simp_all; done) | skip)
     all_goals
      have hil : i < s.ws.length := by omega
      have hwi : 0 < (i : Int) → IntKind.i64.wrap ((i : Int) - 1) = ((i - 1 : Nat) : Int) := fun h => by rw [w64 (by omega)]; omega
      have hil2 : i - 1 < s.ws.length := by omega
      replace hq := And.intro hq (And.intro hil (And.intro hwi (hil2)))
      refine skipZ ?_
      refine hK7 _ ?_
      refine tr_seq fun K9 hK9 => ?_
      refine tr_block ?_
      refine tr_sR [0, 2, 4, 7, 8] fun K hK => ?_
      iterate 7 refine evR_p ?_
      refine evR_z hK ?_; clear hK K
      refine tr_sD [] [0, 2, 4, 7, 81] fun K hK => ?_
      iterate 4 refine evD_p ?_
      iterate 5 refine evD_g ?_
      iterate 2 refine evD_p ?_
      iterate 3 refine evD_g ?_
      iterate 2 refine evD_p ?_
      iterate 3 refine evD_g ?_
      iterate 2 refine evD_p ?_
      iterate 14 refine evD_g ?_
      refine evD_p ?_
      refine evD_z hK ?_; clear hK K
      refine tr_condB (fun ht3 => ?_) (fun ht3 => ?_)
      ·
       skip
       (first | (exfalso; omega) | (exfalso; simp_all; done) | skip)
       all_goals
        refine tr_sR [6] fun K hK => ?_
        refine evR_p ?_
        refine evR_z hK ?_; clear hK K
        refine retZ ?_; try exact ⟨⟩
        all_goals (first | (rw [leaf_bad1 (by simp only [Bool.and_eq_true, decide_eq_true_eq, isInB_spec]; omega)]; done) | (rw [leaf_bad2 hil (by rw [wtOk_refF hpi (by omega)]; simp)]; done) | (rw [show leafOk rows s (toD dec) = decide (mostT rows s.ws s.ws.length < lowK rows s.ws (toD dec) 12) from leaf_good2 (by simp only [Bool.and_eq_true, decide_eq_true_eq, isInB_spec]; omega) hpi, low_all hv hr (fun j hj => by have := (pre_ws hpi).2 j hj; omega)]; congr 1; rw [decide_eq_decide]; omega))
      ·
       skip
       (first | (exfalso; omega) | (exfalso; simp_all; done) | skip)
       all_goals
        refine skipZ ?_
        refine hK9 _ ?_
        refine tr_region [0, 2, 4, 7] rfl rfl fun K hK => ?_
        iterate 3 refine evR_p ?_
        refine evR_e hK ?_; clear hK K
        refine hKL1 _ ?_
        exact ⟨m - 1, _, by omega, Wk.cut 1 (by simp [St.cutOK, AObj.upto, V.upto, V.uptoL, cellsI_uptoL, List.all_cons, List.all_nil, List.filter_cons, List.filter_nil, Nat.blt_eq, Nat.reduceLT, Nat.lt_irrefl, decide_true, decide_false, Bool.and_self, Bool.and_true, Bool.true_and, if_true, if_false, ↓reduceIte, Bool.false_eq_true, encSg, encW]), i + 1, by omega, wt_step hpi ((wtOk_ref hpi).2 (by omega)), by rw [w64 (x := (i : Int) + 1) (by omega)]; rfl⟩
    ·
     skip
     (first | (exfalso; omega) | (exfalso; simp_all; done) | skip)
     all_goals
      have hil : i = s.ws.length := by omega
      subst hil
      have hl8 : s.ws.length ≤ 8 := by omega
      have hlw := fun k i hi hk => low_bound hr hl8 hpi (toD dec) k i hi hk
      refine tr_exit ?_
      simp only [thenE, inBlkE, Nat.reduceEqDiff, ↓reduceIte]
      refine hK5 _ ?_
      refine tr_sR [0, 2, 4, 9] fun K hK => ?_
      refine evR_p ?_
      refine evR_z hK ?_; clear hK K
      refine tr_seq fun K14 hK14 => ?_
      refine tr_sR [0, 2, 4, 9, 10] fun K hK => ?_
      refine evR_p ?_
      refine evR_z hK ?_; clear hK K
      refine tr_block ?_
      -- loop 2: live [0, 2, 4, 9, 10]
      refine tr_loopW (fun m σ => ∃ k : Nat, k + m = v ∧ σ = ⟨[(0, .sl 6 (encR rows)), (2, .sl 1 (encI dec)), (4, .ep [.int .i64 s.var, .int .i64 s.no, .int .i64 s.yes, .sl 2 (encWs s.ws)]), (9, .int .i64 (lowK rows s.ws (toD dec) k)), (10, .int .i64 (k : Nat))], [], 1⟩) (v) ?_ ?_
      ·
       exact ⟨_, Wk.refl _, 0, by omega, rfl⟩
      ·
       rintro m2 σ ⟨k, hk, rfl⟩ KL2 hKL2
       refine tr_seq fun K16 hK16 => ?_
       refine tr_sR [0, 2, 4, 9, 10, 85] fun K hK => ?_
       iterate 4 refine evR_p ?_
       refine evR_z hK ?_; clear hK K
       refine tr_condB (fun ht4 => ?_) (fun ht4 => ?_)
       ·
        skip
        (first | (exfalso; omega) | (exfalso; simp_all; done) | skip)
        all_goals
         have hkl : k < v := by omega
         replace hq := And.intro hq (hkl)
         refine skipZ ?_
         refine hK16 _ ?_
         refine tr_seq fun K18 hK18 => ?_
         refine tr_block ?_
         refine tr_sR [0, 2, 4, 9, 10, 11] fun K hK => ?_
         refine evR_p ?_
         refine evR_z hK ?_; clear hK K
         refine tr_seq fun K20 hK20 => ?_
         refine tr_sR [0, 2, 4, 9, 10, 11, 12] fun K hK => ?_
         refine evR_p ?_
         refine evR_z hK ?_; clear hK K
         refine tr_block ?_
         -- loop 3: live [0, 2, 4, 9, 10, 11, 12]
         refine tr_loopW (fun m σ => ∃ j : Nat, j + m = s.ws.length ∧ σ = ⟨[(0, .sl 6 (encR rows)), (2, .sl 1 (encI dec)), (4, .ep [.int .i64 s.var, .int .i64 s.no, .int .i64 s.yes, .sl 2 (encWs s.ws)]), (9, .int .i64 (lowK rows s.ws (toD dec) k)), (10, .int .i64 (k : Nat)), (11, .int .i64 (sumK rows s.ws k j)), (12, .int .i64 (j : Nat))], [], 1⟩) (s.ws.length) ?_ ?_
         ·
          exact ⟨_, Wk.refl _, 0, by omega, rfl⟩
         ·
          rintro m3 σ ⟨j, hj, rfl⟩ KL3 hKL3
          refine tr_seq fun K22 hK22 => ?_
          refine tr_sR [0, 2, 4, 9, 10, 11, 12, 92] fun K hK => ?_
          iterate 5 refine evR_p ?_
          refine evR_z hK ?_; clear hK K
          refine tr_condB (fun ht5 => ?_) (fun ht5 => ?_)
          ·
           skip
           (first | (exfalso; omega) | (exfalso; simp_all; done) | skip)
           all_goals
            have hjl : j < s.ws.length := by omega
            obtain ⟨hq0, hR, hwa, hwb, hwc⟩ := wt_wraps hr (show j < 8 by omega) (fun j2 h => hpi j2 (by omega))
            obtain ⟨hwd, hwe⟩ := hwc k
            have hRl := hR.len
            replace hq := And.intro hq (And.intro hjl (And.intro hq0 (And.intro hwd (And.intro hwe (hRl)))))
            refine skipZ ?_
            refine hK22 _ ?_
            refine tr_seq fun K24 hK24 => ?_
            refine tr_block ?_
            refine tr_draw [] [0, 2, 4, 9, 10, 11, 12] mixed rfl (by kernel_rfl) rfl fun K hK => ?_
            iterate 23 refine evD_p ?_
            refine evD_e hK ?_; clear hK K
            refine hK24 _ ?_
            refine tr_region [0, 2, 4, 9, 10, 11, 12] rfl rfl fun K hK => ?_
            iterate 3 refine evR_p ?_
            refine evR_e hK ?_; clear hK K
            refine hKL3 _ ?_
            exact ⟨m3 - 1, _, by omega, Wk.refl _, j + 1, by omega, by rw [w64 (x := (j : Int) + 1) (by omega)]; rfl⟩
          ·
           skip
           (first | (exfalso; omega) | (exfalso; simp_all; done) | skip)
           all_goals
            have hjl : j = s.ws.length := by omega
            subst hjl
            refine tr_exit ?_
            simp only [thenE, inBlkE, Nat.reduceEqDiff, ↓reduceIte]
            refine hK20 _ ?_
            refine tr_sR [0, 2, 4, 9, 10, 11, 132] fun K hK => ?_
            iterate 6 refine evR_p ?_
            iterate 9 refine evR_g ?_
            refine evR_p ?_
            refine evR_z hK ?_; clear hK K
            refine tr_condB (fun ht6 => ?_) (fun ht6 => ?_)
            ·
             skip
             (first | (exfalso; omega) | (exfalso; simp_all; done) | skip)
             all_goals
              refine tr_region [0, 2, 4, 9, 10] rfl rfl fun K hK => ?_
              iterate 4 refine evR_p ?_
              refine evR_e hK ?_; clear hK K
              refine hK18 _ ?_
              refine tr_region [0, 2, 4, 9, 10] rfl rfl fun K hK => ?_
              iterate 3 refine evR_p ?_
              refine evR_e hK ?_; clear hK K
              refine hKL2 _ ?_
              first
               | exact ⟨m2 - 1, _, by omega, Wk.refl _, k + 1, by omega, by have h9 := hlw (k + 1) 0 (by omega) (by omega); rw [low_t hd hv hkl (by omega)] at h9 ⊢; rw [w64 (x := (k : Int) + 1) (by omega), w64 (x := lowK rows s.ws (toD dec) k + sumK rows s.ws k s.ws.length) (by omega)]; rfl⟩
               | exact ⟨m2 - 1, _, by omega, Wk.refl _, k + 1, by omega, by rw [low_f hd hv hkl (by omega), w64 (x := (k : Int) + 1) (by omega)]; rfl⟩
            ·
             skip
             (first | (exfalso; omega) | (exfalso; simp_all; done) | skip)
             all_goals
              refine skipZ ?_
              refine hK18 _ ?_
              refine tr_region [0, 2, 4, 9, 10] rfl rfl fun K hK => ?_
              iterate 3 refine evR_p ?_
              refine evR_e hK ?_; clear hK K
              refine hKL2 _ ?_
              first
               | exact ⟨m2 - 1, _, by omega, Wk.refl _, k + 1, by omega, by have h9 := hlw (k + 1) 0 (by omega) (by omega); rw [low_t hd hv hkl (by omega)] at h9 ⊢; rw [w64 (x := (k : Int) + 1) (by omega), w64 (x := lowK rows s.ws (toD dec) k + sumK rows s.ws k s.ws.length) (by omega)]; rfl⟩
               | exact ⟨m2 - 1, _, by omega, Wk.refl _, k + 1, by omega, by rw [low_f hd hv hkl (by omega), w64 (x := (k : Int) + 1) (by omega)]; rfl⟩
       ·
        skip
        (first | (exfalso; omega) | (exfalso; simp_all; done) | skip)
        all_goals
         have hkl : v = k := by omega
         subst hkl
         refine tr_exit ?_
         simp only [thenE, inBlkE, Nat.reduceEqDiff, ↓reduceIte]
         refine hK14 _ ?_
         refine tr_seq fun K26 hK26 => ?_
         refine tr_sR [0, 4, 9, 13] fun K hK => ?_
         refine evR_p ?_
         refine evR_z hK ?_; clear hK K
         refine tr_block ?_
         -- loop 4: live [0, 4, 9, 13]
         refine tr_loopW (fun m σ => ∃ j : Nat, j + m = s.ws.length ∧ σ = ⟨[(0, .sl 6 (encR rows)), (4, .ep [.int .i64 s.var, .int .i64 s.no, .int .i64 s.yes, .sl 2 (encWs s.ws)]), (9, .int .i64 (lowK rows s.ws (toD dec) v - mostT rows s.ws j)), (13, .int .i64 (j : Nat))], [], 1⟩) (s.ws.length) ?_ ?_
         ·
          exact ⟨_, Wk.refl _, 0, by omega, by simp only [mostT, Int.sub_zero]; rfl⟩
         ·
          rintro m4 σ ⟨j, hj, rfl⟩ KL4 hKL4
          refine tr_seq fun K28 hK28 => ?_
          refine tr_sR [0, 4, 9, 13, 140] fun K hK => ?_
          iterate 5 refine evR_p ?_
          refine evR_z hK ?_; clear hK K
          refine tr_condB (fun ht7 => ?_) (fun ht7 => ?_)
          ·
           skip
           (first | (exfalso; omega) | (exfalso; simp_all; done) | skip)
           all_goals
            have hjl : j < s.ws.length := by omega
            obtain ⟨hq0, hR, hwa, hwb, hwc⟩ := wt_wraps hr (show j < 8 by omega) (fun j2 h => hpi j2 (by omega))
            have hl0 := hlw v (j + 1) (by omega) (by omega)
            have hwf : IntKind.i64.wrap (lowK rows s.ws (toD dec) v - mostT rows s.ws j - (s.ws.getD j wt0).tm * (rows.getD (s.ws.getD j wt0).rw.toNat rw0).most) = lowK rows s.ws (toD dec) v - mostT rows s.ws (j + 1) := by
             simp only [mostT] at hl0 ⊢
             rw [w64 (by omega)]; omega
            replace hq := And.intro hq (And.intro hjl (And.intro hq0 (And.intro hwa (hwf))))
            refine skipZ ?_
            refine hK28 _ ?_
            refine tr_seq fun K30 hK30 => ?_
            refine tr_block ?_
            refine tr_draw [] [0, 4, 9, 13] mixed rfl (by kernel_rfl) rfl fun K hK => ?_
            iterate 20 refine evD_p ?_
            refine evD_e hK ?_; clear hK K
            refine hK30 _ ?_
            refine tr_region [0, 4, 9, 13] rfl rfl fun K hK => ?_
            iterate 3 refine evR_p ?_
            refine evR_e hK ?_; clear hK K
            refine hKL4 _ ?_
            exact ⟨m4 - 1, _, by omega, Wk.refl _, j + 1, by omega, by rw [w64 (x := (j : Int) + 1) (by omega)]; rfl⟩
          ·
           skip
           (first | (exfalso; omega) | (exfalso; simp_all; done) | skip)
           all_goals
            have hjl : j = s.ws.length := by omega
            subst hjl
            refine tr_exit ?_
            simp only [thenE, inBlkE, Nat.reduceEqDiff, ↓reduceIte]
            refine hK26 _ ?_
            refine tr_sR [6] fun K hK => ?_
            iterate 3 refine evR_p ?_
            refine evR_z hK ?_; clear hK K
            refine retZ ?_; try exact ⟨⟩
            all_goals (first | (rw [leaf_bad1 (by simp only [Bool.and_eq_true, decide_eq_true_eq, isInB_spec]; omega)]; done) | (rw [leaf_bad2 hil (by rw [wtOk_refF hpi (by omega)]; simp)]; done) | (rw [show leafOk rows s (toD dec) = decide (mostT rows s.ws s.ws.length < lowK rows s.ws (toD dec) 12) from leaf_good2 (by simp only [Bool.and_eq_true, decide_eq_true_eq, isInB_spec]; omega) hpi, low_all hv hr (fun j hj => by have := (pre_ws hpi).2 j hj; omega)]; congr 1; rw [decide_eq_decide]; omega))
end

section
attribute [local go_sem] encSg List.replicate_zero List.nil_append List.drop_nil encI_set
set_option maxHeartbeats 16000000 in
theorem k70s (vars : Int) (rows : List Rw) (l : List Sg) (v : Nat) (hvv : vars = v) (hr : ∀ r ∈ rows, okRw v r) (hv : v ≤ 12) (hn : rows.length ≤ 301) (hll : l.length ≤ 8192) (hwl : ∀ k, k < l.length → (l.getD k sg0).ws.length ≤ maxLen) (n : Nat) (ih : ∀ (k : Nat) (dec : List Int), k < l.length → l.length ≤ k + n → okD v dec → CallsA Tryz.prog 81 [.sl 6 (encR rows), .sl 4 (encSgs l), .int .i64 (k : Nat), .sl 1 (encI dec)] (.int .i64 (rwX vars rows l n k (toD dec)))) (k : Nat) (dec : List Int) (hk : k < l.length) (hkn : l.length ≤ k + (n + 1)) (hd : okD v dec) (s : Sg) (hs : l.getD k sg0 = s) : CallsA Tryz.prog 81 [.sl 6 (encR rows), .sl 4 (encSgs l), .int .i64 (k : Nat), .sl 1 (encI dec)] (.int .i64 (rwX vars rows l (n + 1) k (toD dec))) := by
 have hdl := hd.1
 have hsw : s.ws.length ≤ maxLen := hs ▸ hwl k hk
 have hkl : (k : Int) < l.length := by omega
 have hvr : ¬ s.var < 0 → ¬ (v : Int) ≤ s.var → s.var.toNat < v := by omega
 have hq := And.intro hs (And.intro hdl (And.intro hkl (And.intro hk (hvr))))
 refine callsA_of_tr Tryz.func81 rfl (Nat.le_of_ble_eq_true rfl) ?_
 simp only [Tryz.results81, envOf, Nat.reduceAdd]
 refine tr_sR [0, 1, 2, 3] fun K hK => ?_
 refine evR_p ?_
 refine evR_z hK ?_; clear hK K
 refine tr_sR [0, 1, 2, 3, 9] fun K hK => ?_
 iterate 6 refine evR_p ?_
 refine evR_z hK ?_; clear hK K
 refine tr_seq fun K3 hK3 => ?_
 refine tr_seq fun K4 hK4 => ?_
 refine tr_fz [.ptr 0 0] (by simp (maxSteps := 4000000) (disch := first | assumption | omega | (simp only [go_sem, *]; done) | (simp only [go_sem, *]; omega)) only [go_sem, hq, Int.reduceToNat, Nat.reduceBEq, Nat.reduceEqDiff, Nat.reduceAdd, Nat.reduceMul, Nat.reduceLeDiff, Nat.reduceLT, Nat.reduceSub, ↓reduceIte, reduceCtorEq]; (try rfl)) ?_
 refine tr_region [0, 1, 2, 3, 9, 20] rfl rfl fun K hK => ?_
 iterate 3 refine evR_p ?_
 refine evR_e hK ?_; clear hK K
 refine hK4 _ ?_
 refine tr_condB (fun ht1 => ?_) (fun ht1 => ?_)
 ·
  skip
  (first | (exfalso; omega) | (exfalso; simp_all; done) | skip)
  all_goals
   refine tr_seq fun K5 hK5 => ?_
   refine tr_sR [2, 24] fun K hK => ?_
   iterate 3 refine evR_p ?_
   refine evR_c (hc := (k121 rows v hr hv hn s hsw dec hd)) (k := ?_)
   refine evR_z hK ?_; clear hK K
   refine tr_condB (fun ht2 => ?_) (fun ht2 => ?_)
   ·
    skip
    (first | (exfalso; omega) | (exfalso; simp_all; done) | skip)
    all_goals
     refine tr_sR [8] fun K hK => ?_
     refine evR_p ?_
     refine evR_z hK ?_; clear hK K
     refine retZ ?_; try exact ⟨⟩
     all_goals (first | (rw [rw_leaf hs ht1, if_pos ht2]; done) | (rw [rw_leaf hs ht1, if_neg (by rw [ht2]; simp)]; done) | (rw [rw_case hs ht1 (by rw [hvv, case_iff hd hv, goes_lt]; omega)]; done) | (rw [rw_no hs ht1 hcT hgT hvn.symm hno.symm (by omega)]; done) | (rw [rw_yes hs ht1 hcT hgT hvn.symm hno.symm hyes.symm hA]; done) | (rw [rw_yes hs ht1 hcT hgT hvn.symm hno.symm hyes.symm hA]; exact congrArg (V.int .i64) (by have := rwX_neg (vars := vars) (rows := rows) (l := l) (n := n) (k := s.yes.toNat) (d := (toD dec).set s.var.toNat 1); omega)))
   ·
    skip
    (first | (exfalso; omega) | (exfalso; simp_all; done) | skip)
    all_goals
     refine skipZ ?_
     refine hK5 _ ?_
     refine tr_sR [8] fun K hK => ?_
     iterate 2 refine evR_p ?_
     refine evR_z hK ?_; clear hK K
     refine retZ ?_; try exact ⟨⟩
     all_goals (first | (rw [rw_leaf hs ht1, if_pos ht2]; done) | (rw [rw_leaf hs ht1, if_neg (by rw [ht2]; simp)]; done) | (rw [rw_case hs ht1 (by rw [hvv, case_iff hd hv, goes_lt]; omega)]; done) | (rw [rw_no hs ht1 hcT hgT hvn.symm hno.symm (by omega)]; done) | (rw [rw_yes hs ht1 hcT hgT hvn.symm hno.symm hyes.symm hA]; done) | (rw [rw_yes hs ht1 hcT hgT hvn.symm hno.symm hyes.symm hA]; exact congrArg (V.int .i64) (by have := rwX_neg (vars := vars) (rows := rows) (l := l) (n := n) (k := s.yes.toNat) (d := (toD dec).set s.var.toNat 1); omega)))
 ·
  skip
  (first | (exfalso; omega) | (exfalso; simp_all; done) | skip)
  all_goals
   refine skipZ ?_
   refine hK3 _ ?_
   refine tr_seq fun K9 hK9 => ?_
   refine tr_sR [0, 1, 2, 3, 9, 67] fun K hK => ?_
   iterate 4 refine evR_p ?_
   iterate 5 refine evR_g ?_
   iterate 2 refine evR_p ?_
   iterate 4 refine evR_g ?_
   iterate 2 refine evR_p ?_
   iterate 4 refine evR_g ?_
   iterate 2 refine evR_p ?_
   iterate 5 refine evR_g ?_
   iterate 2 refine evR_p ?_
   iterate 4 refine evR_g ?_
   iterate 2 refine evR_p ?_
   iterate 5 refine evR_g ?_
   refine evR_p ?_
   refine evR_z hK ?_; clear hK K
   refine tr_condB (fun ht3 => ?_) (fun ht3 => ?_)
   ·
    skip
    (first | (exfalso; omega) | (exfalso; simp_all; done) | skip)
    all_goals
     refine tr_sR [8] fun K hK => ?_
     iterate 2 refine evR_p ?_
     refine evR_z hK ?_; clear hK K
     refine retZ ?_; try exact ⟨⟩
     all_goals (first | (rw [rw_leaf hs ht1, if_pos ht2]; done) | (rw [rw_leaf hs ht1, if_neg (by rw [ht2]; simp)]; done) | (rw [rw_case hs ht1 (by rw [hvv, case_iff hd hv, goes_lt]; omega)]; done) | (rw [rw_no hs ht1 hcT hgT hvn.symm hno.symm (by omega)]; done) | (rw [rw_yes hs ht1 hcT hgT hvn.symm hno.symm hyes.symm hA]; done) | (rw [rw_yes hs ht1 hcT hgT hvn.symm hno.symm hyes.symm hA]; exact congrArg (V.int .i64) (by have := rwX_neg (vars := vars) (rows := rows) (l := l) (n := n) (k := s.yes.toNat) (d := (toD dec).set s.var.toNat 1); omega)))
   ·
    skip
    (first | (exfalso; omega) | (exfalso; simp_all; done) | skip)
    all_goals
     refine skipZ ?_
     refine hK9 _ ?_
     refine tr_seq fun K12 hK12 => ?_
     refine tr_sR [0, 1, 2, 3, 9, 74] fun K hK => ?_
     iterate 6 refine evR_p ?_
     refine evR_z hK ?_; clear hK K
     refine tr_condB (fun ht4 => ?_) (fun ht4 => ?_)
     ·
      skip
      (first | (exfalso; omega) | (exfalso; simp_all; done) | skip)
      all_goals
       refine tr_sR [8] fun K hK => ?_
       iterate 2 refine evR_p ?_
       refine evR_z hK ?_; clear hK K
       refine retZ ?_; try exact ⟨⟩
       all_goals (first | (rw [rw_leaf hs ht1, if_pos ht2]; done) | (rw [rw_leaf hs ht1, if_neg (by rw [ht2]; simp)]; done) | (rw [rw_case hs ht1 (by rw [hvv, case_iff hd hv, goes_lt]; omega)]; done) | (rw [rw_no hs ht1 hcT hgT hvn.symm hno.symm (by omega)]; done) | (rw [rw_yes hs ht1 hcT hgT hvn.symm hno.symm hyes.symm hA]; done) | (rw [rw_yes hs ht1 hcT hgT hvn.symm hno.symm hyes.symm hA]; exact congrArg (V.int .i64) (by have := rwX_neg (vars := vars) (rows := rows) (l := l) (n := n) (k := s.yes.toNat) (d := (toD dec).set s.var.toNat 1); omega)))
     ·
      skip
      (first | (exfalso; omega) | (exfalso; simp_all; done) | skip)
      all_goals
       refine skipZ ?_
       refine hK12 _ ?_
       refine tr_seq fun K15 hK15 => ?_
       refine tr_sR [0, 1, 3, 9, 10] fun K hK => ?_
       refine evR_p ?_
       refine evR_z hK ?_; clear hK K
       refine tr_block ?_
       -- loop 1: live [0, 1, 3, 9, 10]
       refine tr_loopW (fun m σ => ∃ t : Int, ((t = 0 ∧ m = 2) ∨ (t = 1 ∧ m = 1 ∧ rwX vars rows l n s.no.toNat ((toD dec).set s.var.toNat (-1)) < 0) ∨ (t = 2 ∧ m = 0 ∧ rwX vars rows l n s.no.toNat ((toD dec).set s.var.toNat (-1)) < 0 ∧ rwX vars rows l n s.yes.toNat ((toD dec).set s.var.toNat 1) < 0)) ∧ σ = ⟨[(0, .sl 6 (encR rows)), (1, .sl 4 (encSgs l)), (3, .sl 1 (encI dec)), (9, .ep [.int .i64 s.var, .int .i64 s.no, .int .i64 s.yes, .sl 2 (encWs s.ws)]), (10, .int .i64 t)], [], 1⟩) (2) ?_ ?_
       ·
        exact ⟨_, Wk.refl _, 0, Or.inl ⟨rfl, rfl⟩, rfl⟩
       ·
        rintro m σ ⟨t, (⟨rfl, rfl⟩ | ⟨rfl, rfl, hA⟩ | ⟨rfl, rfl, hA, hB⟩), rfl⟩ KL1 hKL1
        all_goals
         refine tr_seq fun K17 hK17 => ?_
         refine tr_sR [0, 1, 3, 9, 10, 77] fun K hK => ?_
         iterate 2 refine evR_p ?_
         refine evR_z hK ?_; clear hK K
         refine tr_condB (fun ht5 => ?_) (fun ht5 => ?_)
         ·
          skip
          (first | (exfalso; omega) | (exfalso; simp_all; done) | skip)
          all_goals
           have hcT : caseOk vars s (toD dec) = true := by rw [hvv, case_iff hd hv]; omega
           have hgT : goesOk l s k = true := by rw [goes_lt]; omega
           have hvn : ((s.var.toNat : Nat) : Int) = s.var := by omega
           have hno : ((s.no.toNat : Nat) : Int) = s.no := by omega
           have hyes : ((s.yes.toNat : Nat) : Int) = s.yes := by omega
           have cN : CallsA Tryz.prog 81 [.sl 6 (encR rows), .sl 4 (encSgs l), .int .i64 s.no, .sl 1 (encI (dec.set s.var.toNat 0))] (.int .i64 (rwX vars rows l n s.no.toNat ((toD dec).set s.var.toNat (-1)))) := by
            have h := ih s.no.toNat (dec.set s.var.toNat 0) (by omega) (by omega) (okD_set hd _ (Or.inl rfl))
            rw [toD_set hv hd (by omega) 0, hno] at h; exact h
           have cY : CallsA Tryz.prog 81 [.sl 6 (encR rows), .sl 4 (encSgs l), .int .i64 s.yes, .sl 1 (encI (dec.set s.var.toNat 1))] (.int .i64 (rwX vars rows l n s.yes.toNat ((toD dec).set s.var.toNat 1))) := by
            have h := ih s.yes.toNat (dec.set s.var.toNat 1) (by omega) (by omega) (okD_set hd _ (Or.inr rfl))
            rw [toD_set hv hd (by omega) 1, hyes] at h; exact h
           refine skipZ ?_
           refine hK17 _ ?_
           refine tr_seq fun K19 hK19 => ?_
           refine tr_block ?_
           refine tr_sR [0, 1, 3, 9, 10, 11] fun K hK => ?_
           refine evR_bo ?_
           iterate 3 refine evR_p ?_
           refine evR_z hK ?_; clear hK K
           refine tr_sR [0, 1, 3, 9, 10, 11] fun K hK => ?_
           iterate 6 refine evR_p ?_
           refine evR_z hK ?_; clear hK K
           refine tr_sR [0, 1, 3, 9, 10, 11, 12] fun K hK => ?_
           iterate 3 refine evR_p ?_
           refine evR_z hK ?_; clear hK K
           refine tr_seq fun K23 hK23 => ?_
           refine tr_sR [0, 1, 3, 9, 10, 11, 12, 91] fun K hK => ?_
           iterate 2 refine evR_p ?_
           refine evR_z hK ?_; clear hK K
           refine tr_condB (fun ht6 => ?_) (fun ht6 => ?_)
           ·
            skip
            (first | (exfalso; omega) | (exfalso; simp_all; done) | skip)
            all_goals
             refine tr_region [0, 1, 3, 9, 10, 11, 12] rfl rfl fun K hK => ?_
             iterate 3 refine evR_p ?_
             refine evR_e hK ?_; clear hK K
             refine hK23 _ ?_
             refine tr_sR [0, 1, 3, 9, 10, 13] fun K hK => ?_
             iterate 4 refine evR_p ?_
             refine evR_c (hc := cY) (k := ?_)
             refine evR_p ?_
             refine evR_z hK ?_; clear hK K
             refine tr_sR [0, 1, 3, 9, 10, 13, 100] fun K hK => ?_
             iterate 2 refine evR_p ?_
             refine evR_z hK ?_; clear hK K
             refine tr_condB (fun ht7 => ?_) (fun ht7 => ?_)
             ·
              skip
              (first | (exfalso; omega) | (exfalso; simp_all; done) | skip)
              all_goals
               refine tr_sR [8] fun K hK => ?_
               iterate 2 refine evR_p ?_
               refine evR_z hK ?_; clear hK K
               refine retZ ?_; try exact ⟨⟩
               all_goals (first | (rw [rw_leaf hs ht1, if_pos ht2]; done) | (rw [rw_leaf hs ht1, if_neg (by rw [ht2]; simp)]; done) | (rw [rw_case hs ht1 (by rw [hvv, case_iff hd hv, goes_lt]; omega)]; done) | (rw [rw_no hs ht1 hcT hgT hvn.symm hno.symm (by omega)]; done) | (rw [rw_yes hs ht1 hcT hgT hvn.symm hno.symm hyes.symm hA]; done) | (rw [rw_yes hs ht1 hcT hgT hvn.symm hno.symm hyes.symm hA]; exact congrArg (V.int .i64) (by have := rwX_neg (vars := vars) (rows := rows) (l := l) (n := n) (k := s.yes.toNat) (d := (toD dec).set s.var.toNat 1); omega)))
             ·
              skip
              (first | (exfalso; omega) | (exfalso; simp_all; done) | skip)
              all_goals
               refine skipZ ?_
               refine hK19 _ ?_
               refine tr_region [0, 1, 3, 9, 10] rfl rfl fun K hK => ?_
               iterate 3 refine evR_p ?_
               refine evR_e hK ?_; clear hK K
               refine hKL1 _ ?_
               first
                | exact ⟨1, _, by omega, Wk.cut 1 (by simp [St.cutOK, AObj.upto, V.upto, V.uptoL, cellsI_uptoL, List.all_cons, List.all_nil, List.filter_cons, List.filter_nil, Nat.blt_eq, Nat.reduceLT, Nat.lt_irrefl, decide_true, decide_false, Bool.and_self, Bool.and_true, Bool.true_and, if_true, if_false, ↓reduceIte, Bool.false_eq_true, encSg, encW]), 1, Or.inr (Or.inl ⟨rfl, rfl, by omega⟩), rfl⟩
                | exact ⟨0, _, by omega, Wk.cut 1 (by simp [St.cutOK, AObj.upto, V.upto, V.uptoL, cellsI_uptoL, List.all_cons, List.all_nil, List.filter_cons, List.filter_nil, Nat.blt_eq, Nat.reduceLT, Nat.lt_irrefl, decide_true, decide_false, Bool.and_self, Bool.and_true, Bool.true_and, if_true, if_false, ↓reduceIte, Bool.false_eq_true, encSg, encW]), 2, Or.inr (Or.inr ⟨rfl, rfl, hA, by omega⟩), rfl⟩
           ·
            skip
            (first | (exfalso; omega) | (exfalso; simp_all; done) | skip)
            all_goals
             refine skipZ ?_
             refine hK23 _ ?_
             refine tr_sR [0, 1, 3, 9, 10, 13] fun K hK => ?_
             iterate 4 refine evR_p ?_
             refine evR_c (hc := cN) (k := ?_)
             refine evR_p ?_
             refine evR_z hK ?_; clear hK K
             refine tr_sR [0, 1, 3, 9, 10, 13, 100] fun K hK => ?_
             iterate 2 refine evR_p ?_
             refine evR_z hK ?_; clear hK K
             refine tr_condB (fun ht8 => ?_) (fun ht8 => ?_)
             ·
              skip
              (first | (exfalso; omega) | (exfalso; simp_all; done) | skip)
              all_goals
               refine tr_sR [8] fun K hK => ?_
               iterate 2 refine evR_p ?_
               refine evR_z hK ?_; clear hK K
               refine retZ ?_; try exact ⟨⟩
               all_goals (first | (rw [rw_leaf hs ht1, if_pos ht2]; done) | (rw [rw_leaf hs ht1, if_neg (by rw [ht2]; simp)]; done) | (rw [rw_case hs ht1 (by rw [hvv, case_iff hd hv, goes_lt]; omega)]; done) | (rw [rw_no hs ht1 hcT hgT hvn.symm hno.symm (by omega)]; done) | (rw [rw_yes hs ht1 hcT hgT hvn.symm hno.symm hyes.symm hA]; done) | (rw [rw_yes hs ht1 hcT hgT hvn.symm hno.symm hyes.symm hA]; exact congrArg (V.int .i64) (by have := rwX_neg (vars := vars) (rows := rows) (l := l) (n := n) (k := s.yes.toNat) (d := (toD dec).set s.var.toNat 1); omega)))
             ·
              skip
              (first | (exfalso; omega) | (exfalso; simp_all; done) | skip)
              all_goals
               refine skipZ ?_
               refine hK19 _ ?_
               refine tr_region [0, 1, 3, 9, 10] rfl rfl fun K hK => ?_
               iterate 3 refine evR_p ?_
               refine evR_e hK ?_; clear hK K
               refine hKL1 _ ?_
               first
                | exact ⟨1, _, by omega, Wk.cut 1 (by simp [St.cutOK, AObj.upto, V.upto, V.uptoL, cellsI_uptoL, List.all_cons, List.all_nil, List.filter_cons, List.filter_nil, Nat.blt_eq, Nat.reduceLT, Nat.lt_irrefl, decide_true, decide_false, Bool.and_self, Bool.and_true, Bool.true_and, if_true, if_false, ↓reduceIte, Bool.false_eq_true, encSg, encW]), 1, Or.inr (Or.inl ⟨rfl, rfl, by omega⟩), rfl⟩
                | exact ⟨0, _, by omega, Wk.cut 1 (by simp [St.cutOK, AObj.upto, V.upto, V.uptoL, cellsI_uptoL, List.all_cons, List.all_nil, List.filter_cons, List.filter_nil, Nat.blt_eq, Nat.reduceLT, Nat.lt_irrefl, decide_true, decide_false, Bool.and_self, Bool.and_true, Bool.true_and, if_true, if_false, ↓reduceIte, Bool.false_eq_true, encSg, encW]), 2, Or.inr (Or.inr ⟨rfl, rfl, hA, by omega⟩), rfl⟩
         ·
          skip
          (first | (exfalso; omega) | (exfalso; simp_all; done) | skip)
          all_goals
           have hcT : caseOk vars s (toD dec) = true := by rw [hvv, case_iff hd hv]; omega
           have hgT : goesOk l s k = true := by rw [goes_lt]; omega
           have hvn : ((s.var.toNat : Nat) : Int) = s.var := by omega
           have hno : ((s.no.toNat : Nat) : Int) = s.no := by omega
           have hyes : ((s.yes.toNat : Nat) : Int) = s.yes := by omega
           refine tr_exit ?_
           simp only [thenE, inBlkE, Nat.reduceEqDiff, ↓reduceIte]
           refine hK15 _ ?_
           refine tr_sR [8] fun K hK => ?_
           refine evR_p ?_
           refine evR_z hK ?_; clear hK K
           refine retZ ?_; try exact ⟨⟩
           all_goals (first | (rw [rw_leaf hs ht1, if_pos ht2]; done) | (rw [rw_leaf hs ht1, if_neg (by rw [ht2]; simp)]; done) | (rw [rw_case hs ht1 (by rw [hvv, case_iff hd hv, goes_lt]; omega)]; done) | (rw [rw_no hs ht1 hcT hgT hvn.symm hno.symm (by omega)]; done) | (rw [rw_yes hs ht1 hcT hgT hvn.symm hno.symm hyes.symm hA]; done) | (rw [rw_yes hs ht1 hcT hgT hvn.symm hno.symm hyes.symm hA]; exact congrArg (V.int .i64) (by have := rwX_neg (vars := vars) (rows := rows) (l := l) (n := n) (k := s.yes.toNat) (d := (toD dec).set s.var.toNat 1); omega)))
end
theorem k70 (vars : Int) (rows : List Rw) (l : List Sg) (v : Nat) (hvv : vars = v) (hr : ∀ r ∈ rows, okRw v r) (hv : v ≤ 12) (hn : rows.length ≤ 301) (hll : l.length ≤ 8192) (hwl : ∀ k, k < l.length → (l.getD k sg0).ws.length ≤ maxLen) : ∀ (n k : Nat) (dec : List Int), k < l.length → l.length ≤ k + n → okD v dec → CallsA Tryz.prog 81 [.sl 6 (encR rows), .sl 4 (encSgs l), .int .i64 (k : Nat), .sl 1 (encI dec)] (.int .i64 (rwX vars rows l n k (toD dec)))
 | 0, k, dec, hk, hkn, hd => by omega
 | n + 1, k, dec, hk, hkn, hd => k70s vars rows l v hvv hr hv hn hll hwl n (k70 vars rows l v hvv hr hv hn hll hwl n) k dec hk hkn hd _ rfl

theorem k27y (p : Pg) (hp : okPr p) (l : List Sg) (hl : okPf l) (hv : validB p = true) (hl8 : l.length ≤ 8192) : CallsA Tryz.prog 78 [.agg (encPg p), .sl 4 (encSgs l)] (.int .i64 (wrongW p l)) := by
 obtain ⟨⟨h0, h1⟩, hrn, hrw⟩ := valid_okRw hv
 have hw : ∀ k, k < l.length → (l.getD k sg0).ws.length ≤ maxLen := fun k hk => hl.ws _ (getD_mem hk)
 have c70 : ¬ l.length = 0 → CallsA Tryz.prog 81 [.sl 6 (encR p.rows), .sl 4 (encSgs l), .int .i64 0, .sl 1 (encI (List.replicate p.vars.toNat (-1)))] (.int .i64 (wrongW p l)) := fun h0l => by
  have h := k70 p.vars p.rows l p.vars.toNat (by omega) hrw (by omega) hrn hl8 hw l.length 0 (List.replicate p.vars.toNat (-1)) (by omega) (by omega) (okD_open _)
  rw [toD_open _ (by omega), wrong_rw hv hl8 h0l] at h
  exact h
 have hq := hv
 refine callsA_of_tr Tryz.func78 rfl (Nat.le_of_ble_eq_true rfl) ?_
 simp only [Tryz.results78, envOf, Nat.reduceAdd]
 refine tr_sR [1, 2] fun K hK => ?_
 iterate 2 refine evR_p ?_
 refine evR_z hK ?_; clear hK K
 refine tr_seq fun K2 hK2 => ?_
 refine tr_sR [1, 2, 12] fun K hK => ?_
 refine evR_p ?_
 refine evR_c (hc := (c21 p hp.r hp.g hp.c)) (k := ?_)
 iterate 2 refine evR_p ?_
 iterate 3 refine evR_g ?_
 refine evR_p ?_
 refine evR_z hK ?_; clear hK K
 refine tr_condB (fun ht1 => ?_) (fun ht1 => ?_)
 ·
  skip
  (first | (exfalso; omega) | (exfalso; simp_all; done) | skip)
  all_goals
   refine tr_sR [4] fun K hK => ?_
   refine evR_p ?_
   refine evR_z hK ?_; clear hK K
   refine retZ ?_; try exact ⟨⟩
   all_goals (first | (rw [wrong_nil hv (by omega)]; done) | rfl)
 ·
  skip
  (first | (exfalso; omega) | (exfalso; simp_all; done) | skip)
  all_goals
   refine skipZ ?_
   refine hK2 _ ?_
   refine tr_seq fun K5 hK5 => ?_
   refine tr_sR [1, 2, 15] fun K hK => ?_
   iterate 3 refine evR_p ?_
   refine evR_z hK ?_; clear hK K
   refine tr_condB (fun ht2 => ?_) (fun ht2 => ?_)
   ·
    skip
    (first | (exfalso; omega) | (exfalso; simp_all; done) | skip)
    all_goals
     refine tr_sR [4] fun K hK => ?_
     refine evR_p ?_
     refine evR_z hK ?_; clear hK K
     refine retZ ?_; try exact ⟨⟩
     all_goals (first | (rw [wrong_nil hv (by omega)]; done) | rfl)
   ·
    skip
    (first | (exfalso; omega) | (exfalso; simp_all; done) | skip)
    all_goals
     refine skipZ ?_
     refine hK5 _ ?_
     refine tr_sD [] [4] fun K hK => ?_
     iterate 4 refine evD_p ?_
     refine evD_c (hc := (c33 p (by omega))) (k := ?_)
     refine evD_c (hc := (c70 (by omega))) (k := ?_)
     refine evD_p ?_
     refine evD_z hK ?_; clear hK K
     refine retZ ?_; try exact ⟨⟩
     all_goals (first | (rw [wrong_nil hv (by omega)]; done) | rfl)

theorem k27n (p : Pg) (hp : okPr p) (l : List Sg) (hl : okPf l) (hn : ¬ (validB p = true ∧ l.length ≤ 8192)) : CallsA Tryz.prog 78 [.agg (encPg p), .sl 4 (encSgs l)] (.int .i64 (wrongW p l)) := by
 have hq : True := trivial
 refine callsA_of_tr Tryz.func78 rfl (Nat.le_of_ble_eq_true rfl) ?_
 simp only [Tryz.results78, envOf, Nat.reduceAdd]
 refine tr_sR [1, 2] fun K hK => ?_
 iterate 2 refine evR_p ?_
 refine evR_z hK ?_; clear hK K
 refine tr_seq fun K2 hK2 => ?_
 refine tr_sR [1, 2, 12] fun K hK => ?_
 refine evR_p ?_
 refine evR_c (hc := (c21 p hp.r hp.g hp.c)) (k := ?_)
 iterate 2 refine evR_p ?_
 iterate 3 refine evR_g ?_
 refine evR_p ?_
 refine evR_z hK ?_; clear hK K
 refine tr_condB (fun ht1 => ?_) (fun ht1 => ?_)
 ·
  skip
  (first | (exfalso; omega) | (exfalso; simp_all; done) | (exfalso; exact hn ⟨by simp_all, by omega⟩) | skip)
  all_goals
   refine tr_sR [4] fun K hK => ?_
   refine evR_p ?_
   refine evR_z hK ?_; clear hK K
   refine retZ ?_; try exact ⟨⟩
   all_goals ((rw [wrong_out hn]; done))
 ·
  skip
  (first | (exfalso; omega) | (exfalso; simp_all; done) | (exfalso; exact hn ⟨by simp_all, by omega⟩) | skip)
  all_goals
   refine skipZ ?_
   refine hK2 _ ?_
   refine tr_seq fun K5 hK5 => ?_
   refine tr_sR [1, 2, 15] fun K hK => ?_
   iterate 3 refine evR_p ?_
   refine evR_z hK ?_; clear hK K
   refine tr_condB (fun ht2 => ?_) (fun ht2 => ?_)
   ·
    skip
    (first | (exfalso; omega) | (exfalso; simp_all; done) | (exfalso; exact hn ⟨by simp_all, by omega⟩) | skip)
    all_goals
     refine tr_sR [4] fun K hK => ?_
     refine evR_p ?_
     refine evR_z hK ?_; clear hK K
     refine retZ ?_; try exact ⟨⟩
     all_goals ((rw [wrong_out hn]; done))
   ·
    skip
    (first | (exfalso; omega) | (exfalso; simp_all; done) | (exfalso; exact hn ⟨by simp_all, by omega⟩) | skip)
    all_goals
     refine skipZ ?_
     refine hK5 _ ?_
     refine tr_sD [] [4] fun K hK => ?_
     iterate 4 refine evD_p ?_
     refine evD_c (hc := (c33 p (by have := valid_okRw (p := p) (by simp_all); omega))) (k := ?_)
     refine evD_c (hc := c70) (k := ?_)
     refine evD_p ?_
     refine evD_z hK ?_; clear hK K
     refine retZ ?_; try exact ⟨⟩
     all_goals ((rw [wrong_out hn]; done))
theorem k27 (p : Pg) (hp : okPr p) (l : List Sg) (hl : okPf l) : CallsA Tryz.prog 78 [.agg (encPg p), .sl 4 (encSgs l)] (.int .i64 (wrongW p l)) := by
 by_cases h : validB p = true ∧ l.length ≤ 8192
 ·
  exact k27y p hp l hl h.1 h.2
 ·
  exact k27n p hp l hl h

theorem k25 (p : Pg) (hp : okPr p) (l : List Sg) (hl : okPf l) : CallsA Tryz.prog 48 [.agg (encPg p), .sl 4 (encSgs l)] (.bool (refutesW p l)) := by
 have hq : True := trivial
 refine callsA_of_tr Tryz.func48 rfl (Nat.le_of_ble_eq_true rfl) ?_
 simp only [Tryz.results48, envOf, Nat.reduceAdd]
 refine tr_sR [1, 2] fun K hK => ?_
 iterate 2 refine evR_p ?_
 refine evR_z hK ?_; clear hK K
 refine tr_sR [4] fun K hK => ?_
 iterate 2 refine evR_p ?_
 refine evR_c (hc := (k27 p hp l hl)) (k := ?_)
 iterate 2 refine evR_p ?_
 refine evR_z hK ?_; clear hK K
 refine retZ ?_; try exact ⟨⟩
 all_goals (rfl)

section
attribute [local go_sem] List.replicate_succ List.replicate_zero List.nil_append List.set_cons_zero
set_option maxHeartbeats 4000000 in
theorem k33y (p : Pg) (hp : okPr p) (l : List Sg) (hl : okPf l) (g : Int) (hv : validB p = true) (hl8 : l.length ≤ 8192) (h0l : ¬ l.length = 0) (hg : isInB g (-12000000000) 12000000000 = true) : CallsA Tryz.prog 51 [.agg (encPg p), .sl 4 (encSgs l), .int .i64 g] (.bool (boundsW p l g)) := by
 obtain ⟨⟨h0, h1⟩, hrn0, hrw0⟩ := valid_okRw hv
 obtain ⟨-, hrn, hrw⟩ := goal_okRws hv hg
 have hg2 := isInB_spec.1 hg
 have hw : ∀ k, k < l.length → (l.getD k sg0).ws.length ≤ maxLen := fun k hk => hl.ws _ (getD_mem hk)
 have hE : encR p.rows ++ [[.int .i64 (goalR p g).kind, .int .i64 (goalR p g).a, .int .i64 (goalR p g).b, .int .i64 (goalR p g).pl, .sl 1 (encI (goalR p g).coef), .int .i64 (goalR p g).most]] = encR (p.rows ++ [goalW p g]) := by
  rw [goalR_eq (by omega)]; simp [encR, encRw]
 have c70 : CallsA Tryz.prog 81 [.sl 6 (encR (p.rows ++ [goalW p g])), .sl 4 (encSgs l), .int .i64 0, .sl 1 (encI (List.replicate p.vars.toNat (-1)))] (.int .i64 (rwX p.vars (p.rows ++ [goalW p g]) l l.length 0 zero12)) := by
  have h := k70 p.vars (p.rows ++ [goalW p g]) l p.vars.toNat (by omega) hrw (by omega) hrn hl8 hw l.length 0 (List.replicate p.vars.toNat (-1)) (by omega) (by omega) (okD_open _)
  rw [toD_open _ (by omega)] at h
  exact h
 have hq := And.intro hv (hE)
 refine callsA_of_tr Tryz.func51 rfl (Nat.le_of_ble_eq_true rfl) ?_
 simp only [Tryz.results51, envOf, Nat.reduceAdd]
 refine tr_sR [1, 2, 3] fun K hK => ?_
 iterate 2 refine evR_p ?_
 refine evR_z hK ?_; clear hK K
 refine tr_seq fun K2 hK2 => ?_
 refine tr_sR [1, 2, 3, 28] fun K hK => ?_
 refine evR_p ?_
 refine evR_c (hc := (c21 p hp.r hp.g hp.c)) (k := ?_)
 iterate 2 refine evR_p ?_
 iterate 3 refine evR_g ?_
 iterate 2 refine evR_p ?_
 iterate 3 refine evR_g ?_
 iterate 2 refine evR_p ?_
 iterate 2 refine evR_g ?_
 iterate 2 refine evR_p ?_
 iterate 2 refine evR_g ?_
 refine evR_p ?_
 refine evR_z hK ?_; clear hK K
 refine tr_condB (fun ht1 => ?_) (fun ht1 => ?_)
 ·
  skip
  (first | (exfalso; omega) | (exfalso; simp_all; done) | skip)
  all_goals
   refine tr_sR [6] fun K hK => ?_
   refine evR_p ?_
   refine evR_z hK ?_; clear hK K
   refine retZ ?_; try exact ⟨⟩
   all_goals ((rw [bounds_rw hv hl8 h0l hg]; done))
 ·
  skip
  (first | (exfalso; omega) | (exfalso; simp_all; done) | skip)
  all_goals
   refine skipZ ?_
   refine hK2 _ ?_
   refine tr_sD [36, 3000001] [1, 3, 7] fun K hK => ?_
   refine evD_bo ?_
   iterate 5 refine evD_p ?_
   refine evD_c (hc := (c35 p hp.gain g)) (k := ?_)
   refine evD_bs ?_
   iterate 2 refine evD_p ?_
   refine evD_z hK ?_; clear hK K
   refine tr_seq fun K6 hK6 => ?_
   refine tr_fz [.own 3] (by simp (maxSteps := 4000000) (disch := first | assumption | omega | (simp only [go_sem, *]; done) | (simp only [go_sem, *]; omega)) only [go_sem, hq, Int.reduceToNat, Nat.reduceBEq, Nat.reduceEqDiff, Nat.reduceAdd, Nat.reduceMul, Nat.reduceLeDiff, Nat.reduceLT, Nat.reduceSub, ↓reduceIte, reduceCtorEq]; (try rfl)) ?_
   refine tr_region [6] rfl rfl fun K hK => ?_
   iterate 3 refine evR_p ?_
   refine evR_c (hc := (c33 p (by omega))) (k := ?_)
   refine evR_c (hc := c70) (k := ?_)
   iterate 2 refine evR_p ?_
   refine evR_e hK ?_; clear hK K
   refine hK6 _ ?_
   refine retZ ?_; try exact ⟨⟩
   all_goals ((rw [bounds_rw hv hl8 h0l hg]; done))
end

set_option maxHeartbeats 4000000 in
theorem k33n (p : Pg) (hp : okPr p) (l : List Sg) (hl : okPf l) (g : Int) (hn : ¬ (((validB p = true ∧ l.length ≤ 8192) ∧ ¬ l.length = 0) ∧ isInB g (-12000000000) 12000000000 = true)) : CallsA Tryz.prog 51 [.agg (encPg p), .sl 4 (encSgs l), .int .i64 g] (.bool (boundsW p l g)) := by
 have hq : True := trivial
 refine callsA_of_tr Tryz.func51 rfl (Nat.le_of_ble_eq_true rfl) ?_
 simp only [Tryz.results51, envOf, Nat.reduceAdd]
 refine tr_sR [1, 2, 3] fun K hK => ?_
 iterate 2 refine evR_p ?_
 refine evR_z hK ?_; clear hK K
 refine tr_seq fun K2 hK2 => ?_
 refine tr_sR [1, 2, 3, 28] fun K hK => ?_
 refine evR_p ?_
 refine evR_c (hc := (c21 p hp.r hp.g hp.c)) (k := ?_)
 iterate 2 refine evR_p ?_
 iterate 3 refine evR_g ?_
 iterate 2 refine evR_p ?_
 iterate 3 refine evR_g ?_
 iterate 2 refine evR_p ?_
 iterate 2 refine evR_g ?_
 iterate 2 refine evR_p ?_
 iterate 2 refine evR_g ?_
 refine evR_p ?_
 refine evR_z hK ?_; clear hK K
 refine tr_condB (fun ht1 => ?_) (fun ht1 => ?_)
 ·
  skip
  (first | (exfalso; omega) | (exfalso; simp_all; done) | (exfalso; refine hn ⟨⟨⟨by simp_all, by omega⟩, by omega⟩, ?_⟩; rw [isInB_spec]; omega) | skip)
  all_goals
   refine tr_sR [6] fun K hK => ?_
   refine evR_p ?_
   refine evR_z hK ?_; clear hK K
   refine retZ ?_; try exact ⟨⟩
   all_goals ((rw [bounds_no hn]; done))
 ·
  skip
  (first | (exfalso; omega) | (exfalso; simp_all; done) | (exfalso; refine hn ⟨⟨⟨by simp_all, by omega⟩, by omega⟩, ?_⟩; rw [isInB_spec]; omega) | skip)
  all_goals
   refine skipZ ?_
   refine hK2 _ ?_
   refine tr_sD [36, 3000001] [1, 3, 7] fun K hK => ?_
   refine evD_bo ?_
   iterate 5 refine evD_p ?_
   refine evD_c (hc := (c35 p hp.gain g)) (k := ?_)
   refine evD_bs ?_
   iterate 2 refine evD_p ?_
   refine evD_z hK ?_; clear hK K
   refine tr_seq fun K6 hK6 => ?_
   refine tr_fz [.own 3] (by simp (maxSteps := 4000000) (disch := first | assumption | omega | (simp only [go_sem, *]; done) | (simp only [go_sem, *]; omega)) only [go_sem, hq, Int.reduceToNat, Nat.reduceBEq, Nat.reduceEqDiff, Nat.reduceAdd, Nat.reduceMul, Nat.reduceLeDiff, Nat.reduceLT, Nat.reduceSub, ↓reduceIte, reduceCtorEq]; (try rfl)) ?_
   refine tr_region [6] rfl rfl fun K hK => ?_
   iterate 3 refine evR_p ?_
   refine evR_c (hc := (c33 p (by have := valid_okRw (p := p) (by simp_all); omega))) (k := ?_)
   refine evR_c (hc := c70) (k := ?_)
   iterate 2 refine evR_p ?_
   refine evR_e hK ?_; clear hK K
   refine hK6 _ ?_
   refine retZ ?_; try exact ⟨⟩
   all_goals ((rw [bounds_no hn]; done))
theorem k33 (p : Pg) (hp : okPr p) (l : List Sg) (hl : okPf l) (g : Int) : CallsA Tryz.prog 51 [.agg (encPg p), .sl 4 (encSgs l), .int .i64 g] (.bool (boundsW p l g)) := by
 by_cases h : (((validB p = true ∧ l.length ≤ 8192) ∧ ¬ l.length = 0) ∧ isInB g (-12000000000) 12000000000 = true)
 ·
  exact k33y p hp l hl g h.1.1.1 h.1.1.2 h.1.2 h.2
 ·
  exact k33n p hp l hl g h

theorem k67 (c n : Int) (hn : 0 < n) : CallsA Tryz.prog 44 [.int .i64 c, .int .i64 n] (.int .i64 (pickW c n)) := by
 have hq : True := trivial
 refine callsA_of_tr Tryz.func44 rfl (Nat.le_of_ble_eq_true rfl) ?_
 simp only [Tryz.results44, envOf, Nat.reduceAdd]
 refine tr_sR [0, 1] fun K hK => ?_
 refine evR_p ?_
 refine evR_z hK ?_; clear hK K
 refine tr_seq fun K2 hK2 => ?_
 refine tr_sR [0, 1, 6] fun K hK => ?_
 iterate 2 refine evR_p ?_
 refine evR_z hK ?_; clear hK K
 refine tr_condB (fun ht1 => ?_) (fun ht1 => ?_)
 ·
  skip
  refine tr_region [0, 1] rfl rfl fun K hK => ?_
  iterate 4 refine evR_p ?_
  refine evR_e hK ?_; clear hK K
  refine hK2 _ ?_
  refine tr_sR [4] fun K hK => ?_
  iterate 4 refine evR_p ?_
  refine evR_z hK ?_; clear hK K
  refine retZ ?_; try exact ⟨⟩
  all_goals (simp [pickW, *])
 ·
  skip
  refine skipZ ?_
  refine hK2 _ ?_
  refine tr_sR [4] fun K hK => ?_
  iterate 4 refine evR_p ?_
  refine evR_z hK ?_; clear hK K
  refine retZ ?_; try exact ⟨⟩
  all_goals (simp [pickW, *])

section
attribute [local go_sem] List.map_set encSgs_fz encSgs_cl encSgs_row encSgs_set encSgs_take encWs_set List.set_set cellsI_length cellsI_getD cellsI_dropD cellsI_sc cellsI_cl cellsI_winT cellsI_take cellsI_fzL encWs_app1 encSg List.nil_append List.replicate_succ List.replicate_zero List.set_cons_zero List.set_cons_succ
set_option maxHeartbeats 16000000 in
theorem k19n (l : List Sg) (hl0 : 0 < l.length) (hll : l.length ≤ 100000) (hws : ∀ s ∈ l, s.ws.length ≤ 100000) (z : List Int) (hz4 : z.length = 4) (hz : ∀ x ∈ z, okI x) : CallsA Tryz.prog 21 [.sl 4 (encSgs l), .agg (cellsI z)] (.sl 4 (encSgs (bentW l z))) := by
 have ok : ∀ i, i < 4 → okI (z.getD i 0) := fun i hi => hz _ (getD_mem (by omega))
 obtain ⟨kn, hkn, hkl⟩ : ∃ k : Nat, pickW (z.getD 0 0) (l.length : Nat) = k ∧ k < l.length := by
  have := pickW_rangeL (z.getD 0 0) (n := (l.length : Nat)) (by omega) (ok 0 (by omega))
  exact ⟨(pickW (z.getD 0 0) (l.length : Nat)).toNat, by omega, by omega⟩
 obtain ⟨jn, hj, hjl⟩ : ∃ k : Nat, pickW (z.getD 2 0) (l.length : Nat) = k ∧ k < l.length := by
  have := pickW_rangeL (z.getD 2 0) (n := (l.length : Nat)) (by omega) (ok 2 (by omega))
  exact ⟨(pickW (z.getD 2 0) (l.length : Nat)).toNat, by omega, by omega⟩
 obtain ⟨s, hs⟩ : ∃ s, l.getD kn sg0 = s := ⟨_, rfl⟩
 obtain ⟨q1, hq1⟩ : ∃ q, pickW (z.getD 1 0) 9 = q := ⟨_, rfl⟩
 have hsw : s.ws.length ≤ 100000 := hs ▸ hws _ (getD_mem hkl)
 have r0 := pickW_rangeL (z.getD 2 0) (n := 9) (by decide) (ok 2 (by omega))
 have r1 := pickW_rangeL (z.getD 2 0) (n := 1003) (by decide) (ok 2 (by omega))
 have r2 := pickW_rangeL (z.getD 3 0) (n := 5) (by decide) (ok 3 (by omega))
 have hw0 : IntKind.i64.wrap (pickW (z.getD 2 0) 9 - 1) = pickW (z.getD 2 0) 9 - 1 := w64 (by omega)
 have hw1 : IntKind.i64.wrap ((l.length : Int) + 1) = (l.length : Int) + 1 := w64 (by omega)
 have hw3 : IntKind.i64.wrap (pickW (z.getD 2 0) 1003 - 1) = pickW (z.getD 2 0) 1003 - 1 := w64 (by omega)
 have hw4 : IntKind.i64.wrap (1 + pickW (z.getD 3 0) 5) = 1 + pickW (z.getD 3 0) 5 := w64 (by omega)
 have hwj : IntKind.i64.wrap ((jn : Int) + 1) = ((jn + 1 : Nat) : Int) := by rw [w64 (by omega)]; omega
 have hw5 : min (jn + 1) l.length = jn + 1 := by omega
 have hq := And.intro hz4 (And.intro hl0 (And.intro hkn (And.intro hkl (And.intro hs (And.intro hq1 (And.intro hj (And.intro hjl (And.intro hwj (And.intro hw0 (And.intro hw1 (And.intro hw3 (And.intro hw4 (hw5)))))))))))))
 refine callsA_of_tr Tryz.func21 rfl (Nat.le_of_ble_eq_true rfl) ?_
 simp only [Tryz.results21, envOf, Nat.reduceAdd]
 refine tr_sR [0, 3] fun K hK => ?_
 iterate 2 refine evR_p ?_
 refine evR_z hK ?_; clear hK K
 refine tr_sR [3, 5] fun K hK => ?_
 refine evR_bo ?_
 iterate 3 refine evR_p ?_
 refine evR_z hK ?_; clear hK K
 refine tr_seq fun K3 hK3 => ?_
 refine tr_sR [3, 5, 12] fun K hK => ?_
 iterate 3 refine evR_p ?_
 refine evR_z hK ?_; clear hK K
 refine tr_condB (fun ht1 => ?_) (fun ht1 => ?_)
 ·
  skip
  (first | (exfalso; omega) | (exfalso; simp_all; done) | skip)
  all_goals
   refine tr_sR [4] fun K hK => ?_
   iterate 2 refine evR_p ?_
   refine evR_z hK ?_; clear hK K
   refine retZ ?_; try exact ⟨⟩
   all_goals (first | (rw [bentW_6 (by rw [hq1]; assumption) (by omega), hj, show ((jn : Int) + 1).toNat = jn + 1 from by omega]; have e9 : l.set kn ⟨s.var, s.no, s.yes, s.ws⟩ = l := (by have := set_getD (l := l) (k := kn) (d := sg0); rw [hs] at this; exact this); rw [e9]; done) | (rw [bentW_n (by rw [hq1]; omega) (by omega), hkn, Int.toNat_natCast, hs, bentS, hq1]; repeat (first | rw [if_pos (by omega)] | rw [if_neg (by omega)]); try rfl))
 ·
  skip
  (first | (exfalso; omega) | (exfalso; simp_all; done) | skip)
  all_goals
   refine skipZ ?_
   refine hK3 _ ?_
   refine tr_sR [3, 5, 6] fun K hK => ?_
   iterate 5 refine evR_p ?_
   refine evR_c (hc := (k67 _ _ (by omega))) (k := ?_)
   iterate 2 refine evR_p ?_
   refine evR_z hK ?_; clear hK K
   refine tr_seq fun K7 hK7 => ?_
   refine tr_wk (Wk.open (i := 2) rfl) ?_
   try simp only [List.map_cons, List.map_nil, Nat.reduceEqDiff, ↓reduceIte, List.set_cons_zero, List.set_cons_succ, Nat.reduceAdd]
   refine tr_region [3, 5, 6] rfl rfl fun K hK => ?_
   refine evR_p ?_
   refine evR_bo ?_
   iterate 8 refine evR_p ?_
   refine evR_e hK ?_; clear hK K
   refine hK7 _ ?_
   refine tr_seq fun K8 hK8 => ?_
   refine tr_sR [3, 5, 6, 32] fun K hK => ?_
   iterate 2 refine evR_p ?_
   refine evR_c (hc := (k67 _ _ (by omega))) (k := ?_)
   refine evR_z hK ?_; clear hK K
   refine tr_block ?_
   refine tr_sR [3, 5, 6, 32, 33] fun K hK => ?_
   iterate 2 refine evR_p ?_
   refine evR_z hK ?_; clear hK K
   refine tr_condB (fun ht2 => ?_) (fun ht2 => ?_)
   ·
    skip
    (first | (exfalso; omega) | (exfalso; simp_all; done) | skip)
    all_goals
     refine tr_region [5] rfl rfl fun K hK => ?_
     iterate 3 refine evR_p ?_
     refine evR_c (hc := (k67 _ _ (by omega))) (k := ?_)
     iterate 4 refine evR_p ?_
     refine evR_e hK ?_; clear hK K
     refine hK8 _ ?_
     refine tr_seq fun K11 hK11 => ?_
     refine tr_fz [.own 4, .own 5] (by simp (maxSteps := 4000000) (disch := first | assumption | omega | (simp only [go_sem, *]; done) | (simp only [go_sem, *]; omega)) only [go_sem, hq, Int.reduceToNat, Nat.reduceBEq, Nat.reduceEqDiff, Nat.reduceAdd, Nat.reduceMul, Nat.reduceLeDiff, Nat.reduceLT, Nat.reduceSub, ↓reduceIte, reduceCtorEq]; (try rfl)) ?_
     refine tr_region [4] rfl rfl fun K hK => ?_
     iterate 2 refine evR_p ?_
     refine evR_e hK ?_; clear hK K
     refine hK11 _ ?_
     refine retZ ?_; try exact ⟨⟩
     all_goals (first | (rw [bentW_6 (by rw [hq1]; assumption) (by omega), hj, show ((jn : Int) + 1).toNat = jn + 1 from by omega]; have e9 : l.set kn ⟨s.var, s.no, s.yes, s.ws⟩ = l := (by have := set_getD (l := l) (k := kn) (d := sg0); rw [hs] at this; exact this); rw [e9]; done) | (rw [bentW_n (by rw [hq1]; omega) (by omega), hkn, Int.toNat_natCast, hs, bentS, hq1]; repeat (first | rw [if_pos (by omega)] | rw [if_neg (by omega)]); try rfl))
   ·
    skip
    (first | (exfalso; omega) | (exfalso; simp_all; done) | skip)
    all_goals
     refine tr_sR [3, 5, 6, 32, 42] fun K hK => ?_
     iterate 2 refine evR_p ?_
     refine evR_z hK ?_; clear hK K
     refine tr_condB (fun ht3 => ?_) (fun ht3 => ?_)
     ·
      skip
      (first | (exfalso; omega) | (exfalso; simp_all; done) | skip)
      all_goals
       refine tr_region [5] rfl rfl fun K hK => ?_
       iterate 6 refine evR_p ?_
       refine evR_c (hc := (k67 _ _ (by omega))) (k := ?_)
       iterate 3 refine evR_p ?_
       refine evR_e hK ?_; clear hK K
       refine hK8 _ ?_
       refine tr_seq fun K13 hK13 => ?_
       refine tr_fz [.own 4, .own 5] (by simp (maxSteps := 4000000) (disch := first | assumption | omega | (simp only [go_sem, *]; done) | (simp only [go_sem, *]; omega)) only [go_sem, hq, Int.reduceToNat, Nat.reduceBEq, Nat.reduceEqDiff, Nat.reduceAdd, Nat.reduceMul, Nat.reduceLeDiff, Nat.reduceLT, Nat.reduceSub, ↓reduceIte, reduceCtorEq]; (try rfl)) ?_
       refine tr_region [4] rfl rfl fun K hK => ?_
       iterate 2 refine evR_p ?_
       refine evR_e hK ?_; clear hK K
       refine hK13 _ ?_
       refine retZ ?_; try exact ⟨⟩
       all_goals (first | (rw [bentW_6 (by rw [hq1]; assumption) (by omega), hj, show ((jn : Int) + 1).toNat = jn + 1 from by omega]; have e9 : l.set kn ⟨s.var, s.no, s.yes, s.ws⟩ = l := (by have := set_getD (l := l) (k := kn) (d := sg0); rw [hs] at this; exact this); rw [e9]; done) | (rw [bentW_n (by rw [hq1]; omega) (by omega), hkn, Int.toNat_natCast, hs, bentS, hq1]; repeat (first | rw [if_pos (by omega)] | rw [if_neg (by omega)]); try rfl))
     ·
      skip
      (first | (exfalso; omega) | (exfalso; simp_all; done) | skip)
      all_goals
       refine tr_sR [3, 5, 6, 32, 53] fun K hK => ?_
       iterate 2 refine evR_p ?_
       refine evR_z hK ?_; clear hK K
       refine tr_condB (fun ht4 => ?_) (fun ht4 => ?_)
       ·
        skip
        (first | (exfalso; omega) | (exfalso; simp_all; done) | skip)
        all_goals
         refine tr_region [5] rfl rfl fun K hK => ?_
         iterate 6 refine evR_p ?_
         refine evR_c (hc := (k67 _ _ (by omega))) (k := ?_)
         iterate 3 refine evR_p ?_
         refine evR_e hK ?_; clear hK K
         refine hK8 _ ?_
         refine tr_seq fun K15 hK15 => ?_
         refine tr_fz [.own 4, .own 5] (by simp (maxSteps := 4000000) (disch := first | assumption | omega | (simp only [go_sem, *]; done) | (simp only [go_sem, *]; omega)) only [go_sem, hq, Int.reduceToNat, Nat.reduceBEq, Nat.reduceEqDiff, Nat.reduceAdd, Nat.reduceMul, Nat.reduceLeDiff, Nat.reduceLT, Nat.reduceSub, ↓reduceIte, reduceCtorEq]; (try rfl)) ?_
         refine tr_region [4] rfl rfl fun K hK => ?_
         iterate 2 refine evR_p ?_
         refine evR_e hK ?_; clear hK K
         refine hK15 _ ?_
         refine retZ ?_; try exact ⟨⟩
         all_goals (first | (rw [bentW_6 (by rw [hq1]; assumption) (by omega), hj, show ((jn : Int) + 1).toNat = jn + 1 from by omega]; have e9 : l.set kn ⟨s.var, s.no, s.yes, s.ws⟩ = l := (by have := set_getD (l := l) (k := kn) (d := sg0); rw [hs] at this; exact this); rw [e9]; done) | (rw [bentW_n (by rw [hq1]; omega) (by omega), hkn, Int.toNat_natCast, hs, bentS, hq1]; repeat (first | rw [if_pos (by omega)] | rw [if_neg (by omega)]); try rfl))
       ·
        skip
        (first | (exfalso; omega) | (exfalso; simp_all; done) | skip)
        all_goals
         refine tr_sR [3, 5, 6, 32, 64] fun K hK => ?_
         iterate 2 refine evR_p ?_
         refine evR_z hK ?_; clear hK K
         refine tr_condB (fun ht5 => ?_) (fun ht5 => ?_)
         ·
          skip
          (first | (exfalso; omega) | (exfalso; simp_all; done) | skip)
          all_goals
           refine tr_sR [3, 5, 6, 71] fun K hK => ?_
           iterate 6 refine evR_p ?_
           refine evR_z hK ?_; clear hK K
           refine tr_condB (fun ht6 => ?_) (fun ht6 => ?_)
           ·
            skip
            (first | (exfalso; omega) | (exfalso; simp_all; done) | skip)
            all_goals
             refine tr_draw [] [5] mixed rfl (by kernel_rfl) rfl fun K hK => ?_
             iterate 6 refine evD_p ?_
             refine evD_c (hc := (k67 _ _ (by omega))) (k := ?_)
             iterate 3 refine evD_p ?_
             refine evD_e hK ?_; clear hK K
             refine hK8 _ ?_
             refine tr_seq fun K18 hK18 => ?_
             refine tr_fz [.own 4, .own 5] (by simp (maxSteps := 4000000) (disch := first | assumption | omega | (simp only [go_sem, *]; done) | (simp only [go_sem, *]; omega)) only [go_sem, hq, Int.reduceToNat, Nat.reduceBEq, Nat.reduceEqDiff, Nat.reduceAdd, Nat.reduceMul, Nat.reduceLeDiff, Nat.reduceLT, Nat.reduceSub, ↓reduceIte, reduceCtorEq]; (try rfl)) ?_
             refine tr_region [4] rfl rfl fun K hK => ?_
             iterate 2 refine evR_p ?_
             refine evR_e hK ?_; clear hK K
             refine hK18 _ ?_
             refine retZ ?_; try exact ⟨⟩
             all_goals (first | (rw [bentW_6 (by rw [hq1]; assumption) (by omega), hj, show ((jn : Int) + 1).toNat = jn + 1 from by omega]; have e9 : l.set kn ⟨s.var, s.no, s.yes, s.ws⟩ = l := (by have := set_getD (l := l) (k := kn) (d := sg0); rw [hs] at this; exact this); rw [e9]; done) | (rw [bentW_n (by rw [hq1]; omega) (by omega), hkn, Int.toNat_natCast, hs, bentS, hq1]; repeat (first | rw [if_pos (by omega)] | rw [if_neg (by omega)]); try rfl))
           ·
            skip
            (first | (exfalso; omega) | (exfalso; simp_all; done) | skip)
            all_goals
             refine skipZ ?_
             refine hK8 _ ?_
             refine tr_seq fun K19 hK19 => ?_
             refine tr_fz [.own 4, .own 5] (by simp (maxSteps := 4000000) (disch := first | assumption | omega | (simp only [go_sem, *]; done) | (simp only [go_sem, *]; omega)) only [go_sem, hq, Int.reduceToNat, Nat.reduceBEq, Nat.reduceEqDiff, Nat.reduceAdd, Nat.reduceMul, Nat.reduceLeDiff, Nat.reduceLT, Nat.reduceSub, ↓reduceIte, reduceCtorEq]; (try rfl)) ?_
             refine tr_region [4] rfl rfl fun K hK => ?_
             iterate 2 refine evR_p ?_
             refine evR_e hK ?_; clear hK K
             refine hK19 _ ?_
             refine retZ ?_; try exact ⟨⟩
             all_goals (first | (rw [bentW_6 (by rw [hq1]; assumption) (by omega), hj, show ((jn : Int) + 1).toNat = jn + 1 from by omega]; have e9 : l.set kn ⟨s.var, s.no, s.yes, s.ws⟩ = l := (by have := set_getD (l := l) (k := kn) (d := sg0); rw [hs] at this; exact this); rw [e9]; done) | (rw [bentW_n (by rw [hq1]; omega) (by omega), hkn, Int.toNat_natCast, hs, bentS, hq1]; repeat (first | rw [if_pos (by omega)] | rw [if_neg (by omega)]); try rfl))
         ·
          skip
          (first | (exfalso; omega) | (exfalso; simp_all; done) | skip)
          all_goals
           refine tr_sR [3, 5, 6, 32, 81] fun K hK => ?_
           iterate 2 refine evR_p ?_
           refine evR_z hK ?_; clear hK K
           refine tr_condB (fun ht7 => ?_) (fun ht7 => ?_)
           ·
            skip
            (first | (exfalso; omega) | (exfalso; simp_all; done) | skip)
            all_goals
             refine tr_sR [3, 5, 6, 88] fun K hK => ?_
             iterate 6 refine evR_p ?_
             refine evR_z hK ?_; clear hK K
             refine tr_condB (fun ht8 => ?_) (fun ht8 => ?_)
             ·
              skip
              (first | (exfalso; omega) | (exfalso; simp_all; done) | skip)
              all_goals
               refine tr_draw [] [5] mixed rfl (by kernel_rfl) rfl fun K hK => ?_
               iterate 6 refine evD_p ?_
               refine evD_c (hc := (k67 _ _ (by omega))) (k := ?_)
               iterate 4 refine evD_p ?_
               refine evD_e hK ?_; clear hK K
               refine hK8 _ ?_
               refine tr_seq fun K22 hK22 => ?_
               refine tr_fz [.own 4, .own 5] (by simp (maxSteps := 4000000) (disch := first | assumption | omega | (simp only [go_sem, *]; done) | (simp only [go_sem, *]; omega)) only [go_sem, hq, Int.reduceToNat, Nat.reduceBEq, Nat.reduceEqDiff, Nat.reduceAdd, Nat.reduceMul, Nat.reduceLeDiff, Nat.reduceLT, Nat.reduceSub, ↓reduceIte, reduceCtorEq]; (try rfl)) ?_
               refine tr_region [4] rfl rfl fun K hK => ?_
               iterate 2 refine evR_p ?_
               refine evR_e hK ?_; clear hK K
               refine hK22 _ ?_
               refine retZ ?_; try exact ⟨⟩
               all_goals (first | (rw [bentW_6 (by rw [hq1]; assumption) (by omega), hj, show ((jn : Int) + 1).toNat = jn + 1 from by omega]; have e9 : l.set kn ⟨s.var, s.no, s.yes, s.ws⟩ = l := (by have := set_getD (l := l) (k := kn) (d := sg0); rw [hs] at this; exact this); rw [e9]; done) | (rw [bentW_n (by rw [hq1]; omega) (by omega), hkn, Int.toNat_natCast, hs, bentS, hq1]; repeat (first | rw [if_pos (by omega)] | rw [if_neg (by omega)]); try rfl))
             ·
              skip
              (first | (exfalso; omega) | (exfalso; simp_all; done) | skip)
              all_goals
               refine skipZ ?_
               refine hK8 _ ?_
               refine tr_seq fun K23 hK23 => ?_
               refine tr_fz [.own 4, .own 5] (by simp (maxSteps := 4000000) (disch := first | assumption | omega | (simp only [go_sem, *]; done) | (simp only [go_sem, *]; omega)) only [go_sem, hq, Int.reduceToNat, Nat.reduceBEq, Nat.reduceEqDiff, Nat.reduceAdd, Nat.reduceMul, Nat.reduceLeDiff, Nat.reduceLT, Nat.reduceSub, ↓reduceIte, reduceCtorEq]; (try rfl)) ?_
               refine tr_region [4] rfl rfl fun K hK => ?_
               iterate 2 refine evR_p ?_
               refine evR_e hK ?_; clear hK K
               refine hK23 _ ?_
               refine retZ ?_; try exact ⟨⟩
               all_goals (first | (rw [bentW_6 (by rw [hq1]; assumption) (by omega), hj, show ((jn : Int) + 1).toNat = jn + 1 from by omega]; have e9 : l.set kn ⟨s.var, s.no, s.yes, s.ws⟩ = l := (by have := set_getD (l := l) (k := kn) (d := sg0); rw [hs] at this; exact this); rw [e9]; done) | (rw [bentW_n (by rw [hq1]; omega) (by omega), hkn, Int.toNat_natCast, hs, bentS, hq1]; repeat (first | rw [if_pos (by omega)] | rw [if_neg (by omega)]); try rfl))
           ·
            skip
            (first | (exfalso; omega) | (exfalso; simp_all; done) | skip)
            all_goals
             refine tr_sR [3, 5, 6, 32, 99] fun K hK => ?_
             iterate 2 refine evR_p ?_
             refine evR_z hK ?_; clear hK K
             refine tr_condB (fun ht9 => ?_) (fun ht9 => ?_)
             ·
              skip
              (first | (exfalso; omega) | (exfalso; simp_all; done) | skip)
              all_goals
               refine tr_draw [114] [5] mixed rfl (by kernel_rfl) rfl fun K hK => ?_
               iterate 7 refine evD_p ?_
               refine evD_c (hc := (k67 _ _ (by omega))) (k := ?_)
               iterate 2 refine evD_p ?_
               refine evD_c (hc := (k67 _ _ (by omega))) (k := ?_)
               iterate 2 refine evD_p ?_
               refine evD_bs ?_
               iterate 4 refine evD_p ?_
               refine evD_e hK ?_; clear hK K
               refine hK8 _ ?_
               refine tr_seq fun K25 hK25 => ?_
               refine tr_fz [.own 4, .own 5] (by simp (maxSteps := 4000000) (disch := first | assumption | omega | (simp only [go_sem, *]; done) | (simp only [go_sem, *]; omega)) only [go_sem, hq, Int.reduceToNat, Nat.reduceBEq, Nat.reduceEqDiff, Nat.reduceAdd, Nat.reduceMul, Nat.reduceLeDiff, Nat.reduceLT, Nat.reduceSub, ↓reduceIte, reduceCtorEq]; (try rfl)) ?_
               refine tr_region [4] rfl rfl fun K hK => ?_
               iterate 2 refine evR_p ?_
               refine evR_e hK ?_; clear hK K
               refine hK25 _ ?_
               refine retZ ?_; try exact ⟨⟩
               all_goals (first | (rw [bentW_6 (by rw [hq1]; assumption) (by omega), hj, show ((jn : Int) + 1).toNat = jn + 1 from by omega]; have e9 : l.set kn ⟨s.var, s.no, s.yes, s.ws⟩ = l := (by have := set_getD (l := l) (k := kn) (d := sg0); rw [hs] at this; exact this); rw [e9]; done) | (rw [bentW_n (by rw [hq1]; omega) (by omega), hkn, Int.toNat_natCast, hs, bentS, hq1]; repeat (first | rw [if_pos (by omega)] | rw [if_neg (by omega)]); try rfl))
             ·
              skip
              (first | (exfalso; omega) | (exfalso; simp_all; done) | skip)
              all_goals
               refine tr_sR [3, 5, 6, 32, 118] fun K hK => ?_
               iterate 2 refine evR_p ?_
               refine evR_z hK ?_; clear hK K
               refine tr_condB (fun ht10 => ?_) (fun ht10 => ?_)
               ·
                skip
                (first | (exfalso; omega) | (exfalso; simp_all; done) | skip)
                all_goals
                 refine tr_fz [.own 4, .own 2] (by simp (maxSteps := 4000000) (disch := first | assumption | omega | (simp only [go_sem, *]; done) | (simp only [go_sem, *]; omega)) only [go_sem, hq, Int.reduceToNat, Nat.reduceBEq, Nat.reduceEqDiff, Nat.reduceAdd, Nat.reduceMul, Nat.reduceLeDiff, Nat.reduceLT, Nat.reduceSub, ↓reduceIte, reduceCtorEq]; (try rfl)) ?_
                 refine tr_region [5] rfl rfl fun K hK => ?_
                 iterate 5 refine evR_p ?_
                 refine evR_c (hc := (k67 _ _ (by omega))) (k := ?_)
                 iterate 3 refine evR_p ?_
                 refine evR_e hK ?_; clear hK K
                 refine hK8 _ ?_
                 refine tr_seq fun K27 hK27 => ?_
                 refine tr_fz [.own 4, .own 5] (by simp (maxSteps := 4000000) (disch := first | assumption | omega | (simp only [go_sem, *]; done) | (simp only [go_sem, *]; omega)) only [go_sem, hq, Int.reduceToNat, Nat.reduceBEq, Nat.reduceEqDiff, Nat.reduceAdd, Nat.reduceMul, Nat.reduceLeDiff, Nat.reduceLT, Nat.reduceSub, ↓reduceIte, reduceCtorEq]; (try rfl)) ?_
                 refine tr_region [4] rfl rfl fun K hK => ?_
                 iterate 2 refine evR_p ?_
                 refine evR_e hK ?_; clear hK K
                 refine hK27 _ ?_
                 refine retZ ?_; try exact ⟨⟩
                 all_goals (first | (rw [bentW_6 (by rw [hq1]; assumption) (by omega), hj, show ((jn : Int) + 1).toNat = jn + 1 from by omega]; have e9 : l.set kn ⟨s.var, s.no, s.yes, s.ws⟩ = l := (by have := set_getD (l := l) (k := kn) (d := sg0); rw [hs] at this; exact this); rw [e9]; done) | (rw [bentW_n (by rw [hq1]; omega) (by omega), hkn, Int.toNat_natCast, hs, bentS, hq1]; repeat (first | rw [if_pos (by omega)] | rw [if_neg (by omega)]); try rfl))
               ·
                skip
                (first | (exfalso; omega) | (exfalso; simp_all; done) | skip)
                all_goals
                 refine tr_sR [5, 6, 128] fun K hK => ?_
                 iterate 2 refine evR_p ?_
                 refine evR_z hK ?_; clear hK K
                 refine tr_condB (fun ht11 => ?_) (fun ht11 => ?_)
                 ·
                  skip
                  (first | (exfalso; omega) | (exfalso; simp_all; done) | skip)
                  all_goals
                   refine tr_draw [] [5] mixed rfl (by kernel_rfl) rfl fun K hK => ?_
                   iterate 16 refine evD_p ?_
                   refine evD_e hK ?_; clear hK K
                   refine hK8 _ ?_
                   refine tr_seq fun K29 hK29 => ?_
                   refine tr_fz [.own 4, .own 5] (by simp (maxSteps := 4000000) (disch := first | assumption | omega | (simp only [go_sem, *]; done) | (simp only [go_sem, *]; omega)) only [go_sem, hq, Int.reduceToNat, Nat.reduceBEq, Nat.reduceEqDiff, Nat.reduceAdd, Nat.reduceMul, Nat.reduceLeDiff, Nat.reduceLT, Nat.reduceSub, ↓reduceIte, reduceCtorEq]; (try rfl)) ?_
                   refine tr_region [4] rfl rfl fun K hK => ?_
                   iterate 2 refine evR_p ?_
                   refine evR_e hK ?_; clear hK K
                   refine hK29 _ ?_
                   refine retZ ?_; try exact ⟨⟩
                   all_goals (first | (rw [bentW_6 (by rw [hq1]; assumption) (by omega), hj, show ((jn : Int) + 1).toNat = jn + 1 from by omega]; have e9 : l.set kn ⟨s.var, s.no, s.yes, s.ws⟩ = l := (by have := set_getD (l := l) (k := kn) (d := sg0); rw [hs] at this; exact this); rw [e9]; done) | (rw [bentW_n (by rw [hq1]; omega) (by omega), hkn, Int.toNat_natCast, hs, bentS, hq1]; repeat (first | rw [if_pos (by omega)] | rw [if_neg (by omega)]); try rfl))
                 ·
                  skip
                  (first | (exfalso; omega) | (exfalso; simp_all; done) | skip)
                  all_goals
                   refine skipZ ?_
                   refine hK8 _ ?_
                   refine tr_seq fun K30 hK30 => ?_
                   refine tr_fz [.own 4, .own 5] (by simp (maxSteps := 4000000) (disch := first | assumption | omega | (simp only [go_sem, *]; done) | (simp only [go_sem, *]; omega)) only [go_sem, hq, Int.reduceToNat, Nat.reduceBEq, Nat.reduceEqDiff, Nat.reduceAdd, Nat.reduceMul, Nat.reduceLeDiff, Nat.reduceLT, Nat.reduceSub, ↓reduceIte, reduceCtorEq]; (try rfl)) ?_
                   refine tr_region [4] rfl rfl fun K hK => ?_
                   iterate 2 refine evR_p ?_
                   refine evR_e hK ?_; clear hK K
                   refine hK30 _ ?_
                   refine retZ ?_; try exact ⟨⟩
                   all_goals (first | (rw [bentW_6 (by rw [hq1]; assumption) (by omega), hj, show ((jn : Int) + 1).toNat = jn + 1 from by omega]; have e9 : l.set kn ⟨s.var, s.no, s.yes, s.ws⟩ = l := (by have := set_getD (l := l) (k := kn) (d := sg0); rw [hs] at this; exact this); rw [e9]; done) | (rw [bentW_n (by rw [hq1]; omega) (by omega), hkn, Int.toNat_natCast, hs, bentS, hq1]; repeat (first | rw [if_pos (by omega)] | rw [if_neg (by omega)]); try rfl))
end

section
attribute [local go_sem] List.length_nil cellsI_length cellsI_sc List.replicate_zero List.nil_append
theorem k19z (z : List Int) (hz4 : z.length = 4) : CallsA Tryz.prog 21 [.sl 4 (encSgs []), .agg (cellsI z)] (.sl 4 (encSgs [])) := by
 have hq := hz4
 refine callsA_of_tr Tryz.func21 rfl (Nat.le_of_ble_eq_true rfl) ?_
 simp only [Tryz.results21, envOf, Nat.reduceAdd]
 refine tr_sR [0, 3] fun K hK => ?_
 iterate 2 refine evR_p ?_
 refine evR_z hK ?_; clear hK K
 refine tr_sR [3, 5] fun K hK => ?_
 refine evR_bo ?_
 iterate 3 refine evR_p ?_
 refine evR_z hK ?_; clear hK K
 refine tr_seq fun K3 hK3 => ?_
 refine tr_sR [3, 5, 12] fun K hK => ?_
 iterate 3 refine evR_p ?_
 refine evR_z hK ?_; clear hK K
 refine tr_condB (fun ht1 => ?_) (fun ht1 => ?_)
 ·
  skip
  (first | (exfalso; omega) | (exfalso; simp_all; done) | skip)
  all_goals
   refine tr_sR [4] fun K hK => ?_
   iterate 2 refine evR_p ?_
   refine evR_z hK ?_; clear hK K
   refine retZ ?_; try exact ⟨⟩
   all_goals (rfl)
 ·
  exfalso; first | omega | (simp_all; done) | (simp_all; omega)
end
theorem k19 (l : List Sg) (hll : l.length ≤ 100000) (hws : ∀ s ∈ l, s.ws.length ≤ 100000) (z : List Int) (hz4 : z.length = 4) (hz : ∀ x ∈ z, okI x) : CallsA Tryz.prog 21 [.sl 4 (encSgs l), .agg (cellsI z)] (.sl 4 (encSgs (bentW l z))) := by
 by_cases h : l.length = 0
 ·
  have e : l = [] := List.eq_nil_of_length_eq_zero h
  subst e
  exact k19z z hz4
 ·
  exact k19n l (by omega) hll hws z hz4 hz

end Go.Proofs.YtfamkbofdamkkaaGreat
namespace Go.Proofs.YtfamkbofdamkkaaGreat
open Go.RowKit
set_option linter.unusedVariables false
set_option linter.unusedSimpArgs false
set_option maxRecDepth 100000
attribute [local go_sem] Nat.zero_add Nat.add_zero Nat.mul_one eq_self ne_eq not_true_eq_false not_false_eq_true decide_true decide_false decide_not Bool.false_eq_true List.filter_cons List.filter_nil true_and and_true beq_false beq_true Bool.not_true Bool.not_false Bool.and_true Bool.true_and Option.getD_some Option.getD_none imp_self implies_true Int.toNat_natCast List.cons_append List.nil_append List.map_cons List.map_nil List.length_cons List.length_nil List.getD_cons_zero List.getD_cons_succ List.drop_zero List.drop_succ_cons List.take_succ_cons List.take_zero
attribute [local go_sem] Option.isNone_none Option.isNone_some Option.isSome_none List.lookup Option.isSome_some Bool.or_true Bool.true_or Bool.or_false Bool.false_or and_false false_and or_false false_or List.length_append forall_const imp_self
attribute [local go_sem] cellsI_fzL cellsI_uptoL List.getElem?_cons_zero List.getElem?_cons_succ List.zip_cons_cons List.zip_nil_left List.zip_nil_right Bool.false_and Bool.and_false cellsG_length polyA_length discA_length agEq_cells cellsI_isI cellsI_length cellsI_sc cellsI_cl cellsI_rows cellsI_take cellsI_dropD cellsI_set cellsI_full List.length_set List.length_replicate List.all_cons List.all_nil outA_length eachA_length outM_length getD_set_same List.set_set spl_nil0 spl_cons0 spl_succ encP_length encP_getD
attribute [local simp] encP_length padP_length encI_length
theorem ca42 (x : Int) : CallsA Tryz.prog 72 [.int .i64 x] (.bool (decide (x < 0) || decide (65535 < x))) := by
 have hq : True := trivial
 refine callsA_of_tr Tryz.func72 rfl (Nat.le_of_ble_eq_true rfl) ?_
 simp only [Tryz.results72, envOf, Nat.reduceAdd]
 refine tr_sR [0] fun K hK => ?_
 refine evR_p ?_
 refine evR_z hK ?_; clear hK K
 refine tr_sR [2] fun K hK => ?_
 iterate 3 refine evR_p ?_
 iterate 2 refine evR_g ?_
 iterate 2 refine evR_p ?_
 refine evR_z hK ?_; clear hK K
 refine retZ ?_; try exact ⟨⟩
 all_goals (simp)

theorem ca40 (c n : Int) (hn : 0 < n) : CallsA Tryz.prog 83 [.int .i64 c, .int .i64 n] (.int .i64 (pickW c n)) := by
 have hq : True := trivial
 refine callsA_of_tr Tryz.func83 rfl (Nat.le_of_ble_eq_true rfl) ?_
 simp only [Tryz.results83, envOf, Nat.reduceAdd]
 refine tr_sR [0, 1] fun K hK => ?_
 refine evR_p ?_
 refine evR_z hK ?_; clear hK K
 refine tr_seq fun K2 hK2 => ?_
 refine tr_sR [0, 1, 6] fun K hK => ?_
 iterate 2 refine evR_p ?_
 refine evR_z hK ?_; clear hK K
 refine tr_condB (fun ht1 => ?_) (fun ht1 => ?_)
 ·
  skip
  refine tr_region [0, 1] rfl rfl fun K hK => ?_
  iterate 4 refine evR_p ?_
  refine evR_e hK ?_; clear hK K
  refine hK2 _ ?_
  refine tr_sR [4] fun K hK => ?_
  iterate 4 refine evR_p ?_
  refine evR_z hK ?_; clear hK K
  refine retZ ?_; try exact ⟨⟩
  all_goals (simp [pickW, *])
 ·
  skip
  refine skipZ ?_
  refine hK2 _ ?_
  refine tr_sR [4] fun K hK => ?_
  iterate 4 refine evR_p ?_
  refine evR_z hK ?_; clear hK K
  refine retZ ?_; try exact ⟨⟩
  all_goals (simp [pickW, *])

theorem ca58 (xs : List Int) (f : FuncId) (caps : List V) (p : Int → Bool) (hf : okF Tryz.prog f = true) (hcl : V.clL caps = true) (hp : ∀ x ∈ xs, CallsA Tryz.prog f (V.int .i64 x :: caps) (.bool (p x))) (hm : xs.length ≤ maxLen) : CallsA Tryz.prog 101 [.sl 1 (encI xs), .fn f caps] (.int .i64 (idxOf p xs)) := by
 unfold maxLen at hm
 have hq := hcl
 refine callsA_of_tr Tryz.func101 rfl (Nat.le_of_ble_eq_true rfl) ?_
 simp only [Tryz.results101, envOf, Nat.reduceAdd]
 refine tr_sR [0, 1] fun K hK => ?_
 refine evR_p ?_
 refine evR_z hK ?_; clear hK K
 refine tr_seq fun K2 hK2 => ?_
 refine tr_sR [0, 1, 7, 8] fun K hK => ?_
 iterate 3 refine evR_p ?_
 refine evR_z hK ?_; clear hK K
 refine tr_block ?_
 -- loop 1: live [0, 1, 7, 8]
 refine tr_loopW (fun m σ => ∃ i, i + m = xs.length ∧ (∀ j, j < i → p (xs.getD j 0) = false) ∧ σ = ⟨[(0, .sl 1 (encI xs)), (1, .fn f caps), (7, .int .i64 xs.length), (8, .int .i64 (i : Nat))], [], 0⟩) (xs.length) ?_ ?_
 ·
  exact ⟨_, Wk.refl _, 0, by omega, (by intro j hj; omega), rfl⟩
 ·
  rintro m σ ⟨i, hi, hpi, rfl⟩ KL1 hKL1
  refine tr_sR [0, 1, 7, 8, 9] fun K hK => ?_
  refine evR_p ?_
  refine evR_z hK ?_; clear hK K
  refine tr_seq fun K5 hK5 => ?_
  refine tr_condB (fun ht1 => ?_) (fun ht1 => ?_)
  ·
   skip
   have hil : i < xs.length := by omega
   replace hq := And.intro hq (hil)
   refine skipZ ?_
   refine hK5 _ ?_
   refine tr_seq fun K6 hK6 => ?_
   refine tr_block ?_
   refine tr_sR [0, 1, 5, 7, 8] fun K hK => ?_
   iterate 2 refine evR_p ?_
   refine evR_z hK ?_; clear hK K
   refine tr_sR [0, 1, 5, 7, 8, 16] fun K hK => ?_
   iterate 5 refine evR_p ?_
   refine evR_c (hc := (hp _ (getD_mem hil))) (k := ?_)
   refine evR_z hK ?_; clear hK K
   refine tr_condB (fun ht2 => ?_) (fun ht2 => ?_)
   ·
    skip
    refine tr_sR [4] fun K hK => ?_
    iterate 2 refine evR_p ?_
    refine evR_z hK ?_; clear hK K
    refine retZ ?_; try exact ⟨⟩
    all_goals (first | (simp [idxOf_at p 0 xs i (by omega) hpi (by assumption)]; done) | (simp [idxOf_none p xs (all_false 0 hpi (by omega))]; done))
   ·
    skip
    refine skipZ ?_
    refine hK6 _ ?_
    refine tr_region [0, 1, 7, 8] rfl rfl fun K hK => ?_
    iterate 2 refine evR_p ?_
    refine evR_e hK ?_; clear hK K
    refine hKL1 _ ?_
    exact ⟨m - 1, _, by omega, Wk.refl _, i + 1, by omega, step_false hpi (by assumption), by rw [w64 (by omega)]; rfl⟩
  ·
   skip
   have hil : i = xs.length := by omega
   refine tr_exit ?_
   simp only [thenE, inBlkE, Nat.reduceEqDiff, ↓reduceIte]
   refine hK2 _ ?_
   refine tr_sR [4] fun K hK => ?_
   refine evR_p ?_
   refine evR_z hK ?_; clear hK K
   refine retZ ?_; try exact ⟨⟩
   all_goals (first | (simp [idxOf_at p 0 xs i (by omega) hpi (by assumption)]; done) | (simp [idxOf_none p xs (all_false 0 hpi (by omega))]; done))

theorem ca41 (xs : List Int) (f : FuncId) (caps : List V) (p : Int → Bool) (hf : okF Tryz.prog f = true) (hcl : V.clL caps = true) (hp : ∀ x ∈ xs, CallsA Tryz.prog f (V.int .i64 x :: caps) (.bool (p x))) (hm : xs.length ≤ maxLen) : CallsA Tryz.prog 71 [.sl 1 (encI xs), .fn f caps] (.bool (xs.any p)) := by
 have hq := hcl
 refine callsA_of_tr Tryz.func71 rfl (Nat.le_of_ble_eq_true rfl) ?_
 simp only [Tryz.results71, envOf, Nat.reduceAdd]
 refine tr_sR [0, 1] fun K hK => ?_
 refine evR_p ?_
 refine evR_z hK ?_; clear hK K
 refine tr_sR [4] fun K hK => ?_
 iterate 2 refine evR_p ?_
 refine evR_c (hc := (ca58 _ _ _ p hf hcl hp hm)) (k := ?_)
 iterate 2 refine evR_p ?_
 refine evR_z hK ?_; clear hK K
 refine retZ ?_; try exact ⟨⟩
 all_goals (simp [idxOf_ge])

theorem ca13 (a : List Int) (ha : a.length = 16) : CallsA Tryz.prog 39 [.agg (cellsI a)] (.bool (validA a)) := by
 have hq := ha
 refine callsA_of_tr Tryz.func39 rfl (Nat.le_of_ble_eq_true rfl) ?_
 simp only [Tryz.results39, envOf, Nat.reduceAdd]
 refine tr_sR [1] fun K hK => ?_
 iterate 2 refine evR_p ?_
 refine evR_z hK ?_; clear hK K
 refine tr_sR [2] fun K hK => ?_
 refine evR_p ?_
 refine evR_c (hc := (ca41 a 72 [] (fun x => decide (x < 0) || decide (65535 < x)) okF_72 rfl (fun x _ => ca42 x) (by simp [maxLen, ha]))) (k := ?_)
 iterate 2 refine evR_p ?_
 refine evR_z hK ?_; clear hK K
 refine retZ ?_; try exact ⟨⟩
 all_goals (simp [validA])

theorem ca45 (x y : Int) : CallsA Tryz.prog 86 [.int .i64 x, .int .i64 y] (.int .i64 (bitsV .or .i64 x y)) := by
 have hq : True := trivial
 refine callsA_of_tr Tryz.func86 rfl (Nat.le_of_ble_eq_true rfl) ?_
 simp only [Tryz.results86, envOf, Nat.reduceAdd]
 refine tr_sR [0, 1] fun K hK => ?_
 refine evR_p ?_
 refine evR_z hK ?_; clear hK K
 refine tr_sR [4] fun K hK => ?_
 iterate 4 refine evR_p ?_
 refine evR_z hK ?_; clear hK K
 refine retZ ?_; try exact ⟨⟩
 all_goals (simp)

theorem ca47 (x y : Int) : CallsA Tryz.prog 59 [.int .i64 x, .int .i64 y] (.int .i64 (bitsV .andNot .i64 x y)) := by
 have hq : True := trivial
 refine callsA_of_tr Tryz.func59 rfl (Nat.le_of_ble_eq_true rfl) ?_
 simp only [Tryz.results59, envOf, Nat.reduceAdd]
 refine tr_sR [0, 1] fun K hK => ?_
 refine evR_p ?_
 refine evR_z hK ?_; clear hK K
 refine tr_sR [4] fun K hK => ?_
 iterate 4 refine evR_p ?_
 refine evR_z hK ?_; clear hK K
 refine retZ ?_; try exact ⟨⟩
 all_goals (simp)

section
attribute [local go_sem] outA_length
theorem ca44 (a b : List Int) (ha : a.length = 16) (hb : b.length = 16) (f : FuncId) (caps : List V) (p : Int → Int → Int) (hf : okF Tryz.prog f = true) (hcl : V.clL caps = true) (hp : ∀ x y, CallsA Tryz.prog f (V.int .i64 x :: V.int .i64 y :: caps) (.int .i64 (p x y))) : CallsA Tryz.prog 58 [.agg (cellsI a), .agg (cellsI b), .fn f caps] (.agg (cellsI (eachA p a b))) := by
 have hq := And.intro hcl (And.intro ha (hb))
 refine callsA_of_tr Tryz.func58 rfl (Nat.le_of_ble_eq_true rfl) ?_
 simp only [Tryz.results58, envOf, Nat.reduceAdd]
 refine tr_sR [2, 3, 4, 6] fun K hK => ?_
 iterate 3 refine evR_p ?_
 refine evR_z hK ?_; clear hK K
 refine tr_sR [2, 3, 4, 6, 7] fun K hK => ?_
 refine evR_p ?_
 refine evR_z hK ?_; clear hK K
 refine tr_seq fun K3 hK3 => ?_
 refine tr_sR [2, 3, 4, 6, 7, 16] fun K hK => ?_
 refine evR_p ?_
 refine evR_c (hc := (ca13 _ (by assumption))) (k := ?_)
 iterate 2 refine evR_p ?_
 refine evR_g ?_
 refine evR_gc (hc := (ca13 _ (by assumption))) (k := ?_)
 refine evR_g ?_
 refine evR_p ?_
 refine evR_z hK ?_; clear hK K
 refine tr_condB (fun ht1 => ?_) (fun ht1 => ?_)
 ·
  skip
  refine tr_sR [6] fun K hK => ?_
  iterate 2 refine evR_p ?_
  refine evR_z hK ?_; clear hK K
  refine retZ ?_; try exact ⟨⟩
  all_goals ((cases hva : validA a <;> cases hvb : validA b <;> simp_all [eachA, zeros16, outA_allg]))
 ·
  skip
  refine skipZ ?_
  refine hK3 _ ?_
  refine tr_seq fun K6 hK6 => ?_
  refine tr_sR [2, 3, 4, 6, 7, 18] fun K hK => ?_
  refine evR_p ?_
  refine evR_z hK ?_; clear hK K
  refine tr_block ?_
  -- loop 1: live [2, 3, 4, 6, 7, 18]
  refine tr_loopW (fun m σ => ∃ i, i + m = 16 ∧ σ = ⟨[(2, .fn f caps), (3, .ptr 0 0), (4, .ptr 1 0), (6, .ptr 2 0), (7, .ptr 3 0), (18, .int .i64 (i : Nat))], [(3, .cells (cellsI (outA (fun j => p (a.getD j 0) (b.getD j 0)) i))), (2, .cells (cellsI (List.replicate 16 0))), (1, .cells (cellsI b)), (0, .cells (cellsI a))], 4⟩) (16) ?_ ?_
  ·
   exact ⟨_, Wk.refl _, 0, by omega, by rw [outA_zero]; rfl⟩
  ·
   rintro m σ ⟨i, hi, rfl⟩ KL1 hKL1
   refine tr_sR [2, 3, 4, 6, 7, 18, 19] fun K hK => ?_
   refine evR_p ?_
   refine evR_z hK ?_; clear hK K
   refine tr_seq fun K9 hK9 => ?_
   refine tr_condB (fun ht2 => ?_) (fun ht2 => ?_)
   ·
    skip
    have hil : i < 16 := by omega
    have hia : i < a.length := by omega
    have hib : i < b.length := by omega
    replace hq := And.intro hq (And.intro hil (And.intro hia (hib)))
    refine skipZ ?_
    refine hK9 _ ?_
    refine tr_seq fun K10 hK10 => ?_
    refine tr_block ?_
    refine tr_sR [2, 3, 4, 6, 7, 8, 18] fun K hK => ?_
    iterate 2 refine evR_p ?_
    refine evR_z hK ?_; clear hK K
    refine tr_draw [] [2, 3, 4, 6, 7, 18] mixed rfl (by kernel_rfl) rfl fun K hK => ?_
    iterate 8 refine evD_p ?_
    refine evD_c (hc := (hp _ _)) (k := ?_)
    iterate 2 refine evD_p ?_
    refine evD_e hK ?_; clear hK K
    refine hK10 _ ?_
    refine tr_region [2, 3, 4, 6, 7, 18] rfl rfl fun K hK => ?_
    iterate 2 refine evR_p ?_
    refine evR_e hK ?_; clear hK K
    refine hKL1 _ ?_
    exact ⟨m - 1, _, by omega, Wk.refl _, i + 1, by omega, by rw [w64 (by omega), outA_set _ (by omega)]; rfl⟩
   ·
    skip
    have hil : i = 16 := by omega
    subst hil
    refine tr_exit ?_
    simp only [thenE, inBlkE, Nat.reduceEqDiff, ↓reduceIte]
    refine hK6 _ ?_
    refine tr_sR [6] fun K hK => ?_
    iterate 2 refine evR_p ?_
    refine evR_z hK ?_; clear hK K
    refine retZ ?_; try exact ⟨⟩
    all_goals ((cases hva : validA a <;> cases hvb : validA b <;> simp_all [eachA, zeros16, outA_allg]))
end

section
attribute [local go_sem] eachA_length
theorem ca17 (a b : List Int) (ha : a.length = 16) (hb : b.length = 16) : CallsA Tryz.prog 60 [.agg (cellsI a), .agg (cellsI b)] (.agg (cellsI (eachA (bitsV .or .i64) a b))) := by
 have hq := And.intro ha (hb)
 refine callsA_of_tr Tryz.func60 rfl (Nat.le_of_ble_eq_true rfl) ?_
 simp only [Tryz.results60, envOf, Nat.reduceAdd]
 refine tr_sR [2, 3, 4] fun K hK => ?_
 iterate 3 refine evR_p ?_
 refine evR_z hK ?_; clear hK K
 refine tr_sR [4] fun K hK => ?_
 iterate 2 refine evR_p ?_
 refine evR_c (hc := (ca44 a b ha hb 86 [] _ okF_86 rfl (fun x y => ca45 x y))) (k := ?_)
 refine evR_p ?_
 refine evR_z hK ?_; clear hK K
 refine retZ ?_; try exact ⟨⟩
 all_goals (simp [V.cl, cellsI_cl])
end


section
attribute [local go_sem] eachA_length
theorem ca21 (a b : List Int) (ha : a.length = 16) (hb : b.length = 16) : CallsA Tryz.prog 30 [.agg (cellsI a), .agg (cellsI b)] (.agg (cellsI (eachA (bitsV .andNot .i64) a b))) := by
 have hq := And.intro ha (hb)
 refine callsA_of_tr Tryz.func30 rfl (Nat.le_of_ble_eq_true rfl) ?_
 simp only [Tryz.results30, envOf, Nat.reduceAdd]
 refine tr_sR [2, 3, 4] fun K hK => ?_
 iterate 3 refine evR_p ?_
 refine evR_z hK ?_; clear hK K
 refine tr_sR [4] fun K hK => ?_
 iterate 2 refine evR_p ?_
 refine evR_c (hc := (ca44 a b ha hb 59 [] _ okF_59 rfl (fun x y => ca47 x y))) (k := ?_)
 refine evR_p ?_
 refine evR_z hK ?_; clear hK K
 refine retZ ?_; try exact ⟨⟩
 all_goals (simp [V.cl, cellsI_cl])
end


theorem ca25 (a : List Int) (ha : a.length = 16) (x y : Int) : CallsA Tryz.prog 34 [.agg (cellsI a), .int .i64 x, .int .i64 y] (.bool (hasA a x y)) := by
 have hmv := minV_le x y
 have hMv := maxV_ge x y
 have hq := ha
 refine callsA_of_tr Tryz.func34 rfl (Nat.le_of_ble_eq_true rfl) ?_
 simp only [Tryz.results34, envOf, Nat.reduceAdd]
 refine tr_sR [1, 2, 3] fun K hK => ?_
 iterate 2 refine evR_p ?_
 refine evR_z hK ?_; clear hK K
 refine tr_sR [6] fun K hK => ?_
 refine evR_p ?_
 refine evR_c (hc := (ca13 _ (by assumption))) (k := ?_)
 refine evR_p ?_
 iterate 4 refine evR_g ?_
 iterate 2 refine evR_p ?_
 iterate 4 refine evR_g ?_
 iterate 2 refine evR_p ?_
 iterate 7 refine evR_g ?_
 iterate 2 refine evR_p ?_
 refine evR_z hK ?_; clear hK K
 refine retZ ?_; try exact ⟨⟩
 all_goals ((simp [hasA, cellB, Bool.and_assoc]))

theorem ca17u (a b : List Int) (ha : a.length = 16) (hb : b.length = 16) : CallsA Tryz.prog 60 [.agg (cellsI a), .agg (cellsI b)] (.agg (cellsI (unionA a b))) := ca17 a b ha hb
theorem ca21u (a b : List Int) (ha : a.length = 16) (hb : b.length = 16) : CallsA Tryz.prog 30 [.agg (cellsI a), .agg (cellsI b)] (.agg (cellsI (minusA a b))) := ca21 a b ha hb
theorem ca60 (x : Int) : CallsA Tryz.prog 75 [.int .u64 x] (.int .i64 (onesW x)) := by
 have hq : True := trivial
 refine callsA_of_tr Tryz.func75 rfl (Nat.le_of_ble_eq_true rfl) ?_
 simp only [Tryz.results75, envOf, Nat.reduceAdd]
 refine tr_sR [0] fun K hK => ?_
 refine evR_p ?_
 refine evR_z hK ?_; clear hK K
 refine tr_sR [0] fun K hK => ?_
 iterate 7 refine evR_p ?_
 refine evR_z hK ?_; clear hK K
 refine tr_sR [0] fun K hK => ?_
 iterate 7 refine evR_p ?_
 refine evR_z hK ?_; clear hK K
 refine tr_sR [0] fun K hK => ?_
 iterate 6 refine evR_p ?_
 refine evR_z hK ?_; clear hK K
 refine tr_sR [0] fun K hK => ?_
 iterate 5 refine evR_p ?_
 refine evR_z hK ?_; clear hK K
 refine tr_sR [0] fun K hK => ?_
 iterate 5 refine evR_p ?_
 refine evR_z hK ?_; clear hK K
 refine tr_sR [0] fun K hK => ?_
 iterate 5 refine evR_p ?_
 refine evR_z hK ?_; clear hK K
 refine tr_sR [2] fun K hK => ?_
 iterate 4 refine evR_p ?_
 refine evR_z hK ?_; clear hK K
 refine retZ ?_; try exact ⟨⟩
 all_goals (rfl)

theorem ca43 (x : Int) : CallsA Tryz.prog 46 [.int .u64 x] (.int .i64 (onesW x)) := by
 have hq : True := trivial
 refine callsA_of_tr Tryz.func46 rfl (Nat.le_of_ble_eq_true rfl) ?_
 simp only [Tryz.results46, envOf, Nat.reduceAdd]
 refine tr_sR [0] fun K hK => ?_
 refine evR_p ?_
 refine evR_z hK ?_; clear hK K
 refine tr_seq fun K2 hK2 => ?_
 refine tr_cond rfl (fun h => by cases h) (fun _ => ?_)
 refine skipZ ?_
 refine hK2 _ ?_
 refine tr_sR [2] fun K hK => ?_
 refine evR_p ?_
 refine evR_c (hc := (ca60 _)) (k := ?_)
 refine evR_p ?_
 refine evR_z hK ?_; clear hK K
 refine retZ ?_; try exact ⟨⟩
 all_goals (simp)

theorem ca39 (x y : Int) (hx : 0 ≤ x ∧ x < 16) (hy : 0 ≤ y ∧ y < 16) : CallsA Tryz.prog 55 [.int .i64 x, .int .i64 y] (.agg [.int .i64 (4 * x + 2), .int .i64 (4 * y + 2)]) := by
 have hw1 : IntKind.i64.wrap (4 * x) = 4 * x := w64 (by omega)
 have hw2 : IntKind.i64.wrap (4 * x + 2) = 4 * x + 2 := w64 (by omega)
 have hw3 : IntKind.i64.wrap (4 * y) = 4 * y := w64 (by omega)
 have hw4 : IntKind.i64.wrap (4 * y + 2) = 4 * y + 2 := w64 (by omega)
 have hq := And.intro hw1 (And.intro hw2 (And.intro hw3 (hw4)))
 refine callsA_of_tr Tryz.func55 rfl (Nat.le_of_ble_eq_true rfl) ?_
 simp only [Tryz.results55, envOf, Nat.reduceAdd]
 refine tr_sR [0, 1, 4] fun K hK => ?_
 refine evR_p ?_
 refine evR_z hK ?_; clear hK K
 refine tr_sR [4] fun K hK => ?_
 iterate 8 refine evR_p ?_
 refine evR_z hK ?_; clear hK K
 refine retZ ?_; try exact ⟨⟩
 all_goals (simp)

theorem ca30 (p : Pl) : CallsA Tryz.prog 52 [.agg [.int .i64 p.x, .int .i64 p.y]] (.agg [.int .i64 (placeP p).x, .int .i64 (placeP p).y]) := by
 have hq : True := trivial
 refine callsA_of_tr Tryz.func52 rfl (Nat.le_of_ble_eq_true rfl) ?_
 simp only [Tryz.results52, envOf, Nat.reduceAdd]
 refine tr_sR [1, 2] fun K hK => ?_
 iterate 2 refine evR_p ?_
 refine evR_z hK ?_; clear hK K
 refine tr_sD [] [2] fun K hK => ?_
 iterate 2 refine evD_p ?_
 refine evD_c (hc := (ca40 _ _ (by decide))) (k := ?_)
 iterate 2 refine evD_p ?_
 refine evD_c (hc := (ca40 _ _ (by decide))) (k := ?_)
 iterate 2 refine evD_p ?_
 refine evD_z hK ?_; clear hK K
 refine retZ ?_; try exact ⟨⟩
 all_goals (simp [placeP])

theorem ca29 (l : List Pl) (hm : l.length ≤ maxLen) : CallsA Tryz.prog 29 [.sl 2 (encP l)] (.sl 2 (encP (madeP l))) := by
 unfold maxLen at hm
 have hq : True := trivial
 refine callsA_of_tr Tryz.func29 rfl (Nat.le_of_ble_eq_true rfl) ?_
 simp only [Tryz.results29, envOf, Nat.reduceAdd]
 refine tr_sR [0] fun K hK => ?_
 refine evR_p ?_
 refine evR_z hK ?_; clear hK K
 refine tr_sR [0, 3] fun K hK => ?_
 refine evR_p ?_
 refine evR_z hK ?_; clear hK K
 refine tr_seq fun K3 hK3 => ?_
 refine tr_sR [0, 3, 4] fun K hK => ?_
 refine evR_p ?_
 refine evR_z hK ?_; clear hK K
 refine tr_block ?_
 -- loop 1: live [0, 3, 4]
 refine tr_loopW (fun m σ => ∃ i, i + m = min l.length 9 ∧ ((i = 0 ∧ σ = ⟨[(0, .sl 2 (encP l)), (3, .nsl), (4, .int .i64 (i : Nat))], [], 0⟩) ∨ (0 < i ∧ σ = ⟨[(0, .sl 2 (encP l)), (3, .own 0), (4, .int .i64 (i : Nat))], [(0, .row 60 2 (encP ((l.take i).map placeP)))], 1⟩))) (min l.length 9) ?_ ?_
 ·
  exact ⟨_, Wk.refl _, 0, by omega, .inl ⟨rfl, rfl⟩⟩
 ·
  rintro m σ ⟨i, hi, (⟨hi0, rfl⟩ | ⟨hi0, rfl⟩)⟩ KL1 hKL1
  all_goals
   refine tr_seq fun K5 hK5 => ?_
   refine tr_sR [0, 3, 4, 13] fun K hK => ?_
   iterate 5 refine evR_p ?_
   iterate 2 refine evR_g ?_
   refine evR_p ?_
   refine evR_z hK ?_; clear hK K
   refine tr_condB (fun ht1 => ?_) (fun ht1 => ?_)
   ·
    skip
    have hil : i < l.length := by omega
    replace hq := And.intro hq (hil)
    refine skipZ ?_
    refine hK5 _ ?_
    refine tr_seq fun K7 hK7 => ?_
    refine tr_block ?_
    refine tr_region [0, 3, 4] rfl rfl fun K hK => ?_
    iterate 5 refine evR_p ?_
    refine evR_c (hc := (ca30 _)) (k := ?_)
    refine evR_bo ?_
    iterate 2 refine evR_p ?_
    refine evR_e hK ?_; clear hK K
    refine hK7 _ ?_
    refine tr_region [0, 3, 4] rfl rfl fun K hK => ?_
    iterate 3 refine evR_p ?_
    refine evR_e hK ?_; clear hK K
    refine hKL1 _ ?_
    refine ⟨m - 1, _, by omega, ((Wk.drop (fun k => Nat.beq k 2)).trans ((Wk.ren 2 0 (Nat.le_of_ble_eq_true rfl) (Nat.le_of_ble_eq_true rfl) rfl).trans (Wk.cut 1 rfl))), i + 1, by omega, .inr ⟨by omega, ?_⟩⟩
    rw [take_snoc placeP ⟨0, 0⟩ hil, encP_snoc, w64 (by omega)]
    first | rfl | (subst hi0; rfl)
   ·
    skip
    have hil : i = min l.length 9 := by omega
    have he9 : l.take i = l.take 9 := by
     rcases Nat.lt_or_ge l.length 9 with h | h
     ·
      rw [List.take_of_length_le (by omega), List.take_of_length_le (by omega)]
     ·
      rw [show i = 9 by omega]
    have hln : ((l.take 9).map placeP).length = i := by simp; omega
    have hle : (encP ((l.take 9).map placeP)).length = i := by simp; omega
    (try simp only [he9])
    refine tr_exit ?_
    simp only [thenE, inBlkE, Nat.reduceEqDiff, ↓reduceIte]
    refine hK3 _ ?_
    refine tr_seq fun K8 hK8 => ?_
    refine tr_sR [3, 5] fun K hK => ?_
    iterate 3 refine evR_p ?_
    refine evR_z hK ?_; clear hK K
    refine tr_block ?_
    -- loop 2: live [3, 5]
    refine tr_loopW (fun m σ => ∃ j, j + m = max 3 i ∧ i ≤ j ∧ ((j = 0 ∧ σ = ⟨[(3, .nsl), (5, .int .i64 (j : Nat))], [], 0⟩) ∨ (0 < j ∧ σ = ⟨[(3, .own 0), (5, .int .i64 (j : Nat))], [(0, .row 60 2 (encP (padP ((l.take 9).map placeP) j)))], 1⟩))) (max 3 i - i) ?_ ?_
    ·
     exact ⟨_, Wk.refl _, i, by omega, Nat.le_refl _, (by first | (refine .inl ⟨hi0, ?_⟩; subst hi0; rfl) | (refine .inr ⟨hi0, ?_⟩; rw [padP_self _ (by omega)]; simp only [hle, hln]; done) | (refine .inr ⟨hi0, ?_⟩; rw [padP_self _ (by omega)]; simp; omega))⟩
    ·
     rintro m2 σ ⟨j, hj, hij, (⟨hj0, rfl⟩ | ⟨hj0, rfl⟩)⟩ KL2 hKL2
     all_goals
      refine tr_seq fun K10 hK10 => ?_
      refine tr_sR [3, 5, 27] fun K hK => ?_
      iterate 2 refine evR_p ?_
      refine evR_z hK ?_; clear hK K
      refine tr_condB (fun ht2 => ?_) (fun ht2 => ?_)
      ·
       skip
       have hjl : j < 3 := by omega
       have hjm : (j : Int).tmod 2 = (j : Int) % 2 := Int.tmod_eq_emod_of_nonneg (by omega)
       have hw1 : IntKind.i64.wrap (20 * (j : Int)) = 20 * (j : Int) := w64 (by omega)
       have hw2 : IntKind.i64.wrap (30 * (j : Int).tmod 2) = 30 * (j : Int).tmod 2 := w64 (by omega)
       replace hq := And.intro hq (And.intro hw1 (hw2))
       refine skipZ ?_
       refine hK10 _ ?_
       refine tr_seq fun K12 hK12 => ?_
       refine tr_block ?_
       refine tr_region [3, 5] rfl rfl fun K hK => ?_
       iterate 7 refine evR_p ?_
       refine evR_bo ?_
       iterate 2 refine evR_p ?_
       refine evR_e hK ?_; clear hK K
       refine hK12 _ ?_
       refine tr_region [3, 5] rfl rfl fun K hK => ?_
       iterate 3 refine evR_p ?_
       refine evR_e hK ?_; clear hK K
       refine hKL2 _ ?_
       refine ⟨m2 - 1, _, by omega, ((Wk.drop (fun k => Nat.beq k 2)).trans ((Wk.ren 2 0 (Nat.le_of_ble_eq_true rfl) (Nat.le_of_ble_eq_true rfl) rfl).trans (Wk.cut 1 rfl))), j + 1, by omega, by omega, .inr ⟨by omega, ?_⟩⟩
       rw [padP_snoc _ (by omega), encP_snoc, w64 (by omega)]
       first | rfl | (have e : l = [] := List.eq_nil_of_length_eq_zero (by omega); subst e; subst hj0; rfl)
      ·
       skip
       have hjl : j = max 3 i := by omega
       refine tr_exit ?_
       simp only [thenE, inBlkE, Nat.reduceEqDiff, ↓reduceIte]
       refine hK8 _ ?_
       refine tr_sR [2] fun K hK => ?_
       iterate 2 refine evR_p ?_
       refine evR_z hK ?_; clear hK K
       refine retZ ?_; try exact ⟨⟩
       all_goals ((first | omega | (rw [hjl]; simp only [madeP, hln]; done)))

theorem ca54 (p : Pl) : CallsA Tryz.prog 54 [.agg [.int .i64 p.x, .int .i64 p.y]] (.bool (onMap p)) := by
 have hq : True := trivial
 refine callsA_of_tr Tryz.func54 rfl (Nat.le_of_ble_eq_true rfl) ?_
 simp only [Tryz.results54, envOf, Nat.reduceAdd]
 refine tr_sR [1] fun K hK => ?_
 iterate 2 refine evR_p ?_
 refine evR_z hK ?_; clear hK K
 refine tr_sR [2] fun K hK => ?_
 iterate 4 refine evR_p ?_
 iterate 3 refine evR_g ?_
 iterate 2 refine evR_p ?_
 iterate 3 refine evR_g ?_
 iterate 2 refine evR_p ?_
 iterate 3 refine evR_g ?_
 iterate 2 refine evR_p ?_
 refine evR_z hK ?_; clear hK K
 refine retZ ?_; try exact ⟨⟩
 all_goals ((simp [onMap_iff]))

theorem ca34 (l : List Pl) (hm : l.length ≤ maxLen) : CallsA Tryz.prog 56 [.sl 2 (encP l)] (.bool (validP l)) := by
 unfold maxLen at hm
 have hq : True := trivial
 refine callsA_of_tr Tryz.func56 rfl (Nat.le_of_ble_eq_true rfl) ?_
 simp only [Tryz.results56, envOf, Nat.reduceAdd]
 refine tr_sR [0] fun K hK => ?_
 refine evR_p ?_
 refine evR_z hK ?_; clear hK K
 refine tr_seq fun K2 hK2 => ?_
 refine tr_sR [0, 11] fun K hK => ?_
 iterate 4 refine evR_p ?_
 iterate 3 refine evR_g ?_
 refine evR_p ?_
 refine evR_z hK ?_; clear hK K
 refine tr_condB (fun ht1 => ?_) (fun ht1 => ?_)
 ·
  skip
  refine tr_sR [2] fun K hK => ?_
  refine evR_p ?_
  refine evR_z hK ?_; clear hK K
  refine retZ ?_; try exact ⟨⟩
  all_goals ((first | (rw [poly_len_bad (by assumption)]; done) | (rw [poly_el_bad hil (by assumption)]; done) | (rw [poly_ok (by assumption) hall]; done)))
 ·
  skip
  refine skipZ ?_
  refine hK2 _ ?_
  refine tr_seq fun K5 hK5 => ?_
  refine tr_sR [0, 3] fun K hK => ?_
  refine evR_p ?_
  refine evR_z hK ?_; clear hK K
  refine tr_block ?_
  -- loop 1: live [0, 3]
  refine tr_loopW (fun m σ => ∃ i, i + m = l.length ∧ (∀ j, j < i → onMap (l.getD j ⟨0, 0⟩) = true) ∧ σ = ⟨[(0, .sl 2 (encP l)), (3, .int .i64 (i : Nat))], [], 0⟩) (l.length) ?_ ?_
  ·
   exact ⟨_, Wk.refl _, 0, by omega, (by intro j hj; omega), rfl⟩
  ·
   rintro m σ ⟨i, hi, hall, rfl⟩ KL1 hKL1
   refine tr_seq fun K7 hK7 => ?_
   refine tr_sR [0, 3, 15] fun K hK => ?_
   iterate 4 refine evR_p ?_
   refine evR_z hK ?_; clear hK K
   refine tr_condB (fun ht2 => ?_) (fun ht2 => ?_)
   ·
    skip
    have hil : i < l.length := by omega
    replace hq := And.intro hq (hil)
    refine skipZ ?_
    refine hK7 _ ?_
    refine tr_seq fun K9 hK9 => ?_
    refine tr_block ?_
    refine tr_sR [0, 3, 23] fun K hK => ?_
    iterate 4 refine evR_p ?_
    refine evR_c (hc := (ca54 _)) (k := ?_)
    refine evR_p ?_
    refine evR_z hK ?_; clear hK K
    refine tr_condB (fun ht3 => ?_) (fun ht3 => ?_)
    ·
     skip
     refine tr_sR [2] fun K hK => ?_
     refine evR_p ?_
     refine evR_z hK ?_; clear hK K
     refine retZ ?_; try exact ⟨⟩
     all_goals ((first | (rw [poly_len_bad (by assumption)]; done) | (rw [poly_el_bad hil (by assumption)]; done) | (rw [poly_ok (by assumption) hall]; done)))
    ·
     skip
     refine skipZ ?_
     refine hK9 _ ?_
     refine tr_region [0, 3] rfl rfl fun K hK => ?_
     iterate 3 refine evR_p ?_
     refine evR_e hK ?_; clear hK K
     refine hKL1 _ ?_
     exact ⟨m - 1, _, by omega, Wk.refl _, i + 1, by omega, (by intro j hj; rcases Nat.lt_or_ge j i with h | h; exact hall j h; obtain rfl : j = i := (by omega); assumption), by rw [w64 (x := (i : Int) + 1) (by omega)]; rfl⟩
   ·
    skip
    have hil : i = l.length := by omega
    subst hil
    refine tr_exit ?_
    simp only [thenE, inBlkE, Nat.reduceEqDiff, ↓reduceIte]
    refine hK5 _ ?_
    refine tr_sR [2] fun K hK => ?_
    refine evR_p ?_
    refine evR_z hK ?_; clear hK K
    refine retZ ?_; try exact ⟨⟩
    all_goals ((first | (rw [poly_len_bad (by assumption)]; done) | (rw [poly_el_bad hil (by assumption)]; done) | (rw [poly_ok (by assumption) hall]; done)))

theorem ca38 (p : Pl) (r : Int) : CallsA Tryz.prog 27 [.agg [.int .i64 p.x, .int .i64 p.y], .int .i64 r] (.tup [.agg (cellsI (discA p r).1), .int .i64 (discA p r).2]) := by
 have hq : True := trivial
 refine callsA_of_tr Tryz.func27 rfl (Nat.le_of_ble_eq_true rfl) ?_
 simp only [Tryz.results27, envOf, Nat.reduceAdd]
 refine tr_sR [1, 2, 4] fun K hK => ?_
 iterate 3 refine evR_p ?_
 refine evR_z hK ?_; clear hK K
 refine tr_sR [1, 2, 4, 6] fun K hK => ?_
 refine evR_p ?_
 refine evR_z hK ?_; clear hK K
 refine tr_seq fun K3 hK3 => ?_
 refine tr_sR [1, 2, 4, 6, 20] fun K hK => ?_
 refine evR_p ?_
 refine evR_c (hc := (ca54 p)) (k := ?_)
 iterate 2 refine evR_p ?_
 iterate 2 refine evR_g ?_
 iterate 2 refine evR_p ?_
 iterate 2 refine evR_g ?_
 refine evR_p ?_
 refine evR_z hK ?_; clear hK K
 refine tr_condB (fun ht1 => ?_) (fun ht1 => ?_)
 ·
  skip
  refine tr_sR [4, 5] fun K hK => ?_
  iterate 3 refine evR_p ?_
  refine evR_z hK ?_; clear hK K
  refine retZ ?_; try exact ⟨⟩
  all_goals ((first | (rw [discA_bad (by assumption)]; simp [zeros16]; done) | (rw [discA_ok (by simp_all) (by omega) (by omega)]; done) | (rw [discA_ok (by simp_all) (by omega) (by omega)]; simp [cellsG]; done)))
 ·
  skip
  refine skipZ ?_
  refine hK3 _ ?_
  refine tr_seq fun K6 hK6 => ?_
  refine tr_sR [1, 2, 4, 6, 7] fun K hK => ?_
  refine evR_p ?_
  refine evR_z hK ?_; clear hK K
  refine tr_block ?_
  -- loop 1: live [1, 2, 4, 6, 7]
  refine tr_loopW (fun m σ => ∃ y : Nat, y + m = 16 ∧ σ = ⟨[(1, .int .i64 r), (2, .ptr 0 0), (4, .ptr 1 0), (6, .ptr 2 0), (7, .int .i64 y)], [(2, .cells (cellsI (outA (fun j => rowG (fun x y => nearR (ctr x y) p r) j 16) y))), (1, .cells (cellsI (List.replicate 16 0))), (0, .cells [.int .i64 p.x, .int .i64 p.y])], 3⟩) (16) ?_ ?_
  ·
   exact ⟨_, Wk.refl _, 0, by omega, by rw [outA_zero]; rfl⟩
  ·
   rintro m σ ⟨y, hi, rfl⟩ KL1 hKL1
   refine tr_seq fun K8 hK8 => ?_
   refine tr_sR [1, 2, 4, 6, 7, 23] fun K hK => ?_
   iterate 2 refine evR_p ?_
   refine evR_z hK ?_; clear hK K
   refine tr_condB (fun ht2 => ?_) (fun ht2 => ?_)
   ·
    skip
    have hil : y < 16 := by omega
    refine skipZ ?_
    refine hK8 _ ?_
    refine tr_seq fun K10 hK10 => ?_
    refine tr_block ?_
    refine tr_sR [1, 2, 4, 6, 7, 8] fun K hK => ?_
    refine evR_p ?_
    refine evR_z hK ?_; clear hK K
    refine tr_block ?_
    -- loop 2: live [1, 2, 4, 6, 7, 8]
    refine tr_loopW (fun m σ => ∃ x : Nat, x + m = 16 ∧ σ = ⟨[(1, .int .i64 r), (2, .ptr 0 0), (4, .ptr 1 0), (6, .ptr 2 0), (7, .int .i64 y), (8, .int .i64 x)], [(2, .cells (cellsI ((outA (fun j => rowG (fun x y => nearR (ctr x y) p r) j 16) y).set y (rowG (fun x y => nearR (ctr x y) p r) y x)))), (1, .cells (cellsI (List.replicate 16 0))), (0, .cells [.int .i64 p.x, .int .i64 p.y])], 3⟩) (16) ?_ ?_
    ·
     exact ⟨_, Wk.refl _, 0, by omega, by rw [outR_zero (fun x y => nearR (ctr x y) p r) hil]; rfl⟩
    ·
     rintro m2 σ ⟨x, hx, rfl⟩ KL2 hKL2
     refine tr_seq fun K12 hK12 => ?_
     refine tr_sR [1, 2, 4, 6, 7, 8, 27] fun K hK => ?_
     iterate 2 refine evR_p ?_
     refine evR_z hK ?_; clear hK K
     refine tr_condB (fun ht3 => ?_) (fun ht3 => ?_)
     ·
      skip
      have hxl : x < 16 := by omega
      have hw := near_wrap (q := ctr x y) (p := p) (r := r) (ctr_on hxl hil) (by simp_all) (by omega) (by omega)
      refine skipZ ?_
      refine hK12 _ ?_
      refine tr_seq fun K14 hK14 => ?_
      refine tr_block ?_
      refine tr_sR [1, 2, 4, 6, 7, 8, 9] fun K hK => ?_
      iterate 2 refine evR_p ?_
      refine evR_c (hc := (ca39 _ _ (by omega) (by omega))) (k := ?_)
      iterate 2 refine evR_p ?_
      refine evR_z hK ?_; clear hK K
      refine tr_sR [1, 2, 4, 6, 7, 8, 59] fun K hK => ?_
      iterate 27 refine evR_p ?_
      refine evR_z hK ?_; clear hK K
      refine tr_condB (fun ht4 => ?_) (fun ht4 => ?_)
      ·
       skip
       refine tr_draw [] [1, 2, 4, 6, 7, 8] mixed rfl (by kernel_rfl) rfl fun K hK => ?_
       iterate 9 refine evD_p ?_
       refine evD_e hK ?_; clear hK K
       refine hK14 _ ?_
       refine tr_region [1, 2, 4, 6, 7, 8] rfl rfl fun K hK => ?_
       iterate 3 refine evR_p ?_
       refine evR_e hK ?_; clear hK K
       refine hKL2 _ ?_
       first
        | exact ⟨m2 - 1, _, by omega, Wk.cut 3 (by simp [St.cutOK, AObj.upto, V.upto, V.uptoL, cellsI_uptoL]), x + 1, by omega, by rw [w64 (x := (x : Int) + 1) (by omega), rowG_add (fun x y => nearR (ctr x y) p r) hxl (by first | exact hw.symm.trans (decide_eq_true ht4) | exact hw.symm.trans (decide_eq_false ht4))]; rfl⟩
        | exact ⟨m2 - 1, _, by omega, Wk.cut 3 (by simp [St.cutOK, AObj.upto, V.upto, V.uptoL, cellsI_uptoL]), x + 1, by omega, by rw [w64 (x := (x : Int) + 1) (by omega), rowG_skip (fun x y => nearR (ctr x y) p r) (by first | exact hw.symm.trans (decide_eq_true ht4) | exact hw.symm.trans (decide_eq_false ht4))]; rfl⟩
      ·
       skip
       refine skipZ ?_
       refine hK14 _ ?_
       refine tr_region [1, 2, 4, 6, 7, 8] rfl rfl fun K hK => ?_
       iterate 3 refine evR_p ?_
       refine evR_e hK ?_; clear hK K
       refine hKL2 _ ?_
       first
        | exact ⟨m2 - 1, _, by omega, Wk.cut 3 (by simp [St.cutOK, AObj.upto, V.upto, V.uptoL, cellsI_uptoL]), x + 1, by omega, by rw [w64 (x := (x : Int) + 1) (by omega), rowG_add (fun x y => nearR (ctr x y) p r) hxl (by first | exact hw.symm.trans (decide_eq_true ht4) | exact hw.symm.trans (decide_eq_false ht4))]; rfl⟩
        | exact ⟨m2 - 1, _, by omega, Wk.cut 3 (by simp [St.cutOK, AObj.upto, V.upto, V.uptoL, cellsI_uptoL]), x + 1, by omega, by rw [w64 (x := (x : Int) + 1) (by omega), rowG_skip (fun x y => nearR (ctr x y) p r) (by first | exact hw.symm.trans (decide_eq_true ht4) | exact hw.symm.trans (decide_eq_false ht4))]; rfl⟩
     ·
      skip
      have hxl : x = 16 := by omega
      subst hxl
      refine tr_exit ?_
      simp only [thenE, inBlkE, Nat.reduceEqDiff, ↓reduceIte]
      refine hK10 _ ?_
      refine tr_region [1, 2, 4, 6, 7] rfl rfl fun K hK => ?_
      iterate 3 refine evR_p ?_
      refine evR_e hK ?_; clear hK K
      refine hKL1 _ ?_
      exact ⟨m - 1, _, by omega, Wk.refl _, y + 1, by omega, by rw [w64 (x := (y : Int) + 1) (by omega), outA_set (fun j => rowG (fun x y => nearR (ctr x y) p r) j 16) hil]; rfl⟩
   ·
    skip
    have hil : y = 16 := by omega
    subst hil
    refine tr_exit ?_
    simp only [thenE, inBlkE, Nat.reduceEqDiff, ↓reduceIte]
    refine hK6 _ ?_
    refine tr_sR [4, 5] fun K hK => ?_
    iterate 3 refine evR_p ?_
    refine evR_z hK ?_; clear hK K
    refine retZ ?_; try exact ⟨⟩
    all_goals ((first | (rw [discA_bad (by assumption)]; simp [zeros16]; done) | (rw [discA_ok (by simp_all) (by omega) (by omega)]; done) | (rw [discA_ok (by simp_all) (by omega) (by omega)]; simp [cellsG]; done)))

theorem ca55 (a b p : Pl) (ha : onMap a = true) (hb : onMap b = true) (hp : onMap p = true) : CallsA Tryz.prog 84 [.agg [.int .i64 a.x, .int .i64 a.y], .agg [.int .i64 b.x, .int .i64 b.y], .agg [.int .i64 p.x, .int .i64 p.y]] (.bool (hitP a b p)) := by
 have ka := onMap_spec ha
 have kb := onMap_spec hb
 have kp := onMap_spec hp
 have hwa : IntKind.i64.wrap (IntKind.i64.wrap (b.x - a.x) * IntKind.i64.wrap (p.y - a.y)) = (b.x - a.x) * (p.y - a.y) := mulA (by omega) (by omega) (by omega) (by omega)
 have hwb : IntKind.i64.wrap (IntKind.i64.wrap (b.y - a.y) * IntKind.i64.wrap (p.x - a.x)) = (b.y - a.y) * (p.x - a.x) := mulA (by omega) (by omega) (by omega) (by omega)
 have hq := And.intro hwa (hwb)
 refine callsA_of_tr Tryz.func84 rfl (Nat.le_of_ble_eq_true rfl) ?_
 simp only [Tryz.results84, envOf, Nat.reduceAdd]
 refine tr_sR [3, 4, 5] fun K hK => ?_
 iterate 4 refine evR_p ?_
 refine evR_z hK ?_; clear hK K
 refine tr_seq fun K2 hK2 => ?_
 refine tr_sR [3, 4, 5, 29] fun K hK => ?_
 iterate 23 refine evR_p ?_
 refine evR_z hK ?_; clear hK K
 refine tr_condB (fun ht1 => ?_) (fun ht1 => ?_)
 ·
  skip
  refine tr_sR [6] fun K hK => ?_
  refine evR_p ?_
  refine evR_z hK ?_; clear hK K
  refine retZ ?_; try exact ⟨⟩
  all_goals (first | (have ht : ¬ turnP a b p = 0 := (by unfold turnP; omega); simp [hitP, ht]; done) | (have ht : turnP a b p = 0 := (by unfold turnP; omega); simp [hitP, nearP, ht]; done))
 ·
  skip
  refine skipZ ?_
  refine hK2 _ ?_
  refine tr_sR [6] fun K hK => ?_
  iterate 9 refine evR_p ?_
  iterate 8 refine evR_g ?_
  iterate 2 refine evR_p ?_
  iterate 8 refine evR_g ?_
  iterate 2 refine evR_p ?_
  iterate 8 refine evR_g ?_
  iterate 2 refine evR_p ?_
  refine evR_z hK ?_; clear hK K
  refine retZ ?_; try exact ⟨⟩
  all_goals (first | (have ht : ¬ turnP a b p = 0 := (by unfold turnP; omega); simp [hitP, ht]; done) | (have ht : turnP a b p = 0 := (by unfold turnP; omega); simp [hitP, nearP, ht]; done))

theorem ca56 (a b p : Pl) (ha : onMap a = true) (hb : onMap b = true) (hp : onMap p = true) : CallsA Tryz.prog 85 [.agg [.int .i64 a.x, .int .i64 a.y], .agg [.int .i64 b.x, .int .i64 b.y], .agg [.int .i64 p.x, .int .i64 p.y]] (.bool (crossP a b p)) := by
 have ka := onMap_spec ha
 have kb := onMap_spec hb
 have kp := onMap_spec hp
 have hw1 : IntKind.i64.wrap (b.y - a.y) = b.y - a.y := w64 (by omega)
 have hw2 : IntKind.i64.wrap (p.y - a.y) = p.y - a.y := w64 (by omega)
 have hw3 : IntKind.i64.wrap (b.x - a.x) = b.x - a.x := w64 (by omega)
 have m1 := mulB (u := a.x) (v := b.y - a.y) (by omega) (by omega) (by omega) (by omega)
 have m2 := mulB (u := p.y - a.y) (v := b.x - a.x) (by omega) (by omega) (by omega) (by omega)
 have hw4 : IntKind.i64.wrap (a.x * (b.y - a.y)) = a.x * (b.y - a.y) := w64 (by omega)
 have hw5 : IntKind.i64.wrap ((p.y - a.y) * (b.x - a.x)) = (p.y - a.y) * (b.x - a.x) := w64 (by omega)
 have hw6 : IntKind.i64.wrap (a.x * (b.y - a.y) + (p.y - a.y) * (b.x - a.x)) = meetsN a b p := w64 (by omega)
 have hw7 : IntKind.i64.wrap (p.x * (b.y - a.y)) = p.x * (b.y - a.y) := mulW1 (by omega) (by omega) (by omega) (by omega)
 have hq := And.intro hw1 (And.intro hw2 (And.intro hw3 (And.intro hw4 (And.intro hw5 (And.intro hw6 (hw7))))))
 refine callsA_of_tr Tryz.func85 rfl (Nat.le_of_ble_eq_true rfl) ?_
 simp only [Tryz.results85, envOf, Nat.reduceAdd]
 refine tr_sR [3, 4, 5] fun K hK => ?_
 iterate 4 refine evR_p ?_
 refine evR_z hK ?_; clear hK K
 refine tr_seq fun K2 hK2 => ?_
 refine tr_sR [3, 4, 5, 19] fun K hK => ?_
 iterate 11 refine evR_p ?_
 refine evR_z hK ?_; clear hK K
 refine tr_condB (fun ht1 => ?_) (fun ht1 => ?_)
 ·
  skip
  refine tr_sR [6] fun K hK => ?_
  refine evR_p ?_
  refine evR_z hK ?_; clear hK K
  refine retZ ?_; try exact ⟨⟩
  all_goals ((rw [cross_some]; first | (simp only [bne, ht1, Bool.not_true, Bool.false_and]; done) | (simp only [bne, ht1, Bool.not_false, Bool.true_and, if_pos ht2]; done) | (simp only [bne, ht1, Bool.not_false, Bool.true_and, if_neg ht2]; done)))
 ·
  skip
  refine skipZ ?_
  refine hK2 _ ?_
  refine tr_sR [3, 4, 5, 7] fun K hK => ?_
  iterate 6 refine evR_p ?_
  refine evR_z hK ?_; clear hK K
  refine tr_sR [5, 7, 8] fun K hK => ?_
  iterate 17 refine evR_p ?_
  refine evR_z hK ?_; clear hK K
  refine tr_seq fun K7 hK7 => ?_
  refine tr_sR [5, 7, 8, 42] fun K hK => ?_
  iterate 2 refine evR_p ?_
  refine evR_z hK ?_; clear hK K
  refine tr_condB (fun ht2 => ?_) (fun ht2 => ?_)
  ·
   skip
   refine tr_sR [6] fun K hK => ?_
   iterate 7 refine evR_p ?_
   refine evR_z hK ?_; clear hK K
   refine retZ ?_; try exact ⟨⟩
   all_goals ((rw [cross_some]; first | (simp only [bne, ht1, Bool.not_true, Bool.false_and]; done) | (simp only [bne, ht1, Bool.not_false, Bool.true_and, if_pos ht2]; done) | (simp only [bne, ht1, Bool.not_false, Bool.true_and, if_neg ht2]; done)))
  ·
   skip
   refine skipZ ?_
   refine hK7 _ ?_
   refine tr_sR [6] fun K hK => ?_
   iterate 7 refine evR_p ?_
   refine evR_z hK ?_; clear hK K
   refine retZ ?_; try exact ⟨⟩
   all_goals ((rw [cross_some]; first | (simp only [bne, ht1, Bool.not_true, Bool.false_and]; done) | (simp only [bne, ht1, Bool.not_false, Bool.true_and, if_pos ht2]; done) | (simp only [bne, ht1, Bool.not_false, Bool.true_and, if_neg ht2]; done)))

theorem ca36 (l : List Pl) (p : Pl) (hm : l.length ≤ maxLen) : CallsA Tryz.prog 57 [.sl 2 (encP l), .agg [.int .i64 p.x, .int .i64 p.y]] (.int .i64 (insideP l p)) := by
 have hq : True := trivial
 refine callsA_of_tr Tryz.func57 rfl (Nat.le_of_ble_eq_true rfl) ?_
 simp only [Tryz.results57, envOf, Nat.reduceAdd]
 refine tr_sR [0, 3] fun K hK => ?_
 iterate 2 refine evR_p ?_
 refine evR_z hK ?_; clear hK K
 refine tr_seq fun K2 hK2 => ?_
 refine tr_sR [0, 3, 16] fun K hK => ?_
 refine evR_p ?_
 refine evR_c (hc := (ca34 l hm)) (k := ?_)
 iterate 2 refine evR_p ?_
 refine evR_g ?_
 refine evR_gc (hc := (ca54 p)) (k := ?_)
 refine evR_g ?_
 refine evR_p ?_
 refine evR_z hK ?_; clear hK K
 refine tr_condB (fun ht1 => ?_) (fun ht1 => ?_)
 ·
  skip
  refine tr_sR [4] fun K hK => ?_
  refine evR_p ?_
  refine evR_z hK ?_; clear hK K
  refine retZ ?_; try exact ⟨⟩
  all_goals ((first | (rw [inside_bad (by assumption)]; done) | (rw [inside_hit ht1.1 ht1.2 hil (by assumption)]; done) | (rw [inside_wrap ht1.1 ht1.2 hall]; done)))
 ·
  skip
  refine skipZ ?_
  refine hK2 _ ?_
  refine tr_sR [0, 3, 5] fun K hK => ?_
  refine evR_p ?_
  refine evR_z hK ?_; clear hK K
  refine tr_seq fun K6 hK6 => ?_
  refine tr_sR [0, 3, 5, 6] fun K hK => ?_
  refine evR_p ?_
  refine evR_z hK ?_; clear hK K
  refine tr_block ?_
  -- loop 1: live [0, 3, 5, 6]
  refine tr_loopW (fun m σ => ∃ i, i + m = l.length ∧ (∀ j, j < i → hitP (l.getD j ⟨0, 0⟩) (nextP l j) p = false) ∧ σ = ⟨[(0, .sl 2 (encP l)), (3, .ptr 0 0), (5, .int .i64 ((refE l i).countP (crossE p) : Nat)), (6, .int .i64 (i : Nat))], [(0, .cells [.int .i64 p.x, .int .i64 p.y])], 1⟩) (l.length) ?_ ?_
  ·
   exact ⟨_, Wk.refl _, 0, by omega, (by intro j hj; omega), rfl⟩
  ·
   rintro m σ ⟨i, hi, hall, rfl⟩ KL1 hKL1
   refine tr_seq fun K8 hK8 => ?_
   refine tr_sR [0, 3, 5, 6, 20] fun K hK => ?_
   iterate 4 refine evR_p ?_
   refine evR_z hK ?_; clear hK K
   refine tr_condB (fun ht2 => ?_) (fun ht2 => ?_)
   ·
    skip
    have hil : i < l.length := by omega
    have hvl := validP_len ht1.1
    have hao : onMap (l.getD i ⟨0, 0⟩) = true := hvl.2.2 _ (getD_mem hil)
    have hml : (i + 1) % l.length < l.length := Nat.mod_lt _ (by omega)
    have hbo : onMap (nextP l i) = true := hvl.2.2 _ (getD_mem hml)
    have hw1 : IntKind.i64.wrap ((i : Int) + 1) = ((i + 1 : Nat) : Int) := w64 (by omega)
    have hw2 : (((i + 1 : Nat) : Int)).tmod (l.length : Int) = (((i + 1) % l.length : Nat) : Int) := rfl
    have hcl := refE_count_le l p i
    have hw3 : IntKind.i64.wrap (((refE l i).countP (crossE p) : Nat) + 1 : Int) = (((refE l i).countP (crossE p) + 1 : Nat) : Int) := w64 (by omega)
    replace hq := And.intro hq (And.intro hil (And.intro hw1 (And.intro hw2 (And.intro hw3 (hml)))))
    refine skipZ ?_
    refine hK8 _ ?_
    refine tr_seq fun K10 hK10 => ?_
    refine tr_block ?_
    refine tr_sR [0, 3, 5, 6, 7] fun K hK => ?_
    iterate 6 refine evR_p ?_
    refine evR_z hK ?_; clear hK K
    refine tr_sR [0, 3, 5, 6, 7, 8] fun K hK => ?_
    iterate 10 refine evR_p ?_
    refine evR_z hK ?_; clear hK K
    refine tr_seq fun K13 hK13 => ?_
    refine tr_sR [0, 3, 5, 6, 7, 8, 38] fun K hK => ?_
    iterate 3 refine evR_p ?_
    refine evR_c (hc := (ca55 (l.getD i ⟨0, 0⟩) (nextP l i) p hao hbo ht1.2)) (k := ?_)
    refine evR_z hK ?_; clear hK K
    refine tr_condB (fun ht3 => ?_) (fun ht3 => ?_)
    ·
     skip
     refine tr_sR [4] fun K hK => ?_
     refine evR_p ?_
     refine evR_z hK ?_; clear hK K
     refine retZ ?_; try exact ⟨⟩
     all_goals ((first | (rw [inside_bad (by assumption)]; done) | (rw [inside_hit ht1.1 ht1.2 hil (by assumption)]; done) | (rw [inside_wrap ht1.1 ht1.2 hall]; done)))
    ·
     skip
     refine skipZ ?_
     refine hK13 _ ?_
     refine tr_sR [0, 3, 5, 6, 42] fun K hK => ?_
     iterate 3 refine evR_p ?_
     refine evR_c (hc := (ca56 (l.getD i ⟨0, 0⟩) (nextP l i) p hao hbo ht1.2)) (k := ?_)
     refine evR_z hK ?_; clear hK K
     refine tr_condB (fun ht4 => ?_) (fun ht4 => ?_)
     ·
      skip
      refine tr_region [0, 3, 5, 6] rfl rfl fun K hK => ?_
      iterate 3 refine evR_p ?_
      refine evR_e hK ?_; clear hK K
      refine hK10 _ ?_
      refine tr_region [0, 3, 5, 6] rfl rfl fun K hK => ?_
      iterate 3 refine evR_p ?_
      refine evR_e hK ?_; clear hK K
      refine hKL1 _ ?_
      first
       | exact ⟨m - 1, _, by omega, Wk.cut 1 rfl, i + 1, by omega, (by intro j hj; rcases Nat.lt_or_ge j i with h | h; exact hall j h; obtain rfl : j = i := (by omega); assumption), by rw [refE_t (by assumption)]; rfl⟩
       | exact ⟨m - 1, _, by omega, Wk.cut 1 rfl, i + 1, by omega, (by intro j hj; rcases Nat.lt_or_ge j i with h | h; exact hall j h; obtain rfl : j = i := (by omega); assumption), by rw [refE_f (by assumption)]; rfl⟩
     ·
      skip
      refine skipZ ?_
      refine hK10 _ ?_
      refine tr_region [0, 3, 5, 6] rfl rfl fun K hK => ?_
      iterate 3 refine evR_p ?_
      refine evR_e hK ?_; clear hK K
      refine hKL1 _ ?_
      first
       | exact ⟨m - 1, _, by omega, Wk.cut 1 rfl, i + 1, by omega, (by intro j hj; rcases Nat.lt_or_ge j i with h | h; exact hall j h; obtain rfl : j = i := (by omega); assumption), by rw [refE_t (by assumption)]; rfl⟩
       | exact ⟨m - 1, _, by omega, Wk.cut 1 rfl, i + 1, by omega, (by intro j hj; rcases Nat.lt_or_ge j i with h | h; exact hall j h; obtain rfl : j = i := (by omega); assumption), by rw [refE_f (by assumption)]; rfl⟩
   ·
    skip
    have hil : i = l.length := by omega
    subst hil
    refine tr_exit ?_
    simp only [thenE, inBlkE, Nat.reduceEqDiff, ↓reduceIte]
    refine hK6 _ ?_
    refine tr_sR [4] fun K hK => ?_
    iterate 5 refine evR_p ?_
    refine evR_z hK ?_; clear hK K
    refine retZ ?_; try exact ⟨⟩
    all_goals ((first | (rw [inside_bad (by assumption)]; done) | (rw [inside_hit ht1.1 ht1.2 hil (by assumption)]; done) | (rw [inside_wrap ht1.1 ht1.2 hall]; done)))

theorem ca32 (l : List Pl) (hm : l.length ≤ maxLen) : CallsA Tryz.prog 28 [.sl 2 (encP l)] (.tup [.agg (cellsI (polyA l).1), .int .i64 (polyA l).2]) := by
 have hq : True := trivial
 refine callsA_of_tr Tryz.func28 rfl (Nat.le_of_ble_eq_true rfl) ?_
 simp only [Tryz.results28, envOf, Nat.reduceAdd]
 refine tr_sR [0, 2] fun K hK => ?_
 iterate 2 refine evR_p ?_
 refine evR_z hK ?_; clear hK K
 refine tr_sR [0, 2, 4] fun K hK => ?_
 refine evR_p ?_
 refine evR_z hK ?_; clear hK K
 refine tr_seq fun K3 hK3 => ?_
 refine tr_sR [0, 2, 4, 9] fun K hK => ?_
 refine evR_p ?_
 refine evR_c (hc := (ca34 l hm)) (k := ?_)
 refine evR_p ?_
 refine evR_z hK ?_; clear hK K
 refine tr_condB (fun ht1 => ?_) (fun ht1 => ?_)
 ·
  skip
  refine tr_sR [2, 3] fun K hK => ?_
  iterate 3 refine evR_p ?_
  refine evR_z hK ?_; clear hK K
  refine retZ ?_; try exact ⟨⟩
  all_goals ((first | (simp_all [polyA, zeros16]; done) | (simp_all [polyA, cellsG]; done)))
 ·
  skip
  refine skipZ ?_
  refine hK3 _ ?_
  refine tr_seq fun K6 hK6 => ?_
  refine tr_sR [0, 2, 4, 5] fun K hK => ?_
  refine evR_p ?_
  refine evR_z hK ?_; clear hK K
  refine tr_block ?_
  -- loop 1: live [0, 2, 4, 5]
  refine tr_loopW (fun m σ => ∃ y : Nat, y + m = 16 ∧ σ = ⟨[(0, .sl 2 (encP l)), (2, .ptr 0 0), (4, .ptr 1 0), (5, .int .i64 y)], [(1, .cells (cellsI (outA (fun j => rowG (fun x y => decide (0 ≤ sideP l (ctr x y))) j 16) y))), (0, .cells (cellsI (List.replicate 16 0)))], 2⟩) (16) ?_ ?_
  ·
   exact ⟨_, Wk.refl _, 0, by omega, by rw [outA_zero]; rfl⟩
  ·
   rintro m σ ⟨y, hi, rfl⟩ KL1 hKL1
   refine tr_seq fun K8 hK8 => ?_
   refine tr_sR [0, 2, 4, 5, 12] fun K hK => ?_
   iterate 2 refine evR_p ?_
   refine evR_z hK ?_; clear hK K
   refine tr_condB (fun ht2 => ?_) (fun ht2 => ?_)
   ·
    skip
    have hil : y < 16 := by omega
    refine skipZ ?_
    refine hK8 _ ?_
    refine tr_seq fun K10 hK10 => ?_
    refine tr_block ?_
    refine tr_sR [0, 2, 4, 5, 6] fun K hK => ?_
    refine evR_p ?_
    refine evR_z hK ?_; clear hK K
    refine tr_block ?_
    -- loop 2: live [0, 2, 4, 5, 6]
    refine tr_loopW (fun m σ => ∃ x : Nat, x + m = 16 ∧ σ = ⟨[(0, .sl 2 (encP l)), (2, .ptr 0 0), (4, .ptr 1 0), (5, .int .i64 y), (6, .int .i64 x)], [(1, .cells (cellsI ((outA (fun j => rowG (fun x y => decide (0 ≤ sideP l (ctr x y))) j 16) y).set y (rowG (fun x y => decide (0 ≤ sideP l (ctr x y))) y x)))), (0, .cells (cellsI (List.replicate 16 0)))], 2⟩) (16) ?_ ?_
    ·
     exact ⟨_, Wk.refl _, 0, by omega, by rw [outR_zero (fun x y => decide (0 ≤ sideP l (ctr x y))) hil]; rfl⟩
    ·
     rintro m2 σ ⟨x, hx, rfl⟩ KL2 hKL2
     refine tr_seq fun K12 hK12 => ?_
     refine tr_sR [0, 2, 4, 5, 6, 16] fun K hK => ?_
     iterate 2 refine evR_p ?_
     refine evR_z hK ?_; clear hK K
     refine tr_condB (fun ht3 => ?_) (fun ht3 => ?_)
     ·
      skip
      have hxl : x < 16 := by omega
      have hin : insideP l (ctr x y) = sideP l (ctr x y) := by
       have h5 := ctr_on hxl hil
       simp_all [insideP]
      refine skipZ ?_
      refine hK12 _ ?_
      refine tr_seq fun K14 hK14 => ?_
      refine tr_block ?_
      refine tr_sR [0, 2, 4, 5, 6, 24] fun K hK => ?_
      iterate 3 refine evR_p ?_
      refine evR_c (hc := (ca39 _ _ (by omega) (by omega))) (k := ?_)
      refine evR_c (hc := (ca36 l ⟨_, _⟩ hm)) (k := ?_)
      refine evR_p ?_
      refine evR_z hK ?_; clear hK K
      refine tr_condB (fun ht4 => ?_) (fun ht4 => ?_)
      ·
       skip
       refine tr_draw [] [0, 2, 4, 5, 6] mixed rfl (by kernel_rfl) rfl fun K hK => ?_
       iterate 9 refine evD_p ?_
       refine evD_e hK ?_; clear hK K
       refine hK14 _ ?_
       refine tr_region [0, 2, 4, 5, 6] rfl rfl fun K hK => ?_
       iterate 3 refine evR_p ?_
       refine evR_e hK ?_; clear hK K
       refine hKL2 _ ?_
       first
        | exact ⟨m2 - 1, _, by omega, Wk.refl _, x + 1, by omega, by rw [w64 (x := (x : Int) + 1) (by omega), rowG_add (fun x y => decide (0 ≤ sideP l (ctr x y))) hxl (by first | exact decide_eq_true (by rw [← hin]; exact ht4) | exact decide_eq_false (by rw [← hin]; exact ht4))]; rfl⟩
        | exact ⟨m2 - 1, _, by omega, Wk.refl _, x + 1, by omega, by rw [w64 (x := (x : Int) + 1) (by omega), rowG_skip (fun x y => decide (0 ≤ sideP l (ctr x y))) (by first | exact decide_eq_true (by rw [← hin]; exact ht4) | exact decide_eq_false (by rw [← hin]; exact ht4))]; rfl⟩
      ·
       skip
       refine skipZ ?_
       refine hK14 _ ?_
       refine tr_region [0, 2, 4, 5, 6] rfl rfl fun K hK => ?_
       iterate 3 refine evR_p ?_
       refine evR_e hK ?_; clear hK K
       refine hKL2 _ ?_
       first
        | exact ⟨m2 - 1, _, by omega, Wk.refl _, x + 1, by omega, by rw [w64 (x := (x : Int) + 1) (by omega), rowG_add (fun x y => decide (0 ≤ sideP l (ctr x y))) hxl (by first | exact decide_eq_true (by rw [← hin]; exact ht4) | exact decide_eq_false (by rw [← hin]; exact ht4))]; rfl⟩
        | exact ⟨m2 - 1, _, by omega, Wk.refl _, x + 1, by omega, by rw [w64 (x := (x : Int) + 1) (by omega), rowG_skip (fun x y => decide (0 ≤ sideP l (ctr x y))) (by first | exact decide_eq_true (by rw [← hin]; exact ht4) | exact decide_eq_false (by rw [← hin]; exact ht4))]; rfl⟩
     ·
      skip
      have hxl : x = 16 := by omega
      subst hxl
      refine tr_exit ?_
      simp only [thenE, inBlkE, Nat.reduceEqDiff, ↓reduceIte]
      refine hK10 _ ?_
      refine tr_region [0, 2, 4, 5] rfl rfl fun K hK => ?_
      iterate 3 refine evR_p ?_
      refine evR_e hK ?_; clear hK K
      refine hKL1 _ ?_
      exact ⟨m - 1, _, by omega, Wk.refl _, y + 1, by omega, by rw [w64 (x := (y : Int) + 1) (by omega), outA_set (fun j => rowG (fun x y => decide (0 ≤ sideP l (ctr x y))) j 16) hil]; rfl⟩
   ·
    skip
    have hil : y = 16 := by omega
    subst hil
    refine tr_exit ?_
    simp only [thenE, inBlkE, Nat.reduceEqDiff, ↓reduceIte]
    refine hK6 _ ?_
    refine tr_sR [2, 3] fun K hK => ?_
    iterate 3 refine evR_p ?_
    refine evR_z hK ?_; clear hK K
    refine retZ ?_; try exact ⟨⟩
    all_goals ((first | (simp_all [polyA, zeros16]; done) | (simp_all [polyA, cellsG]; done)))

theorem ca14 (a : List Int) (ha : a.length = 16) : CallsA Tryz.prog 40 [.agg (cellsI a)] (.bool (validA a)) := by
 have hq := ha
 refine callsA_of_tr Tryz.func40 rfl (Nat.le_of_ble_eq_true rfl) ?_
 simp only [Tryz.results40, envOf, Nat.reduceAdd]
 refine tr_sR [1] fun K hK => ?_
 iterate 2 refine evR_p ?_
 refine evR_z hK ?_; clear hK K
 refine tr_seq fun K2 hK2 => ?_
 refine tr_sR [1, 3] fun K hK => ?_
 refine evR_p ?_
 refine evR_z hK ?_; clear hK K
 refine tr_block ?_
 -- loop 1: live [1, 3]
 refine tr_loopW (fun m σ => ∃ i, i + m = 16 ∧ (∀ j, j < i → 0 ≤ a.getD j 0 ∧ a.getD j 0 < 65536) ∧ σ = ⟨[(1, .ptr 0 0), (3, .int .i64 (i : Nat))], [(0, .cells (cellsI a))], 1⟩) (16) ?_ ?_
 ·
  exact ⟨_, Wk.refl _, 0, by omega, (by intro j hj; omega), rfl⟩
 ·
  rintro m σ ⟨i, hi, hall, rfl⟩ KL1 hKL1
  refine tr_seq fun K4 hK4 => ?_
  refine tr_sR [1, 3, 5] fun K hK => ?_
  iterate 2 refine evR_p ?_
  refine evR_z hK ?_; clear hK K
  refine tr_condB (fun ht1 => ?_) (fun ht1 => ?_)
  ·
   skip
   have hil : i < 16 := by omega
   have hil2 : i < a.length := by omega
   replace hq := And.intro hq (And.intro hil (hil2))
   refine skipZ ?_
   refine hK4 _ ?_
   refine tr_seq fun K6 hK6 => ?_
   refine tr_block ?_
   refine tr_sR [1, 3, 17] fun K hK => ?_
   iterate 5 refine evR_p ?_
   iterate 4 refine evR_g ?_
   refine evR_p ?_
   refine evR_z hK ?_; clear hK K
   refine tr_condB (fun ht2 => ?_) (fun ht2 => ?_)
   ·
    skip
    refine tr_sR [2] fun K hK => ?_
    refine evR_p ?_
    refine evR_z hK ?_; clear hK K
    refine retZ ?_; try exact ⟨⟩
    all_goals (first | (rw [valid_bad hil2 (by omega)]; done) | (rw [valid_ok ha hall]; done))
   ·
    skip
    refine skipZ ?_
    refine hK6 _ ?_
    refine tr_region [1, 3] rfl rfl fun K hK => ?_
    iterate 3 refine evR_p ?_
    refine evR_e hK ?_; clear hK K
    refine hKL1 _ ?_
    exact ⟨m - 1, _, by omega, Wk.refl _, i + 1, by omega, (by intro j hj; rcases Nat.lt_or_ge j i with h | h; exact hall j h; obtain rfl : j = i := (by omega); omega), by rw [w64 (x := (i : Int) + 1) (by omega)]; rfl⟩
  ·
   skip
   have hil : i = 16 := by omega
   subst hil
   refine tr_exit ?_
   simp only [thenE, inBlkE, Nat.reduceEqDiff, ↓reduceIte]
   refine hK2 _ ?_
   refine tr_sR [2] fun K hK => ?_
   refine evR_p ?_
   refine evR_z hK ?_; clear hK K
   refine retZ ?_; try exact ⟨⟩
   all_goals (first | (rw [valid_bad hil2 (by omega)]; done) | (rw [valid_ok ha hall]; done))

theorem ca26 (a : List Int) (ha : a.length = 16) (x y : Int) : CallsA Tryz.prog 35 [.agg (cellsI a), .int .i64 x, .int .i64 y] (.bool (hasA a x y)) := by
 have hq := ha
 refine callsA_of_tr Tryz.func35 rfl (Nat.le_of_ble_eq_true rfl) ?_
 simp only [Tryz.results35, envOf, Nat.reduceAdd]
 refine tr_sR [1, 2, 3] fun K hK => ?_
 iterate 2 refine evR_p ?_
 refine evR_z hK ?_; clear hK K
 refine tr_seq fun K2 hK2 => ?_
 refine tr_sR [1, 2, 3, 25] fun K hK => ?_
 refine evR_p ?_
 refine evR_c (hc := (ca14 _ (by assumption))) (k := ?_)
 iterate 2 refine evR_p ?_
 iterate 2 refine evR_g ?_
 iterate 2 refine evR_p ?_
 iterate 2 refine evR_g ?_
 iterate 2 refine evR_p ?_
 iterate 2 refine evR_g ?_
 iterate 2 refine evR_p ?_
 iterate 2 refine evR_g ?_
 refine evR_p ?_
 refine evR_z hK ?_; clear hK K
 refine tr_condB (fun ht1 => ?_) (fun ht1 => ?_)
 ·
  skip
  refine tr_sR [6] fun K hK => ?_
  refine evR_p ?_
  refine evR_z hK ?_; clear hK K
  refine retZ ?_; try exact ⟨⟩
  all_goals (first | (rw [has_out (by simp_all; omega)]; done) | (rw [has_out (by rcases ht1 with (((h | h) | h) | h) | h <;> simp_all)]; done) | (obtain ⟨⟨⟨⟨hv, b1⟩, b2⟩, b3⟩, b4⟩ := ht1; rw [has_in hv (by omega) (by omega), cell_ref ha hv (by omega) (by omega)]; done))
 ·
  skip
  refine skipZ ?_
  refine hK2 _ ?_
  refine tr_sR [6] fun K hK => ?_
  iterate 8 refine evR_p ?_
  refine evR_z hK ?_; clear hK K
  refine retZ ?_; try exact ⟨⟩
  all_goals (first | (rw [has_out (by simp_all; omega)]; done) | (rw [has_out (by rcases ht1 with (((h | h) | h) | h) | h <;> simp_all)]; done) | (obtain ⟨⟨⟨⟨hv, b1⟩, b2⟩, b3⟩, b4⟩ := ht1; rw [has_in hv (by omega) (by omega), cell_ref ha hv (by omega) (by omega)]; done))

theorem ca18 (a b : List Int) (ha : a.length = 16) (hb : b.length = 16) : CallsA Tryz.prog 43 [.agg (cellsI a), .agg (cellsI b)] (.agg (cellsI (unionA a b))) := by
 have hq := And.intro ha (hb)
 refine callsA_of_tr Tryz.func43 rfl (Nat.le_of_ble_eq_true rfl) ?_
 simp only [Tryz.results43, envOf, Nat.reduceAdd]
 refine tr_sR [2, 3, 4] fun K hK => ?_
 iterate 3 refine evR_p ?_
 refine evR_z hK ?_; clear hK K
 refine tr_sR [2, 3, 4, 5] fun K hK => ?_
 refine evR_p ?_
 refine evR_z hK ?_; clear hK K
 refine tr_seq fun K3 hK3 => ?_
 refine tr_sR [2, 3, 4, 5, 6] fun K hK => ?_
 refine evR_p ?_
 refine evR_z hK ?_; clear hK K
 refine tr_block ?_
 -- loop 1: live [2, 3, 4, 5, 6]
 refine tr_loopW (fun m σ => ∃ y : Nat, y + m = 16 ∧ (y = 0 ∨ (validA a = true ∧ validA b = true)) ∧ σ = ⟨[(2, .ptr 0 0), (3, .ptr 1 0), (4, .ptr 2 0), (5, .ptr 3 0), (6, .int .i64 y)], [(3, .cells (cellsI (outA (fun j => rowG (fun x y => gA a x y || gA b x y) j 16) y))), (2, .cells (cellsI (List.replicate 16 0))), (1, .cells (cellsI b)), (0, .cells (cellsI a))], 4⟩) (16) ?_ ?_
 ·
  exact ⟨_, Wk.refl _, 0, by omega, .inl rfl, by rw [outA_zero]; rfl⟩
 ·
  rintro m σ ⟨y, hi, hmid, rfl⟩ KL1 hKL1
  refine tr_seq fun K5 hK5 => ?_
  refine tr_sR [2, 3, 4, 5, 6, 17] fun K hK => ?_
  iterate 3 refine evR_p ?_
  refine evR_g ?_
  refine evR_gc (hc := (ca14 _ (by assumption))) (k := ?_)
  iterate 2 refine evR_p ?_
  refine evR_g ?_
  refine evR_gc (hc := (ca14 _ (by assumption))) (k := ?_)
  refine evR_p ?_
  refine evR_z hK ?_; clear hK K
  refine tr_condB (fun ht1 => ?_) (fun ht1 => ?_)
  ·
   skip
   have hil : y < 16 := by omega
   refine skipZ ?_
   refine hK5 _ ?_
   refine tr_seq fun K7 hK7 => ?_
   refine tr_block ?_
   refine tr_sR [2, 3, 4, 5, 6, 7] fun K hK => ?_
   refine evR_p ?_
   refine evR_z hK ?_; clear hK K
   refine tr_block ?_
   -- loop 2: live [2, 3, 4, 5, 6, 7]
   refine tr_loopW (fun m σ => ∃ x : Nat, x + m = 16 ∧ σ = ⟨[(2, .ptr 0 0), (3, .ptr 1 0), (4, .ptr 2 0), (5, .ptr 3 0), (6, .int .i64 y), (7, .int .i64 x)], [(3, .cells (cellsI ((outA (fun j => rowG (fun x y => gA a x y || gA b x y) j 16) y).set y (rowG (fun x y => gA a x y || gA b x y) y x)))), (2, .cells (cellsI (List.replicate 16 0))), (1, .cells (cellsI b)), (0, .cells (cellsI a))], 4⟩) (16) ?_ ?_
   ·
    exact ⟨_, Wk.refl _, 0, by omega, by rw [outR_zero (fun x y => gA a x y || gA b x y) hil]; rfl⟩
   ·
    rintro m2 σ ⟨x, hx, rfl⟩ KL2 hKL2
    refine tr_seq fun K9 hK9 => ?_
    refine tr_sR [2, 3, 4, 5, 6, 7, 21] fun K hK => ?_
    iterate 2 refine evR_p ?_
    refine evR_z hK ?_; clear hK K
    refine tr_condB (fun ht2 => ?_) (fun ht2 => ?_)
    ·
     skip
     have hxl : x < 16 := by omega
     refine skipZ ?_
     refine hK9 _ ?_
     refine tr_seq fun K11 hK11 => ?_
     refine tr_block ?_
     refine tr_sR [2, 3, 4, 5, 6, 7, 33] fun K hK => ?_
     iterate 3 refine evR_p ?_
     refine evR_c (hc := (ca26 _ (by assumption) _ _)) (k := ?_)
     refine evR_p ?_
     iterate 3 refine evR_g ?_
     refine evR_gc (hc := (ca26 _ (by assumption) _ _)) (k := ?_)
     refine evR_p ?_
     refine evR_z hK ?_; clear hK K
     refine tr_condB (fun ht3 => ?_) (fun ht3 => ?_)
     ·
      skip
      refine tr_draw [] [2, 3, 4, 5, 6, 7] mixed rfl (by kernel_rfl) rfl fun K hK => ?_
      iterate 9 refine evD_p ?_
      refine evD_e hK ?_; clear hK K
      refine hK11 _ ?_
      refine tr_region [2, 3, 4, 5, 6, 7] rfl rfl fun K hK => ?_
      iterate 3 refine evR_p ?_
      refine evR_e hK ?_; clear hK K
      refine hKL2 _ ?_
      first
       | exact ⟨m2 - 1, _, by omega, Wk.refl _, x + 1, by omega, by rw [w64 (x := (x : Int) + 1) (by omega), rowG_add (fun x y => gA a x y || gA b x y) hxl (by simp only [gA]; rcases Bool.eq_false_or_eq_true (hasA a x y) with h1 | h1 <;> rcases Bool.eq_false_or_eq_true (hasA b x y) with h2 | h2 <;> simp_all)]; rfl⟩
       | exact ⟨m2 - 1, _, by omega, Wk.refl _, x + 1, by omega, by rw [w64 (x := (x : Int) + 1) (by omega), rowG_skip (fun x y => gA a x y || gA b x y) (by simp only [gA]; rcases Bool.eq_false_or_eq_true (hasA a x y) with h1 | h1 <;> rcases Bool.eq_false_or_eq_true (hasA b x y) with h2 | h2 <;> simp_all)]; rfl⟩
     ·
      skip
      refine skipZ ?_
      refine hK11 _ ?_
      refine tr_region [2, 3, 4, 5, 6, 7] rfl rfl fun K hK => ?_
      iterate 3 refine evR_p ?_
      refine evR_e hK ?_; clear hK K
      refine hKL2 _ ?_
      first
       | exact ⟨m2 - 1, _, by omega, Wk.refl _, x + 1, by omega, by rw [w64 (x := (x : Int) + 1) (by omega), rowG_add (fun x y => gA a x y || gA b x y) hxl (by simp only [gA]; rcases Bool.eq_false_or_eq_true (hasA a x y) with h1 | h1 <;> rcases Bool.eq_false_or_eq_true (hasA b x y) with h2 | h2 <;> simp_all)]; rfl⟩
       | exact ⟨m2 - 1, _, by omega, Wk.refl _, x + 1, by omega, by rw [w64 (x := (x : Int) + 1) (by omega), rowG_skip (fun x y => gA a x y || gA b x y) (by simp only [gA]; rcases Bool.eq_false_or_eq_true (hasA a x y) with h1 | h1 <;> rcases Bool.eq_false_or_eq_true (hasA b x y) with h2 | h2 <;> simp_all)]; rfl⟩
    ·
     skip
     have hxl : x = 16 := by omega
     subst hxl
     refine tr_exit ?_
     simp only [thenE, inBlkE, Nat.reduceEqDiff, ↓reduceIte]
     refine hK7 _ ?_
     refine tr_region [2, 3, 4, 5, 6] rfl rfl fun K hK => ?_
     iterate 3 refine evR_p ?_
     refine evR_e hK ?_; clear hK K
     refine hKL1 _ ?_
     exact ⟨m - 1, _, by omega, Wk.refl _, y + 1, by omega, (by simp_all), by rw [w64 (x := (y : Int) + 1) (by omega), outA_set (fun j => rowG (fun x y => gA a x y || gA b x y) j 16) hil]; rfl⟩
  ·
   skip
   skip
   refine tr_exit ?_
   simp only [thenE, inBlkE, Nat.reduceEqDiff, ↓reduceIte]
   refine hK3 _ ?_
   refine tr_sR [4] fun K hK => ?_
   iterate 2 refine evR_p ?_
   refine evR_z hK ?_; clear hK K
   refine retZ ?_; try exact ⟨⟩
   all_goals
    rcases hmid with h0 | h0
    ·
     subst h0
     rcases ht1 with (h | h) | h
     ·
      omega
     ·
      rw [outA_zero, unionA, each_bad (.inl h)]; rfl
     ·
      rw [outA_zero, unionA, each_bad (.inr h)]; rfl
    ·
     rcases ht1 with (h | h) | h
     ·
      have e : y = 16 := by omega
      subst e; rw [union_ref ha hb h0.1 h0.2]; rfl
     ·
      simp [h0.1] at h
     ·
      simp [h0.2] at h

theorem ca22 (a b : List Int) (ha : a.length = 16) (hb : b.length = 16) : CallsA Tryz.prog 32 [.agg (cellsI a), .agg (cellsI b)] (.agg (cellsI (minusA a b))) := by
 have hq := And.intro ha (hb)
 refine callsA_of_tr Tryz.func32 rfl (Nat.le_of_ble_eq_true rfl) ?_
 simp only [Tryz.results32, envOf, Nat.reduceAdd]
 refine tr_sR [2, 3, 4] fun K hK => ?_
 iterate 3 refine evR_p ?_
 refine evR_z hK ?_; clear hK K
 refine tr_sR [2, 3, 4, 5] fun K hK => ?_
 refine evR_p ?_
 refine evR_z hK ?_; clear hK K
 refine tr_seq fun K3 hK3 => ?_
 refine tr_sR [2, 3, 4, 5, 6] fun K hK => ?_
 refine evR_p ?_
 refine evR_z hK ?_; clear hK K
 refine tr_block ?_
 -- loop 1: live [2, 3, 4, 5, 6]
 refine tr_loopW (fun m σ => ∃ y : Nat, y + m = 16 ∧ (y = 0 ∨ validA b = true) ∧ σ = ⟨[(2, .ptr 0 0), (3, .ptr 1 0), (4, .ptr 2 0), (5, .ptr 3 0), (6, .int .i64 y)], [(3, .cells (cellsI (outA (fun j => rowG (fun x y => gA a x y && !gA b x y) j 16) y))), (2, .cells (cellsI (List.replicate 16 0))), (1, .cells (cellsI b)), (0, .cells (cellsI a))], 4⟩) (16) ?_ ?_
 ·
  exact ⟨_, Wk.refl _, 0, by omega, .inl rfl, by rw [outA_zero]; rfl⟩
 ·
  rintro m σ ⟨y, hi, hmid, rfl⟩ KL1 hKL1
  refine tr_seq fun K5 hK5 => ?_
  refine tr_sR [2, 3, 4, 5, 6, 13] fun K hK => ?_
  iterate 3 refine evR_p ?_
  refine evR_g ?_
  refine evR_gc (hc := (ca14 _ (by assumption))) (k := ?_)
  refine evR_p ?_
  refine evR_z hK ?_; clear hK K
  refine tr_condB (fun ht1 => ?_) (fun ht1 => ?_)
  ·
   skip
   have hil : y < 16 := by omega
   refine skipZ ?_
   refine hK5 _ ?_
   refine tr_seq fun K7 hK7 => ?_
   refine tr_block ?_
   refine tr_sR [2, 3, 4, 5, 6, 7] fun K hK => ?_
   refine evR_p ?_
   refine evR_z hK ?_; clear hK K
   refine tr_block ?_
   -- loop 2: live [2, 3, 4, 5, 6, 7]
   refine tr_loopW (fun m σ => ∃ x : Nat, x + m = 16 ∧ σ = ⟨[(2, .ptr 0 0), (3, .ptr 1 0), (4, .ptr 2 0), (5, .ptr 3 0), (6, .int .i64 y), (7, .int .i64 x)], [(3, .cells (cellsI ((outA (fun j => rowG (fun x y => gA a x y && !gA b x y) j 16) y).set y (rowG (fun x y => gA a x y && !gA b x y) y x)))), (2, .cells (cellsI (List.replicate 16 0))), (1, .cells (cellsI b)), (0, .cells (cellsI a))], 4⟩) (16) ?_ ?_
   ·
    exact ⟨_, Wk.refl _, 0, by omega, by rw [outR_zero (fun x y => gA a x y && !gA b x y) hil]; rfl⟩
   ·
    rintro m2 σ ⟨x, hx, rfl⟩ KL2 hKL2
    refine tr_seq fun K9 hK9 => ?_
    refine tr_sR [2, 3, 4, 5, 6, 7, 17] fun K hK => ?_
    iterate 2 refine evR_p ?_
    refine evR_z hK ?_; clear hK K
    refine tr_condB (fun ht2 => ?_) (fun ht2 => ?_)
    ·
     skip
     have hxl : x < 16 := by omega
     refine skipZ ?_
     refine hK9 _ ?_
     refine tr_seq fun K11 hK11 => ?_
     refine tr_block ?_
     refine tr_sR [2, 3, 4, 5, 6, 7, 30] fun K hK => ?_
     iterate 3 refine evR_p ?_
     refine evR_c (hc := (ca26 _ (by assumption) _ _)) (k := ?_)
     refine evR_p ?_
     iterate 3 refine evR_g ?_
     refine evR_gc (hc := (ca26 _ (by assumption) _ _)) (k := ?_)
     refine evR_g ?_
     refine evR_p ?_
     refine evR_z hK ?_; clear hK K
     refine tr_condB (fun ht3 => ?_) (fun ht3 => ?_)
     ·
      skip
      refine tr_draw [] [2, 3, 4, 5, 6, 7] mixed rfl (by kernel_rfl) rfl fun K hK => ?_
      iterate 9 refine evD_p ?_
      refine evD_e hK ?_; clear hK K
      refine hK11 _ ?_
      refine tr_region [2, 3, 4, 5, 6, 7] rfl rfl fun K hK => ?_
      iterate 3 refine evR_p ?_
      refine evR_e hK ?_; clear hK K
      refine hKL2 _ ?_
      first
       | exact ⟨m2 - 1, _, by omega, Wk.refl _, x + 1, by omega, by rw [w64 (x := (x : Int) + 1) (by omega), rowG_add (fun x y => gA a x y && !gA b x y) hxl (by simp only [gA]; rcases Bool.eq_false_or_eq_true (hasA a x y) with h1 | h1 <;> rcases Bool.eq_false_or_eq_true (hasA b x y) with h2 | h2 <;> simp_all)]; rfl⟩
       | exact ⟨m2 - 1, _, by omega, Wk.refl _, x + 1, by omega, by rw [w64 (x := (x : Int) + 1) (by omega), rowG_skip (fun x y => gA a x y && !gA b x y) (by simp only [gA]; rcases Bool.eq_false_or_eq_true (hasA a x y) with h1 | h1 <;> rcases Bool.eq_false_or_eq_true (hasA b x y) with h2 | h2 <;> simp_all)]; rfl⟩
     ·
      skip
      refine skipZ ?_
      refine hK11 _ ?_
      refine tr_region [2, 3, 4, 5, 6, 7] rfl rfl fun K hK => ?_
      iterate 3 refine evR_p ?_
      refine evR_e hK ?_; clear hK K
      refine hKL2 _ ?_
      first
       | exact ⟨m2 - 1, _, by omega, Wk.refl _, x + 1, by omega, by rw [w64 (x := (x : Int) + 1) (by omega), rowG_add (fun x y => gA a x y && !gA b x y) hxl (by simp only [gA]; rcases Bool.eq_false_or_eq_true (hasA a x y) with h1 | h1 <;> rcases Bool.eq_false_or_eq_true (hasA b x y) with h2 | h2 <;> simp_all)]; rfl⟩
       | exact ⟨m2 - 1, _, by omega, Wk.refl _, x + 1, by omega, by rw [w64 (x := (x : Int) + 1) (by omega), rowG_skip (fun x y => gA a x y && !gA b x y) (by simp only [gA]; rcases Bool.eq_false_or_eq_true (hasA a x y) with h1 | h1 <;> rcases Bool.eq_false_or_eq_true (hasA b x y) with h2 | h2 <;> simp_all)]; rfl⟩
    ·
     skip
     have hxl : x = 16 := by omega
     subst hxl
     refine tr_exit ?_
     simp only [thenE, inBlkE, Nat.reduceEqDiff, ↓reduceIte]
     refine hK7 _ ?_
     refine tr_region [2, 3, 4, 5, 6] rfl rfl fun K hK => ?_
     iterate 3 refine evR_p ?_
     refine evR_e hK ?_; clear hK K
     refine hKL1 _ ?_
     exact ⟨m - 1, _, by omega, Wk.refl _, y + 1, by omega, (by simp_all), by rw [w64 (x := (y : Int) + 1) (by omega), outA_set (fun j => rowG (fun x y => gA a x y && !gA b x y) j 16) hil]; rfl⟩
  ·
   skip
   skip
   refine tr_exit ?_
   simp only [thenE, inBlkE, Nat.reduceEqDiff, ↓reduceIte]
   refine hK3 _ ?_
   refine tr_sR [4] fun K hK => ?_
   iterate 2 refine evR_p ?_
   refine evR_z hK ?_; clear hK K
   refine retZ ?_; try exact ⟨⟩
   all_goals
    rcases hmid with h0 | h0
    ·
     subst h0
     rcases ht1 with h | h
     ·
      omega
     ·
      rw [outA_zero, minusA, each_bad (.inr h)]; rfl
    ·
     rcases ht1 with h | h
     ·
      have e : y = 16 := by omega
      subst e; rw [minus_ref ha hb h0]; rfl
     ·
      simp [h0] at h

theorem ca16 (a : List Int) (ha : a.length = 16) : CallsA Tryz.prog 106 [.agg (cellsI a)] (.int .i64 (sizeA a)) := by
 have tl := tot_le (gA a)
 have cl := fun y => cnt_le (fun x => gA a x y)
 have hq := ha
 refine callsA_of_tr Tryz.func106 rfl (Nat.le_of_ble_eq_true rfl) ?_
 simp only [Tryz.results106, envOf, Nat.reduceAdd]
 refine tr_sR [1] fun K hK => ?_
 iterate 2 refine evR_p ?_
 refine evR_z hK ?_; clear hK K
 refine tr_sR [1, 3] fun K hK => ?_
 refine evR_p ?_
 refine evR_z hK ?_; clear hK K
 refine tr_seq fun K3 hK3 => ?_
 refine tr_sR [1, 3, 4] fun K hK => ?_
 refine evR_p ?_
 refine evR_z hK ?_; clear hK K
 refine tr_block ?_
 -- loop 1: live [1, 3, 4]
 refine tr_loopW (fun m σ => ∃ y : Nat, y + m = 16 ∧ σ = ⟨[(1, .ptr 0 0), (3, .int .i64 (tot (gA a) y : Nat)), (4, .int .i64 y)], [(0, .cells (cellsI a))], 1⟩) (16) ?_ ?_
 ·
  exact ⟨_, Wk.refl _, 0, by omega, rfl⟩
 ·
  rintro m σ ⟨y, hi, rfl⟩ KL1 hKL1
  refine tr_seq fun K5 hK5 => ?_
  refine tr_sR [1, 3, 4, 7] fun K hK => ?_
  iterate 2 refine evR_p ?_
  refine evR_z hK ?_; clear hK K
  refine tr_condB (fun ht1 => ?_) (fun ht1 => ?_)
  ·
   skip
   have hil : y < 16 := by omega
   refine skipZ ?_
   refine hK5 _ ?_
   refine tr_seq fun K7 hK7 => ?_
   refine tr_block ?_
   refine tr_sR [1, 3, 4, 5] fun K hK => ?_
   refine evR_p ?_
   refine evR_z hK ?_; clear hK K
   refine tr_block ?_
   -- loop 2: live [1, 3, 4, 5]
   refine tr_loopW (fun m σ => ∃ x : Nat, x + m = 16 ∧ σ = ⟨[(1, .ptr 0 0), (3, .int .i64 ((tot (gA a) y + cnt (fun x => gA a x y) x : Nat) : Int)), (4, .int .i64 y), (5, .int .i64 x)], [(0, .cells (cellsI a))], 1⟩) (16) ?_ ?_
   ·
    exact ⟨_, Wk.refl _, 0, by omega, rfl⟩
   ·
    rintro m2 σ ⟨x, hx, rfl⟩ KL2 hKL2
    refine tr_seq fun K9 hK9 => ?_
    refine tr_sR [1, 3, 4, 5, 11] fun K hK => ?_
    iterate 2 refine evR_p ?_
    refine evR_z hK ?_; clear hK K
    refine tr_condB (fun ht2 => ?_) (fun ht2 => ?_)
    ·
     skip
     have hxl : x < 16 := by omega
     have tly := tl y
     have cly := cl y x
     refine skipZ ?_
     refine hK9 _ ?_
     refine tr_seq fun K11 hK11 => ?_
     refine tr_block ?_
     refine tr_sR [1, 3, 4, 5, 17] fun K hK => ?_
     iterate 3 refine evR_p ?_
     refine evR_c (hc := (ca26 _ (by assumption) _ _)) (k := ?_)
     refine evR_z hK ?_; clear hK K
     refine tr_condB (fun ht3 => ?_) (fun ht3 => ?_)
     ·
      skip
      refine tr_region [1, 3, 4, 5] rfl rfl fun K hK => ?_
      iterate 3 refine evR_p ?_
      refine evR_e hK ?_; clear hK K
      refine hK11 _ ?_
      refine tr_region [1, 3, 4, 5] rfl rfl fun K hK => ?_
      iterate 3 refine evR_p ?_
      refine evR_e hK ?_; clear hK K
      refine hKL2 _ ?_
      first
       | exact ⟨m2 - 1, _, by omega, Wk.refl _, x + 1, by omega, by rw [w64 (x := (x : Int) + 1) (by omega), w64 (x := ((tot (gA a) y + cnt (fun x => gA a x y) x : Nat) : Int) + 1) (by omega), cnt_t (p := fun x => gA a x y) (by assumption)]; rfl⟩
       | exact ⟨m2 - 1, _, by omega, Wk.refl _, x + 1, by omega, by rw [w64 (x := (x : Int) + 1) (by omega), cnt_f (p := fun x => gA a x y) (by assumption)]; rfl⟩
     ·
      skip
      refine skipZ ?_
      refine hK11 _ ?_
      refine tr_region [1, 3, 4, 5] rfl rfl fun K hK => ?_
      iterate 3 refine evR_p ?_
      refine evR_e hK ?_; clear hK K
      refine hKL2 _ ?_
      first
       | exact ⟨m2 - 1, _, by omega, Wk.refl _, x + 1, by omega, by rw [w64 (x := (x : Int) + 1) (by omega), w64 (x := ((tot (gA a) y + cnt (fun x => gA a x y) x : Nat) : Int) + 1) (by omega), cnt_t (p := fun x => gA a x y) (by assumption)]; rfl⟩
       | exact ⟨m2 - 1, _, by omega, Wk.refl _, x + 1, by omega, by rw [w64 (x := (x : Int) + 1) (by omega), cnt_f (p := fun x => gA a x y) (by assumption)]; rfl⟩
    ·
     skip
     have hxl : x = 16 := by omega
     subst hxl
     refine tr_exit ?_
     simp only [thenE, inBlkE, Nat.reduceEqDiff, ↓reduceIte]
     refine hK7 _ ?_
     refine tr_region [1, 3, 4] rfl rfl fun K hK => ?_
     iterate 3 refine evR_p ?_
     refine evR_e hK ?_; clear hK K
     refine hKL1 _ ?_
     exact ⟨m - 1, _, by omega, Wk.refl _, y + 1, by omega, by rw [w64 (x := (y : Int) + 1) (by omega)]; rfl⟩
  ·
   skip
   have hil : y = 16 := by omega
   subst hil
   refine tr_exit ?_
   simp only [thenE, inBlkE, Nat.reduceEqDiff, ↓reduceIte]
   refine hK3 _ ?_
   refine tr_sR [2] fun K hK => ?_
   iterate 2 refine evR_p ?_
   refine evR_z hK ?_; clear hK K
   refine retZ ?_; try exact ⟨⟩
   all_goals ((rw [size_ref ha]))

section
attribute [local go_sem] eachA_length
theorem ca24 (a b : List Int) (ha : a.length = 16) (hb : b.length = 16) : CallsA Tryz.prog 79 [.agg (cellsI a), .agg (cellsI b)] (.bool (withinA a b)) := by
 have hq := And.intro ha (hb)
 refine callsA_of_tr Tryz.func79 rfl (Nat.le_of_ble_eq_true rfl) ?_
 simp only [Tryz.results79, envOf, Nat.reduceAdd]
 refine tr_sR [2, 3] fun K hK => ?_
 iterate 3 refine evR_p ?_
 refine evR_z hK ?_; clear hK K
 refine tr_sR [4] fun K hK => ?_
 refine evR_p ?_
 refine evR_c (hc := (ca14 _ (by assumption))) (k := ?_)
 refine evR_p ?_
 refine evR_g ?_
 refine evR_gc (hc := (ca14 _ (by assumption))) (k := ?_)
 iterate 2 refine evR_p ?_
 iterate 2 refine evR_g ?_
 refine evR_gc (hc := (ca22 a b ha hb)) (k := ?_)
 refine evR_gc (hc := (ca16 _ (eachA_length _ ha hb))) (k := ?_)
 refine evR_g ?_
 iterate 2 refine evR_p ?_
 refine evR_z hK ?_; clear hK K
 refine retZ ?_; try exact ⟨⟩
 all_goals ((rw [within_ref ha hb]; simp [Bool.and_assoc]; first | done | rfl))
end

end Go.Proofs.YtfamkbofdamkkaaGreat
