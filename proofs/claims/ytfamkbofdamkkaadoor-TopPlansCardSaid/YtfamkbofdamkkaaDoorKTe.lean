/- Texts of this proof, put together. -/
import Derived.Test.YtfamkbofdamkkaaDoorKTb
import Derived.Test.YtfamkbofdamkkaaDoorKTc
import Derived.Test.YtfamkbofdamkkaaDoorKTd
import Derived.Test.YtfamkbofdamkkaaDoorChecked
import Derived.Test.YtfamkbofdamkkaaDoorRows
import Derived.ProofKit
import Derived.LaidMore
import Derived.OpenShut
import Derived.Stop.Joined
namespace Go.Proofs.YtfamkbofdamkkaaDoor
open Go.RowKit
set_option linter.unusedVariables false
set_option linter.unusedSimpArgs false
set_option maxRecDepth 100000
attribute [local go_sem] Nat.zero_add Nat.add_zero Nat.mul_one eq_self ne_eq not_true_eq_false not_false_eq_true decide_true decide_false decide_not Bool.false_eq_true List.filter_cons List.filter_nil true_and and_true beq_false beq_true Bool.not_true Bool.not_false Bool.and_true Bool.true_and Option.getD_some Option.getD_none imp_self implies_true Int.toNat_natCast List.cons_append List.nil_append List.map_cons List.map_nil List.length_cons List.length_nil List.getD_cons_zero List.getD_cons_succ List.drop_zero List.drop_succ_cons List.take_succ_cons List.take_zero
attribute [local go_sem] shL isSh Option.isNone_none Option.isNone_some Option.isSome_none List.lookup Option.isSome_some Option.isSome_none Bool.or_true Bool.true_or Bool.or_false Bool.false_or false_and and_false false_or or_false
attribute [local go_sem] List.getElem?_cons_zero List.getElem?_cons_succ List.zip_cons_cons List.zip_nil_left List.zip_nil_right Bool.false_and Bool.and_false List.length_append List.length_set List.length_replicate List.all_cons List.all_nil encR_length encR_getD encRw encPg forall_const imp_self
attribute [local go_sem] encSg encW encSgs_length encWs_length encSgs_getD encWs_getD lookV lkM putM
attribute [local simp] encI_length encR_length cellsI_length encSgs_length encWs_length
theorem k26a (p : Pg) (hr0 : p.rows.length ≤ maxLen) (hg : p.gain.length ≤ maxLen) (hc : ∀ r ∈ p.rows, r.coef.length ≤ maxLen) (l : List Sg) (hlm : l.length ≤ maxLen) (hwl : ∀ k, k < l.length → ∀ s, l.getD k sg0 = s → s.ws.length ≤ maxLen) (hU : usedV p p.rows l = .nm) : CallsA Tryd.prog 30 [.agg (encPg p), .sl 4 (encSgs l)] (.int .i64 (wrongW p l)) := by
 have hk68 := k68 p hr0 hg hc p.rows l hlm hwl valid_okRw
 rw [hU] at hk68
 have hq : True := trivial
 refine callsA_of_tr Tryd.func30 rfl (Nat.le_of_ble_eq_true rfl) ?_
 simp only [Tryd.results30, envOf, Nat.reduceAdd]
 refine tr_sR [1, 2] fun K hK => ?_
 iterate 2 refine evR_p ?_
 refine evR_z hK ?_; clear hK K
 refine tr_sR [5] fun K hK => ?_
 iterate 4 refine evR_p ?_
 refine evR_c (hc := hk68) (k := ?_)
 iterate 5 refine evR_p ?_
 refine evR_z hK ?_; clear hK K
 refine tr_sR [4] fun K hK => ?_
 iterate 2 refine evR_p ?_
 refine evR_z hK ?_; clear hK K
 refine retZ ?_; try exact ⟨⟩
 all_goals ((rw [wrongX_wrong]; done))

theorem k26b (p : Pg) (hr0 : p.rows.length ≤ maxLen) (hg : p.gain.length ≤ maxLen) (hc : ∀ r ∈ p.rows, r.coef.length ≤ maxLen) (l : List Sg) (hlm : l.length ≤ maxLen) (hwl : ∀ k, k < l.length → ∀ s, l.getD k sg0 = s → s.ws.length ≤ maxLen) (es : List (Int × Bool)) (hU : usedV p p.rows l = .fm es) : CallsA Tryd.prog 30 [.agg (encPg p), .sl 4 (encSgs l)] (.int .i64 (wrongW p l)) := by
 have hk68 := k68 p hr0 hg hc p.rows l hlm hwl valid_okRw
 rw [hU] at hk68
 have hq : True := trivial
 refine callsA_of_tr Tryd.func30 rfl (Nat.le_of_ble_eq_true rfl) ?_
 simp only [Tryd.results30, envOf, Nat.reduceAdd]
 refine tr_sR [1, 2] fun K hK => ?_
 iterate 2 refine evR_p ?_
 refine evR_z hK ?_; clear hK K
 refine tr_sR [5] fun K hK => ?_
 iterate 4 refine evR_p ?_
 refine evR_c (hc := hk68) (k := ?_)
 iterate 5 refine evR_p ?_
 refine evR_z hK ?_; clear hK K
 refine tr_sR [4] fun K hK => ?_
 iterate 2 refine evR_p ?_
 refine evR_z hK ?_; clear hK K
 refine retZ ?_; try exact ⟨⟩
 all_goals ((rw [wrongX_wrong]; done))
theorem k26 (p : Pg) (hr0 : p.rows.length ≤ maxLen) (hg : p.gain.length ≤ maxLen) (hc : ∀ r ∈ p.rows, r.coef.length ≤ maxLen) (l : List Sg) (hlm : l.length ≤ maxLen) (hwl : ∀ k, k < l.length → ∀ s, l.getD k sg0 = s → s.ws.length ≤ maxLen) : CallsA Tryd.prog 30 [.agg (encPg p), .sl 4 (encSgs l)] (.int .i64 (wrongW p l)) := by
 rcases usedV_cases p p.rows l with h | ⟨es, h⟩
 ·
  exact k26a p hr0 hg hc l hlm hwl h
 ·
  exact k26b p hr0 hg hc l hlm hwl es h

theorem k24 (p : Pg) (hr0 : p.rows.length ≤ maxLen) (hg : p.gain.length ≤ maxLen) (hc : ∀ r ∈ p.rows, r.coef.length ≤ maxLen) (l : List Sg) (hlm : l.length ≤ maxLen) (hwl : ∀ k, k < l.length → ∀ s, l.getD k sg0 = s → s.ws.length ≤ maxLen) : CallsA Tryd.prog 13 [.agg (encPg p), .sl 4 (encSgs l)] (.bool (refutesW p l)) := by
 have hq : True := trivial
 refine callsA_of_tr Tryd.func13 rfl (Nat.le_of_ble_eq_true rfl) ?_
 simp only [Tryd.results13, envOf, Nat.reduceAdd]
 refine tr_sR [1, 2] fun K hK => ?_
 iterate 2 refine evR_p ?_
 refine evR_z hK ?_; clear hK K
 refine tr_sR [4] fun K hK => ?_
 iterate 2 refine evR_p ?_
 refine evR_c (hc := (k26 p hr0 hg hc l hlm hwl)) (k := ?_)
 iterate 2 refine evR_p ?_
 refine evR_z hK ?_; clear hK K
 refine retZ ?_; try exact ⟨⟩
 all_goals (rfl)

section
attribute [local go_sem] List.replicate_succ List.replicate_zero List.set_cons_zero
set_option maxHeartbeats 16000000 in
theorem k32a (p : Pg) (hr0 : p.rows.length ≤ maxLen) (hg : p.gain.length ≤ maxLen) (hc : ∀ r ∈ p.rows, r.coef.length ≤ maxLen) (l : List Sg) (hlm : l.length ≤ maxLen) (hwl : ∀ k, k < l.length → ∀ s, l.getD k sg0 = s → s.ws.length ≤ maxLen) (hgs : p.gain.length ≤ 1000) (hrs : p.rows.length ≤ 100000) (gain : Int) (hU : usedV p (p.rows ++ [goalW p gain]) l = .nm) : CallsA Tryd.prog 12 [.agg (encPg p), .sl 4 (encSgs l), .int .i64 gain] (.bool (boundsW p l gain)) := by
 have hk680 := fun hv => k68 p hr0 hg hc (p.rows ++ [goalW p gain]) l hlm hwl hv
 rw [hU] at hk680
 unfold maxLen at hg hr0
 have hq : True := trivial
 refine callsA_of_tr Tryd.func12 rfl (Nat.le_of_ble_eq_true rfl) ?_
 simp only [Tryd.results12, envOf, Nat.reduceAdd]
 refine tr_sR [1, 2, 3] fun K hK => ?_
 iterate 2 refine evR_p ?_
 refine evR_z hK ?_; clear hK K
 refine tr_seq fun K2 hK2 => ?_
 refine tr_sR [1, 2, 3, 14] fun K hK => ?_
 refine evR_p ?_
 refine evR_c (hc := (k75 _ _ _)) (k := ?_)
 refine evR_p ?_
 refine evR_z hK ?_; clear hK K
 refine tr_condB (fun ht1 => ?_) (fun ht1 => ?_)
 ·
  skip
  refine tr_sR [6] fun K hK => ?_
  refine evR_p ?_
  refine evR_z hK ?_; clear hK K
  refine retZ ?_; try exact ⟨⟩
  all_goals (first | (rw [wrongX_bounds ht1]; done) | (rw [bounds_out ht1]; done))
 ·
  skip
  refine skipZ ?_
  refine hK2 _ ?_
  refine tr_sR [1, 3, 7] fun K hK => ?_
  iterate 6 refine evR_p ?_
  refine evR_z hK ?_; clear hK K
  refine tr_seq fun K6 hK6 => ?_
  refine tr_sR [1, 3, 7, 20, 21, 22] fun K hK => ?_
  iterate 4 refine evR_p ?_
  refine evR_z hK ?_; clear hK K
  refine tr_block ?_
  -- loop 1: live [1, 3, 7, 20, 21, 22]
  refine tr_loopW (fun m σ => ∃ i : Nat, i + m = p.gain.length ∧ σ = ⟨[(1, .sl 4 (encSgs l)), (3, .ptr 0 0), (7, .ptr 1 0), (20, .sl 1 (encI p.gain)), (21, .int .i64 p.gain.length), (22, .int .i64 (i : Nat))], [(2, .row 3 1 (encI (negG p.gain i))), (1, .cells [.int .i64 0, .int .i64 0, .int .i64 0, .int .i64 0, .own 2, .int .i64 (IntKind.i64.wrap (0 - IntKind.i64.wrap (gain + 1)))]), (0, .cells (encPg p))], 3⟩) (p.gain.length) ?_ ?_
  ·
   exact ⟨_, Wk.nilown 3 1 1 4 rfl (Nat.le_of_ble_eq_true rfl) rfl, 0, by omega, rfl⟩
  ·
   rintro m σ ⟨i, hi, rfl⟩ KL1 hKL1
   refine tr_sR [1, 3, 7, 20, 21, 22, 23] fun K hK => ?_
   refine evR_p ?_
   refine evR_z hK ?_; clear hK K
   refine tr_seq fun K9 hK9 => ?_
   refine tr_condB (fun ht2 => ?_) (fun ht2 => ?_)
   ·
    skip
    have hil : i < p.gain.length := by omega
    have hnl := negG_length p.gain i
    replace hq := And.intro hq (And.intro hil (hnl))
    refine skipZ ?_
    refine hK9 _ ?_
    refine tr_seq fun K10 hK10 => ?_
    refine tr_block ?_
    refine tr_sR [1, 3, 7, 9, 20, 21, 22] fun K hK => ?_
    iterate 3 refine evR_p ?_
    refine evR_z hK ?_; clear hK K
    refine tr_region [1, 3, 7, 20, 21, 22] rfl rfl fun K hK => ?_
    iterate 4 refine evR_p ?_
    refine evR_bs ?_
    iterate 3 refine evR_p ?_
    refine evR_e hK ?_; clear hK K
    refine hK10 _ ?_
    refine tr_region [1, 3, 7, 20, 21, 22] rfl rfl fun K hK => ?_
    iterate 2 refine evR_p ?_
    refine evR_e hK ?_; clear hK K
    refine hKL1 _ ?_
    exact ⟨m - 1, _, by omega, (Wk.trans (Wk.ren 3 2 (Nat.le_of_ble_eq_true rfl) (Nat.le_of_ble_eq_true rfl) rfl) (Wk.cut 3 rfl)), i + 1, by omega, by rw [w64 (x := (i : Int) + 1) (by omega), negG_succ hil, encI_snoc]; rfl⟩
   ·
    skip
    have hil : i = p.gain.length := by omega
    subst hil
    have hk68 := hk680 (fun hv => goal_okRws hv ht1)
    rw [show encR (p.rows ++ [goalW p gain]) = encR p.rows ++ [[.int .i64 0, .int .i64 0, .int .i64 0, .int .i64 0, .sl 1 (encI (negG p.gain p.gain.length)), .int .i64 (IntKind.i64.wrap (0 - IntKind.i64.wrap (gain + 1)))]] from by simp [encR, encRw, goalW]] at hk68
    have hT : List.take p.rows.length (encR p.rows) = encR p.rows := List.take_of_length_le (by rw [encR_length]; omega)
    replace hq := And.intro hq hT
    refine tr_exit ?_
    simp only [thenE, inBlkE, Nat.reduceEqDiff, ↓reduceIte]
    refine hK6 _ ?_
    refine tr_seq fun K12 hK12 => ?_
    refine tr_fz [.own 2] (by simp (maxSteps := 4000000) (disch := first | assumption | omega | (simp only [go_sem, *]; done) | (simp only [go_sem, *]; omega)) only [go_sem, hq, Int.reduceToNat, Nat.reduceBEq, Nat.reduceEqDiff, Nat.reduceAdd, Nat.reduceMul, Nat.reduceLeDiff, Nat.reduceLT, Nat.reduceSub, ↓reduceIte, reduceCtorEq]; (try rfl)) ?_
    refine tr_draw [46, 47] [10] mixed rfl (by kernel_rfl) rfl fun K hK => ?_
    iterate 11 refine evD_p ?_
    refine evD_step fun Kq hKq => ?_
    simp (maxSteps := 4000000) (disch := first | assumption | omega | (simp only [go_sem, *]; done) | (simp only [go_sem, *]; omega)) only [isE, isO, stpO, notIn, St.bare, go_sem, hq, Int.reduceToNat, Nat.reduceBEq, Nat.reduceEqDiff, Nat.reduceAdd, Nat.reduceMul, Nat.reduceLeDiff, Nat.reduceLT, Nat.reduceSub, ↓reduceIte, reduceCtorEq]
    (repeat (refine And.intro (by first | assumption | omega | decide | (simp; done) | (simp; omega) | (have hq := hvv hgt; omega) | (have hq := hvv hgt.1; omega) | (simp_all; done)) ?_))
    refine Or.inl (hKq _ ?_); clear hKq Kq
    iterate 2 refine evD_p ?_
    refine evD_c (hc := hk68) (k := ?_)
    iterate 5 refine evD_p ?_
    refine evD_e hK ?_; clear hK K
    refine hK12 _ ?_
    refine tr_sR [6] fun K hK => ?_
    iterate 3 refine evR_p ?_
    refine evR_z hK ?_; clear hK K
    refine retZ ?_; try exact ⟨⟩
    all_goals (first | (rw [wrongX_bounds ht1]; done) | (rw [bounds_out ht1]; done))
end

section
attribute [local go_sem] List.replicate_succ List.replicate_zero List.set_cons_zero
set_option maxHeartbeats 16000000 in
theorem k32b (p : Pg) (hr0 : p.rows.length ≤ maxLen) (hg : p.gain.length ≤ maxLen) (hc : ∀ r ∈ p.rows, r.coef.length ≤ maxLen) (l : List Sg) (hlm : l.length ≤ maxLen) (hwl : ∀ k, k < l.length → ∀ s, l.getD k sg0 = s → s.ws.length ≤ maxLen) (hgs : p.gain.length ≤ 1000) (hrs : p.rows.length ≤ 100000) (gain : Int) (es : List (Int × Bool)) (hU : usedV p (p.rows ++ [goalW p gain]) l = .fm es) : CallsA Tryd.prog 12 [.agg (encPg p), .sl 4 (encSgs l), .int .i64 gain] (.bool (boundsW p l gain)) := by
 have hk680 := fun hv => k68 p hr0 hg hc (p.rows ++ [goalW p gain]) l hlm hwl hv
 rw [hU] at hk680
 unfold maxLen at hg hr0
 have hq : True := trivial
 refine callsA_of_tr Tryd.func12 rfl (Nat.le_of_ble_eq_true rfl) ?_
 simp only [Tryd.results12, envOf, Nat.reduceAdd]
 refine tr_sR [1, 2, 3] fun K hK => ?_
 iterate 2 refine evR_p ?_
 refine evR_z hK ?_; clear hK K
 refine tr_seq fun K2 hK2 => ?_
 refine tr_sR [1, 2, 3, 14] fun K hK => ?_
 refine evR_p ?_
 refine evR_c (hc := (k75 _ _ _)) (k := ?_)
 refine evR_p ?_
 refine evR_z hK ?_; clear hK K
 refine tr_condB (fun ht1 => ?_) (fun ht1 => ?_)
 ·
  skip
  refine tr_sR [6] fun K hK => ?_
  refine evR_p ?_
  refine evR_z hK ?_; clear hK K
  refine retZ ?_; try exact ⟨⟩
  all_goals (first | (rw [wrongX_bounds ht1]; done) | (rw [bounds_out ht1]; done))
 ·
  skip
  refine skipZ ?_
  refine hK2 _ ?_
  refine tr_sR [1, 3, 7] fun K hK => ?_
  iterate 6 refine evR_p ?_
  refine evR_z hK ?_; clear hK K
  refine tr_seq fun K6 hK6 => ?_
  refine tr_sR [1, 3, 7, 20, 21, 22] fun K hK => ?_
  iterate 4 refine evR_p ?_
  refine evR_z hK ?_; clear hK K
  refine tr_block ?_
  -- loop 1: live [1, 3, 7, 20, 21, 22]
  refine tr_loopW (fun m σ => ∃ i : Nat, i + m = p.gain.length ∧ σ = ⟨[(1, .sl 4 (encSgs l)), (3, .ptr 0 0), (7, .ptr 1 0), (20, .sl 1 (encI p.gain)), (21, .int .i64 p.gain.length), (22, .int .i64 (i : Nat))], [(2, .row 3 1 (encI (negG p.gain i))), (1, .cells [.int .i64 0, .int .i64 0, .int .i64 0, .int .i64 0, .own 2, .int .i64 (IntKind.i64.wrap (0 - IntKind.i64.wrap (gain + 1)))]), (0, .cells (encPg p))], 3⟩) (p.gain.length) ?_ ?_
  ·
   exact ⟨_, Wk.nilown 3 1 1 4 rfl (Nat.le_of_ble_eq_true rfl) rfl, 0, by omega, rfl⟩
  ·
   rintro m σ ⟨i, hi, rfl⟩ KL1 hKL1
   refine tr_sR [1, 3, 7, 20, 21, 22, 23] fun K hK => ?_
   refine evR_p ?_
   refine evR_z hK ?_; clear hK K
   refine tr_seq fun K9 hK9 => ?_
   refine tr_condB (fun ht2 => ?_) (fun ht2 => ?_)
   ·
    skip
    have hil : i < p.gain.length := by omega
    have hnl := negG_length p.gain i
    replace hq := And.intro hq (And.intro hil (hnl))
    refine skipZ ?_
    refine hK9 _ ?_
    refine tr_seq fun K10 hK10 => ?_
    refine tr_block ?_
    refine tr_sR [1, 3, 7, 9, 20, 21, 22] fun K hK => ?_
    iterate 3 refine evR_p ?_
    refine evR_z hK ?_; clear hK K
    refine tr_region [1, 3, 7, 20, 21, 22] rfl rfl fun K hK => ?_
    iterate 4 refine evR_p ?_
    refine evR_bs ?_
    iterate 3 refine evR_p ?_
    refine evR_e hK ?_; clear hK K
    refine hK10 _ ?_
    refine tr_region [1, 3, 7, 20, 21, 22] rfl rfl fun K hK => ?_
    iterate 2 refine evR_p ?_
    refine evR_e hK ?_; clear hK K
    refine hKL1 _ ?_
    exact ⟨m - 1, _, by omega, (Wk.trans (Wk.ren 3 2 (Nat.le_of_ble_eq_true rfl) (Nat.le_of_ble_eq_true rfl) rfl) (Wk.cut 3 rfl)), i + 1, by omega, by rw [w64 (x := (i : Int) + 1) (by omega), negG_succ hil, encI_snoc]; rfl⟩
   ·
    skip
    have hil : i = p.gain.length := by omega
    subst hil
    have hk68 := hk680 (fun hv => goal_okRws hv ht1)
    rw [show encR (p.rows ++ [goalW p gain]) = encR p.rows ++ [[.int .i64 0, .int .i64 0, .int .i64 0, .int .i64 0, .sl 1 (encI (negG p.gain p.gain.length)), .int .i64 (IntKind.i64.wrap (0 - IntKind.i64.wrap (gain + 1)))]] from by simp [encR, encRw, goalW]] at hk68
    have hT : List.take p.rows.length (encR p.rows) = encR p.rows := List.take_of_length_le (by rw [encR_length]; omega)
    replace hq := And.intro hq hT
    refine tr_exit ?_
    simp only [thenE, inBlkE, Nat.reduceEqDiff, ↓reduceIte]
    refine hK6 _ ?_
    refine tr_seq fun K12 hK12 => ?_
    refine tr_fz [.own 2] (by simp (maxSteps := 4000000) (disch := first | assumption | omega | (simp only [go_sem, *]; done) | (simp only [go_sem, *]; omega)) only [go_sem, hq, Int.reduceToNat, Nat.reduceBEq, Nat.reduceEqDiff, Nat.reduceAdd, Nat.reduceMul, Nat.reduceLeDiff, Nat.reduceLT, Nat.reduceSub, ↓reduceIte, reduceCtorEq]; (try rfl)) ?_
    refine tr_draw [46, 47] [10] mixed rfl (by kernel_rfl) rfl fun K hK => ?_
    iterate 11 refine evD_p ?_
    refine evD_step fun Kq hKq => ?_
    simp (maxSteps := 4000000) (disch := first | assumption | omega | (simp only [go_sem, *]; done) | (simp only [go_sem, *]; omega)) only [isE, isO, stpO, notIn, St.bare, go_sem, hq, Int.reduceToNat, Nat.reduceBEq, Nat.reduceEqDiff, Nat.reduceAdd, Nat.reduceMul, Nat.reduceLeDiff, Nat.reduceLT, Nat.reduceSub, ↓reduceIte, reduceCtorEq]
    (repeat (refine And.intro (by first | assumption | omega | decide | (simp; done) | (simp; omega) | (have hq := hvv hgt; omega) | (have hq := hvv hgt.1; omega) | (simp_all; done)) ?_))
    refine Or.inl (hKq _ ?_); clear hKq Kq
    iterate 2 refine evD_p ?_
    refine evD_c (hc := hk68) (k := ?_)
    iterate 5 refine evD_p ?_
    refine evD_e hK ?_; clear hK K
    refine hK12 _ ?_
    refine tr_sR [6] fun K hK => ?_
    iterate 3 refine evR_p ?_
    refine evR_z hK ?_; clear hK K
    refine retZ ?_; try exact ⟨⟩
    all_goals (first | (rw [wrongX_bounds ht1]; done) | (rw [bounds_out ht1]; done))
end
theorem k32 (p : Pg) (hr0 : p.rows.length ≤ maxLen) (hg : p.gain.length ≤ maxLen) (hc : ∀ r ∈ p.rows, r.coef.length ≤ maxLen) (l : List Sg) (hlm : l.length ≤ maxLen) (hwl : ∀ k, k < l.length → ∀ s, l.getD k sg0 = s → s.ws.length ≤ maxLen) (hgs : p.gain.length ≤ 1000) (hrs : p.rows.length ≤ 100000) (gain : Int) : CallsA Tryd.prog 12 [.agg (encPg p), .sl 4 (encSgs l), .int .i64 gain] (.bool (boundsW p l gain)) := by
 rcases usedV_cases p (p.rows ++ [goalW p gain]) l with h | ⟨es, h⟩
 ·
  exact k32a p hr0 hg hc l hlm hwl hgs hrs gain h
 ·
  exact k32b p hr0 hg hc l hlm hwl hgs hrs gain es h

end Go.Proofs.YtfamkbofdamkkaaDoor
namespace Go.Proofs.YtfamkbofdamkkaaDoor
open Go.RowKit
set_option linter.unusedVariables false
set_option linter.unusedSimpArgs false
set_option maxRecDepth 100000
attribute [local go_sem] Nat.zero_add Nat.add_zero Nat.mul_one eq_self ne_eq not_true_eq_false not_false_eq_true decide_true decide_false decide_not Bool.false_eq_true List.filter_cons List.filter_nil true_and and_true beq_false beq_true Bool.not_true Bool.not_false Bool.and_true Bool.true_and Option.getD_some Option.getD_none imp_self implies_true Int.toNat_natCast List.cons_append List.nil_append List.map_cons List.map_nil List.length_cons List.length_nil List.getD_cons_zero List.getD_cons_succ List.drop_zero List.drop_succ_cons List.take_succ_cons List.take_zero
attribute [local go_sem] List.lookup Option.isSome_some Option.isSome_none Bool.or_true Bool.true_or Bool.or_false Bool.false_or false_and and_false false_or or_false
attribute [local go_sem] List.getElem?_cons_zero List.getElem?_cons_succ List.zip_cons_cons List.zip_nil_left List.zip_nil_right Bool.false_and Bool.and_false List.length_append List.length_set List.length_replicate List.all_cons List.all_nil encR_length encR_getD encRw encPg forall_const imp_self
attribute [local go_sem] encHr encOf encSp encP2 encSps_length encOfs_length encP2s_length encSps_getD encOfs_getD encP2s_getD
attribute [local simp] encI_length encR_length cellsI_length encSps_length encOfs_length encP2s_length
theorem kp46 (a b : P2) : CallsA Tryd.prog 48 [.sl 1 (encI [a.a, a.b]), .sl 1 (encI [b.a, b.b])] (.int .i64 (p2Cmp a b)) := by
 have hq : True := trivial
 refine callsA_of_tr Tryd.func48 rfl (Nat.le_of_ble_eq_true rfl) ?_
 simp only [Tryd.results48, envOf, Nat.reduceAdd]
 refine tr_sR [0, 1] fun K hK => ?_
 refine evR_p ?_
 refine evR_z hK ?_; clear hK K
 refine tr_seq fun K2 hK2 => ?_
 refine tr_sR [0, 1, 9, 10, 11] fun K hK => ?_
 iterate 3 refine evR_p ?_
 refine evR_z hK ?_; clear hK K
 refine tr_block ?_
 -- loop 1: live [0, 1, 9, 10, 11]
 refine tr_loopW (fun m σ => ∃ i : Nat, i + m = 2 ∧ (0 < i → cmpI a.a b.a = 0) ∧ (1 < i → cmpI a.b b.b = 0) ∧ σ = ⟨[(0, .sl 1 (encI [a.a, a.b])), (1, .sl 1 (encI [b.a, b.b])), (9, .sl 1 (encI [a.a, a.b])), (10, .int .i64 2), (11, .int .i64 (i : Nat))], [], 0⟩) (2) ?_ ?_
 ·
  exact ⟨_, Wk.refl _, 0, by omega, by omega, by omega, rfl⟩
 ·
  rintro m σ ⟨i, hi, hia, hib, rfl⟩ KL1 hKL1
  refine tr_sR [0, 1, 9, 10, 11, 12] fun K hK => ?_
  refine evR_p ?_
  refine evR_z hK ?_; clear hK K
  refine tr_seq fun K5 hK5 => ?_
  refine tr_condB (fun ht1 => ?_) (fun ht1 => ?_)
  ·
   skip
   (first | (exfalso; omega) | skip)
   all_goals
    have hil : i < 2 := by omega
    have hg : [a.a, a.b].getD i 0 = if i = 0 then a.a else a.b := by match i, hil with | 0, _ => rfl | 1, _ => rfl
    have hg2 : [b.a, b.b].getD i 0 = if i = 0 then b.a else b.b := by match i, hil with | 0, _ => rfl | 1, _ => rfl
    replace hq := And.intro hq (And.intro hil (And.intro hg (hg2)))
    refine skipZ ?_
    refine hK5 _ ?_
    refine tr_seq fun K6 hK6 => ?_
    refine tr_block ?_
    refine tr_sR [0, 1, 5, 6, 9, 10, 11] fun K hK => ?_
    iterate 5 refine evR_p ?_
    refine evR_z hK ?_; clear hK K
    refine tr_seq fun K8 hK8 => ?_
    refine tr_sR [0, 1, 5, 6, 9, 10, 11, 19] fun K hK => ?_
    iterate 4 refine evR_p ?_
    refine evR_z hK ?_; clear hK K
    refine tr_condB (fun ht2 => ?_) (fun ht2 => ?_)
    ·
     skip
     (first | (exfalso; omega) | skip)
     all_goals
      refine tr_sR [4] fun K hK => ?_
      refine evR_p ?_
      refine evR_z hK ?_; clear hK K
      refine retZ ?_; try exact ⟨⟩
      all_goals (first | (have h0 := hia (by omega); have h1 := hib (by omega); simp [p2Cmp, h0, h1]; done) | (rcases (show i = 0 ∨ i = 1 by omega) with rfl | rfl; (have h3 : cmpI a.a b.a ≠ 0 := by simpa using ht3); simp [p2Cmp, h3]; (have h3 := hia (by omega)); simp [p2Cmp, h3]; done))
    ·
     skip
     (first | (exfalso; omega) | skip)
     all_goals
      refine skipZ ?_
      refine hK8 _ ?_
      refine tr_sR [0, 1, 6, 7, 9, 10, 11] fun K hK => ?_
      iterate 5 refine evR_p ?_
      refine evR_z hK ?_; clear hK K
      refine tr_sR [0, 1, 8, 9, 10, 11] fun K hK => ?_
      iterate 2 refine evR_p ?_
      refine evR_c (hc := (kp44 _ _)) (k := ?_)
      refine evR_p ?_
      refine evR_z hK ?_; clear hK K
      refine tr_sR [0, 1, 8, 9, 10, 11, 28] fun K hK => ?_
      iterate 2 refine evR_p ?_
      refine evR_z hK ?_; clear hK K
      refine tr_condB (fun ht3 => ?_) (fun ht3 => ?_)
      ·
       skip
       (first | (exfalso; omega) | skip)
       all_goals
        refine tr_sR [4] fun K hK => ?_
        iterate 2 refine evR_p ?_
        refine evR_z hK ?_; clear hK K
        refine retZ ?_; try exact ⟨⟩
        all_goals (first | (have h0 := hia (by omega); have h1 := hib (by omega); simp [p2Cmp, h0, h1]; done) | (rcases (show i = 0 ∨ i = 1 by omega) with rfl | rfl; (have h3 : cmpI a.a b.a ≠ 0 := by simpa using ht3); simp [p2Cmp, h3]; (have h3 := hia (by omega)); simp [p2Cmp, h3]; done))
      ·
       skip
       (first | (exfalso; omega) | skip)
       all_goals
        refine skipZ ?_
        refine hK6 _ ?_
        refine tr_region [0, 1, 9, 10, 11] rfl rfl fun K hK => ?_
        iterate 2 refine evR_p ?_
        refine evR_e hK ?_; clear hK K
        refine hKL1 _ ?_
        exact ⟨m - 1, _, by omega, Wk.refl _, i + 1, by omega, (by intro _; rcases (show i = 0 ∨ i = 1 by omega) with rfl | rfl; (simpa using ht3); (exact hia (by omega))), (by intro _; rcases (show i = 0 ∨ i = 1 by omega) with rfl | rfl; omega; (simpa using ht3)), by rw [w64 (x := (i : Int) + 1) (by omega)]; rfl⟩
  ·
   skip
   (first | (exfalso; omega) | skip)
   all_goals
    have hil : i = 2 := by omega
    refine tr_exit ?_
    simp only [thenE, inBlkE, Nat.reduceEqDiff, ↓reduceIte]
    refine hK2 _ ?_
    refine tr_seq fun K15 hK15 => ?_
    refine tr_sR [35] fun K hK => ?_
    iterate 5 refine evR_p ?_
    refine evR_z hK ?_; clear hK K
    refine tr_condB (fun ht4 => ?_) (fun ht4 => ?_)
    ·
     skip
     (first | (exfalso; omega) | skip)
     all_goals
      refine tr_sR [4] fun K hK => ?_
      refine evR_p ?_
      refine evR_z hK ?_; clear hK K
      refine retZ ?_; try exact ⟨⟩
      all_goals (first | (have h0 := hia (by omega); have h1 := hib (by omega); simp [p2Cmp, h0, h1]; done) | (rcases (show i = 0 ∨ i = 1 by omega) with rfl | rfl; (have h3 : cmpI a.a b.a ≠ 0 := by simpa using ht3); simp [p2Cmp, h3]; (have h3 := hia (by omega)); simp [p2Cmp, h3]; done))
    ·
     skip
     (first | (exfalso; omega) | skip)
     all_goals
      refine skipZ ?_
      refine hK15 _ ?_
      refine tr_sR [4] fun K hK => ?_
      refine evR_p ?_
      refine evR_z hK ?_; clear hK K
      refine retZ ?_; try exact ⟨⟩
      all_goals (first | (have h0 := hia (by omega); have h1 := hib (by omega); simp [p2Cmp, h0, h1]; done) | (rcases (show i = 0 ∨ i = 1 by omega) with rfl | rfl; (have h3 : cmpI a.a b.a ≠ 0 := by simpa using ht3); simp [p2Cmp, h3]; (have h3 := hia (by omega)); simp [p2Cmp, h3]; done))

theorem kp45 (a b : P2) : CallsA Tryd.prog 47 [.agg (encP2 a), .agg (encP2 b)] (.int .i64 (p2Cmp a b)) := by
 have hq : True := trivial
 refine callsA_of_tr Tryd.func47 rfl (Nat.le_of_ble_eq_true rfl) ?_
 simp only [Tryd.results47, envOf, Nat.reduceAdd]
 refine tr_sR [2, 3] fun K hK => ?_
 iterate 3 refine evR_p ?_
 refine evR_z hK ?_; clear hK K
 refine tr_seq fun K2 hK2 => ?_
 refine tr_fz [.ptr 0 0, .ptr 1 0] (by simp (maxSteps := 4000000) (disch := first | assumption | omega | (simp only [go_sem, *]; done) | (simp only [go_sem, *]; omega)) only [go_sem, hq, Int.reduceToNat, Nat.reduceBEq, Nat.reduceEqDiff, Nat.reduceAdd, Nat.reduceMul, Nat.reduceLeDiff, Nat.reduceLT, Nat.reduceSub, ↓reduceIte, reduceCtorEq]; (try rfl)) ?_
 refine tr_draw [] [4] mixed rfl (by kernel_rfl) rfl fun K hK => ?_
 iterate 2 refine evD_p ?_
 refine evD_c (hc := (kp46 a b)) (k := ?_)
 refine evD_p ?_
 refine evD_e hK ?_; clear hK K
 refine hK2 _ ?_
 refine retZ ?_; try exact ⟨⟩
 all_goals (rfl)

theorem kp19 (h : Hr) (hr : h.rooms.length ≤ maxLen) (ho : h.offers.length ≤ maxLen) (ha : h.apart.length ≤ maxLen) (hm : h.must.length ≤ maxLen) : CallsA Tryd.prog 17 [.agg (encHr h)] (.bool (validH h)) := by
 have hr0 := hr
 have ho0 := ho
 have ha0 := ha
 have hm0 := hm
 unfold maxLen at hr0 ho0 ha0 hm0
 have hq : True := trivial
 refine callsA_of_tr Tryd.func17 rfl (Nat.le_of_ble_eq_true rfl) ?_
 simp only [Tryd.results17, envOf, Nat.reduceAdd]
 refine tr_sR [1] fun K hK => ?_
 iterate 2 refine evR_p ?_
 refine evR_z hK ?_; clear hK K
 refine tr_seq fun K2 hK2 => ?_
 refine tr_seq fun K3 hK3 => ?_
 refine tr_fz [.ptr 0 0] (by simp (maxSteps := 4000000) (disch := first | assumption | omega | (simp only [go_sem, *]; done) | (simp only [go_sem, *]; omega)) only [go_sem, hq, Int.reduceToNat, Nat.reduceBEq, Nat.reduceEqDiff, Nat.reduceAdd, Nat.reduceMul, Nat.reduceLeDiff, Nat.reduceLT, Nat.reduceSub, ↓reduceIte, reduceCtorEq]; (try rfl)) ?_
 refine tr_region [1, 25] rfl rfl fun K hK => ?_
 iterate 5 refine evR_p ?_
 iterate 4 refine evR_g ?_
 iterate 2 refine evR_p ?_
 iterate 4 refine evR_g ?_
 refine evR_p ?_
 refine evR_e hK ?_; clear hK K
 refine hK3 _ ?_
 refine tr_condB (fun ht1 => ?_) (fun ht1 => ?_)
 ·
  skip
  refine tr_sR [2] fun K hK => ?_
  refine evR_p ?_
  refine evR_z hK ?_; clear hK K
  refine retZ ?_; try exact ⟨⟩
  all_goals (first | (rw [valid_len ht1]; done) | (rw [valid_sp hil hpi ht3]; done) | (rw [valid_bad ht1 hpi ht4]; done) | (rw [valid_good ht1 hpi ht4, ofCmp_fun, p2Cmp_fun, intCmp_fun]; simp [Bool.and_assoc]; done))
 ·
  skip
  refine skipZ ?_
  refine hK2 _ ?_
  refine tr_sR [1, 3] fun K hK => ?_
  refine evR_p ?_
  refine evR_z hK ?_; clear hK K
  refine tr_seq fun K6 hK6 => ?_
  refine tr_sR [1, 3, 27, 28, 29] fun K hK => ?_
  iterate 4 refine evR_p ?_
  refine evR_z hK ?_; clear hK K
  refine tr_block ?_
  -- loop 1: live [1, 3, 27, 28, 29]
  refine tr_loopW (fun m σ => ∃ i : Nat, i + m = h.rooms.length ∧ (∀ j, j < i → spOk h.rooms j = true) ∧ σ = ⟨[(1, .ep (encHr h)), (3, .int .i64 (prevTo h.rooms i)), (27, .sl 2 (encSps h.rooms)), (28, .int .i64 h.rooms.length), (29, .int .i64 (i : Nat))], [], 1⟩) (h.rooms.length) ?_ ?_
  ·
   exact ⟨_, Wk.refl _, 0, by omega, (by intro j hj; omega), rfl⟩
  ·
   rintro m σ ⟨i, hi, hpi, rfl⟩ KL1 hKL1
   refine tr_sR [1, 3, 27, 28, 29, 30] fun K hK => ?_
   refine evR_p ?_
   refine evR_z hK ?_; clear hK K
   refine tr_seq fun K9 hK9 => ?_
   refine tr_condB (fun ht2 => ?_) (fun ht2 => ?_)
   ·
    skip
    have hil : i < h.rooms.length := by omega
    replace hq := And.intro hq (hil)
    refine skipZ ?_
    refine hK9 _ ?_
    refine tr_seq fun K10 hK10 => ?_
    refine tr_block ?_
    refine tr_sR [1, 3, 5, 27, 28, 29] fun K hK => ?_
    iterate 4 refine evR_p ?_
    refine evR_z hK ?_; clear hK K
    refine tr_seq fun K12 hK12 => ?_
    refine tr_sR [1, 5, 27, 28, 29, 48] fun K hK => ?_
    iterate 5 refine evR_p ?_
    iterate 5 refine evR_g ?_
    iterate 2 refine evR_p ?_
    iterate 3 refine evR_g ?_
    refine evR_p ?_
    refine evR_z hK ?_; clear hK K
    refine tr_condB (fun ht3 => ?_) (fun ht3 => ?_)
    ·
     skip
     refine tr_sR [2] fun K hK => ?_
     refine evR_p ?_
     refine evR_z hK ?_; clear hK K
     refine retZ ?_; try exact ⟨⟩
     all_goals (first | (rw [valid_len ht1]; done) | (rw [valid_sp hil hpi ht3]; done) | (rw [valid_bad ht1 hpi ht4]; done) | (rw [valid_good ht1 hpi ht4, ofCmp_fun, p2Cmp_fun, intCmp_fun]; simp [Bool.and_assoc]; done))
    ·
     skip
     refine skipZ ?_
     refine hK12 _ ?_
     refine tr_region [1, 3, 27, 28, 29] rfl rfl fun K hK => ?_
     iterate 3 refine evR_p ?_
     refine evR_e hK ?_; clear hK K
     refine hK10 _ ?_
     refine tr_region [1, 3, 27, 28, 29] rfl rfl fun K hK => ?_
     iterate 2 refine evR_p ?_
     refine evR_e hK ?_; clear hK K
     refine hKL1 _ ?_
     exact ⟨m - 1, _, by omega, Wk.cut 1 rfl, i + 1, by omega, sp_step hpi (by simpa using ht3), by rw [w64 (by omega)]; rfl⟩
   ·
    skip
    have hil : i = h.rooms.length := by omega
    subst hil
    refine tr_exit ?_
    simp only [thenE, inBlkE, Nat.reduceEqDiff, ↓reduceIte]
    refine hK6 _ ?_
    refine tr_sR [1, 6] fun K hK => ?_
    iterate 2 refine evR_p ?_
    refine evR_z hK ?_; clear hK K
    refine tr_sR [1, 6, 7] fun K hK => ?_
    refine evR_p ?_
    refine evR_z hK ?_; clear hK K
    refine tr_seq fun K17 hK17 => ?_
    refine tr_sR [1, 67] fun K hK => ?_
    iterate 3 refine evR_p ?_
    refine evR_c (hc := (kp38 h.offers 37 [.ep (encHr h)] (fun o => !ofOk h.rooms.length o) okF_37 rfl (fun o _ => kp35 o h hr) ho)) (k := ?_)
    refine evR_p ?_
    iterate 3 refine evR_g ?_
    refine evR_gc (hc := (kp39 h.apart 39 [] (fun a => !p2Ok a) okF_39 rfl (fun a _ => kp37 a) ha)) (k := ?_)
    iterate 2 refine evR_p ?_
    iterate 2 refine evR_g ?_
    refine evR_gc (hc := (kp40 h.must 43 [] (fun n => !isInB n 0 11) okF_43 rfl (fun n _ => kp41 n) hm)) (k := ?_)
    refine evR_p ?_
    refine evR_z hK ?_; clear hK K
    refine tr_condB (fun ht4 => ?_) (fun ht4 => ?_)
    ·
     skip
     refine tr_sR [2] fun K hK => ?_
     refine evR_p ?_
     refine evR_z hK ?_; clear hK K
     refine retZ ?_; try exact ⟨⟩
     all_goals (first | (rw [valid_len ht1]; done) | (rw [valid_sp hil hpi ht3]; done) | (rw [valid_bad ht1 hpi ht4]; done) | (rw [valid_good ht1 hpi ht4, ofCmp_fun, p2Cmp_fun, intCmp_fun]; simp [Bool.and_assoc]; done))
    ·
     skip
     refine skipZ ?_
     refine hK17 _ ?_
     refine tr_sR [1, 8] fun K hK => ?_
     refine evR_p ?_
     refine evR_z hK ?_; clear hK K
     refine tr_sR [1, 8, 9] fun K hK => ?_
     refine evR_p ?_
     refine evR_z hK ?_; clear hK K
     refine tr_sR [2] fun K hK => ?_
     iterate 3 refine evR_p ?_
     refine evR_c (hc := (kp47 h.offers 44 [] ofCmp okF_44 rfl (fun a _ b _ => kp42 a b) ho)) (k := ?_)
     refine evR_p ?_
     iterate 3 refine evR_g ?_
     refine evR_gc (hc := (kp48 h.apart 47 [] p2Cmp okF_47 rfl (fun a _ b _ => kp45 a b) ha)) (k := ?_)
     iterate 2 refine evR_p ?_
     iterate 2 refine evR_g ?_
     refine evR_gc (hc := (kp49 h.must 46 [] cmpI okF_46 rfl (fun a _ b _ => kp44 a b) hm)) (k := ?_)
     iterate 2 refine evR_p ?_
     refine evR_z hK ?_; clear hK K
     refine retZ ?_; try exact ⟨⟩
     all_goals (first | (rw [valid_len ht1]; done) | (rw [valid_sp hil hpi ht3]; done) | (rw [valid_bad ht1 hpi ht4]; done) | (rw [valid_good ht1 hpi ht4, ofCmp_fun, p2Cmp_fun, intCmp_fun]; simp [Bool.and_assoc]; done))

theorem kcond (h : Hr) (hV : VH h) (t : List Int) (ht : t.length = 24) (i : Nat) (hi : i < 4) : CallsA Tryd.prog (condF i) [.agg (encHr h), .agg (cellsI t)] (.bool (condB h t i)) := by
 match i, hi with
 | 0, _ => exact kp122 h hV t ht
 | 1, _ => exact kp124 h hV t ht
 | 2, _ => exact kp125 h hV t ht
 | 3, _ => exact kp126 h hV t ht
theorem okCond (i : Nat) (hi : i < 4) : okF Tryd.prog (condF i) = true := by
 match i, hi with
 | 0, _ => exact okF_119
 | 1, _ => exact okF_121
 | 2, _ => exact okF_122
 | 3, _ => exact okF_123
theorem keeps_no {h : Hr} {s : Int} (hx : validH h = false ∨ choiceH h s = false) : keepsH h s = false := by
 unfold keepsH
 rcases hx with e | e <;> rw [e] <;> simp
theorem keeps_yes {h : Hr} {s : Int} (hx : validH h = true ∧ choiceH h s = true) : validH h = true ∧ choiceH h s = true := hx
theorem keeps_t {h : Hr} {s : Int} (hv : validH h = true) (hc : choiceH h s = true) {b : Bool} (hb : allTo (condB h (tal h s h.offers.length)) 4 = b) : keepsH h s = b := by
 obtain ⟨n, rfl, hn⟩ := choiceH_nat hc
 unfold keepsH
 rw [hv, hc, Bool.true_and, Bool.true_and, ← keepsT_fits (validH_all hv)]
 exact hb
def coefP (h : Hr) (c : Of → Int) (i : Nat) : List Int := (h.offers.take i).map c ++ List.replicate (h.offers.length - i) 0
theorem coefP_length (h : Hr) (c : Of → Int) {i : Nat} (hi : i ≤ h.offers.length) : (coefP h c i).length = h.offers.length := by simp [coefP]; omega
theorem coefP_0 (h : Hr) (c : Of → Int) : coefP h c 0 = List.replicate h.offers.length 0 := by simp [coefP]
theorem coefP_end (h : Hr) (c : Of → Int) : coefP h c h.offers.length = coefF h c := by simp [coefP, coefF]
theorem coefP_set (h : Hr) (c : Of → Int) {i : Nat} (hi : i < h.offers.length) : (coefP h c i).set i (c (h.offers.getD i of0)) = coefP h c (i + 1) := by
 unfold coefP
 have e : h.offers.length - i = (h.offers.length - (i + 1)) + 1 := by omega
 have hl : ((h.offers.take i).map c).length = i := by simp; omega
 rw [e, List.replicate_succ, List.set_append_right _ _ (by omega), hl, Nat.sub_self, List.set_cons_zero, take_snoc c of0 hi, List.append_assoc]
 rfl
def nzT (h : Hr) (c : Of → Int) : Nat → Nat
 | 0 => 0
 | n + 1 => if c (h.offers.getD n of0) = 0 then nzT h c n else nzT h c n + 1
theorem nzT_le (h : Hr) (c : Of → Int) : ∀ n, nzT h c n ≤ n
 | 0 => Nat.le_refl _
 | n + 1 => by have := nzT_le h c n; simp only [nzT]; split <;> omega
theorem nzT_end (h : Hr) (c : Of → Int) : nzT h c h.offers.length = nzF h c := by
 have : ∀ n, n ≤ h.offers.length → nzT h c n = ((h.offers.take n).filter fun o => !decide (c o = 0)).length := by
  intro n
  induction n with
  | zero => intro _; rfl
  | succ n ih =>
   intro hn
   rw [List.take_add_one, List.getElem?_eq_getElem (show n < h.offers.length by omega), List.filter_append, List.length_append, ← ih (by omega)]
   have e : h.offers.getD n of0 = h.offers[n] := by simp [List.getD, show n < h.offers.length by omega]
   simp only [nzT, e, Option.toList]
   by_cases hc : c h.offers[n] = 0 <;> simp [hc]
 have h2 := this _ (Nat.le_refl _)
 rw [List.take_length] at h2
 exact h2
theorem roomRs_s (h : Hr) (i : Nat) : roomRs h (i + 1) = roomRs h i ++ [roomR h i] := by simp [roomRs, List.range_succ]
theorem onceRs_t {h : Hr} {n : Nat} (hx : 1 < ((nzF h (oneC 1 (isP n)) : Nat) : Int)) : onceRs h (n + 1) = onceRs h n ++ [onceR h n] := by simp only [onceRs]; rw [if_pos (by omega)]
theorem onceRs_f {h : Hr} {n : Nat} (hx : ¬ 1 < ((nzF h (oneC 1 (isP n)) : Nat) : Int)) : onceRs h (n + 1) = onceRs h n := by simp only [onceRs]; rw [if_neg (by omega)]
theorem apartRs_t {h : Hr} {a : P2} {n : Nat} (hx : 1 < ((nzF h (oneC 1 (isA a n)) : Nat) : Int)) : apartRs h a (n + 1) = apartRs h a n ++ [apartR h a n] := by simp only [apartRs]; rw [if_pos (by omega)]
theorem apartRs_f {h : Hr} {a : P2} {n : Nat} (hx : ¬ 1 < ((nzF h (oneC 1 (isA a n)) : Nat) : Int)) : apartRs h a (n + 1) = apartRs h a n := by simp only [apartRs]; rw [if_neg (by omega)]
theorem mustRs_s {h : Hr} {i : Nat} (hi : i < h.must.length) : mustRs h (i + 1) = mustRs h i ++ [mustR h (h.must.getD i 0)] := by
 exact take_snoc _ _ hi
theorem roomRs_len (h : Hr) (n : Nat) : (roomRs h n).length = n := by simp [roomRs]
theorem mustRs_len (h : Hr) (n : Nat) : (mustRs h n).length ≤ n := by simp [mustRs]; omega
theorem app3 (R A P X : List Rw) : R ++ (A ++ (P ++ X)) = R ++ (A ++ P) ++ X := by simp
def valsT (h : Hr) (i : Nat) : List Int := (h.offers.take i).map (·.vl)
theorem valsT_s {h : Hr} {i : Nat} (hi : i < h.offers.length) : valsT h (i + 1) = valsT h i ++ [(h.offers.getD i of0).vl] := by
 exact take_snoc _ _ hi
theorem valsT_len (h : Hr) (i : Nat) : (valsT h i).length ≤ i := by simp [valsT]; omega
theorem valsT_end (h : Hr) : valsT h h.offers.length = h.offers.map (·.vl) := by simp [valsT]
/-- The promises that a choice keeps. -/
def keptW (h : Hr) (s : Int) : Nat → List Int
 | 0 => []
 | n + 1 => if 0 < (tal h s h.offers.length).getD n 0 then keptW h s n ++ [(n : Int)] else keptW h s n
def keptV (h : Hr) (s : Int) : List V := if validH h && choiceH h s then [.sl 1 (encI (keptW h s 12)), .int .i64 0] else [.nsl, .int .i64 250]
/-- When the offers of a choice are on the air. -/
def plcT (h : Hr) (s : Int) (k : Nat) (at0 : Int) : Nat → Int × List T3
 | 0 => (at0, [])
 | n + 1 =>
  let p := plcT h s k at0 n
  if decide ((h.offers.getD n of0).rm = k) && tkn s n then (IntKind.i64.wrap (p.1 + (h.offers.getD n of0).ln), p.2 ++ [⟨p.1, IntKind.i64.wrap (p.1 + (h.offers.getD n of0).ln), IntKind.i64.wrap ((h.offers.getD n of0).pr + 1)⟩]) else p
def plcW (h : Hr) (s : Int) : Nat → List T3
 | 0 => []
 | k + 1 => plcW h s k ++ (plcT h s k (h.rooms.getD k sp0).fr h.offers.length).2
def plcV (h : Hr) (s : Int) : List V := if keepsH h s then [.sl 3 (encT (plcW h s h.rooms.length)), .int .i64 0] else [.nsl, .int .i64 250]
theorem encI_one (a : List Int) (x : Int) : encI a ++ (List.replicate 1 [V.int .i64 0]).set 0 [V.int .i64 x] = encI (a ++ [x]) := by simp [encI]
def refV (h : Hr) (n : Int) : List V :=
 if validH h && isInB n 0 11 then
  (if (bestH (withH h n)).found then [.nsl, .bool false, .int .i64 0] else [.sl 4 (encS (bestH (withH h n)).proof), .bool true, .int .i64 0])
 else [.nsl, .bool false, .int .i64 250]
theorem ref_no {h : Hr} {n : Int} (hx : validH h = false ∨ isInB n 0 11 = false) : refV h n = [.nsl, .bool false, .int .i64 250] := by
 unfold refV
 rcases hx with e | e <;> rw [e] <;> simp
theorem ref_f {h : Hr} {n : Int} (h1 : validH h = true) (h2 : isInB n 0 11 = true) (hf : (bestH (withH h n)).found = true) : refV h n = [.nsl, .bool false, .int .i64 0] := by unfold refV; rw [h1, h2, hf]; rfl
theorem ref_t {h : Hr} {n : Int} (h1 : validH h = true) (h2 : isInB n 0 11 = true) (hf : (bestH (withH h n)).found = false) : refV h n = [.sl 4 (encS (bestH (withH h n)).proof), .bool true, .int .i64 0] := by unfold refV; rw [h1, h2, hf]; rfl
theorem valid_pw {h : Hr} (hv : validH h = true) : pwI h.must := by
 simp only [validH, Bool.and_eq_true] at hv
 exact pwI_iff.1 hv.2.2.2.2.2.2.2.2.2
def choW (h : Hr) (s : Int) : Int := pickW s ((2 ^ h.offers.length : Nat) : Int)
/-- With a promise more, step by step. -/
def wthT (l : List Int) (n : Int) : Nat → Bool × List Int
 | 0 => (false, [])
 | i + 1 =>
  let p := wthT l n i
  let p1 := if !p.1 && decide (n ≤ l.getD i 0) then (true, p.2 ++ [n]) else p
  if l.getD i 0 = n then p1 else (p1.1, p1.2 ++ [l.getD i 0])
theorem wthT_len (l : List Int) (n : Int) : ∀ i, (wthT l n i).2.length ≤ 2 * i
 | 0 => by simp [wthT]
 | i + 1 => by
  have := wthT_len l n i
  simp only [wthT]
  split <;> split <;> (try simp only [List.length_append, List.length_singleton]) <;> omega
def wthE (l : List Int) (n : Int) : List Int := if (wthT l n l.length).1 then (wthT l n l.length).2 else (wthT l n l.length).2 ++ [n]
theorem insI_snoc_lt {n x : Int} : ∀ {l : List Int}, pwI (l ++ [x]) → n < x → (∃ y ∈ l, n ≤ y) → insI n (l ++ [x]) = insI n l ++ [x]
 | [], _, _, h => by obtain ⟨y, hy, -⟩ := h; cases hy
 | a :: l, hp, hx, h => by
  unfold pwI at hp
  rw [List.cons_append, List.pairwise_cons] at hp
  simp only [List.cons_append, insI]
  by_cases h1 : n ≤ a
  ·
   rw [if_pos h1, if_pos h1]
   by_cases h2 : a = n
   ·
    rw [if_pos h2, if_pos h2]; rfl
   ·
    rw [if_neg h2, if_neg h2]; rfl
  ·
   rw [if_neg h1, if_neg h1, insI_snoc_lt hp.2 hx]
   ·
    rfl
   ·
    obtain ⟨y, hy, hy2⟩ := h
    rcases List.mem_cons.1 hy with rfl | hy
    ·
     exact absurd hy2 h1
    ·
     exact ⟨y, hy, hy2⟩
theorem insI_all {n : Int} : ∀ {l : List Int}, (∀ y ∈ l, y < n) → insI n l = l ++ [n]
 | [], _ => rfl
 | a :: l, h => by
  simp only [insI]
  have := h a List.mem_cons_self
  rw [if_neg (by omega), insI_all fun y hy => h y (List.mem_cons_of_mem _ hy)]; rfl
theorem insI_snoc_ge {n x : Int} : ∀ {l : List Int}, (∀ y ∈ l, y < n) → n ≤ x → insI n (l ++ [x]) = if x = n then l ++ [n] else l ++ [n, x]
 | [], _, h => by
  simp only [List.nil_append, insI]
  rw [if_pos h]
  split
  ·
   rename_i e; rw [e]
  ·
   rfl
 | a :: l, h, hx => by
  have := h a List.mem_cons_self
  simp only [List.cons_append, insI]
  rw [if_neg (by omega), insI_snoc_ge (fun y hy => h y (List.mem_cons_of_mem _ hy)) hx]
  split <;> rfl
theorem pwI_take {l : List Int} (h : pwI l) (i : Nat) : pwI (l.take i) := List.Pairwise.sublist (List.take_sublist _ _) h
theorem take_snocI {l : List Int} {i : Nat} (hi : i < l.length) : l.take (i + 1) = l.take i ++ [l.getD i 0] := by
 rw [List.take_add_one, List.getElem?_eq_getElem hi]; simp [List.getD, hi]
theorem wth_inv {l : List Int} (hp : pwI l) (n : Int) : ∀ i, i ≤ l.length → ((wthT l n i).1 = false → (∀ y ∈ l.take i, y < n) ∧ (wthT l n i).2 = l.take i) ∧ ((wthT l n i).1 = true → (∃ y ∈ l.take i, n ≤ y) ∧ (wthT l n i).2 = insI n (l.take i))
 | 0, _ => by simp [wthT]
 | i + 1, hi => by
  obtain ⟨h1, h2⟩ := wth_inv hp n i (by omega)
  have e := take_snocI (l := l) (i := i) (by omega)
  have hpt := pwI_take hp (i + 1)
  rw [e] at hpt
  cases hb : (wthT l n i).1 with
  | false =>
   obtain ⟨kp1, kp2⟩ := h1 hb
   by_cases hx : n ≤ l.getD i 0
   ·
    have hw : wthT l n (i + 1) = if l.getD i 0 = n then (true, l.take i ++ [n]) else (true, l.take i ++ [n] ++ [l.getD i 0]) := by
     simp only [wthT, hb, kp2, Bool.not_false, Bool.true_and, decide_eq_true hx, if_true]
    have hfst : (wthT l n (i + 1)).1 = true := by rw [hw]; split <;> rfl
    refine ⟨fun h => (by rw [hfst] at h; cases h), fun _ => ⟨⟨l.getD i 0, by rw [e]; simp, hx⟩, ?_⟩⟩
    rw [e, insI_snoc_ge kp1 hx, hw]
    split <;> simp
   ·
    have hw : wthT l n (i + 1) = (false, l.take i ++ [l.getD i 0]) := by
     simp only [wthT, hb, Bool.not_false, Bool.true_and, decide_eq_false hx, Bool.false_eq_true, if_false]
     rw [if_neg (by omega), kp2]
    refine ⟨fun _ => ⟨fun y hy => ?_, by rw [hw, e]⟩, fun h => by rw [hw] at h; cases h⟩
    rw [e] at hy
    rcases List.mem_append.1 hy with hy | hy
    ·
     exact kp1 y hy
    ·
     rw [List.mem_singleton] at hy; omega
  | true =>
   obtain ⟨⟨y, hy, hy2⟩, kp2⟩ := h2 hb
   have hlt : n < l.getD i 0 := by
    unfold pwI at hpt
    rw [List.pairwise_append] at hpt
    have := hpt.2.2 y hy (l.getD i 0) (List.mem_singleton.2 rfl)
    omega
   have hw : wthT l n (i + 1) = (true, (wthT l n i).2 ++ [l.getD i 0]) := by
    simp only [wthT, hb, Bool.not_true, Bool.false_and, Bool.false_eq_true, if_false]
    rw [if_neg (by omega)]
   refine ⟨fun h => (by rw [hw] at h; cases h), fun _ => ⟨⟨y, by rw [e]; exact List.mem_append_left _ hy, hy2⟩, ?_⟩⟩
   rw [hw, e, kp2, insI_snoc_lt hpt hlt ⟨y, hy, hy2⟩]
theorem wthE_ins {l : List Int} (hp : pwI l) (n : Int) : wthE l n = insI n l := by
 obtain ⟨h1, h2⟩ := wth_inv hp n l.length (Nat.le_refl _)
 rw [List.take_length] at h1 h2
 unfold wthE
 cases hb : (wthT l n l.length).1 with
 | false => obtain ⟨kp1, kp2⟩ := h1 hb; rw [kp2, insI_all kp1]; rfl
 | true => exact (h2 hb).2
theorem wth_tt {l : List Int} {n : Int} {i : Nat} (h1 : (wthT l n i).1 = false ∧ n ≤ l.getD i 0) (h2 : ¬ l.getD i 0 = n) : wthT l n (i + 1) = (true, (wthT l n i).2 ++ [n] ++ [l.getD i 0]) := by
 simp only [wthT, h1.1, Bool.not_false, Bool.true_and, decide_eq_true h1.2, if_true]; rw [if_neg h2]
theorem wth_tf {l : List Int} {n : Int} {i : Nat} (h1 : (wthT l n i).1 = false ∧ n ≤ l.getD i 0) (h2 : l.getD i 0 = n) : wthT l n (i + 1) = (true, (wthT l n i).2 ++ [n]) := by
 simp only [wthT, h1.1, Bool.not_false, Bool.true_and, decide_eq_true h1.2, if_true]; rw [if_pos h2]
theorem wth_p1 {l : List Int} {n : Int} {i : Nat} (h1 : (wthT l n i).1 = true ∨ ¬ n ≤ l.getD i 0) : (if (!(wthT l n i).1 && decide (n ≤ l.getD i 0)) = true then (true, (wthT l n i).2 ++ [n]) else wthT l n i) = wthT l n i := by
 rw [if_neg]
 rcases h1 with h | h
 ·
  rw [h]; simp
 ·
  rw [decide_eq_false h]; simp
theorem wth_ft {l : List Int} {n : Int} {i : Nat} (h1 : (wthT l n i).1 = true ∨ ¬ n ≤ l.getD i 0) (h2 : ¬ l.getD i 0 = n) : wthT l n (i + 1) = ((wthT l n i).1, (wthT l n i).2 ++ [l.getD i 0]) := by
 simp only [wthT, wth_p1 h1]; rw [if_neg h2]
theorem wth_ff {l : List Int} {n : Int} {i : Nat} (h1 : (wthT l n i).1 = true ∨ ¬ n ≤ l.getD i 0) (h2 : l.getD i 0 = n) : wthT l n (i + 1) = wthT l n i := by
 simp only [wthT, wth_p1 h1]; rw [if_pos h2]
theorem wthE_f {l : List Int} {n : Int} (h : (wthT l n l.length).1 = false) : wthE l n = (wthT l n l.length).2 ++ [n] := by unfold wthE; rw [h]; rfl
theorem wthE_t {l : List Int} {n : Int} (h : (wthT l n l.length).1 = true) : wthE l n = (wthT l n l.length).2 := by unfold wthE; rw [h]; rfl
/-- The sum of values, as the statement reckons it. -/
def gnT (h : Hr) (s : Int) : Nat → Int
 | 0 => 0
 | n + 1 => if (shrW .i64 s n).tmod 2 = 1 then IntKind.i64.wrap (gnT h s n + (h.offers.getD n of0).vl) else gnT h s n
theorem t3_ext {a b : T3} : a = b ↔ a.p = b.p ∧ a.q = b.q ∧ a.r = b.r := by
 cases a; cases b; simp
instance : DecidableEq T3 := fun a b => decidable_of_iff _ (t3_ext (a := a) (b := b)).symm
def exH (must : List Int) : Hr := ⟨[⟨100, 130⟩, ⟨200, 260⟩], [⟨0, 0, 20, 50⟩, ⟨0, 1, 20, 40⟩, ⟨1, 0, 30, 60⟩, ⟨2, 1, 45, 70⟩], [⟨0, 2⟩], must⟩
/-! #### rooms -/
def mkR (x : List P2) (a0 : Int) : Nat → Int × List Sp
  | 0 => (a0, [])
  | n + 1 =>
    let f := IntKind.i64.wrap ((mkR x a0 n).1 + pickW (x.getD n p20).a 30)
    let t := IntKind.i64.wrap (IntKind.i64.wrap (f + 10) + pickW (x.getD n p20).b 60)
    (t, (mkR x a0 n).2 ++ [⟨f, t⟩])
theorem mkR_len (x : List P2) (a0 : Int) : ∀ n, (mkR x a0 n).2.length = n
  | 0 => rfl
  | n + 1 => by simp [mkR, mkR_len x a0 n]
def okP2 (p : P2) : Prop := okI p.a ∧ okI p.b
theorem okP2_getD {x : List P2} (hx : ∀ p ∈ x, okP2 p) (n : Nat) : okP2 (x.getD n p20) := by
  by_cases h : n < x.length
  · exact hx _ (getD_mem h)
  · have : x.getD n p20 = p20 := by simp [List.getD, List.getElem?_eq_none (Nat.le_of_not_lt h)]
    rw [this]; unfold okP2 okI p20; simp
theorem mkR_at {x : List P2} (hx : ∀ p ∈ x, okP2 p) {a0 : Int} (h0 : 0 ≤ a0 ∧ a0 ≤ 3599) : ∀ n, n ≤ 4 → (0 ≤ (mkR x a0 n).1 ∧ (mkR x a0 n).1 ≤ 3599 + (n : Int) * 100) ∧ (∀ i, i < n → spOk (mkR x a0 n).2 i = true) ∧ (0 < n → ((mkR x a0 n).2.getD (n - 1) sp0).to = (mkR x a0 n).1)
  | 0, _ => ⟨by simp [mkR]; omega, fun i hi => by omega, fun h => by omega⟩
  | n + 1, hn => by
    obtain ⟨⟨h1, h2⟩, h3, h4⟩ := mkR_at hx h0 n (by omega)
    have hl := mkR_len x a0 n
    obtain ⟨o1, o2⟩ := okP2_getD hx n
    have p1 := pickW_range (x.getD n p20).a (n := 30) (by omega) (by omega) o1
    have p2 := pickW_range (x.getD n p20).b (n := 60) (by omega) (by omega) o2
    have w1 : IntKind.i64.wrap ((mkR x a0 n).1 + pickW (x.getD n p20).a 30) = (mkR x a0 n).1 + pickW (x.getD n p20).a 30 := w64 (by omega)
    have w2 : IntKind.i64.wrap ((mkR x a0 n).1 + pickW (x.getD n p20).a 30 + 10) = (mkR x a0 n).1 + pickW (x.getD n p20).a 30 + 10 := w64 (by omega)
    have w3 : IntKind.i64.wrap ((mkR x a0 n).1 + pickW (x.getD n p20).a 30 + 10 + pickW (x.getD n p20).b 60) = (mkR x a0 n).1 + pickW (x.getD n p20).a 30 + 10 + pickW (x.getD n p20).b 60 := w64 (by omega)
    have e : mkR x a0 (n + 1) = ((mkR x a0 n).1 + pickW (x.getD n p20).a 30 + 10 + pickW (x.getD n p20).b 60, (mkR x a0 n).2 ++ [⟨(mkR x a0 n).1 + pickW (x.getD n p20).a 30, (mkR x a0 n).1 + pickW (x.getD n p20).a 30 + 10 + pickW (x.getD n p20).b 60⟩]) := by
      simp only [mkR, w1, w2, w3]
    rw [e]
    simp only
    have gl : ∀ (s : Sp) i, i < n → ((mkR x a0 n).2 ++ [s]).getD i sp0 = (mkR x a0 n).2.getD i sp0 := fun s i hi => by
      simp [List.getD, List.getElem?_append_left (show i < (mkR x a0 n).2.length by omega)]
    have ge : ∀ (s : Sp), ((mkR x a0 n).2 ++ [s]).getD n sp0 = s := fun s => by
      simp [List.getD, List.getElem?_append_right (show (mkR x a0 n).2.length ≤ n by omega), hl]
    refine ⟨⟨by omega, by rw [show ((n + 1 : Nat) : Int) * 100 = n * 100 + 100 by omega]; omega⟩, fun i hi => ?_, fun _ => by rw [Nat.add_sub_cancel, ge]⟩
    by_cases ei : i = n
    · subst ei
      rw [spOk_iff, ge]
      refine ⟨by simp only; omega, by simp only; omega, by simp only; omega, fun hp => ?_⟩
      rw [gl _ _ (by omega), h4 hp]
      simp only; omega
    · have := h3 i (by omega)
      rw [spOk_iff] at this ⊢
      rw [gl _ _ (by omega)]
      refine ⟨this.1, this.2.1, this.2.2.1, fun hp => ?_⟩
      rw [gl _ _ (by omega)]
      exact this.2.2.2 hp
/-! #### offers -/
def mkO (n : Nat) (o : Of) : Of := ⟨pickW o.pr 6, pickW o.rm n, IntKind.i64.wrap (5 + pickW o.ln 40), pickW o.vl 100⟩
def okO (o : Of) : Prop := okI o.pr ∧ okI o.rm ∧ okI o.ln ∧ okI o.vl
def posO (o : Of) : List Of → Nat
  | [] => 0
  | a :: l => if ofLt a o then posO o l + 1 else 0
def sameK (a b : Of) : Bool := decide (a.pr = b.pr) && decide (a.rm = b.rm)
def insO (l : List Of) (o : Of) : List Of := if posO o l < l.length ∧ sameK (l.getD (posO o l) of0) o = true then l else l.take (posO o l) ++ o :: l.drop (posO o l)
def offT (n : Nat) (x : List Of) : Nat → List Of
  | 0 => []
  | i + 1 => insO (offT n x i) (mkO n (x.getD i of0))
theorem posO_at {o : Of} : ∀ {l : List Of} {k : Nat}, k ≤ l.length → (∀ j, j < k → ofLt (l.getD j of0) o = true) → (k < l.length → ofLt (l.getD k of0) o = false) → posO o l = k
  | [], k, hk, _, _ => by have : k = 0 := by simpa using hk
                          subst this; rfl
  | a :: l, 0, _, _, h => by
    have := h (by simp)
    simp only [List.getD_cons_zero] at this
    simp [posO, this]
  | a :: l, k + 1, hk, h1, h2 => by
    have h0 := h1 0 (by omega)
    simp only [List.getD_cons_zero] at h0
    simp only [posO, h0, if_true]
    rw [posO_at (l := l) (k := k) (by simpa using hk) (fun j hj => by have := h1 (j + 1) (by omega); simpa using this) (fun hj => by have := h2 (by simpa using hj); simpa using this)]
theorem posO_le (o : Of) : ∀ l : List Of, posO o l ≤ l.length
  | [] => Nat.le_refl _
  | a :: l => by have := posO_le o l; simp only [posO, List.length_cons]; split <;> omega
theorem posO_lt {o : Of} : ∀ {l : List Of} {j : Nat}, j < posO o l → ofLt (l.getD j of0) o = true
  | [], j, h => by simp [posO] at h
  | a :: l, j, h => by
    simp only [posO] at h
    split at h
    · cases j with
      | zero => simpa
      | succ j => have := posO_lt (o := o) (l := l) (j := j) (by omega); simpa using this
    · omega
theorem posO_ge {o : Of} : ∀ {l : List Of}, posO o l < l.length → ofLt (l.getD (posO o l) of0) o = false
  | [], h => by simp [posO] at h
  | a :: l, h => by
    simp only [posO] at h ⊢
    split
    · rename_i ha
      rw [if_pos ha] at h
      have := posO_ge (l := l) (by simpa using h)
      simpa using this
    · rename_i ha
      simpa using ha
theorem insO_len (l : List Of) (o : Of) : l.length ≤ (insO l o).length ∧ (insO l o).length ≤ l.length + 1 := by
  have := posO_le o l
  unfold insO
  split
  · omega
  · simp; omega
theorem offT_len (n : Nat) (x : List Of) : ∀ i, (offT n x i).length ≤ i
  | 0 => by simp [offT]
  | i + 1 => by have := offT_len n x i; have := (insO_len (offT n x i) (mkO n (x.getD i of0))).2; simp only [offT]; omega
theorem mem_insO {l : List Of} {o x : Of} (h : x ∈ insO l o) : x = o ∨ x ∈ l := by
  unfold insO at h
  split at h
  · exact .inr h
  · rcases List.mem_append.1 h with h | h
    · exact .inr (List.mem_of_mem_take h)
    · rcases List.mem_cons.1 h with h | h
      · exact .inl h
      · exact .inr (List.mem_of_mem_drop h)
def pwO (l : List Of) : Prop := l.Pairwise fun a b => ofLt a b = true
theorem pwO_iff {l : List Of} : ascB of0 ofLt l = true ↔ pwO l := by
  unfold pwO
  rw [List.pairwise_iff_getElem]
  constructor
  · intro h i j hi hj hij
    have := asc_lt ofLt_tr h hij hj
    simpa [List.getD, hi, hj] using this
  · intro h
    rw [ascB_iff]
    intro i h0 hi
    have := h (i - 1) i (by omega) hi (by omega)
    simpa [List.getD, hi, show i - 1 < l.length by omega] using this
theorem pwO_ins {l : List Of} {o : Of} (h : pwO l) : pwO (insO l o) := by
  unfold insO
  split
  · exact h
  · rename_i hn
    have hle := posO_le o l
    unfold pwO at h ⊢
    have ht : (l.take (posO o l)).Pairwise fun a b => ofLt a b = true := List.Pairwise.sublist (List.take_sublist _ _) h
    have hd : (l.drop (posO o l)).Pairwise fun a b => ofLt a b = true := List.Pairwise.sublist (List.drop_sublist _ _) h
    have htd : ∀ a ∈ l.take (posO o l), ofLt a o = true := fun a ha => by
      obtain ⟨j, hj, e⟩ := mem_getDI (d := of0) ha
      have hj' : j < posO o l := by rw [List.length_take] at hj; omega
      rw [← e, show (l.take (posO o l)).getD j of0 = l.getD j of0 by simp [List.getD, List.getElem?_take, hj']]
      exact posO_lt hj'
    have hod : ∀ b ∈ l.drop (posO o l), ofLt o b = true := fun b hb => by
      obtain ⟨j, hj, e⟩ := mem_getDI (d := of0) hb
      have hlen : posO o l < l.length := by rw [List.length_drop] at hj; omega
      have h1 := posO_ge hlen
      have h2 : ¬ sameK (l.getD (posO o l) of0) o = true := fun hs => hn ⟨hlen, hs⟩
      have h3 : ofLt o (l.getD (posO o l) of0) = true := by
        rw [ofLt_iff]
        rw [Bool.eq_false_iff, ne_eq, ofLt_iff] at h1
        simp only [sameK, Bool.and_eq_true, decide_eq_true_eq] at h2
        omega
      have e2 : b = l.getD (posO o l + j) of0 := by rw [← e]; simp [List.getD, List.getElem?_drop]
      rw [e2]
      by_cases hj0 : j = 0
      · subst hj0; exact h3
      · rw [List.length_drop] at hj
        exact ofLt_tr _ _ _ h3 (asc_lt ofLt_tr (pwO_iff.2 h) (show posO o l < posO o l + j by omega) (by omega))
    rw [List.pairwise_append]
    refine ⟨ht, List.pairwise_cons.2 ⟨hod, hd⟩, fun a ha b hb => ?_⟩
    rcases List.mem_cons.1 hb with rfl | hb
    · exact htd a ha
    · exact ofLt_tr _ _ _ (htd a ha) (hod b hb)
theorem okO_getD {x : List Of} (hx : ∀ p ∈ x, okO p) (n : Nat) : okO (x.getD n of0) := by
  by_cases h : n < x.length
  · exact hx _ (getD_mem h)
  · have : x.getD n of0 = of0 := by simp [List.getD, List.getElem?_eq_none (Nat.le_of_not_lt h)]
    rw [this]; unfold okO okI of0; simp
theorem mkO_ok {o : Of} (h : okO o) {n : Nat} (h0 : 0 < n) (hn : n ≤ 4) : ofOk n (mkO n o) = true ∧ 0 ≤ pickW o.ln 40 ∧ pickW o.ln 40 < 40 := by
  obtain ⟨o1, o2, o3, o4⟩ := h
  have p1 := pickW_range o.pr (n := 6) (by omega) (by omega) o1
  have p2 := pickW_range o.rm (n := (n : Int)) (by omega) (by omega) o2
  have p3 := pickW_range o.ln (n := 40) (by omega) (by omega) o3
  have p4 := pickW_range o.vl (n := 100) (by omega) (by omega) o4
  have w : IntKind.i64.wrap (5 + pickW o.ln 40) = 5 + pickW o.ln 40 := w64 (by omega)
  refine ⟨?_, p3⟩
  rw [ofOk_iff]
  simp only [mkO, w]
  omega
theorem offT_ok {x : List Of} (hx : ∀ p ∈ x, okO p) {n : Nat} (h0 : 0 < n) (hn : n ≤ 4) : ∀ i, pwO (offT n x i) ∧ ∀ o ∈ offT n x i, ofOk n o = true
  | 0 => ⟨List.Pairwise.nil, fun o ho => by simp [offT] at ho⟩
  | i + 1 => by
    obtain ⟨h1, h2⟩ := offT_ok hx h0 hn i
    refine ⟨pwO_ins h1, fun o ho => ?_⟩
    rcases mem_insO ho with rfl | ho
    · exact (mkO_ok (okO_getD hx i) h0 hn).1
    · exact h2 o ho
theorem pickW_rng (s : Int) {n : Int} (h0 : 0 < n) (hn : n ≤ 100000) (hs : okI s) : 0 ≤ pickW s n ∧ pickW s n < n := by
 unfold okI at hs
 unfold pickW
 split
 ·
  have e1 : IntKind.i64.wrap (s + 1) = s + 1 := w64 (by omega)
  have e2 : IntKind.i64.wrap (0 - (s + 1)) = 0 - (s + 1) := w64 (by omega)
  rw [e1, e2, Int.tmod_eq_emod_of_nonneg (by omega)]
  exact ⟨Int.emod_nonneg _ (by omega), Int.emod_lt_of_pos _ h0⟩
 ·
  rw [Int.tmod_eq_emod_of_nonneg (by omega)]
  exact ⟨Int.emod_nonneg _ (by omega), Int.emod_lt_of_pos _ h0⟩
def bitS (v : Int) (i : Nat) : Bool := decide ((shrW .i64 v i).tmod 2 = 1)
def prs : List P2 := [⟨0, 1⟩, ⟨0, 2⟩, ⟨0, 3⟩, ⟨0, 4⟩, ⟨0, 5⟩, ⟨1, 2⟩, ⟨1, 3⟩, ⟨1, 4⟩, ⟨1, 5⟩, ⟨2, 3⟩, ⟨2, 4⟩, ⟨2, 5⟩, ⟨3, 4⟩, ⟨3, 5⟩, ⟨4, 5⟩]
def apT (v : Int) : Nat → List P2
 | 0 => []
 | i + 1 => if bitS v i && decide (((apT v i).length : Int) < 12) then apT v i ++ [prs.getD i p20] else apT v i
def muT (v : Int) : Nat → List Int
 | 0 => []
 | i + 1 => if bitS v i then muT v i ++ [(i : Int)] else muT v i
theorem apT_t {v : Int} {i : Nat} (h1 : (shrW .i64 v i).tmod 2 = 1) (h2 : ((apT v i).length : Int) < 12) : apT v (i + 1) = apT v i ++ [prs.getD i p20] := by
 simp only [apT]; rw [if_pos]; rw [Bool.and_eq_true]; exact ⟨decide_eq_true h1, decide_eq_true h2⟩
theorem apT_f {v : Int} {i : Nat} (h : ¬ (shrW .i64 v i).tmod 2 = 1 ∨ ¬ ((apT v i).length : Int) < 12) : apT v (i + 1) = apT v i := by
 simp only [apT]; rw [if_neg]; rw [Bool.and_eq_true]
 rintro ⟨h1, h2⟩
 rcases h with h | h
 ·
  exact h (of_decide_eq_true h1)
 ·
  exact h (of_decide_eq_true h2)
theorem muT_t {v : Int} {i : Nat} (h1 : (shrW .i64 v i).tmod 2 = 1) : muT v (i + 1) = muT v i ++ [(i : Int)] := by simp only [muT]; rw [if_pos (show bitS v i = true from decide_eq_true h1)]
theorem muT_f {v : Int} {i : Nat} (h1 : ¬ (shrW .i64 v i).tmod 2 = 1) : muT v (i + 1) = muT v i := by simp only [muT]; rw [if_neg (fun h : bitS v i = true => h1 (of_decide_eq_true h))]
theorem apT_len (v : Int) : ∀ i, (apT v i).length ≤ 12
 | 0 => by simp [apT]
 | i + 1 => by
  have := apT_len v i
  simp only [apT]
  split
  ·
   rename_i h
   rw [Bool.and_eq_true, decide_eq_true_eq] at h
   simp only [List.length_append, List.length_singleton]; omega
  ·
   exact this
theorem muT_len (v : Int) : ∀ i, (muT v i).length ≤ i
 | 0 => by simp [muT]
 | i + 1 => by have := muT_len v i; simp only [muT]; split <;> (try simp only [List.length_append, List.length_singleton]) <;> omega
theorem apT_sub (v : Int) : ∀ i, i ≤ 15 → (apT v i).Sublist (prs.take i)
 | 0, _ => by simp [apT]
 | i + 1, hi => by
  have ih := apT_sub v i (by omega)
  have e : prs.take (i + 1) = prs.take i ++ [prs.getD i p20] := by
   have hl : i < prs.length := by show i < 15; omega
   rw [List.take_add_one, List.getElem?_eq_getElem hl]; simp [List.getD, hl]
  rw [e]
  simp only [apT]
  split
  ·
   exact List.Sublist.append ih (List.Sublist.refl _)
  ·
   exact List.Sublist.trans ih (List.sublist_append_left _ _)
theorem prs_pw : prs.Pairwise fun a b => p2Lt a b = true := by decide
theorem prs_ok : ∀ a ∈ prs, p2Ok a = true := by decide
theorem pw_asc {α : Type} {d : α} {lt : α → α → Bool} {l : List α} (h : l.Pairwise fun a b => lt a b = true) : ascB d lt l = true := by
 rw [List.pairwise_iff_getElem] at h
 rw [ascB_iff]
 intro i h0 hi
 have := h (i - 1) i (by omega) hi (by omega)
 simpa [List.getD, hi, show i - 1 < l.length by omega] using this
theorem muT_ok (v : Int) : ∀ i, i ≤ 12 → pwI (muT v i) ∧ ∀ n ∈ muT v i, 0 ≤ n ∧ n < (i : Int)
 | 0, _ => ⟨List.Pairwise.nil, fun n hn => by simp [muT] at hn⟩
 | i + 1, hi => by
  obtain ⟨h1, h2⟩ := muT_ok v i (by omega)
  simp only [muT]
  split
  ·
   refine ⟨?_, fun n hn => ?_⟩
   ·
    unfold pwI at h1 ⊢
    rw [List.pairwise_append]
    refine ⟨h1, List.pairwise_singleton _ _, fun a ha b hb => ?_⟩
    rw [List.mem_singleton] at hb; subst hb
    exact (h2 a ha).2
   ·
    rcases List.mem_append.1 hn with hn | hn
    ·
     have := h2 n hn; omega
    ·
     rw [List.mem_singleton] at hn; omega
  ·
   exact ⟨h1, fun n hn => by have := h2 n hn; omega⟩
def madeH (fr : Int) (rs : List P2) (os : List Of) (ap mu : Int) : Hr :=
 ⟨(mkR rs (pickW fr 3600) (min rs.length 4)).2, if rs.length = 0 then [] else offT (min rs.length 4) os (min os.length 8), apT (pickW ap 32768) 15, muT (pickW mu 64) 6⟩
theorem made_validH {fr : Int} {rs : List P2} {os : List Of} {ap mu : Int} (hf : okI fr) (hr : ∀ p ∈ rs, okP2 p) (ho : ∀ o ∈ os, okO o) : validH (madeH fr rs os ap mu) = true := by
 have p1 := pickW_rng fr (n := 3600) (by omega) (by omega) hf
 obtain ⟨-, r2, -⟩ := mkR_at hr (a0 := pickW fr 3600) (by omega) (min rs.length 4) (by omega)
 have hl := mkR_len rs (pickW fr 3600) (min rs.length 4)
 have ha := apT_sub (pickW ap 32768) 15 (by omega)
 obtain ⟨m1, m2⟩ := muT_ok (pickW mu 64) 6 (by omega)
 have hoff : ∀ l, (madeH fr rs os ap mu).offers = l → l.length ≤ 12 ∧ pwO l ∧ ∀ o ∈ l, ofOk (min rs.length 4) o = true := by
  rintro l rfl
  show (if rs.length = 0 then [] else offT (min rs.length 4) os (min os.length 8)).length ≤ 12 ∧ _
  by_cases e : rs.length = 0
  ·
   have e2 : (madeH fr rs os ap mu).offers = [] := if_pos e
   rw [e2, if_pos e]
   exact ⟨by simp, List.Pairwise.nil, fun o ho => by cases ho⟩
  ·
   have e2 : (madeH fr rs os ap mu).offers = offT (min rs.length 4) os (min os.length 8) := if_neg e
   rw [e2, if_neg e]
   have hlen := offT_len (min rs.length 4) os (min os.length 8)
   exact ⟨by omega, offT_ok ho (by omega) (by omega) _⟩
 obtain ⟨o1, o2, o3⟩ := hoff _ rfl
 have hrl : (madeH fr rs os ap mu).rooms.length = min rs.length 4 := hl
 simp only [validH, Bool.and_eq_true, decide_eq_true_eq, List.all_eq_true]
 refine ⟨by rw [hrl]; omega, by omega, ?_, ?_, ?_, fun a ha' => prs_ok a (List.mem_of_mem_take (ha.subset ha')), fun n hn => isInB_spec.2 ?_, pwO_iff.2 o2, pw_asc (List.Pairwise.sublist ha (List.Pairwise.sublist (List.take_sublist _ _) prs_pw)), pwI_iff.2 m1⟩
 ·
  have := apT_len (pickW ap 32768) 15
  show ((apT (pickW ap 32768) 15).length : Int) ≤ 12
  omega
 ·
  unfold spsB
  rw [allTo_iff]
  intro i hi
  rw [hrl] at hi
  exact r2 i hi
 ·
  rw [hrl]; exact o3
 ·
  have := m2 n hn; omega
def ixA (a : Nat) : Nat := a * (11 - a) / 2
theorem ixA_s {a : Nat} (h : a < 6) : ixA (a + 1) = ixA a + (5 - a) := by
 match a, h with
 | 0, _ => rfl
 | 1, _ => rfl
 | 2, _ => rfl
 | 3, _ => rfl
 | 4, _ => rfl
 | 5, _ => rfl
theorem prs_at {a b : Nat} (hb : b < 6) (h : a < b) : prs.getD (ixA a + (b - a - 1)) p20 = ⟨a, b⟩ := by
 have : ∀ b : Fin 6, ∀ a : Fin 6, a.val < b.val → prs.getD (ixA a.val + (b.val - a.val - 1)) p20 = ⟨(a.val : Nat), (b.val : Nat)⟩ := by decide
 exact this ⟨b, hb⟩ ⟨a, by omega⟩ h
theorem encOfs_ins (l : List Of) (k : Nat) (o : Of) : encOfs (l.take k ++ o :: l.drop k) = List.take k (encOfs l) ++ (encOf o :: List.drop k (encOfs l)) := by
 simp [encOfs, List.map_take, List.map_drop]
theorem off_same {n : Nat} {x : List Of} {i k : Nat} (hp : posO (mkO n (x.getD i of0)) (offT n x i) = k) (h : (k : Int) < ((offT n x i).length : Nat) ∧ ((offT n x i).getD k of0).pr = (mkO n (x.getD i of0)).pr ∧ ((offT n x i).getD k of0).rm = (mkO n (x.getD i of0)).rm) : offT n x (i + 1) = offT n x i := by
 simp only [offT, insO, hp]
 rw [if_pos ⟨by omega, by simp only [sameK, Bool.and_eq_true, decide_eq_true_eq]; exact h.2⟩]
theorem off_new {n : Nat} {x : List Of} {i k : Nat} (hp : posO (mkO n (x.getD i of0)) (offT n x i) = k) (h : ¬ ((k : Int) < ((offT n x i).length : Nat) ∧ ((offT n x i).getD k of0).pr = (mkO n (x.getD i of0)).pr ∧ ((offT n x i).getD k of0).rm = (mkO n (x.getD i of0)).rm)) : offT n x (i + 1) = (offT n x i).take k ++ mkO n (x.getD i of0) :: (offT n x i).drop k := by
 simp only [offT, insO, hp]
 rw [if_neg]
 rintro ⟨h1, h2⟩
 simp only [sameK, Bool.and_eq_true, decide_eq_true_eq] at h2
 exact h ⟨by omega, h2⟩
theorem mkR_s1 (x : List P2) (a0 : Int) (n : Nat) : (mkR x a0 (n + 1)).1 = IntKind.i64.wrap (IntKind.i64.wrap (IntKind.i64.wrap ((mkR x a0 n).1 + pickW (x.getD n p20).a 30) + 10) + pickW (x.getD n p20).b 60) := by simp only [mkR]
theorem mkR_s2 (x : List P2) (a0 : Int) (n : Nat) : (mkR x a0 (n + 1)).2 = (mkR x a0 n).2 ++ [⟨IntKind.i64.wrap ((mkR x a0 n).1 + pickW (x.getD n p20).a 30), IntKind.i64.wrap (IntKind.i64.wrap (IntKind.i64.wrap ((mkR x a0 n).1 + pickW (x.getD n p20).a 30) + 10) + pickW (x.getD n p20).b 60)⟩] := by simp only [mkR]
theorem off_end {n : Nat} {rs : List P2} {os : List Of} {i m : Nat} (h : i + m = (if rs.length = 0 then 0 else min os.length 8)) (hx : (if rs.length = 0 then 0 else min os.length 8) ≤ i) : offT n os i = (if rs.length = 0 then [] else offT n os (min os.length 8)) := by
 have e : i = (if rs.length = 0 then 0 else min os.length 8) := by omega
 rw [e]
 split <;> rfl
theorem off_step {l : List Of} {o : Of} {k : Nat} (h : ∀ j, j < k → ofLt (l.getD j of0) o = true) (h2 : ofLt (l.getD k of0) o = true) : ∀ j, j < k + 1 → ofLt (l.getD j of0) o = true := fun j hj => by
 by_cases e : j = k
 ·
  subst e; exact h2
 ·
  exact h j (by omega)
theorem ixA_le {a : Nat} (h : a < 6) : ixA a ≤ 30 := by
 have : ∀ a : Fin 6, ixA a.val ≤ 30 := by decide
 exact this ⟨a, h⟩
end Go.Proofs.YtfamkbofdamkkaaDoor
namespace Go.Proofs.YtfamkbofdamkkaaDoor
open Go.RowKit
set_option linter.unusedVariables false
set_option linter.unusedSimpArgs false
/-- The last room, longer. -/
def longL (l : List Sp) (x : Int) : List Sp := if 0 < l.length then l.set (l.length - 1) ⟨(l.getD (l.length - 1) sp0).fr, (l.getD (l.length - 1) sp0).to + x⟩ else l
def longH (h : Hr) (x : Int) : Hr := ⟨longL h.rooms x, h.offers, h.apart, h.must⟩
/-- Without a pair that is apart; without a promise that must be kept. -/
def cutL {α : Type} (l : List α) (k : Nat) : List α := l.take k ++ l.drop (k + 1)
def looseH (h : Hr) (k : Nat) : Hr := ⟨h.rooms, h.offers, cutL h.apart k, h.must⟩
def freeH (h : Hr) (k : Nat) : Hr := ⟨h.rooms, h.offers, h.apart, cutL h.must k⟩
/-- Seconds lost at the beginning of the first room. -/
def lateL (l : List Sp) (x : Int) : List Sp := l.set 0 ⟨(l.getD 0 sp0).fr + x, (l.getD 0 sp0).to⟩
def lateH (h : Hr) (x : Int) : Hr := ⟨lateL h.rooms x, h.offers, h.apart, h.must⟩
/-- The offers that lie in no first room, as bits. -/
def aprN (h : Hr) : Nat → Nat
 | 0 => 0
 | n + 1 => if 0 < (h.offers.getD n of0).rm then aprN h n + 2 ^ n else aprN h n
def hasT (l : List Int) (n : Int) : Nat → Bool
 | 0 => false
 | i + 1 => hasT l n i || decide (l.getD i 0 = n)
def rows3 (M : Hr) (x : Int) (a b : Nat) : List (List V) := [encHr (longH M x), encHr (looseH M a), encHr (freeH M b)]
def lf (ws : List Wt) : Sg := ⟨-1, 0, 0, ws⟩
def spP : Pg := ⟨2, [⟨0, 0, 0, 0, [2, 2], 3⟩, ⟨0, 0, 0, 0, [-1, -1], -2⟩], [3, 4]⟩
def spQ : Pg := ⟨2, [⟨0, 0, 0, 0, [2, 2], 3⟩], [3, 4]⟩
def spN : Pg := ⟨-1, [], []⟩
def pf1 : List Sg := [lf [⟨0, 1⟩, ⟨1, 2⟩]]
def pf2 : List Sg := [lf [⟨0, 1⟩]]
def pf3 : List Sg := [⟨0, 1, 2, []⟩, lf [⟨1, 1⟩], ⟨1, 3, 4, []⟩, lf [⟨1, 1⟩], lf [⟨0, 1⟩]]
def pfG : List Sg := [lf [⟨0, 2⟩, ⟨1, 1⟩]]
theorem r1 : refutesW spP pf1 = true := by decide
theorem r2 : refutesW spP pf2 = false := by decide
theorem q1 : wrongW spP pf1 = -1 := by decide
theorem q2 : wrongW spP pf2 = 0 := by decide
def pv3 : V := .sl 4 [[.int .i64 0, .int .i64 1, .int .i64 2, .nsl], encSg (lf [⟨1, 1⟩]), [.int .i64 1, .int .i64 3, .int .i64 4, .nsl], encSg (lf [⟨1, 1⟩]), encSg (lf [⟨0, 1⟩])]
theorem encSt_le (s : Stp) (j : Nat) : V.Le0 ((encSt s).getD j .any) ((encSg (toSg s)).getD j .any) := by
 match j with
 | 0 | 1 | 2 => exact .refl _
 | 3 =>
  show V.Le0 (match s.leaf with | some i => V.sl 2 [[.int .i64 i, .int .i64 1]] | none => .nsl) (.sl 2 (encWs (toSg s).ws))
  cases h : s.leaf with
  | none => simp only [toSg, h]; exact .nsl 2
  | some i => simp only [toSg, h]; exact .refl _
 | j + 4 => exact .refl _
theorem encS_le (l : List Stp) : V.Le (.sl 4 (encS l)) (.sl 4 (encSgs (l.map toSg))) := by
 refine .sl 4 (by simp [encS, encSgs]) (fun i hi => ?_) (fun i j hi => ?_) <;> rw [encS_length] at hi
 ·
  rw [encS_getD _ _ hi, encSgs_getD _ _ (by simpa using hi)]; rfl
 ·
  rw [encS_getD _ _ hi, encSgs_getD _ _ (by simpa using hi), toSg_getD]; exact encSt_le _ j
theorem prf_ws (p : Pg) : ∀ s ∈ prfS p, s.ws.length ≤ 1000 := by
 intro s hs
 obtain ⟨t, -, rfl⟩ := List.mem_map.1 hs
 simp only [toSg]
 cases t.leaf <;> simp
section
variable {p : Pg} (hv : validB p = true)
include hv
theorem cmp_bound (hf : (solveB p).1 = true) : boundsW p (prfS p) (solveB p).2.2 = true := by
 obtain ⟨s, -, -, -, h1, h2⟩ := solveB_gain hv hf
 exact prf_bounds hv hf ⟨h1, h2⟩
theorem cmp_less (hf : (solveB p).1 = true) {g : Int} (hg : g < (solveB p).2.2) : boundsW p (prfS p) g = false := by
 obtain ⟨v, hv1⟩ := Int.eq_ofNat_of_zero_le (validB_vars hv).1
 obtain ⟨s, e1, h1, h2⟩ := solveB_mem hf
 have hv2 : p.vars.toNat = v := by omega
 rw [hv2] at h1
 have h3 := best_no hv hv1 h1 h2
 rw [Bool.eq_false_iff]
 intro hb
 have h4 := bounds_true hb hv1 h1 h2
 have e2 : (solveW p).gain = (solveB p).2.2 := rfl
 have e3 : (solveW p).set = (solveB p).2.1 := rfl
 have h5 := h3.2.2.2
 rw [e2, e3, e1] at h5
 exact h5 ⟨rfl, by omega⟩
end
end Go.Proofs.YtfamkbofdamkkaaDoor
namespace Go.Proofs.YtfamkbofdamkkaaDoor
def moresP (p : Pg) (rs : List Rw) : Pg := ⟨p.vars, p.rows ++ rs, p.gain⟩
/-! #### a row and its opposite -/
def agR (r : Rw) (v : Nat) : Rw := ⟨0, 0, 0, 0, negG r.coef v, IntKind.i64.wrap (IntKind.i64.wrap (0 - r.most) - 1)⟩
def usP (p : Pg) (r : Rw) : Pg := moresP p [r, agR r p.vars.toNat]
open Go.RowKit Go.Maps Go.Sort Go.Shelf
set_option linter.unusedVariables false
set_option linter.unusedSimpArgs false
/-- The rows from 0 on that a list does not name. -/
def offW (rows : List Int) : Nat → List Int
 | 0 => []
 | n + 1 => if atW rows n < rows.length ∧ rows.getD (atW rows n) 0 = n then offW rows n else offW rows n ++ [(n : Int)]
/-- A row and its opposite are a leaf by themselves. -/
def shortS (n : Nat) : List Sg := [lf [⟨(n : Int) - 2, 1⟩, ⟨(n : Int) - 1, 1⟩]]
end Go.Proofs.YtfamkbofdamkkaaDoor
namespace Go.Proofs.YtfamkbofdamkkaaDoor
open Go.RowKit
set_option linter.unusedVariables false
set_option linter.unusedSimpArgs false
def encSol2 (p : Pg) : List V := [.bool (solveW p).found, .int .i64 (solveW p).set, .int .i64 (solveW p).gain, .sl 4 (encSgs (prfS p))]
theorem sol_le (p : Pg) : V.Le (.tup [.agg (encSol (solveW p)), .int .i64 0]) (.tup [.agg (encSol2 p), .int .i64 0]) :=
 .tup (.cons (.agg (.cons (.refl _) (.cons (.refl _) (.cons (.refl _) (.cons (encS_le _) .nil))))) (.cons (.refl _) .nil))
/-- A proof that is no longer than any of these is. -/
structure okPf (l : List Sg) : Prop where
 len : l.length ≤ maxLen
 ws : ∀ s ∈ l, s.ws.length ≤ maxLen
theorem okPf.at {l : List Sg} (h : okPf l) : ∀ k, k < l.length → ∀ s, l.getD k sg0 = s → s.ws.length ≤ maxLen := fun k hk s hs => by
 subst hs; exact h.ws _ (getD_mem hk)
/-- A program that is no longer than any of these is. -/
structure okPr (p : Pg) : Prop where
 rows : p.rows.length ≤ 400
 gain : p.gain.length ≤ 1000
 coef : ∀ r ∈ p.rows, r.coef.length ≤ 1000
theorem okPr_valid {p : Pg} (hv : validB p = true) : okPr p := by
 obtain ⟨q0, q1, q2, q3, q4, q5⟩ := validB_all hv
 exact ⟨by omega, by omega, fun r hr => by have := (q5 r hr).1; omega⟩
section
variable {p : Pg} (hp : okPr p) {l : List Sg} (hl : okPf l)
include hp
theorem okPr.r : p.rows.length ≤ maxLen := by have := hp.rows; unfold maxLen; omega
theorem okPr.g : p.gain.length ≤ maxLen := by have := hp.gain; unfold maxLen; omega
theorem okPr.c : ∀ r ∈ p.rows, r.coef.length ≤ maxLen := fun r hr => by have := hp.coef r hr; unfold maxLen; omega
include hl
theorem s24 : CallsA Tryd.prog 13 [.agg (encPg p), .sl 4 (encSgs l)] (.bool (refutesW p l)) := k24 p hp.r hp.g hp.c l hl.len hl.at
theorem s32 (n : Int) : CallsA Tryd.prog 12 [.agg (encPg p), .sl 4 (encSgs l), .int .i64 n] (.bool (boundsW p l n)) := k32 p hp.r hp.g hp.c l hl.len hl.at hp.gain (by have := hp.rows; omega) n
end
theorem okPf_prf {p : Pg} (hv : validB p = true) : okPf (prfS p) := ⟨by have := prf_len hv; unfold maxLen; omega, fun s hs => by have := prf_ws p s hs; unfold maxLen; omega⟩
theorem pickW_rangeL (c : Int) {n : Int} (hn : 0 < n) (hc : okI c) : 0 ≤ pickW c n ∧ pickW c n < n := by
 unfold okI at hc
 unfold pickW
 split
 ·
  rw [w64 (x := c + 1) (by omega), w64 (x := 0 - (c + 1)) (by omega)]
  exact ⟨Int.tmod_nonneg _ (by omega), Int.tmod_lt_of_pos _ hn⟩
 ·
  exact ⟨Int.tmod_nonneg _ (by omega), Int.tmod_lt_of_pos _ hn⟩
/-- The step that Bent makes of a step. -/
def bentS (n : Nat) (z : List Int) (s : Sg) : Sg :=
 if pickW (z.getD 1 0) 9 = 0 then ⟨pickW (z.getD 2 0) 9 - 1, s.no, s.yes, s.ws⟩
 else if pickW (z.getD 1 0) 9 = 1 then ⟨s.var, pickW (z.getD 2 0) (n + 1), s.yes, s.ws⟩
 else if pickW (z.getD 1 0) 9 = 2 then ⟨s.var, s.no, pickW (z.getD 2 0) (n + 1), s.ws⟩
 else if pickW (z.getD 1 0) 9 = 3 then (if 0 < s.ws.length then ⟨s.var, s.no, s.yes, s.ws.set 0 ⟨pickW (z.getD 2 0) 9, (s.ws.getD 0 wt0).tm⟩⟩ else s)
 else if pickW (z.getD 1 0) 9 = 4 then (if 0 < s.ws.length then ⟨s.var, s.no, s.yes, s.ws.set 0 ⟨(s.ws.getD 0 wt0).rw, pickW (z.getD 2 0) 1003 - 1⟩⟩ else s)
 else if pickW (z.getD 1 0) 9 = 5 then ⟨s.var, s.no, s.yes, s.ws ++ [⟨pickW (z.getD 2 0) 10, 1 + pickW (z.getD 3 0) 5⟩]⟩
 else if pickW (z.getD 1 0) 9 = 7 then ⟨s.var, s.yes, s.no, s.ws⟩
 else s
def bentW (l : List Sg) (z : List Int) : List Sg :=
 if l.length = 0 then l
 else if pickW (z.getD 1 0) 9 = 6 then (l.set (pickW (z.getD 0 0) l.length).toNat (bentS l.length z (l.getD (pickW (z.getD 0 0) l.length).toNat sg0))).take (pickW (z.getD 2 0) l.length + 1).toNat
 else l.set (pickW (z.getD 0 0) l.length).toNat (bentS l.length z (l.getD (pickW (z.getD 0 0) l.length).toNat sg0))
def greatW (l : List Sg) (k : Nat) (n : Int) : List Sg := l.set k ⟨(l.getD k sg0).var, (l.getD k sg0).no, (l.getD k sg0).yes, mulW n (l.getD k sg0).ws⟩
def timesOk (n : Int) (ws : List Wt) (i : Nat) : Prop := ∀ j, j < i → 1 ≤ (ws.getD j wt0).tm ∧ (ws.getD j wt0).tm * n ≤ 1000
def wholeB (l : List Sg) : Nat → Bool
 | 0 => true
 | i + 1 => wholeB l i && (decide ((l.getD i sg0).no < (l.length : Int)) && decide ((l.getD i sg0).yes < (l.length : Int)))
/-! #### what has been multiplied, up to a weight -/
def mulT (n : Int) (ws : List Wt) (i : Nat) : List Wt := (ws.take i).map fun w => ⟨w.rw, w.tm * n⟩
theorem encSgs_take (a : List Sg) (n : Nat) : (encSgs a).take n = encSgs (a.take n) := by simp [encSgs, List.map_take]
/-- The weights of a step of a changed plain proof are small. -/
def smallS (s : Sg) : Prop := ∀ w ∈ s.ws, -1 ≤ w.tm ∧ w.tm ≤ 1002
end Go.Proofs.YtfamkbofdamkkaaDoor
namespace Go.Proofs.YtfamkbofdamkkaaDoor
open Go.RowKit
set_option linter.unusedVariables false
set_option linter.unusedSimpArgs false
def encSos (l : List Pg) : List (List V) := l.map encSol2
def encPfs (l : List (List Sg)) : List (List V) := l.map fun x => [V.sl 4 (encSgs x)]
theorem encPfs_length (l : List (List Sg)) : (encPfs l).length = l.length := by simp [encPfs]
theorem encPfs_getD (l : List (List Sg)) (k : Nat) (h : k < l.length) : (encPfs l).getD k [] = [V.sl 4 (encSgs (l.getD k []))] := by simp [encPfs, List.getD, h]
def cutS (n : Nat) (s : Sg) : Sg := ⟨s.var, s.no, s.yes, s.ws.take n⟩
def fewS (l : List Sg) : List Sg := (l.take 40).map (cutS 9)
/-- The steps that Refuse returns. -/
def stepsH (h : Hr) (n : Int) : List Sg := if (bestH (withH h n)).found then [] else prfS (progH (withH h n))
theorem refV_le {h : Hr} (hv : validH h = true) {n : Int} (hn : isInB n 0 11 = true) : V.Le (.tup (refV h n)) (.tup [.sl 4 (encSgs (stepsH h n)), .bool (!(bestH (withH h n)).found), .int .i64 0]) := by
 unfold stepsH
 cases hf : (bestH (withH h n)).found with
 | true =>
  rw [ref_f hv hn hf]
  exact .tup (.cons (.nsl 4) (.cons (.refl _) (.cons (.refl _) .nil)))
 | false =>
  rw [ref_t hv hn hf]
  exact .tup (.cons (encS_le _) (.cons (.refl _) (.cons (.refl _) .nil)))
section
variable {h : Hr} (hv : validH h = true)
include hv
theorem top_valid : validB (progH h) = true := progH_valid (validH_all hv)
theorem top_bound : ((bestH h).found && !boundsW (progH h) (prfS (progH h)) (bestH h).gain) = false := by
 cases hf : (bestH h).found with
 | false => rfl
 | true => rw [show boundsW (progH h) (prfS (progH h)) (bestH h).gain = true from cmp_bound (top_valid hv) hf]; rfl
theorem top_none : (!(bestH h).found && !refutesW (progH h) (prfS (progH h))) = false := by
 cases hf : (bestH h).found with
 | true => rfl
 | false => rw [prf_refutes (top_valid hv) hf]; rfl
theorem top_keeps {u : Nat} (hu : u < 2 ^ h.offers.length) : keepsH h u = allKept (progH h).rows u := by
 rw [keeps_rows hv, keeps_in (top_valid hv) (v := h.offers.length) rfl hu]
theorem top_sound {u : Nat} (hu : u < 2 ^ h.offers.length) (l : List Sg) : (keepsH h u && refutesW (progH h) l) = false := by
 cases hr : refutesW (progH h) l with
 | false => rw [Bool.and_false]
 | true => rw [top_keeps hv hu, refutes_true hr (v := h.offers.length) rfl hu]; rfl
theorem top_more {u : Nat} (hu : u < 2 ^ h.offers.length) (l : List Sg) (g : Int) : (keepsH h u && (refutesW (progH h) l || (decide (g < smC h (·.vl) u h.offers.length) && boundsW (progH h) l g))) = false := by
 cases hk : keepsH h u with
 | false => rfl
 | true =>
  have h1 := top_sound hv hu l
  rw [hk, Bool.true_and] at h1
  rw [h1, Bool.true_and, Bool.false_or]
  cases hb : boundsW (progH h) l g with
  | false => rw [Bool.and_false]
  | true =>
   have := bounds_true hb (v := h.offers.length) rfl hu (by rw [← top_keeps hv hu]; exact hk)
   rw [gain_sum (validH_all hv) hu] at this
   rw [decide_eq_false (by show ¬ g < gainC h u; omega)]; rfl
theorem top_sum {u : Nat} (hu : u < 2 ^ h.offers.length) {i : Nat} (hi : i < h.offers.length) :
  (Int.tmod (shrW .i64 (u : Nat) (i : Nat)) 2 = 1 → IntKind.i64.wrap (smC h (·.vl) u i + (h.offers.getD i of0).vl) = smC h (·.vl) u (i + 1)) ∧ (¬ Int.tmod (shrW .i64 (u : Nat) (i : Nat)) 2 = 1 → smC h (·.vl) u i = smC h (·.vl) u (i + 1)) := by
 have hV := validH_all hv
 have hol := hV.ol
 have hp : 2 ^ h.offers.length ≤ 2 ^ 12 := Nat.pow_le_pow_right (by omega) hol
 have hb : (Int.tmod (shrW .i64 (u : Nat) (i : Nat)) 2 = 1) ↔ tkn u i = true := by
  unfold tkn; rw [cBit_nat (by omega) (by omega), rem_bit (s := u) (n := i) (by omega)]
  cases u.testBit i <;> simp
 have h0 : ∀ j, j < i + 1 → (if tkn u j then (h.offers.getD j of0).vl else 0) ≤ 1000000 := fun j hj => by
  have := hV.of j (by omega)
  split <;> omega
 have h1 : ∀ j, j < i + 1 → 0 ≤ (if tkn u j then (h.offers.getD j of0).vl else 0) := fun j hj => by
  have := hV.of j (by omega)
  split <;> omega
 have a := smT_le (n := i + 1) (c := 1000000) h0
 have b := smT_nn (n := i + 1) h1
 have e : smC h (·.vl) u (i + 1) = smC h (·.vl) u i + if tkn u i then (h.offers.getD i of0).vl else 0 := rfl
 have a' : smC h (·.vl) u (i + 1) ≤ ((i + 1 : Nat) : Int) * 1000000 := a
 have b' : 0 ≤ smC h (·.vl) u (i + 1) := b
 constructor
 ·
  intro h2
  rw [if_pos (hb.1 h2)] at e
  rw [← e, w64 (by omega)]
 ·
  intro h2
  rw [if_neg (fun h3 => h2 (hb.2 h3))] at e
  omega
end
theorem top_refused {h : Hr} (hv : validH h = true) {n : Int} (hn : 0 ≤ n ∧ n ≤ 11) : (!(bestH (withH h n)).found && !refutesW (progH (withH h n)) (stepsH h n)) = false := by
 unfold stepsH
 cases hf : (bestH (withH h n)).found with
 | true => rfl
 | false =>
  rw [if_neg (by simp)]
  have := prf_refutes (top_valid (with_valid hv hn)) hf
  rw [this]; rfl
theorem okPf_steps {h : Hr} (hv : validH h = true) {n : Int} (hn : 0 ≤ n ∧ n ≤ 11) : okPf (stepsH h n) := by
 unfold stepsH
 split
 ·
  exact ⟨by simp, by simp⟩
 ·
  exact okPf_prf (top_valid (with_valid hv hn))
theorem okPf_take8 {l : List Sg} (hw : ∀ s ∈ l, s.ws.length ≤ maxLen) : okPf (l.take 8) := ⟨by simp [maxLen]; omega, fun s hs => hw s (List.mem_of_mem_take hs)⟩
theorem pick_pow2 (n : Int) (hn : okI n) (v : Nat) : ∃ u : Nat, pickW n ((2 ^ v : Nat) : Int) = u ∧ u < 2 ^ v := by
 have h := pickW_rangeL n (n := ((2 ^ v : Nat) : Int)) (by have := Nat.two_pow_pos v; omega) hn
 exact ⟨(pickW n ((2 ^ v : Nat) : Int)).toNat, by omega, by omega⟩
/-! #### the example -/
def pvH (must : List Int) : Hr := ⟨[⟨0, 10⟩], [⟨0, 0, 8, 5⟩, ⟨1, 0, 8, 7⟩], [], must⟩
theorem pv0 : validH (pvH []) = true := by decide +kernel
theorem pv1 : validH (pvH [0]) = true := by decide +kernel
theorem pv_best : (bestH (pvH [])).found = true ∧ (bestH (pvH [])).set = 2 ∧ (bestH (pvH [])).gain = 7 := by decide +kernel
theorem pv_ref : (bestH (withH (pvH [0]) 1)).found = false := by decide +kernel
theorem pv_keep : allKept (progH (pvH [])).rows (2 : Nat) = true := by decide +kernel
theorem pv_b7 : boundsW (progH (pvH [])) (prfS (progH (pvH []))) 7 = true := by
 have h := cmp_bound (top_valid pv0) pv_best.1
 have e : (solveB (progH (pvH []))).2.2 = 7 := pv_best.2.2
 rw [e] at h; exact h
theorem pv_b6 : boundsW (progH (pvH [])) (prfS (progH (pvH []))) 6 = false := by
 have e : (solveB (progH (pvH []))).2.2 = 7 := pv_best.2.2
 exact cmp_less (top_valid pv0) pv_best.1 (by rw [e]; decide)
theorem pv_r : refutesW (progH (pvH [])) (prfS (progH (pvH []))) = false := by
 cases hr : refutesW (progH (pvH [])) (prfS (progH (pvH []))) with
 | false => rfl
 | true =>
  have := refutes_true hr (v := 2) rfl (s := 2) (by decide)
  rw [pv_keep] at this; cases this
theorem pv_len (m : List Int) (hm : m.length ≤ maxLen) : (pvH m).rooms.length ≤ maxLen ∧ (pvH m).offers.length ≤ maxLen ∧ (pvH m).apart.length ≤ maxLen ∧ (pvH m).must.length ≤ maxLen := by
 refine ⟨?_, ?_, ?_, hm⟩ <;> simp [pvH, maxLen]
theorem pv1_le (r o : List (List V)) (m : V) : V.LeL [.agg [.sl 2 r, .sl 4 o, .nsl, m], .int .i64 1] [.agg [.sl 2 r, .sl 4 o, .sl 2 (encP2s []), m], .int .i64 1] := .cons (.agg (.cons (.refl _) (.cons (.refl _) (.cons (.nsl 2) (.cons (.refl _) .nil))))) (.cons (.refl _) .nil)
theorem pvN_le (r o : List (List V)) (m : V) : V.LeL [.agg [.sl 2 r, .sl 4 o, .nsl, .nsl]] [.agg [.sl 2 r, .sl 4 o, .sl 2 (encP2s []), .sl 1 (encI [])]] := .cons (.agg (.cons (.refl _) (.cons (.refl _) (.cons (.nsl 2) (.cons (.nsl 1) .nil))))) .nil
end Go.Proofs.YtfamkbofdamkkaaDoor
namespace Go.Proofs.YtfamkbofdamkkaaDoor
open Go.ChangeShapes Go.WideShapes Go.ChangeAt Go.RowKit
set_option linter.unusedVariables false
set_option maxRecDepth 100000
theorem Tryd.own : ownKnob Tryd.prog.godebug = none := by kernel_rfl
theorem Tryd.laidOut : laidOutB Tryd.prog = true := by kernel_rfl
def laid1 : List (String × DataW Unit) := [("aircheck/plan.conditions", Rows.laid_aircheck_plan_conditions)]
theorem g0 : Tryd.prog.globalNamed "aircheck/plan.conditions" = some 0 := by kernel_rfl
/-- The door's own heap meets the condition. -/
theorem door_met (os : Os) (args : Array Value) : laidMetH Tryd.prog laid1 ((World.doorLaid Tryd.prog 400 os).forCall (fun _ _ => 0) ⟨#[], args, []⟩).memory :=
 laidMetH_of_parts3 (fuel := 8) (laidMet_of_run' 8 (by kernel_rfl) (by kernel_rfl)) (by kernel_rfl) (by kernel_rfl)
def nameC (k : UInt8) : List UInt8 := [97, 105, 114, 99, 104, 101, 99, 107, 47, 112, 108, 97, 110, 46, 99, 111, 110, 100, 105, 116, 105, 111, 110, 115, 36, k]
theorem laidC : (Rows.laid_aircheck_plan_conditions : DataW Unit) = .iface "func table" (.agg ([49, 50, 51, 52].map fun k => .agg [.iface "func" (.lit (.string (nameC k)))])) := by kernel_rfl
theorem outC : (DataW.agg ([49, 50, 51, 52].map fun k => .agg [.iface "func" (.lit (.string (nameC k)))]) : DataW Unit).funcsOut = .agg ([49, 50, 51, 52].map fun k => .agg [.held (nameC k)]) := by kernel_rfl
theorem fn_cell {w : World} {base : Nat} {sp : Nat → Bool} {fuel n m0 : Nat} {e t : TypeId} {ps rs : Array TypeId} {va : Bool} {cs : List Value} {m : List MemPlace} {ks : List UInt8} {P : Program} {ta : TypeId} {fn : String} {fo : Nat}
  (ha : P.underlying ta = some (.array n e)) (he : ∃ f : Field, P.underlying e = some (.struct #[f]) ∧ f.type = t ∧ f.offset = 0) (hc : P.cellsOf e = 1) (hct : P.cellsOf t = 1) (hf : P.underlying t = some (.func ps rs va))
  (h : DataW.trod (funcToken P) P w base sp true fuel ta cs = some (.agg (ks.map fun k => .agg [.held (nameC k)]), m)) (i : Nat) (hi : i < n) (f0 : FuncId)
  (hone : ((List.range P.funcs.size).filter fun f => (P.funcs[f]?).any (·.name.toUTF8.data.toList == nameC (ks.getD i 0))) = [f0]) : cs[i]? = some (.func (.func f0) #[] #[]) := by
 obtain ⟨xs, m1, rfl, hx, hl, hn, hel⟩ := DataW.trod_array ha h
 simp only [Prod.mk.injEq, DataW.agg.injEq] at hx
 have h1 := hel i hi
 rw [hc, Nat.mul_one, List.getElem?_eq_getElem (by omega)] at h1
 obtain ⟨f, hu, hty, hoff⟩ := he
 obtain ⟨y0, n0, e1, e2, e3⟩ := trod_struct1 hu h1
 have h2 : (List.map (fun k => (DataW.agg [.held (nameC k)] : DataW (List UInt8))) ks)[i]? = some (.agg [y0.1]) := by
  rw [hx.1, List.getElem?_map, List.getElem?_eq_getElem (by omega), Option.map_some, e1]
 rw [List.getElem?_map] at h2
 obtain ⟨kp2, h3, h4⟩ := Option.map_eq_some_iff.1 h2
 have h5 : y0.1 = .held (nameC kp2) := by
  simp only [DataW.agg.injEq, List.cons.injEq, and_true] at h4; exact h4.symm
 have h6 : ks.getD i 0 = kp2 := by simp [List.getD, h3]
 rw [hc] at e2
 obtain ⟨v, hv⟩ : ∃ v, (cs.drop i).take 1 = [v] := List.length_eq_one_iff.1 e2
 rw [hoff, hty, hct, hv] at e3
 have e4 : DataW.trod (funcToken P) P w base sp true n0 t [v] = some (.held (nameC kp2), y0.2) := by
  have : y0 = (.held (nameC kp2), y0.2) := by rw [← h5]
  rw [← this]; simpa using e3
 rw [h6] at hone
 have hvf := func_of_trod hf hone e4
 have h7 : ((cs.drop i).take 1)[0]? = some v := by rw [hv]; rfl
 rw [← hvf]
 simpa [List.getElem?_take, List.getElem?_drop] using h7
theorem gtc_of_laid {W : World} (h : laidMetH Tryd.prog laid1 W) : GTC W fun _ => False := by
 intro g hg
 have hg1 : g = 0 := by
  unfold gtab at hg
  by_cases e : g = 0
  ·
   exact e
  ·
   rw [if_neg e] at hg; exact (hg rfl).elim
 subst hg1
 obtain ⟨g1, t1, cs1, f1, p1, hg1, ht1, hv1, hd1⟩ := h.funcs (n := "aircheck/plan.conditions") (d := .agg ([49, 50, 51, 52].map fun k => .agg [.iface "func" (.lit (.string (nameC k)))])) (by
  rw [← laidC]; exact List.mem_singleton.2 rfl)
 obtain rfl := Option.some.inj (g0.symm.trans hg1)
 obtain rfl := Option.some.inj ((show (Tryd.prog.globals[0]?).map (·.type) = some 85 by kernel_rfl).symm.trans ht1)
 rw [outC] at hd1
 have hc := fun i hi f0 hone => fn_cell (fn := "") (fo := 0) (m0 := 0) Tryd.underlying85 ⟨_, Tryd.underlying84, rfl, rfl⟩ (by kernel_rfl) (by kernel_rfl) Tryd.underlying82 hd1 i hi f0 hone
 have h0 := hc 0 (by omega) 119 (by kernel_rfl)
 have h1 := hc 1 (by omega) 121 (by kernel_rfl)
 have h2 := hc 2 (by omega) 122 (by kernel_rfl)
 have h3 := hc 3 (by omega) 123 (by kernel_rfl)
 refine .ep true (gtab 0) 0 0 (fun j => .func (.func (condF j)) #[] #[]) (fun j hj => ?_) (fun j hj => ?_) (fun j hj => ?_)
 ·
  match j, hj with
  | 0, _ => rfl
  | 1, _ => rfl
  | 2, _ => rfl
  | 3, _ => rfl
 ·
  rw [Nat.zero_add]
  refine ⟨?_, id⟩
  rw [World.var?_cell hg1 hv1 j]
  match j, hj with
  | 0, _ => simpa [condF] using h0
  | 1, _ => simpa [condF] using h1
  | 2, _ => simpa [condF] using h2
  | 3, _ => simpa [condF] using h3
 ·
  match j, hj with
  | 0, _ => exact .fn _ _ [] #[] rfl (fun i hi => by simp at hi)
  | 1, _ => exact .fn _ _ [] #[] rfl (fun i hi => by simp at hi)
  | 2, _ => exact .fn _ _ [] #[] rfl (fun i hi => by simp at hi)
  | 3, _ => exact .fn _ _ [] #[] rfl (fun i hi => by simp at hi)
end Go.Proofs.YtfamkbofdamkkaaDoor
namespace Go.Proofs.YtfamkbofdamkkaaDoor
open Go.ChangeShapes Go.WideShapes Go.ChangeAt Go.RowKit
structure Nb where
 fr : Int
 rs : List P2
 os : List Of
 ap : Int
 mu : Int
def encNb (x : Nb) : List V := [.int .i64 x.fr, .sl 2 (encP2s x.rs), .sl 4 (encOfs x.os), .int .i64 x.ap, .int .i64 x.mu]
section
variable {H : Type} {enc : TypeId × Value → H} {w : World}
theorem okI_of_wf {n : Int} (h : (Lit.int .i64 n).wf = true) : okI n := by
 simp [Lit.wf, IntKind.min, IntKind.max, IntKind.signed, IntKind.bits] at h
 unfold okI; omega
theorem decP2 : Dec enc Tryd.prog w 58 encP2 okP2 :=
 (dec_array (n := 2) (sz := 1) Tryd.underlying58 (by kernel_rfl) (by kernel_rfl) (dec_int Tryd.underlying3)).turn (fun xs => ⟨xs.getD 0 0, xs.getD 1 0⟩) fun xs h => by
  obtain ⟨h1, h2⟩ := h
  match xs, h1 with
  | [x, y], _ => exact ⟨rfl, okI_of_wf (h2 x (by simp)), okI_of_wf (h2 y (by simp))⟩
theorem decQ4 : Dec enc Tryd.prog w 59 encOf okO :=
 (dec_array (n := 4) (sz := 1) Tryd.underlying59 (by kernel_rfl) (by kernel_rfl) (dec_int Tryd.underlying3)).turn (fun xs => ⟨xs.getD 0 0, xs.getD 1 0, xs.getD 2 0, xs.getD 3 0⟩) fun xs h => by
  obtain ⟨h1, h2⟩ := h
  match xs, h1 with
  | [x, y, z, u], _ => exact ⟨rfl, okI_of_wf (h2 x (by simp)), okI_of_wf (h2 y (by simp)), okI_of_wf (h2 z (by simp)), okI_of_wf (h2 u (by simp))⟩
def okNb (x : Nb) : Prop := okI x.fr ∧ (x.rs.length ≤ maxLen ∧ ∀ p ∈ x.rs, okP2 p) ∧ (x.os.length ≤ maxLen ∧ ∀ o ∈ x.os, okO o)
end
section
variable {H : Type} {enc : TypeId × Value → H} {w : World}
theorem decNb : Dec enc Tryd.prog w 25 encNb okNb :=
 (dec_struct (n := 5) Tryd.underlying25 (by kernel_rfl)
  (decFs_cons (m := 1) rfl (by kernel_rfl) (dec_int Tryd.underlying3) (decFs_cons (m := 1) rfl (by kernel_rfl) (dec_slice (sz := 2) Tryd.underlying22 (by kernel_rfl) (by decide) decP2) (decFs_cons (m := 1) rfl (by kernel_rfl) (dec_slice (sz := 4) Tryd.underlying23 (by kernel_rfl) (by decide) decQ4)
   (decFs_cons (m := 1) rfl (by kernel_rfl) (dec_int Tryd.underlying3) (decFs_cons (m := 1) rfl (by kernel_rfl) (dec_int Tryd.underlying3) decFs_nil)))))).turn
  (fun x => ⟨x.1, x.2.1, x.2.2.1, x.2.2.2.1, x.2.2.2.2.1⟩) fun x h => ⟨rfl, okI_of_wf h.1, h.2.1, h.2.2.1⟩
theorem decWt : Dec enc Tryd.prog w 124 encW fun _ => True :=
 (dec_struct (n := 2) Tryd.underlying124 (by kernel_rfl)
  (decFs_cons (m := 1) rfl (by kernel_rfl) (dec_int Tryd.underlying3) (decFs_cons (m := 1) rfl (by kernel_rfl) (dec_int Tryd.underlying3) decFs_nil))).turn
  (fun x => ⟨x.1, x.2.1⟩) fun x h => ⟨rfl, trivial⟩
theorem decSg : Dec enc Tryd.prog w 127 encSg fun s => s.ws.length ≤ maxLen :=
 (dec_struct (n := 4) Tryd.underlying127 (by kernel_rfl)
  (decFs_cons (m := 1) rfl (by kernel_rfl) (dec_int Tryd.underlying3) (decFs_cons (m := 1) rfl (by kernel_rfl) (dec_int Tryd.underlying3) (decFs_cons (m := 1) rfl (by kernel_rfl) (dec_int Tryd.underlying3)
   (decFs_cons (m := 1) rfl (by kernel_rfl) (dec_slice (sz := 2) Tryd.underlying125 (by kernel_rfl) (by decide) decWt) decFs_nil))))).turn
  (fun x => ⟨x.1, x.2.1, x.2.2.1, x.2.2.2.1⟩) fun x h => ⟨rfl, h.2.2.2.1.1⟩
end
end Go.Proofs.YtfamkbofdamkkaaDoor
namespace Go.Proofs.YtfamkbofdamkkaaDoor
open Go.RowKit
set_option linter.unusedVariables false
set_option linter.unusedSimpArgs false
set_option maxRecDepth 100000
attribute [local go_sem] Nat.zero_add Nat.add_zero Nat.mul_one eq_self ne_eq not_true_eq_false not_false_eq_true decide_true decide_false decide_not Bool.false_eq_true List.filter_cons List.filter_nil true_and and_true beq_false beq_true Bool.not_true Bool.not_false Bool.and_true Bool.true_and Option.getD_some Option.getD_none imp_self implies_true Int.toNat_natCast List.cons_append List.nil_append List.map_cons List.map_nil List.length_cons List.length_nil List.getD_cons_zero List.getD_cons_succ List.drop_zero List.drop_succ_cons List.take_succ_cons List.take_zero
attribute [local go_sem] List.lookup Option.isSome_some Option.isSome_none Bool.or_true Bool.true_or Bool.or_false Bool.false_or false_and and_false false_or or_false
attribute [local go_sem] List.getElem?_cons_zero List.getElem?_cons_succ List.zip_cons_cons List.zip_nil_left List.zip_nil_right Bool.false_and Bool.and_false List.length_append List.length_set List.length_replicate List.all_cons List.all_nil encR_length encR_getD encRw encPg forall_const imp_self
attribute [local go_sem] encHr encOf encSp encP2 encSps_length encOfs_length encP2s_length encSps_getD encOfs_getD encP2s_getD
attribute [local simp] encI_length encR_length cellsI_length encSps_length encOfs_length encP2s_length
set_option maxHeartbeats 2000000 in
theorem kp16 (h : Hr) (hv : validH h = true) (n : Int) : CallsA Tryd.prog 10 [.agg (encHr h), .int .i64 n] (.agg (encHr (withH h n))) := by
 have hml := (validH_all hv).ml
 have hq : True := trivial
 refine callsA_of_tr Tryd.func10 rfl (Nat.le_of_ble_eq_true rfl) ?_
 simp only [Tryd.results10, envOf, Nat.reduceAdd]
 refine tr_sR [1, 2, 4] fun K hK => ?_
 iterate 2 refine evR_p ?_
 refine evR_z hK ?_; clear hK K
 refine tr_sR [1, 2, 4, 5] fun K hK => ?_
 refine evR_p ?_
 refine evR_z hK ?_; clear hK K
 refine tr_sR [1, 2, 4, 5, 6] fun K hK => ?_
 refine evR_p ?_
 refine evR_z hK ?_; clear hK K
 refine tr_seq fun K4 hK4 => ?_
 refine tr_sR [1, 2, 4, 5, 6, 7] fun K hK => ?_
 refine evR_p ?_
 refine evR_z hK ?_; clear hK K
 refine tr_block ?_
 -- loop 1: live [1, 2, 4, 5, 6, 7]
 refine tr_loopW (fun m σ => ∃ i : Nat, i + m = h.must.length ∧ σ = ⟨[(1, .int .i64 n), (2, .ptr 0 0), (4, .ptr 1 0), (5, .own 2), (6, .bool (wthT h.must n i).1), (7, .int .i64 (i : Nat))], [(2, .row 3 1 (encI (wthT h.must n i).2)), (1, .cells [.nsl, .nsl, .nsl, .nsl]), (0, .cells (encHr h))], 3⟩) (h.must.length) ?_ ?_
 ·
  exact ⟨_, Wk.nilslot 3 1 5 rfl, 0, by omega, rfl⟩
 ·
  rintro m σ ⟨i, hi, rfl⟩ KL1 hKL1
  refine tr_seq fun K6 hK6 => ?_
  refine tr_sR [1, 2, 4, 5, 6, 7, 12] fun K hK => ?_
  iterate 5 refine evR_p ?_
  refine evR_z hK ?_; clear hK K
  refine tr_condB (fun ht1 => ?_) (fun ht1 => ?_)
  ·
   skip
   have hil : i < h.must.length := by omega
   have hwl := wthT_len h.must n i
   replace hq := And.intro hq (hil)
   refine skipZ ?_
   refine hK6 _ ?_
   refine tr_seq fun K8 hK8 => ?_
   refine tr_block ?_
   refine tr_seq fun K9 hK9 => ?_
   refine tr_sR [1, 2, 4, 5, 6, 7, 25] fun K hK => ?_
   iterate 3 refine evR_p ?_
   iterate 7 refine evR_g ?_
   refine evR_p ?_
   refine evR_z hK ?_; clear hK K
   refine tr_condB (fun ht2 => ?_) (fun ht2 => ?_)
   ·
    skip
    refine tr_sR [1, 2, 4, 5, 7] fun K hK => ?_
    iterate 2 refine evR_p ?_
    refine evR_bs ?_
    iterate 2 refine evR_p ?_
    refine evR_z hK ?_; clear hK K
    refine tr_region [1, 2, 4, 5, 6, 7] rfl rfl fun K hK => ?_
    refine evR_p ?_
    refine evR_e hK ?_; clear hK K
    refine hK9 _ ?_
    refine tr_sR [1, 2, 4, 5, 6, 7, 36] fun K hK => ?_
    iterate 7 refine evR_p ?_
    refine evR_z hK ?_; clear hK K
    refine tr_condB (fun ht3 => ?_) (fun ht3 => ?_)
    ·
     skip
     refine tr_region [1, 2, 4, 5, 6, 7] rfl rfl fun K hK => ?_
     iterate 6 refine evR_p ?_
     refine evR_bs ?_
     iterate 2 refine evR_p ?_
     refine evR_e hK ?_; clear hK K
     refine hK8 _ ?_
     refine tr_region [1, 2, 4, 5, 6, 7] rfl rfl fun K hK => ?_
     iterate 3 refine evR_p ?_
     refine evR_e hK ?_; clear hK K
     refine hKL1 _ ?_
     first | exact ⟨m - 1, _, by omega, (Wk.trans (Wk.ren 4 2 (Nat.le_of_ble_eq_true rfl) (Nat.le_of_ble_eq_true rfl) rfl) (Wk.cut 3 rfl)), i + 1, by omega, by rw [w64 (x := (i : Int) + 1) (by omega), wth_tt ht2 ht3, ← encI_one, ← encI_one]; rfl⟩ | exact ⟨m - 1, _, by omega, (Wk.trans (Wk.ren 3 2 (Nat.le_of_ble_eq_true rfl) (Nat.le_of_ble_eq_true rfl) rfl) (Wk.cut 3 rfl)), i + 1, by omega, by rw [w64 (x := (i : Int) + 1) (by omega), wth_tf ht2 ht3, ← encI_one]; rfl⟩ | exact ⟨m - 1, _, by omega, (Wk.trans (Wk.ren 3 2 (Nat.le_of_ble_eq_true rfl) (Nat.le_of_ble_eq_true rfl) rfl) (Wk.cut 3 rfl)), i + 1, by omega, by rw [w64 (x := (i : Int) + 1) (by omega), wth_ft ht2 ht4, ← encI_one]; rfl⟩ | exact ⟨m - 1, _, by omega, Wk.cut 3 rfl, i + 1, by omega, by rw [w64 (x := (i : Int) + 1) (by omega), wth_ff ht2 ht4]; rfl⟩
    ·
     skip
     refine skipZ ?_
     refine hK8 _ ?_
     refine tr_region [1, 2, 4, 5, 6, 7] rfl rfl fun K hK => ?_
     iterate 3 refine evR_p ?_
     refine evR_e hK ?_; clear hK K
     refine hKL1 _ ?_
     first | exact ⟨m - 1, _, by omega, (Wk.trans (Wk.ren 4 2 (Nat.le_of_ble_eq_true rfl) (Nat.le_of_ble_eq_true rfl) rfl) (Wk.cut 3 rfl)), i + 1, by omega, by rw [w64 (x := (i : Int) + 1) (by omega), wth_tt ht2 ht3, ← encI_one, ← encI_one]; rfl⟩ | exact ⟨m - 1, _, by omega, (Wk.trans (Wk.ren 3 2 (Nat.le_of_ble_eq_true rfl) (Nat.le_of_ble_eq_true rfl) rfl) (Wk.cut 3 rfl)), i + 1, by omega, by rw [w64 (x := (i : Int) + 1) (by omega), wth_tf ht2 ht3, ← encI_one]; rfl⟩ | exact ⟨m - 1, _, by omega, (Wk.trans (Wk.ren 3 2 (Nat.le_of_ble_eq_true rfl) (Nat.le_of_ble_eq_true rfl) rfl) (Wk.cut 3 rfl)), i + 1, by omega, by rw [w64 (x := (i : Int) + 1) (by omega), wth_ft ht2 ht4, ← encI_one]; rfl⟩ | exact ⟨m - 1, _, by omega, Wk.cut 3 rfl, i + 1, by omega, by rw [w64 (x := (i : Int) + 1) (by omega), wth_ff ht2 ht4]; rfl⟩
   ·
    skip
    refine skipZ ?_
    refine hK9 _ ?_
    refine tr_sR [1, 2, 4, 5, 6, 7, 36] fun K hK => ?_
    iterate 7 refine evR_p ?_
    refine evR_z hK ?_; clear hK K
    refine tr_condB (fun ht4 => ?_) (fun ht4 => ?_)
    ·
     skip
     refine tr_region [1, 2, 4, 5, 6, 7] rfl rfl fun K hK => ?_
     iterate 6 refine evR_p ?_
     refine evR_bs ?_
     iterate 2 refine evR_p ?_
     refine evR_e hK ?_; clear hK K
     refine hK8 _ ?_
     refine tr_region [1, 2, 4, 5, 6, 7] rfl rfl fun K hK => ?_
     iterate 3 refine evR_p ?_
     refine evR_e hK ?_; clear hK K
     refine hKL1 _ ?_
     first | exact ⟨m - 1, _, by omega, (Wk.trans (Wk.ren 4 2 (Nat.le_of_ble_eq_true rfl) (Nat.le_of_ble_eq_true rfl) rfl) (Wk.cut 3 rfl)), i + 1, by omega, by rw [w64 (x := (i : Int) + 1) (by omega), wth_tt ht2 ht3, ← encI_one, ← encI_one]; rfl⟩ | exact ⟨m - 1, _, by omega, (Wk.trans (Wk.ren 3 2 (Nat.le_of_ble_eq_true rfl) (Nat.le_of_ble_eq_true rfl) rfl) (Wk.cut 3 rfl)), i + 1, by omega, by rw [w64 (x := (i : Int) + 1) (by omega), wth_tf ht2 ht3, ← encI_one]; rfl⟩ | exact ⟨m - 1, _, by omega, (Wk.trans (Wk.ren 3 2 (Nat.le_of_ble_eq_true rfl) (Nat.le_of_ble_eq_true rfl) rfl) (Wk.cut 3 rfl)), i + 1, by omega, by rw [w64 (x := (i : Int) + 1) (by omega), wth_ft ht2 ht4, ← encI_one]; rfl⟩ | exact ⟨m - 1, _, by omega, Wk.cut 3 rfl, i + 1, by omega, by rw [w64 (x := (i : Int) + 1) (by omega), wth_ff ht2 ht4]; rfl⟩
    ·
     skip
     refine skipZ ?_
     refine hK8 _ ?_
     refine tr_region [1, 2, 4, 5, 6, 7] rfl rfl fun K hK => ?_
     iterate 3 refine evR_p ?_
     refine evR_e hK ?_; clear hK K
     refine hKL1 _ ?_
     first | exact ⟨m - 1, _, by omega, (Wk.trans (Wk.ren 4 2 (Nat.le_of_ble_eq_true rfl) (Nat.le_of_ble_eq_true rfl) rfl) (Wk.cut 3 rfl)), i + 1, by omega, by rw [w64 (x := (i : Int) + 1) (by omega), wth_tt ht2 ht3, ← encI_one, ← encI_one]; rfl⟩ | exact ⟨m - 1, _, by omega, (Wk.trans (Wk.ren 3 2 (Nat.le_of_ble_eq_true rfl) (Nat.le_of_ble_eq_true rfl) rfl) (Wk.cut 3 rfl)), i + 1, by omega, by rw [w64 (x := (i : Int) + 1) (by omega), wth_tf ht2 ht3, ← encI_one]; rfl⟩ | exact ⟨m - 1, _, by omega, (Wk.trans (Wk.ren 3 2 (Nat.le_of_ble_eq_true rfl) (Nat.le_of_ble_eq_true rfl) rfl) (Wk.cut 3 rfl)), i + 1, by omega, by rw [w64 (x := (i : Int) + 1) (by omega), wth_ft ht2 ht4, ← encI_one]; rfl⟩ | exact ⟨m - 1, _, by omega, Wk.cut 3 rfl, i + 1, by omega, by rw [w64 (x := (i : Int) + 1) (by omega), wth_ff ht2 ht4]; rfl⟩
  ·
   skip
   have hil : i = h.must.length := by omega
   subst hil
   have hwl := wthT_len h.must n h.must.length
   refine tr_exit ?_
   simp only [thenE, inBlkE, Nat.reduceEqDiff, ↓reduceIte]
   refine hK4 _ ?_
   refine tr_seq fun K14 hK14 => ?_
   refine tr_sR [1, 2, 4, 5, 46] fun K hK => ?_
   iterate 2 refine evR_p ?_
   refine evR_z hK ?_; clear hK K
   refine tr_condB (fun ht5 => ?_) (fun ht5 => ?_)
   ·
    skip
    refine tr_region [2, 4, 5] rfl rfl fun K hK => ?_
    iterate 2 refine evR_p ?_
    refine evR_bs ?_
    iterate 2 refine evR_p ?_
    refine evR_e hK ?_; clear hK K
    refine hK14 _ ?_
    refine tr_sR [2, 4] fun K hK => ?_
    iterate 3 refine evR_p ?_
    refine evR_z hK ?_; clear hK K
    refine tr_sR [4] fun K hK => ?_
    iterate 2 refine evR_p ?_
    refine evR_z hK ?_; clear hK K
    refine retZ ?_; try exact ⟨⟩
    all_goals (first | (rw [show (withH h n).must = wthE h.must n from (wthE_ins (valid_pw hv) n).symm, wthE_f ht5, ← encI_one]; rfl) | (rw [show (withH h n).must = wthE h.must n from (wthE_ins (valid_pw hv) n).symm, wthE_t ht5]; rfl))
   ·
    skip
    refine skipZ ?_
    refine hK14 _ ?_
    refine tr_sR [2, 4] fun K hK => ?_
    iterate 3 refine evR_p ?_
    refine evR_z hK ?_; clear hK K
    refine tr_sR [4] fun K hK => ?_
    iterate 2 refine evR_p ?_
    refine evR_z hK ?_; clear hK K
    refine retZ ?_; try exact ⟨⟩
    all_goals (first | (rw [show (withH h n).must = wthE h.must n from (wthE_ins (valid_pw hv) n).symm, wthE_f ht5, ← encI_one]; rfl) | (rw [show (withH h n).must = wthE h.must n from (wthE_ins (valid_pw hv) n).symm, wthE_t ht5]; rfl))


end Go.Proofs.YtfamkbofdamkkaaDoor
namespace Go.Proofs.YtfamkbofdamkkaaDoor
open Go.RowKit
set_option linter.unusedVariables false
set_option linter.unusedSimpArgs false
set_option maxRecDepth 100000
attribute [local go_sem] shL isSh Option.isNone_none Option.isNone_some Option.isSome_none Option.isSome_some Nat.zero_add Nat.add_zero Nat.mul_one eq_self ne_eq not_true_eq_false not_false_eq_true decide_true decide_false decide_not Bool.false_eq_true List.filter_cons List.filter_nil true_and and_true beq_false beq_true Bool.not_true Bool.not_false Bool.and_true Bool.true_and Option.getD_some Option.getD_none imp_self implies_true Int.toNat_natCast List.cons_append List.nil_append List.map_cons List.map_nil List.length_cons List.length_nil List.getD_cons_zero List.getD_cons_succ List.drop_zero List.drop_succ_cons List.take_succ_cons List.take_zero
attribute [local go_sem] List.lookup Option.isSome_some Option.isSome_none Bool.or_true Bool.true_or Bool.or_false Bool.false_or false_and and_false false_or or_false
attribute [local go_sem] List.getElem?_cons_zero List.getElem?_cons_succ List.zip_cons_cons List.zip_nil_left List.zip_nil_right Bool.false_and Bool.and_false List.length_append List.length_set List.length_replicate List.all_cons List.all_nil encR_length encR_getD encRw encPg forall_const imp_self
attribute [local go_sem] encHr encOf encSp encP2 encSps_length encOfs_length encP2s_length encSps_getD encOfs_getD encP2s_getD
attribute [local simp] encI_length encR_length cellsI_length encSps_length encOfs_length encP2s_length
set_option maxHeartbeats 16000000 in
theorem kp27 (fr : Int) (rs : List P2) (os : List Of) (ap mu : Int) (hrl : rs.length ≤ maxLen) (hol : os.length ≤ maxLen) (hrk : ∀ p ∈ rs, okP2 p) (hf : okI fr) : CallsA Tryd.prog 5 [.int .i64 fr, .sl 2 (encP2s rs), .sl 4 (encOfs os), .int .i64 ap, .int .i64 mu] (.agg (encHr (madeH fr rs os ap mu))) := by
 unfold maxLen at hrl hol
 obtain ⟨n, hn⟩ : ∃ n, min rs.length 4 = n := ⟨_, rfl⟩
 have hRl := mkR_len rs (pickW fr 3600) n
 have hq := hRl
 refine callsA_of_tr Tryd.func5 rfl (Nat.le_of_ble_eq_true rfl) ?_
 simp only [Tryd.results5, envOf, Nat.reduceAdd]
 refine tr_sR [0, 1, 2, 3, 4, 10] fun K hK => ?_
 refine evR_p ?_
 refine evR_z hK ?_; clear hK K
 refine tr_sR [0, 1, 2, 3, 4, 10, 11] fun K hK => ?_
 refine evR_p ?_
 refine evR_z hK ?_; clear hK K
 refine tr_sR [1, 2, 3, 4, 10, 11, 12] fun K hK => ?_
 refine evR_p ?_
 refine evR_c (hc := (c37 _ 3600 (by omega))) (k := ?_)
 refine evR_p ?_
 refine evR_z hK ?_; clear hK K
 refine tr_seq fun K4 hK4 => ?_
 refine tr_sR [1, 2, 3, 4, 10, 11, 12, 13] fun K hK => ?_
 refine evR_p ?_
 refine evR_z hK ?_; clear hK K
 refine tr_block ?_
 -- loop 1: live [1, 2, 3, 4, 10, 11, 12, 13]
 refine tr_loopW (fun m σ => ∃ i : Nat, i + m = n ∧ σ = ⟨[(1, .sl 2 (encP2s rs)), (2, .sl 4 (encOfs os)), (3, .int .i64 ap), (4, .int .i64 mu), (10, .ptr 0 0), (11, .ptr 1 0), (12, .int .i64 (mkR rs (pickW fr 3600) i).1), (13, .int .i64 (i : Nat))], [(2, .row 57 2 (encSps (mkR rs (pickW fr 3600) i).2)), (1, .cells [.own 2, .nsl, .nsl, .nsl]), (0, .cells [.nsl, .nsl, .nsl, .nsl])], 3⟩) (n) ?_ ?_
 ·
  exact ⟨_, Wk.nilown 57 2 1 0 rfl (Nat.le_of_ble_eq_true rfl) rfl, 0, by omega, rfl⟩
 ·
  rintro m σ ⟨i, hi, rfl⟩ KL1 hKL1
  refine tr_seq fun K6 hK6 => ?_
  refine tr_sR [1, 2, 3, 4, 10, 11, 12, 13, 31] fun K hK => ?_
  iterate 5 refine evR_p ?_
  iterate 2 refine evR_g ?_
  refine evR_p ?_
  refine evR_z hK ?_; clear hK K
  refine tr_condB (fun ht1 => ?_) (fun ht1 => ?_)
  ·
   skip
   have hil : i < n := by omega
   have hil2 : i < rs.length := by omega
   have hml := mkR_len rs (pickW fr 3600) i
   replace hq := And.intro hq (And.intro hil (And.intro hil2 (hml)))
   refine skipZ ?_
   refine hK6 _ ?_
   refine tr_seq fun K8 hK8 => ?_
   refine tr_block ?_
   refine tr_sR [1, 2, 3, 4, 10, 11, 12, 13] fun K hK => ?_
   iterate 6 refine evR_p ?_
   refine evR_c (hc := (c37 _ 30 (by omega))) (k := ?_)
   iterate 2 refine evR_p ?_
   refine evR_z hK ?_; clear hK K
   refine tr_sR [1, 2, 3, 4, 10, 11, 12, 13, 14] fun K hK => ?_
   iterate 7 refine evR_p ?_
   refine evR_c (hc := (c37 _ 60 (by omega))) (k := ?_)
   iterate 2 refine evR_p ?_
   refine evR_z hK ?_; clear hK K
   refine tr_sR [1, 2, 3, 4, 10, 11, 13, 14] fun K hK => ?_
   iterate 5 refine evR_p ?_
   refine evR_bs ?_
   iterate 3 refine evR_p ?_
   refine evR_z hK ?_; clear hK K
   refine tr_region [1, 2, 3, 4, 10, 11, 12, 13] rfl rfl fun K hK => ?_
   iterate 2 refine evR_p ?_
   refine evR_e hK ?_; clear hK K
   refine hK8 _ ?_
   refine tr_region [1, 2, 3, 4, 10, 11, 12, 13] rfl rfl fun K hK => ?_
   iterate 3 refine evR_p ?_
   refine evR_e hK ?_; clear hK K
   refine hKL1 _ ?_
   exact ⟨m - 1, _, by omega, (Wk.trans (Wk.ren 3 2 (Nat.le_of_ble_eq_true rfl) (Nat.le_of_ble_eq_true rfl) rfl) (Wk.cut 3 rfl)), i + 1, by omega, by rw [w64 (x := (i : Int) + 1) (by omega), mkR_s1, mkR_s2, encSps_snoc]; rfl⟩
  ·
   skip
   have hil : n = i := by omega
   subst hil
   refine tr_exit ?_
   simp only [thenE, inBlkE, Nat.reduceEqDiff, ↓reduceIte]
   refine hK4 _ ?_
   refine tr_seq fun K12 hK12 => ?_
   refine tr_seq fun K13 hK13 => ?_
   refine tr_wk (Wk.nilown 52 4 1 1 rfl (by decide) rfl) ?_
   try simp only [List.map_cons, List.map_nil, Nat.reduceEqDiff, ↓reduceIte, List.set_cons_zero, List.set_cons_succ, Nat.reduceAdd]
   refine tr_fz [.own 2, .own 3] (by simp (maxSteps := 4000000) (disch := first | assumption | omega | (simp only [go_sem, *]; done) | (simp only [go_sem, *]; omega)) only [go_sem, hq, Int.reduceToNat, Nat.reduceBEq, Nat.reduceEqDiff, Nat.reduceAdd, Nat.reduceMul, Nat.reduceLeDiff, Nat.reduceLT, Nat.reduceSub, ↓reduceIte, reduceCtorEq]; (try rfl)) ?_
   refine tr_region [2, 3, 4, 10, 11, 15] rfl rfl fun K hK => ?_
   refine evR_p ?_
   refine evR_e hK ?_; clear hK K
   refine hK13 _ ?_
   refine tr_block ?_
   -- loop 2: live [2, 3, 4, 10, 11, 15]
   refine tr_loopW (fun m σ => ∃ i : Nat, i + m = (if rs.length = 0 then 0 else min os.length 8) ∧ σ = ⟨[(2, .sl 4 (encOfs os)), (3, .int .i64 ap), (4, .int .i64 mu), (10, .ptr 0 0), (11, .ptr 1 0), (15, .int .i64 (i : Nat))], [(1, .cells [.sl 2 (encSps (mkR rs (pickW fr 3600) n).2), .sl 4 (encOfs (offT n os i)), .nsl, .nsl]), (0, .cells [.nsl, .nsl, .nsl, .nsl])], 4⟩) ((if rs.length = 0 then 0 else min os.length 8)) ?_ ?_
   ·
    exact ⟨_, Wk.refl _, 0, by omega, rfl⟩
   ·
    rintro m2 σ ⟨i, hi, rfl⟩ KL2 hKL2
    refine tr_seq fun K14 hK14 => ?_
    refine tr_sR [2, 3, 4, 10, 11, 15, 73] fun K hK => ?_
    iterate 5 refine evR_p ?_
    iterate 2 refine evR_g ?_
    iterate 2 refine evR_p ?_
    iterate 4 refine evR_g ?_
    refine evR_p ?_
    refine evR_z hK ?_; clear hK K
    refine tr_condB (fun ht2 => ?_) (fun ht2 => ?_)
    ·
     skip
     have hrne : ¬ rs.length = 0 := by omega
     rw [if_neg hrne] at hi
     have hil : i < os.length := by omega
     have hn0 : 0 < n := by omega
     have hol2 := offT_len n os i
     obtain ⟨o, hO⟩ : ∃ o, mkO n (os.getD i of0) = o := ⟨_, rfl⟩
     obtain ⟨l, hL⟩ : ∃ l, offT n os i = l := ⟨_, rfl⟩
     replace hq := And.intro hq (hil)
     refine skipZ ?_
     refine hK14 _ ?_
     refine tr_seq fun K16 hK16 => ?_
     refine tr_block ?_
     refine tr_sD [78, 79, 84, 85, 89, 93, 94, 100, 101, 3000004] [2, 3, 4, 10, 11, 15, 16] fun K hK => ?_
     iterate 5 refine evD_p ?_
     refine evD_c (hc := (c37 _ 6 (by omega))) (k := ?_)
     iterate 8 refine evD_p ?_
     refine evD_c (hc := (c37 _ (n : Int) (by omega))) (k := ?_)
     iterate 5 refine evD_p ?_
     refine evD_c (hc := (c37 _ 40 (by omega))) (k := ?_)
     iterate 6 refine evD_p ?_
     refine evD_c (hc := (c37 _ 100 (by omega))) (k := ?_)
     iterate 3 refine evD_p ?_
     refine evD_z hK ?_; clear hK K
     refine tr_sR [2, 3, 4, 10, 11, 15, 16, 17] fun K hK => ?_
     refine evR_p ?_
     refine evR_z hK ?_; clear hK K
     refine tr_seq fun K19 hK19 => ?_
     refine tr_block ?_
     -- loop 3: live [2, 3, 4, 10, 11, 15, 16, 17]
     refine tr_loopW (fun m σ => ∃ k : Nat, k + m = (offT n os i).length ∧ (∀ j, j < k → ofLt ((offT n os i).getD j of0) (mkO n (os.getD i of0)) = true) ∧ σ = ⟨[(2, .sl 4 (encOfs os)), (3, .int .i64 ap), (4, .int .i64 mu), (10, .ptr 0 0), (11, .ptr 1 0), (15, .int .i64 (i : Nat)), (16, .ptr 4 0), (17, .int .i64 (k : Nat))], [(4, .cells (encOf (mkO n (os.getD i of0)))), (1, .cells [.sl 2 (encSps (mkR rs (pickW fr 3600) n).2), .sl 4 (encOfs (offT n os i)), .nsl, .nsl]), (0, .cells [.nsl, .nsl, .nsl, .nsl])], 5⟩) ((offT n os i).length) ?_ ?_
     ·
      exact ⟨_, Wk.refl _, 0, by omega, (by intro j hj; omega), rfl⟩
     ·
      rintro m3 σ ⟨k, hk, hpk, rfl⟩ KL3 hKL3
      refine tr_seq fun K20 hK20 => ?_
      refine tr_sD [] [2, 3, 4, 10, 11, 15, 16, 17, 142] fun K hK => ?_
      iterate 6 refine evD_p ?_
      iterate 31 refine evD_g ?_
      refine evD_p ?_
      refine evD_z hK ?_; clear hK K
      refine tr_condB (fun ht3 => ?_) (fun ht3 => ?_)
      ·
       skip
       have hkl : k < (offT n os i).length := by omega
       replace hq := And.intro hq (hkl)
       refine skipZ ?_
       refine hK20 _ ?_
       refine tr_block ?_
       refine tr_region [2, 3, 4, 10, 11, 15, 16, 17] rfl rfl fun K hK => ?_
       iterate 3 refine evR_p ?_
       refine evR_e hK ?_; clear hK K
       refine hKL3 _ ?_
       exact ⟨m3 - 1, _, by omega, Wk.refl _, k + 1, by omega, off_step hpk (ofLt_iff.2 (by omega)), by rw [w64 (x := (k : Int) + 1) (by omega)]; rfl⟩
      ·
       skip
       have hp4 : posO (mkO n (os.getD i of0)) (offT n os i) = k := posO_at (by omega) hpk (fun hkl2 => by rw [Bool.eq_false_iff, ne_eq, ofLt_iff]; omega)
       refine tr_exit ?_
       simp only [thenE, inBlkE, Nat.reduceEqDiff, ↓reduceIte]
       refine hK19 _ ?_
       refine tr_seq fun K22 hK22 => ?_
       refine tr_sD [] [2, 3, 4, 10, 11, 15, 16, 17, 171] fun K hK => ?_
       iterate 6 refine evD_p ?_
       iterate 9 refine evD_g ?_
       iterate 2 refine evD_p ?_
       iterate 9 refine evD_g ?_
       refine evD_p ?_
       refine evD_z hK ?_; clear hK K
       refine tr_condB (fun ht4 => ?_) (fun ht4 => ?_)
       ·
        skip
        refine tr_exit ?_
        simp only [thenE, inBlkE, Nat.reduceEqDiff, ↓reduceIte]
        refine hK16 _ ?_
        refine tr_region [2, 3, 4, 10, 11, 15] rfl rfl fun K hK => ?_
        iterate 3 refine evR_p ?_
        refine evR_e hK ?_; clear hK K
        refine hKL2 _ ?_
        first | exact ⟨m2 - 1, _, by omega, Wk.cut 4 rfl, i + 1, by rw [if_neg hrne]; omega, by rw [w64 (x := (i : Int) + 1) (by omega), off_same hp4 (by omega)]; rfl⟩ | exact ⟨m2 - 1, _, by omega, Wk.cut 4 rfl, i + 1, by rw [if_neg hrne]; omega, by rw [w64 (x := (i : Int) + 1) (by omega), off_new hp4 (by omega), encOfs_ins]; rfl⟩
       ·
        skip
        refine skipZ ?_
        refine hK22 _ ?_
        refine tr_draw [178, 183, 184] [2, 3, 4, 10, 11, 15] mixed rfl (by kernel_rfl) rfl fun K hK => ?_
        iterate 6 refine evD_p ?_
        refine evD_bc ?_
        iterate 8 refine evD_p ?_
        refine evD_e hK ?_; clear hK K
        refine hK16 _ ?_
        refine tr_region [2, 3, 4, 10, 11, 15] rfl rfl fun K hK => ?_
        iterate 3 refine evR_p ?_
        refine evR_e hK ?_; clear hK K
        refine hKL2 _ ?_
        first | exact ⟨m2 - 1, _, by omega, Wk.cut 4 rfl, i + 1, by rw [if_neg hrne]; omega, by rw [w64 (x := (i : Int) + 1) (by omega), off_same hp4 (by omega)]; rfl⟩ | exact ⟨m2 - 1, _, by omega, Wk.cut 4 rfl, i + 1, by rw [if_neg hrne]; omega, by rw [w64 (x := (i : Int) + 1) (by omega), off_new hp4 (by omega), encOfs_ins]; rfl⟩
    ·
     skip
     have hil : offT n os i = (if rs.length = 0 then [] else offT n os (min os.length 8)) := off_end hi (by split <;> omega)
     rw [hil]
     refine tr_exit ?_
     simp only [thenE, inBlkE, Nat.reduceEqDiff, ↓reduceIte]
     refine hK12 _ ?_
     refine tr_sR [3, 4, 10, 11, 18] fun K hK => ?_
     refine evR_p ?_
     refine evR_z hK ?_; clear hK K
     refine tr_seq fun K25 hK25 => ?_
     refine tr_sR [3, 4, 10, 11, 18, 19] fun K hK => ?_
     refine evR_p ?_
     refine evR_z hK ?_; clear hK K
     refine tr_block ?_
     -- loop 4: live [3, 4, 10, 11, 18, 19]
     refine tr_loopW (fun m σ => ∃ a : Nat, a + m = 6 ∧ σ = ⟨[(3, .int .i64 ap), (4, .int .i64 mu), (10, .ptr 0 0), (11, .ptr 1 0), (18, .int .i64 (ixA a : Nat)), (19, .int .i64 (a : Nat))], [(4, .row 58 2 (encP2s (apT (pickW ap 32768) (ixA a)))), (1, .cells [.sl 2 (encSps (mkR rs (pickW fr 3600) n).2), .sl 4 (encOfs (if rs.length = 0 then [] else offT n os (min os.length 8))), .own 4, .nsl]), (0, .cells [.nsl, .nsl, .nsl, .nsl])], 5⟩) (6) ?_ ?_
     ·
      exact ⟨_, Wk.nilown 58 2 1 2 rfl (Nat.le_of_ble_eq_true rfl) rfl, 0, by omega, rfl⟩
     ·
      rintro m4 σ ⟨a, ha, rfl⟩ KL4 hKL4
      refine tr_seq fun K27 hK27 => ?_
      refine tr_sR [3, 4, 10, 11, 18, 19, 187] fun K hK => ?_
      iterate 2 refine evR_p ?_
      refine evR_z hK ?_; clear hK K
      refine tr_condB (fun ht5 => ?_) (fun ht5 => ?_)
      ·
       skip
       have hal : a < 6 := by omega
       have hix := ixA_s hal
       replace hq := And.intro hq (hal)
       refine skipZ ?_
       refine hK27 _ ?_
       refine tr_seq fun K29 hK29 => ?_
       refine tr_block ?_
       refine tr_sR [3, 4, 10, 11, 18, 19, 20] fun K hK => ?_
       iterate 3 refine evR_p ?_
       refine evR_z hK ?_; clear hK K
       refine tr_block ?_
       -- loop 5: live [3, 4, 10, 11, 18, 19, 20]
       refine tr_loopW (fun m σ => ∃ b : Nat, a < b ∧ b + m = 6 ∧ σ = ⟨[(3, .int .i64 ap), (4, .int .i64 mu), (10, .ptr 0 0), (11, .ptr 1 0), (18, .int .i64 ((ixA a + (b - a - 1) : Nat) : Int)), (19, .int .i64 (a : Nat)), (20, .int .i64 (b : Nat))], [(4, .row 58 2 (encP2s (apT (pickW ap 32768) (ixA a + (b - a - 1))))), (1, .cells [.sl 2 (encSps (mkR rs (pickW fr 3600) n).2), .sl 4 (encOfs (if rs.length = 0 then [] else offT n os (min os.length 8))), .own 4, .nsl]), (0, .cells [.nsl, .nsl, .nsl, .nsl])], 5⟩) (5 - a) ?_ ?_
       ·
        exact ⟨_, Wk.refl _, a + 1, by omega, by omega, by rw [w64 (x := (a : Int) + 1) (by omega), show ixA a + (a + 1 - a - 1) = ixA a by omega]; rfl⟩
       ·
        rintro m5 σ ⟨b, hab, hb, rfl⟩ KL5 hKL5
        refine tr_seq fun K31 hK31 => ?_
        refine tr_sR [3, 4, 10, 11, 18, 19, 20, 193] fun K hK => ?_
        iterate 2 refine evR_p ?_
        refine evR_z hK ?_; clear hK K
        refine tr_condB (fun ht6 => ?_) (fun ht6 => ?_)
        ·
         skip
         have hbl : b < 6 := by omega
         have hpr := prs_at hbl hab
         have hal2 := apT_len (pickW ap 32768) (ixA a + (b - a - 1))
         have hbs : ixA a + (b + 1 - a - 1) = ixA a + (b - a - 1) + 1 := by omega
         have hixl : ixA a + (b - a - 1) < 1000 := by have : ixA a ≤ 30 := ixA_le hal; omega
         replace hq := And.intro hq (hbl)
         refine skipZ ?_
         refine hK31 _ ?_
         refine tr_seq fun K33 hK33 => ?_
         refine tr_block ?_
         refine tr_seq fun K34 hK34 => ?_
         refine tr_sR [3, 4, 10, 11, 18, 19, 20, 207] fun K hK => ?_
         refine evR_p ?_
         refine evR_c (hc := (c37 _ 32768 (by omega))) (k := ?_)
         iterate 5 refine evR_p ?_
         iterate 4 refine evR_g ?_
         refine evR_p ?_
         refine evR_z hK ?_; clear hK K
         refine tr_condB (fun ht7 => ?_) (fun ht7 => ?_)
         ·
          skip
          refine tr_region [3, 4, 10, 11, 18, 19, 20] rfl rfl fun K hK => ?_
          iterate 5 refine evR_p ?_
          refine evR_bs ?_
          iterate 3 refine evR_p ?_
          refine evR_e hK ?_; clear hK K
          refine hK34 _ ?_
          refine tr_region [3, 4, 10, 11, 18, 19, 20] rfl rfl fun K hK => ?_
          iterate 3 refine evR_p ?_
          refine evR_e hK ?_; clear hK K
          refine hK33 _ ?_
          refine tr_region [3, 4, 10, 11, 18, 19, 20] rfl rfl fun K hK => ?_
          iterate 3 refine evR_p ?_
          refine evR_e hK ?_; clear hK K
          refine hKL5 _ ?_
          first | exact ⟨m5 - 1, _, by omega, (Wk.trans (Wk.ren 5 4 (Nat.le_of_ble_eq_true rfl) (Nat.le_of_ble_eq_true rfl) rfl) (Wk.cut 5 rfl)), b + 1, by omega, by omega, by rw [w64 (x := (b : Int) + 1) (by omega), w64 (x := ((ixA a + (b - a - 1) : Nat) : Int) + 1) (by omega), hbs, apT_t ht7.1 ht7.2, hpr, encP2s_snoc]; rfl⟩ | exact ⟨m5 - 1, _, by omega, Wk.cut 5 rfl, b + 1, by omega, by omega, by rw [w64 (x := (b : Int) + 1) (by omega), w64 (x := ((ixA a + (b - a - 1) : Nat) : Int) + 1) (by omega), hbs, apT_f ht7]; rfl⟩
         ·
          skip
          refine skipZ ?_
          refine hK34 _ ?_
          refine tr_region [3, 4, 10, 11, 18, 19, 20] rfl rfl fun K hK => ?_
          iterate 3 refine evR_p ?_
          refine evR_e hK ?_; clear hK K
          refine hK33 _ ?_
          refine tr_region [3, 4, 10, 11, 18, 19, 20] rfl rfl fun K hK => ?_
          iterate 3 refine evR_p ?_
          refine evR_e hK ?_; clear hK K
          refine hKL5 _ ?_
          first | exact ⟨m5 - 1, _, by omega, (Wk.trans (Wk.ren 5 4 (Nat.le_of_ble_eq_true rfl) (Nat.le_of_ble_eq_true rfl) rfl) (Wk.cut 5 rfl)), b + 1, by omega, by omega, by rw [w64 (x := (b : Int) + 1) (by omega), w64 (x := ((ixA a + (b - a - 1) : Nat) : Int) + 1) (by omega), hbs, apT_t ht7.1 ht7.2, hpr, encP2s_snoc]; rfl⟩ | exact ⟨m5 - 1, _, by omega, Wk.cut 5 rfl, b + 1, by omega, by omega, by rw [w64 (x := (b : Int) + 1) (by omega), w64 (x := ((ixA a + (b - a - 1) : Nat) : Int) + 1) (by omega), hbs, apT_f ht7]; rfl⟩
        ·
         skip
         have hbl : b = 6 := by omega
         subst hbl
         have hbe : 6 - a - 1 = 5 - a := by omega
         rw [hbe]
         refine tr_exit ?_
         simp only [thenE, inBlkE, Nat.reduceEqDiff, ↓reduceIte]
         refine hK29 _ ?_
         refine tr_region [3, 4, 10, 11, 18, 19] rfl rfl fun K hK => ?_
         iterate 3 refine evR_p ?_
         refine evR_e hK ?_; clear hK K
         refine hKL4 _ ?_
         exact ⟨m4 - 1, _, by omega, Wk.cut 5 rfl, a + 1, by omega, by rw [w64 (x := (a : Int) + 1) (by omega), hix]; rfl⟩
      ·
       skip
       have hal : a = 6 := by omega
       subst hal
       refine tr_exit ?_
       simp only [thenE, inBlkE, Nat.reduceEqDiff, ↓reduceIte]
       refine hK25 _ ?_
       refine tr_seq fun K36 hK36 => ?_
       refine tr_sR [4, 10, 11, 21] fun K hK => ?_
       refine evR_p ?_
       refine evR_z hK ?_; clear hK K
       refine tr_block ?_
       -- loop 6: live [4, 10, 11, 21]
       refine tr_loopW (fun m σ => ∃ a : Nat, a + m = 6 ∧ σ = ⟨[(4, .int .i64 mu), (10, .ptr 0 0), (11, .ptr 1 0), (21, .int .i64 (a : Nat))], [(5, .row 3 1 (encI (muT (pickW mu 64) a))), (4, .row 58 2 (encP2s (apT (pickW ap 32768) 15))), (1, .cells [.sl 2 (encSps (mkR rs (pickW fr 3600) n).2), .sl 4 (encOfs (if rs.length = 0 then [] else offT n os (min os.length 8))), .own 4, .own 5]), (0, .cells [.nsl, .nsl, .nsl, .nsl])], 6⟩) (6) ?_ ?_
       ·
        exact ⟨_, Wk.nilown 3 1 1 3 rfl (Nat.le_of_ble_eq_true rfl) rfl, 0, by omega, rfl⟩
       ·
        rintro m6 σ ⟨a, ha, rfl⟩ KL6 hKL6
        refine tr_seq fun K38 hK38 => ?_
        refine tr_sR [4, 10, 11, 21, 219] fun K hK => ?_
        iterate 2 refine evR_p ?_
        refine evR_z hK ?_; clear hK K
        refine tr_condB (fun ht8 => ?_) (fun ht8 => ?_)
        ·
         skip
         have hal : a < 6 := by omega
         have hml := muT_len (pickW mu 64) a
         replace hq := And.intro hq (hal)
         refine skipZ ?_
         refine hK38 _ ?_
         refine tr_seq fun K40 hK40 => ?_
         refine tr_block ?_
         refine tr_sR [4, 10, 11, 21, 227] fun K hK => ?_
         refine evR_p ?_
         refine evR_c (hc := (c37 _ 64 (by omega))) (k := ?_)
         iterate 4 refine evR_p ?_
         refine evR_z hK ?_; clear hK K
         refine tr_condB (fun ht9 => ?_) (fun ht9 => ?_)
         ·
          skip
          refine tr_region [4, 10, 11, 21] rfl rfl fun K hK => ?_
          iterate 3 refine evR_p ?_
          refine evR_bs ?_
          iterate 3 refine evR_p ?_
          refine evR_e hK ?_; clear hK K
          refine hK40 _ ?_
          refine tr_region [4, 10, 11, 21] rfl rfl fun K hK => ?_
          iterate 3 refine evR_p ?_
          refine evR_e hK ?_; clear hK K
          refine hKL6 _ ?_
          first | exact ⟨m6 - 1, _, by omega, (Wk.trans (Wk.ren 6 5 (Nat.le_of_ble_eq_true rfl) (Nat.le_of_ble_eq_true rfl) rfl) (Wk.cut 6 rfl)), a + 1, by omega, by rw [w64 (x := (a : Int) + 1) (by omega), muT_t (by assumption), encI_snoc]; rfl⟩ | exact ⟨m6 - 1, _, by omega, Wk.cut 6 rfl, a + 1, by omega, by rw [w64 (x := (a : Int) + 1) (by omega), muT_f (by assumption)]; rfl⟩
         ·
          skip
          refine skipZ ?_
          refine hK40 _ ?_
          refine tr_region [4, 10, 11, 21] rfl rfl fun K hK => ?_
          iterate 3 refine evR_p ?_
          refine evR_e hK ?_; clear hK K
          refine hKL6 _ ?_
          first | exact ⟨m6 - 1, _, by omega, (Wk.trans (Wk.ren 6 5 (Nat.le_of_ble_eq_true rfl) (Nat.le_of_ble_eq_true rfl) rfl) (Wk.cut 6 rfl)), a + 1, by omega, by rw [w64 (x := (a : Int) + 1) (by omega), muT_t (by assumption), encI_snoc]; rfl⟩ | exact ⟨m6 - 1, _, by omega, Wk.cut 6 rfl, a + 1, by omega, by rw [w64 (x := (a : Int) + 1) (by omega), muT_f (by assumption)]; rfl⟩
        ·
         skip
         have hal : a = 6 := by omega
         subst hal
         refine tr_exit ?_
         simp only [thenE, inBlkE, Nat.reduceEqDiff, ↓reduceIte]
         refine hK36 _ ?_
         refine tr_sR [10] fun K hK => ?_
         iterate 2 refine evR_p ?_
         refine evR_z hK ?_; clear hK K
         refine retZ ?_; try exact ⟨⟩
         all_goals ((subst hn; rfl))

end Go.Proofs.YtfamkbofdamkkaaDoor
namespace Go.Proofs.YtfamkbofdamkkaaDoor
open Go.RowKit
set_option linter.unusedVariables false
set_option linter.unusedSimpArgs false
set_option maxRecDepth 100000
attribute [local go_sem] Nat.zero_add Nat.add_zero Nat.mul_one eq_self ne_eq not_true_eq_false not_false_eq_true decide_true decide_false decide_not Bool.false_eq_true List.filter_cons List.filter_nil true_and and_true beq_false beq_true Bool.not_true Bool.not_false Bool.and_true Bool.true_and Option.getD_some Option.getD_none imp_self implies_true Int.toNat_natCast List.cons_append List.nil_append List.map_cons List.map_nil List.length_cons List.length_nil List.getD_cons_zero List.getD_cons_succ List.drop_zero List.drop_succ_cons List.take_succ_cons List.take_zero
attribute [local go_sem] List.lookup Option.isSome_some Option.isSome_none Bool.or_true Bool.true_or Bool.or_false Bool.false_or false_and and_false false_or or_false
attribute [local go_sem] List.getElem?_cons_zero List.getElem?_cons_succ List.zip_cons_cons List.zip_nil_left List.zip_nil_right Bool.false_and Bool.and_false List.length_append List.length_set List.length_replicate List.all_cons List.all_nil encR_length encR_getD encRw encPg forall_const imp_self
attribute [local go_sem] encHr encOf encSp encP2 encSps_length encOfs_length encP2s_length encSps_getD encOfs_getD encP2s_getD
attribute [local simp] encI_length encR_length cellsI_length encSps_length encOfs_length encP2s_length
theorem kp32a  : CallsM Tryd.prog 20 [.sl 1 []] ([]) (0) (.own 0) ([(0, .row 3 1 (encI []))]) (1) := by
 have hq : True := trivial
 refine callsM_of_tr Tryd.func20 rfl (Nat.le_of_ble_eq_true rfl) (Nat.le_of_ble_eq_true rfl) (Nat.le_of_ble_eq_true rfl) ?_
 simp only [Tryd.results20, envOf, gh, gv, List.cons_append, List.nil_append, Nat.reduceAdd]
 refine tr_sR [0] fun K hK => ?_
 refine evR_p ?_
 refine evR_z hK ?_; clear hK K
 refine tr_seq fun K2 hK2 => ?_
 refine tr_sR [0, 4] fun K hK => ?_
 iterate 2 refine evR_p ?_
 refine evR_z hK ?_; clear hK K
 refine tr_cond_ub rfl ?_ ?_
 ·
  skip
  refine tr_sR [2] fun K hK => ?_
  refine evR_p ?_
  refine evR_z hK ?_; clear hK K
  refine tr_ret ?_
  (try simp only [thenE, inBlkE])
  all_goals first | refine ⟨_, (Wk.nilslot 3 1 2 rfl), ?_⟩ | refine ⟨_, (Wk.trans (Wk.ren 1 0 (Nat.le_of_ble_eq_true rfl) (Nat.le_of_ble_eq_true rfl) rfl) (Wk.cut 1 rfl)), ?_⟩ | refine ⟨_, (Wk.refl _), ?_⟩
  simp (maxSteps := 4000000) (disch := first | assumption | omega | (simp only [go_sem, *]; done) | (simp only [go_sem, *]; omega)) only [postM, ghOK, gv, St.ren, St.cut, V.ren, V.renL, AObj.ren, Nat.blt_eq, resV1, go_sem, hq, Int.reduceToNat, Nat.reduceBEq, Nat.reduceEqDiff, Nat.reduceAdd, Nat.reduceMul, Nat.reduceLeDiff, Nat.reduceLT, Nat.reduceSub, ↓reduceIte, reduceCtorEq]
  all_goals (rfl)
 ·
  skip
  refine skipZ ?_
  refine hK2 _ ?_
  refine tr_sR [2] fun K hK => ?_
  refine evR_bo ?_
  iterate 3 refine evR_p ?_
  refine evR_z hK ?_; clear hK K
  refine tr_ret ?_
  (try simp only [thenE, inBlkE])
  all_goals first | refine ⟨_, (Wk.nilslot 3 1 2 rfl), ?_⟩ | refine ⟨_, (Wk.trans (Wk.ren 1 0 (Nat.le_of_ble_eq_true rfl) (Nat.le_of_ble_eq_true rfl) rfl) (Wk.cut 1 rfl)), ?_⟩ | refine ⟨_, (Wk.refl _), ?_⟩
  simp (maxSteps := 4000000) (disch := first | assumption | omega | (simp only [go_sem, *]; done) | (simp only [go_sem, *]; omega)) only [postM, ghOK, gv, St.ren, St.cut, V.ren, V.renL, AObj.ren, Nat.blt_eq, resV1, go_sem, hq, Int.reduceToNat, Nat.reduceBEq, Nat.reduceEqDiff, Nat.reduceAdd, Nat.reduceMul, Nat.reduceLeDiff, Nat.reduceLT, Nat.reduceSub, ↓reduceIte, reduceCtorEq]
  all_goals (rfl)

section
attribute [local go_sem] List.replicate_zero
theorem kp32b (a : Int) (l : List Int) (hm : l.length ≤ 1000) : CallsM Tryd.prog 20 [.sl 1 ([V.int .i64 a] :: encI l)] ([]) (0) (.own 0) ([(0, .row 3 1 ([V.int .i64 a] :: encI l))]) (1) := by
 have hq : True := trivial
 refine callsM_of_tr Tryd.func20 rfl (Nat.le_of_ble_eq_true rfl) (Nat.le_of_ble_eq_true rfl) (Nat.le_of_ble_eq_true rfl) ?_
 simp only [Tryd.results20, envOf, gh, gv, List.cons_append, List.nil_append, Nat.reduceAdd]
 refine tr_sR [0] fun K hK => ?_
 refine evR_p ?_
 refine evR_z hK ?_; clear hK K
 refine tr_seq fun K2 hK2 => ?_
 refine tr_sR [0, 4] fun K hK => ?_
 iterate 2 refine evR_p ?_
 refine evR_z hK ?_; clear hK K
 refine tr_condB (fun ht1 => ?_) (fun ht1 => ?_)
 ·
  skip
  refine tr_sR [2] fun K hK => ?_
  refine evR_p ?_
  refine evR_z hK ?_; clear hK K
  refine tr_ret ?_
  (try simp only [thenE, inBlkE])
  all_goals first | refine ⟨_, (Wk.nilslot 3 1 2 rfl), ?_⟩ | refine ⟨_, (Wk.trans (Wk.ren 1 0 (Nat.le_of_ble_eq_true rfl) (Nat.le_of_ble_eq_true rfl) rfl) (Wk.cut 1 rfl)), ?_⟩ | refine ⟨_, (Wk.refl _), ?_⟩
  simp (maxSteps := 4000000) (disch := first | assumption | omega | (simp only [go_sem, *]; done) | (simp only [go_sem, *]; omega)) only [postM, ghOK, gv, St.ren, St.cut, V.ren, V.renL, AObj.ren, Nat.blt_eq, resV1, go_sem, hq, Int.reduceToNat, Nat.reduceBEq, Nat.reduceEqDiff, Nat.reduceAdd, Nat.reduceMul, Nat.reduceLeDiff, Nat.reduceLT, Nat.reduceSub, ↓reduceIte, reduceCtorEq]
  all_goals (first | (cases ht1; done) | rfl)
 ·
  skip
  refine skipZ ?_
  refine hK2 _ ?_
  refine tr_sR [2] fun K hK => ?_
  refine evR_bo ?_
  iterate 3 refine evR_p ?_
  refine evR_z hK ?_; clear hK K
  refine tr_ret ?_
  (try simp only [thenE, inBlkE])
  all_goals first | refine ⟨_, (Wk.nilslot 3 1 2 rfl), ?_⟩ | refine ⟨_, (Wk.trans (Wk.ren 1 0 (Nat.le_of_ble_eq_true rfl) (Nat.le_of_ble_eq_true rfl) rfl) (Wk.cut 1 rfl)), ?_⟩ | refine ⟨_, (Wk.refl _), ?_⟩
  simp (maxSteps := 4000000) (disch := first | assumption | omega | (simp only [go_sem, *]; done) | (simp only [go_sem, *]; omega)) only [postM, ghOK, gv, St.ren, St.cut, V.ren, V.renL, AObj.ren, Nat.blt_eq, resV1, go_sem, hq, Int.reduceToNat, Nat.reduceBEq, Nat.reduceEqDiff, Nat.reduceAdd, Nat.reduceMul, Nat.reduceLeDiff, Nat.reduceLT, Nat.reduceSub, ↓reduceIte, reduceCtorEq]
  all_goals (first | (cases ht1; done) | rfl)
end
theorem kp32 (l : List Int) (hm : l.length ≤ 1000) : CallsM Tryd.prog 20 [.sl 1 (encI l)] [] 0 (.own 0) [(0, .row 3 1 (encI l))] 1 := by
 cases l with
 | nil => exact kp32a
 | cons a l => exact kp32b a l (by simp at hm; omega)

theorem kp74 (o : Of) (k : Nat) : CallsA Tryd.prog 56 [.agg (encOf o), .ep [.int .i64 (k : Nat)]] (.int .i64 (roomC k o)) := by
 have hq : True := trivial
 refine callsA_of_tr Tryd.func56 rfl (Nat.le_of_ble_eq_true rfl) ?_
 simp only [Tryd.results56, envOf, Nat.reduceAdd]
 refine tr_sR [1, 2] fun K hK => ?_
 iterate 2 refine evR_p ?_
 refine evR_z hK ?_; clear hK K
 refine tr_seq fun K2 hK2 => ?_
 refine tr_sR [2, 7] fun K hK => ?_
 iterate 4 refine evR_p ?_
 refine evR_z hK ?_; clear hK K
 refine tr_condB (fun ht1 => ?_) (fun ht1 => ?_)
 ·
  skip
  refine tr_sR [3] fun K hK => ?_
  iterate 3 refine evR_p ?_
  refine evR_z hK ?_; clear hK K
  refine retZ ?_; try exact ⟨⟩
  all_goals ((unfold roomC; first | (rw [if_pos (by assumption)]; done) | (rw [if_neg (by assumption)]; done)))
 ·
  skip
  refine skipZ ?_
  refine hK2 _ ?_
  refine tr_sR [3] fun K hK => ?_
  refine evR_p ?_
  refine evR_z hK ?_; clear hK K
  refine retZ ?_; try exact ⟨⟩
  all_goals ((unfold roomC; first | (rw [if_pos (by assumption)]; done) | (rw [if_neg (by assumption)]; done)))

theorem kp75 (o : Of) (n : Int) : CallsA Tryd.prog 57 [.agg (encOf o), .ep [.int .i64 n]] (.bool (isP n o)) := by
 have hq : True := trivial
 refine callsA_of_tr Tryd.func57 rfl (Nat.le_of_ble_eq_true rfl) ?_
 simp only [Tryd.results57, envOf, Nat.reduceAdd]
 refine tr_sR [1, 2] fun K hK => ?_
 iterate 2 refine evR_p ?_
 refine evR_z hK ?_; clear hK K
 refine tr_sR [3] fun K hK => ?_
 iterate 5 refine evR_p ?_
 refine evR_z hK ?_; clear hK K
 refine retZ ?_; try exact ⟨⟩
 all_goals (rfl)

theorem kp77 (o : Of) (n : Int) : CallsA Tryd.prog 59 [.agg (encOf o), .ep [.int .i64 n]] (.bool (isP n o)) := by
 have hq : True := trivial
 refine callsA_of_tr Tryd.func59 rfl (Nat.le_of_ble_eq_true rfl) ?_
 simp only [Tryd.results59, envOf, Nat.reduceAdd]
 refine tr_sR [1, 2] fun K hK => ?_
 iterate 2 refine evR_p ?_
 refine evR_z hK ?_; clear hK K
 refine tr_sR [3] fun K hK => ?_
 iterate 5 refine evR_p ?_
 refine evR_z hK ?_; clear hK K
 refine retZ ?_; try exact ⟨⟩
 all_goals (rfl)

theorem kp76 (o : Of) (k : Nat) (a : P2) : CallsA Tryd.prog 58 [.agg (encOf o), .ep [.int .i64 (k : Nat)], .ep (encP2 a)] (.bool (isA a k o)) := by
 have hq : True := trivial
 refine callsA_of_tr Tryd.func58 rfl (Nat.le_of_ble_eq_true rfl) ?_
 simp only [Tryd.results58, envOf, Nat.reduceAdd]
 refine tr_sR [1, 2, 3] fun K hK => ?_
 iterate 2 refine evR_p ?_
 refine evR_z hK ?_; clear hK K
 refine tr_sR [4] fun K hK => ?_
 iterate 5 refine evR_p ?_
 iterate 12 refine evR_g ?_
 iterate 2 refine evR_p ?_
 refine evR_z hK ?_; clear hK K
 refine retZ ?_; try exact ⟨⟩
 all_goals (simp [isA])

theorem kp73 (o : Of) (f : FuncId) (caps : List V) (n : Int) (is : Of → Bool) (hok : okF Tryd.prog f = true) (hcl : V.clL caps = true) (hp : CallsA Tryd.prog f (.agg (encOf o) :: caps) (.bool (is o))) : CallsA Tryd.prog 55 [.agg (encOf o), .ep [.fn f caps], .ep [.int .i64 n]] (.int .i64 (oneC n is o)) := by
 have hq := And.intro hcl (hok)
 refine callsA_of_tr Tryd.func55 rfl (Nat.le_of_ble_eq_true rfl) ?_
 simp only [Tryd.results55, envOf, Nat.reduceAdd]
 refine tr_sR [1, 2, 3] fun K hK => ?_
 iterate 2 refine evR_p ?_
 refine evR_z hK ?_; clear hK K
 refine tr_seq fun K2 hK2 => ?_
 refine tr_sR [2, 7] fun K hK => ?_
 iterate 2 refine evR_p ?_
 refine evR_c (hc := hp) (k := ?_)
 refine evR_z hK ?_; clear hK K
 refine tr_condB (fun ht1 => ?_) (fun ht1 => ?_)
 ·
  skip
  refine tr_sR [4] fun K hK => ?_
  iterate 2 refine evR_p ?_
  refine evR_z hK ?_; clear hK K
  refine retZ ?_; try exact ⟨⟩
  all_goals ((unfold oneC; first | (rw [if_pos (by assumption)]; done) | (rw [if_neg (by simp [*])]; done)))
 ·
  skip
  refine skipZ ?_
  refine hK2 _ ?_
  refine tr_sR [4] fun K hK => ?_
  refine evR_p ?_
  refine evR_z hK ?_; clear hK K
  refine retZ ?_; try exact ⟨⟩
  all_goals ((unfold oneC; first | (rw [if_pos (by assumption)]; done) | (rw [if_neg (by simp [*])]; done)))

theorem kp72 (f : FuncId) (caps : List V) (n : Int) (hcl : V.clL caps = true) : CallsA Tryd.prog 54 [.fn f caps, .int .i64 n] (.fn 55 [.ep [.fn f caps], .ep [.int .i64 n]]) := by
 have hfz := fun id o => V.fzL_cl id o caps hcl
 have hq := And.intro hcl (hfz)
 refine callsA_of_tr Tryd.func54 rfl (Nat.le_of_ble_eq_true rfl) ?_
 simp only [Tryd.results54, envOf, Nat.reduceAdd]
 refine tr_sR [2, 3] fun K hK => ?_
 iterate 3 refine evR_p ?_
 refine evR_z hK ?_; clear hK K
 refine tr_seq fun K2 hK2 => ?_
 refine tr_fz [.ptr 0 0, .ptr 1 0] (by simp (maxSteps := 4000000) (disch := first | assumption | omega | (simp only [go_sem, *]; done) | (simp only [go_sem, *]; omega)) only [go_sem, hq, Int.reduceToNat, Nat.reduceBEq, Nat.reduceEqDiff, Nat.reduceAdd, Nat.reduceMul, Nat.reduceLeDiff, Nat.reduceLT, Nat.reduceSub, ↓reduceIte, reduceCtorEq]; (try rfl)) ?_
 refine tr_region [4] rfl rfl fun K hK => ?_
 iterate 2 refine evR_p ?_
 refine evR_e hK ?_; clear hK K
 refine hK2 _ ?_
 refine retZ ?_; try exact ⟨⟩
 all_goals (rfl)

theorem kp71 (a : List Rw) (r : Rw) (hl : a.length ≤ 1000) : CallsM Tryd.prog 53 [.sl 6 (encR [r]), .ptr 0 0] ([(1, .row 68 6 (encR a)), (0, .cells [.own 1])]) (2) (.tup []) ([(2, .row 68 6 (encR (a ++ [r]))), (0, .cells [.own 2])]) (3) := by
 have hq : True := trivial
 refine callsM_of_tr Tryd.func53 rfl (Nat.le_of_ble_eq_true rfl) (Nat.le_of_ble_eq_true rfl) (Nat.le_of_ble_eq_true rfl) ?_
 simp only [Tryd.results53, envOf, gh, gv, List.cons_append, List.nil_append, Nat.reduceAdd]
 refine tr_region [1000000, 1000001] rfl rfl fun K hK => ?_
 iterate 4 refine evR_p ?_
 refine evR_e hK ?_; clear hK K
 all_goals first | refine ⟨_, Wk.refl _, ?_⟩
 simp (maxSteps := 4000000) (disch := first | assumption | omega | (simp only [go_sem, *]; done) | (simp only [go_sem, *]; omega)) only [postM, ghOK, gv, St.ren, St.cut, V.ren, V.renL, AObj.ren, Nat.blt_eq, resV1, go_sem, hq, Int.reduceToNat, Nat.reduceBEq, Nat.reduceEqDiff, Nat.reduceAdd, Nat.reduceMul, Nat.reduceLeDiff, Nat.reduceLT, Nat.reduceSub, ↓reduceIte, reduceCtorEq]
 all_goals ((rw [show encR (a ++ [r]) = encR a ++ encR [r] by simp [encR]]))

section
attribute [local go_sem] encI_rep encI_set
theorem kp70 (h : Hr) (hol : h.offers.length ≤ 12) (kd a b pl most : Int) (g : FuncId) (caps : List V) (c : Of → Int) (hok : okF Tryd.prog g = true) (hcl : V.clL caps = true) (hp : ∀ o ∈ h.offers, CallsA Tryd.prog g (.agg (encOf o) :: caps) (.int .i64 (c o))) : CallsA Tryd.prog 52 [.agg [.int .i64 kd, .int .i64 a, .int .i64 b, .int .i64 pl, .nsl, .int .i64 most], .fn g caps, .ep (encHr h)] (.tup [.agg (encRw ⟨kd, a, b, pl, coefF h c, most⟩), .int .i64 (nzF h c : Nat)]) := by
 have hq := And.intro hcl (hok)
 refine callsA_of_tr Tryd.func52 rfl (Nat.le_of_ble_eq_true rfl) ?_
 simp only [Tryd.results52, envOf, Nat.reduceAdd]
 refine tr_sR [1, 2, 3, 5] fun K hK => ?_
 iterate 3 refine evR_p ?_
 refine evR_z hK ?_; clear hK K
 refine tr_sR [1, 2, 3, 5, 7] fun K hK => ?_
 refine evR_p ?_
 refine evR_z hK ?_; clear hK K
 refine tr_sR [1, 2, 3, 5, 7] fun K hK => ?_
 iterate 6 refine evR_p ?_
 refine evR_z hK ?_; clear hK K
 refine tr_seq fun K4 hK4 => ?_
 refine tr_sR [1, 3, 5, 7, 16, 17, 18] fun K hK => ?_
 iterate 4 refine evR_p ?_
 refine evR_z hK ?_; clear hK K
 refine tr_block ?_
 -- loop 1: live [1, 3, 5, 7, 16, 17, 18]
 refine tr_loopW (fun m σ => ∃ i : Nat, i + m = h.offers.length ∧ σ = ⟨[(1, .fn g caps), (3, .ptr 0 0), (5, .ptr 1 0), (7, .int .i64 (nzT h c i : Nat)), (16, .sl 4 (encOfs h.offers)), (17, .int .i64 h.offers.length), (18, .int .i64 (i : Nat))], [(2, .row 3 1 (encI (coefP h c i))), (1, .cells [.int .i64 0, .int .i64 0, .int .i64 0, .int .i64 0, .nsl, .int .i64 0]), (0, .cells [.int .i64 kd, .int .i64 a, .int .i64 b, .int .i64 pl, .own 2, .int .i64 most])], 3⟩) (h.offers.length) ?_ ?_
 ·
  exact ⟨_, Wk.refl _, 0, by omega, by rw [coefP_0]; rfl⟩
 ·
  rintro m σ ⟨i, hi, rfl⟩ KL1 hKL1
  refine tr_sR [1, 3, 5, 7, 16, 17, 18, 19] fun K hK => ?_
  refine evR_p ?_
  refine evR_z hK ?_; clear hK K
  refine tr_seq fun K7 hK7 => ?_
  refine tr_condB (fun ht1 => ?_) (fun ht1 => ?_)
  ·
   skip
   have hil : i < h.offers.length := by omega
   have hcl2 := coefP_length h c (Nat.le_of_lt hil)
   have hset := coefP_set h c hil
   have hgs : (coefP h c (i + 1)).getD i 0 = c (h.offers.getD i of0) := by rw [← hset, getD_set (by omega), if_pos rfl]
   have hnz := nzT_le h c i
   have hcl3 := coefP_length h c (i := i + 1) hil
   replace hq := And.intro hq (And.intro hil (And.intro hcl2 (And.intro hset (And.intro hgs (hcl3)))))
   refine skipZ ?_
   refine hK7 _ ?_
   refine tr_seq fun K8 hK8 => ?_
   refine tr_block ?_
   refine tr_sR [1, 3, 5, 7, 8, 9, 16, 17, 18] fun K hK => ?_
   iterate 6 refine evR_p ?_
   refine evR_z hK ?_; clear hK K
   refine tr_sD [999999] [1, 3, 5, 7, 8, 16, 17, 18] fun K hK => ?_
   iterate 5 refine evD_p ?_
   refine evD_c (hc := (hp _ (getD_mem hil))) (k := ?_)
   iterate 2 refine evD_p ?_
   refine evD_z hK ?_; clear hK K
   refine tr_sR [1, 3, 5, 7, 16, 17, 18, 35] fun K hK => ?_
   iterate 6 refine evR_p ?_
   refine evR_z hK ?_; clear hK K
   refine tr_condB (fun ht2 => ?_) (fun ht2 => ?_)
   ·
    skip
    refine tr_region [1, 3, 5, 7, 16, 17, 18] rfl rfl fun K hK => ?_
    iterate 3 refine evR_p ?_
    refine evR_e hK ?_; clear hK K
    refine hK8 _ ?_
    refine tr_region [1, 3, 5, 7, 16, 17, 18] rfl rfl fun K hK => ?_
    iterate 2 refine evR_p ?_
    refine evR_e hK ?_; clear hK K
    refine hKL1 _ ?_
    exact ⟨m - 1, _, by omega, Wk.cut 3 (by simp [St.cutOK, AObj.upto, V.upto, V.uptoL, cellsI_uptoL, List.all_cons, List.all_nil, List.filter_cons, List.filter_nil, Nat.blt_eq, Nat.reduceLT, Nat.lt_irrefl, decide_true, decide_false, Bool.and_self, Bool.and_true, Bool.true_and, if_true, if_false, ↓reduceIte, Bool.false_eq_true, encHr, encP2, V.uptoL_cl 3 caps hcl]), i + 1, by omega, by (rw [w64 (x := (i : Int) + 1) (by omega)]; first | (rw [w64 (x := ((nzT h c i : Nat) : Int) + 1) (by omega), show nzT h c (i + 1) = nzT h c i + 1 from if_neg (by assumption)]; rfl) | (rw [show nzT h c (i + 1) = nzT h c i from if_pos (by assumption)]; rfl))⟩
   ·
    skip
    refine skipZ ?_
    refine hK8 _ ?_
    refine tr_region [1, 3, 5, 7, 16, 17, 18] rfl rfl fun K hK => ?_
    iterate 2 refine evR_p ?_
    refine evR_e hK ?_; clear hK K
    refine hKL1 _ ?_
    exact ⟨m - 1, _, by omega, Wk.cut 3 (by simp [St.cutOK, AObj.upto, V.upto, V.uptoL, cellsI_uptoL, List.all_cons, List.all_nil, List.filter_cons, List.filter_nil, Nat.blt_eq, Nat.reduceLT, Nat.lt_irrefl, decide_true, decide_false, Bool.and_self, Bool.and_true, Bool.true_and, if_true, if_false, ↓reduceIte, Bool.false_eq_true, encHr, encP2, V.uptoL_cl 3 caps hcl]), i + 1, by omega, by (rw [w64 (x := (i : Int) + 1) (by omega)]; first | (rw [w64 (x := ((nzT h c i : Nat) : Int) + 1) (by omega), show nzT h c (i + 1) = nzT h c i + 1 from if_neg (by assumption)]; rfl) | (rw [show nzT h c (i + 1) = nzT h c i from if_pos (by assumption)]; rfl))⟩
  ·
   skip
   have hil : i = h.offers.length := by omega
   subst hil
   refine tr_exit ?_
   simp only [thenE, inBlkE, Nat.reduceEqDiff, ↓reduceIte]
   refine hK4 _ ?_
   refine tr_sR [5, 6] fun K hK => ?_
   iterate 4 refine evR_p ?_
   refine evR_z hK ?_; clear hK K
   refine retZ ?_; try exact ⟨⟩
   all_goals ((rw [coefP_end, nzT_end]; done))
end

set_option maxHeartbeats 16000000 in
theorem kp50 (h : Hr) (hV : VH h) : CallsA Tryd.prog 18 [.agg (encHr h)] (.sl 6 (encR (rowsH h))) := by
 have hrl := hV.rl
 have hol := hV.ol
 have hal := hV.al
 have hml := hV.ml
 have hl2 := onceRs_len h
 have hq : True := trivial
 refine callsA_of_tr Tryd.func18 rfl (Nat.le_of_ble_eq_true rfl) ?_
 simp only [Tryd.results18, envOf, Nat.reduceAdd]
 refine tr_sR [1] fun K hK => ?_
 iterate 2 refine evR_p ?_
 refine evR_z hK ?_; clear hK K
 refine tr_seq fun K2 hK2 => ?_
 refine tr_fz [.ptr 0 0] (by simp (maxSteps := 4000000) (disch := first | assumption | omega | (simp only [go_sem, *]; done) | (simp only [go_sem, *]; omega)) only [go_sem, hq, Int.reduceToNat, Nat.reduceBEq, Nat.reduceEqDiff, Nat.reduceAdd, Nat.reduceMul, Nat.reduceLeDiff, Nat.reduceLT, Nat.reduceSub, ↓reduceIte, reduceCtorEq]; (try rfl)) ?_
 refine tr_region [1, 3] rfl rfl fun K hK => ?_
 iterate 2 refine evR_p ?_
 refine evR_e hK ?_; clear hK K
 refine hK2 _ ?_
 refine tr_sR [1, 3, 4] fun K hK => ?_
 refine evR_p ?_
 refine evR_z hK ?_; clear hK K
 refine tr_sR [1, 3, 4, 5] fun K hK => ?_
 iterate 2 refine evR_p ?_
 refine evR_z hK ?_; clear hK K
 refine tr_sR [1, 3, 4, 5, 6] fun K hK => ?_
 refine evR_p ?_
 refine evR_z hK ?_; clear hK K
 refine tr_seq fun K6 hK6 => ?_
 refine tr_sR [1, 3, 4, 5, 6, 27, 28, 29] fun K hK => ?_
 iterate 4 refine evR_p ?_
 refine evR_z hK ?_; clear hK K
 refine tr_block ?_
 -- loop 1: live [1, 3, 4, 5, 6, 27, 28, 29]
 refine tr_loopW (fun m σ => ∃ i : Nat, i + m = h.rooms.length ∧ σ = ⟨[(1, .ep (encHr h)), (3, .fn 52 [.ep (encHr h)]), (4, .ptr 1 0), (5, .fn 53 [.ptr 1 0]), (6, .fn 54 []), (27, .sl 2 (encSps h.rooms)), (28, .int .i64 h.rooms.length), (29, .int .i64 (i : Nat))], [(2, .row 68 6 (encR (roomRs h i))), (1, .cells [.own 2])], 3⟩) (h.rooms.length) ?_ ?_
 ·
  exact ⟨_, Wk.nilown 68 6 1 0 rfl (Nat.le_of_ble_eq_true rfl) rfl, 0, by omega, rfl⟩
 ·
  rintro m σ ⟨i, hi, rfl⟩ KL1 hKL1
  refine tr_sR [1, 3, 4, 5, 6, 27, 28, 29, 30] fun K hK => ?_
  refine evR_p ?_
  refine evR_z hK ?_; clear hK K
  refine tr_seq fun K9 hK9 => ?_
  refine tr_condB (fun ht1 => ?_) (fun ht1 => ?_)
  ·
   skip
   have hil : i < h.rooms.length := by omega
   have hrm := hV.rm i hil
   have hw : IntKind.i64.wrap ((h.rooms.getD i sp0).to - (h.rooms.getD i sp0).fr) = (h.rooms.getD i sp0).to - (h.rooms.getD i sp0).fr := w64 (by omega)
   replace hq := And.intro hq (And.intro hil (hw))
   refine skipZ ?_
   refine hK9 _ ?_
   refine tr_seq fun K10 hK10 => ?_
   refine tr_block ?_
   refine tr_sR [1, 3, 4, 5, 6, 7, 8, 27, 28, 29] fun K hK => ?_
   iterate 7 refine evR_p ?_
   refine evR_z hK ?_; clear hK K
   refine tr_seq fun K12 hK12 => ?_
   refine tr_fz [.ptr 3 0] (by simp (maxSteps := 4000000) (disch := first | assumption | omega | (simp only [go_sem, *]; done) | (simp only [go_sem, *]; omega)) only [go_sem, hq, Int.reduceToNat, Nat.reduceBEq, Nat.reduceEqDiff, Nat.reduceAdd, Nat.reduceMul, Nat.reduceLeDiff, Nat.reduceLT, Nat.reduceSub, ↓reduceIte, reduceCtorEq]; (try rfl)) ?_
   refine tr_region [1, 3, 4, 5, 6, 9, 27, 28, 29] rfl rfl fun K hK => ?_
   iterate 11 refine evR_p ?_
   refine evR_c (hc := (kp70 h hol 1 (i : Nat) 0 _ _ 56 [.ep [.int .i64 (i : Nat)]] (roomC i) okF_56 rfl (fun o _ => kp74 o i))) (k := ?_)
   iterate 6 refine evR_p ?_
   refine evR_e hK ?_; clear hK K
   refine hK12 _ ?_
   refine tr_region [1, 3, 4, 5, 6, 27, 28, 29] rfl rfl fun K hK => ?_
   iterate 2 refine evR_p ?_
   refine evR_bs ?_
   refine evR_stepX fun Kq hKq => Or.inr ?_
   simp (maxSteps := 4000000) (disch := first | assumption | omega | (simp only [go_sem, *]; done) | (simp only [go_sem, *]; omega)) only [stpM, go_sem, hq, Int.reduceToNat, Nat.reduceBEq, Nat.reduceEqDiff, Nat.reduceAdd, Nat.reduceMul, Nat.reduceLeDiff, Nat.reduceLT, Nat.reduceSub, ↓reduceIte, reduceCtorEq]
   refine ⟨[1, 2], ?_⟩
   simp (maxSteps := 4000000) (disch := first | assumption | omega | (simp only [go_sem, *]; done) | (simp only [go_sem, *]; omega)) only [V.mapL, V.map, gJ, footJ, inJ, AObj.map, ndJ, ltJ, V.domL, V.dom, AObj.dom, kC, kR, AObj.isC, hJ, backJ, List.any_cons, List.any_nil, Nat.ble_eq, Nat.blt_eq, Nat.reduceLT, Nat.reduceLeDiff, Bool.or_true, Bool.true_or, Bool.or_false, Bool.false_or, Bool.and_self, go_sem, hq, Int.reduceToNat, Nat.reduceBEq, Nat.reduceEqDiff, Nat.reduceAdd, Nat.reduceMul, Nat.reduceLeDiff, Nat.reduceLT, Nat.reduceSub, ↓reduceIte, reduceCtorEq]
   refine ⟨_, _, _, (kp71 (roomRs h i) (roomR h i) (by rw [roomRs_len]; omega)), ?_⟩
   simp (maxSteps := 4000000) (disch := first | assumption | omega | (simp only [go_sem, *]; done) | (simp only [go_sem, *]; omega)) only [V.mapL, V.map, gJ, footJ, inJ, AObj.map, ndJ, ltJ, V.domL, V.dom, AObj.dom, kC, kR, AObj.isC, hJ, backJ, List.any_cons, List.any_nil, Nat.ble_eq, Nat.blt_eq, Nat.reduceLT, Nat.reduceLeDiff, Bool.or_true, Bool.true_or, Bool.or_false, Bool.false_or, Bool.and_self, go_sem, hq, Int.reduceToNat, Nat.reduceBEq, Nat.reduceEqDiff, Nat.reduceAdd, Nat.reduceMul, Nat.reduceLeDiff, Nat.reduceLT, Nat.reduceSub, ↓reduceIte, reduceCtorEq]
   (repeat (refine And.intro (by first | assumption | omega | decide | (simp; done) | (simp; omega) | (have hq := hvv hgt; omega) | (have hq := hvv hgt.1; omega) | (simp_all; done)) ?_))
   refine hKq _ ?_; clear hKq Kq
   refine evR_e hK ?_; clear hK K
   refine hK10 _ ?_
   refine tr_region [1, 3, 4, 5, 6, 27, 28, 29] rfl rfl fun K hK => ?_
   iterate 2 refine evR_p ?_
   refine evR_e hK ?_; clear hK K
   refine hKL1 _ ?_
   exact ⟨m - 1, _, by omega, (Wk.trans (Wk.ren 6 2 (Nat.le_of_ble_eq_true rfl) (Nat.le_of_ble_eq_true rfl) rfl) (Wk.cut 3 rfl)), i + 1, by omega, by rw [w64 (x := (i : Int) + 1) (by omega), roomRs_s]; rfl⟩
  ·
   skip
   have hil : i = h.rooms.length := by omega
   subst hil
   refine tr_exit ?_
   simp only [thenE, inBlkE, Nat.reduceEqDiff, ↓reduceIte]
   refine hK6 _ ?_
   refine tr_seq fun K13 hK13 => ?_
   refine tr_sR [1, 3, 4, 5, 6, 54] fun K hK => ?_
   refine evR_p ?_
   refine evR_z hK ?_; clear hK K
   refine tr_block ?_
   -- loop 2: live [1, 3, 4, 5, 6, 54]
   refine tr_loopW (fun m σ => ∃ k : Nat, k + m = 12 ∧ σ = ⟨[(1, .ep (encHr h)), (3, .fn 52 [.ep (encHr h)]), (4, .ptr 1 0), (5, .fn 53 [.ptr 1 0]), (6, .fn 54 []), (54, .int .i64 (k : Nat))], [(2, .row 68 6 (encR (roomRs h h.rooms.length ++ onceRs h k))), (1, .cells [.own 2])], 3⟩) (12) ?_ ?_
   ·
    exact ⟨_, Wk.refl _, 0, by omega, by rw [show onceRs h 0 = [] from rfl, List.append_nil]; rfl⟩
   ·
    rintro m2 σ ⟨k, hk, rfl⟩ KL2 hKL2
    refine tr_sR [1, 3, 4, 5, 6, 54, 55] fun K hK => ?_
    refine evR_p ?_
    refine evR_z hK ?_; clear hK K
    refine tr_seq fun K16 hK16 => ?_
    refine tr_condB (fun ht2 => ?_) (fun ht2 => ?_)
    ·
     skip
     have hkl : k < 12 := by omega
     replace hq := And.intro hq (hkl)
     refine skipZ ?_
     refine hK16 _ ?_
     refine tr_seq fun K17 hK17 => ?_
     refine tr_block ?_
     refine tr_sR [1, 3, 4, 5, 6, 11, 54] fun K hK => ?_
     iterate 3 refine evR_p ?_
     refine evR_z hK ?_; clear hK K
     refine tr_seq fun K19 hK19 => ?_
     refine tr_fz [.ptr 3 0] (by simp (maxSteps := 4000000) (disch := first | assumption | omega | (simp only [go_sem, *]; done) | (simp only [go_sem, *]; omega)) only [go_sem, hq, Int.reduceToNat, Nat.reduceBEq, Nat.reduceEqDiff, Nat.reduceAdd, Nat.reduceMul, Nat.reduceLeDiff, Nat.reduceLT, Nat.reduceSub, ↓reduceIte, reduceCtorEq]; (try rfl)) ?_
     refine tr_draw [59] [1, 3, 4, 5, 6, 12, 13, 54] mixed rfl (by kernel_rfl) rfl fun K hK => ?_
     iterate 5 refine evD_p ?_
     refine evD_c (hc := (kp72 57 [.ep [.int .i64 (k : Nat)]] 1 rfl)) (k := ?_)
     refine evD_c (hc := (kp70 h hol 2 (k : Nat) 0 0 1 55 [.ep [.fn 57 [.ep [.int .i64 (k : Nat)]]], .ep [.int .i64 1]] (oneC 1 (isP (k : Nat))) okF_55 rfl (fun o _ => kp73 o 57 [.ep [.int .i64 (k : Nat)]] 1 (isP (k : Nat)) okF_57 rfl (kp75 o (k : Nat))))) (k := ?_)
     iterate 6 refine evD_p ?_
     refine evD_e hK ?_; clear hK K
     refine hK19 _ ?_
     refine tr_sR [1, 3, 4, 5, 6, 12, 54, 68] fun K hK => ?_
     iterate 2 refine evR_p ?_
     refine evR_z hK ?_; clear hK K
     refine tr_condB (fun ht3 => ?_) (fun ht3 => ?_)
     ·
      skip
      refine tr_region [1, 3, 4, 5, 6, 54] rfl rfl fun K hK => ?_
      iterate 2 refine evR_p ?_
      refine evR_bs ?_
      refine evR_stepX fun Kq hKq => Or.inr ?_
      simp (maxSteps := 4000000) (disch := first | assumption | omega | (simp only [go_sem, *]; done) | (simp only [go_sem, *]; omega)) only [stpM, go_sem, hq, Int.reduceToNat, Nat.reduceBEq, Nat.reduceEqDiff, Nat.reduceAdd, Nat.reduceMul, Nat.reduceLeDiff, Nat.reduceLT, Nat.reduceSub, ↓reduceIte, reduceCtorEq]
      refine ⟨[1, 2], ?_⟩
      simp (maxSteps := 4000000) (disch := first | assumption | omega | (simp only [go_sem, *]; done) | (simp only [go_sem, *]; omega)) only [V.mapL, V.map, gJ, footJ, inJ, AObj.map, ndJ, ltJ, V.domL, V.dom, AObj.dom, kC, kR, AObj.isC, hJ, backJ, List.any_cons, List.any_nil, Nat.ble_eq, Nat.blt_eq, Nat.reduceLT, Nat.reduceLeDiff, Bool.or_true, Bool.true_or, Bool.or_false, Bool.false_or, Bool.and_self, go_sem, hq, Int.reduceToNat, Nat.reduceBEq, Nat.reduceEqDiff, Nat.reduceAdd, Nat.reduceMul, Nat.reduceLeDiff, Nat.reduceLT, Nat.reduceSub, ↓reduceIte, reduceCtorEq]
      refine ⟨_, _, _, (kp71 (roomRs h h.rooms.length ++ onceRs h k) (onceR h k) (by have := hl2 k; rw [List.length_append, roomRs_len]; omega)), ?_⟩
      simp (maxSteps := 4000000) (disch := first | assumption | omega | (simp only [go_sem, *]; done) | (simp only [go_sem, *]; omega)) only [V.mapL, V.map, gJ, footJ, inJ, AObj.map, ndJ, ltJ, V.domL, V.dom, AObj.dom, kC, kR, AObj.isC, hJ, backJ, List.any_cons, List.any_nil, Nat.ble_eq, Nat.blt_eq, Nat.reduceLT, Nat.reduceLeDiff, Bool.or_true, Bool.true_or, Bool.or_false, Bool.false_or, Bool.and_self, go_sem, hq, Int.reduceToNat, Nat.reduceBEq, Nat.reduceEqDiff, Nat.reduceAdd, Nat.reduceMul, Nat.reduceLeDiff, Nat.reduceLT, Nat.reduceSub, ↓reduceIte, reduceCtorEq]
      (repeat (refine And.intro (by first | assumption | omega | decide | (simp; done) | (simp; omega) | (have hq := hvv hgt; omega) | (have hq := hvv hgt.1; omega) | (simp_all; done)) ?_))
      refine hKq _ ?_; clear hKq Kq
      refine evR_e hK ?_; clear hK K
      refine hK17 _ ?_
      refine tr_region [1, 3, 4, 5, 6, 54] rfl rfl fun K hK => ?_
      iterate 2 refine evR_p ?_
      refine evR_e hK ?_; clear hK K
      refine hKL2 _ ?_
      first | exact ⟨m2 - 1, _, by omega, (Wk.trans (Wk.ren 5 2 (Nat.le_of_ble_eq_true rfl) (Nat.le_of_ble_eq_true rfl) rfl) (Wk.cut 3 rfl)), k + 1, by omega, by rw [w64 (x := (k : Int) + 1) (by omega), onceRs_t ht3, ← List.append_assoc]; rfl⟩ | exact ⟨m2 - 1, _, by omega, Wk.cut 3 rfl, k + 1, by omega, by rw [w64 (x := (k : Int) + 1) (by omega), onceRs_f ht3]; rfl⟩
     ·
      skip
      refine skipZ ?_
      refine hK17 _ ?_
      refine tr_region [1, 3, 4, 5, 6, 54] rfl rfl fun K hK => ?_
      iterate 2 refine evR_p ?_
      refine evR_e hK ?_; clear hK K
      refine hKL2 _ ?_
      first | exact ⟨m2 - 1, _, by omega, (Wk.trans (Wk.ren 5 2 (Nat.le_of_ble_eq_true rfl) (Nat.le_of_ble_eq_true rfl) rfl) (Wk.cut 3 rfl)), k + 1, by omega, by rw [w64 (x := (k : Int) + 1) (by omega), onceRs_t ht3, ← List.append_assoc]; rfl⟩ | exact ⟨m2 - 1, _, by omega, Wk.cut 3 rfl, k + 1, by omega, by rw [w64 (x := (k : Int) + 1) (by omega), onceRs_f ht3]; rfl⟩
    ·
     skip
     have hkl : k = 12 := by omega
     subst hkl
     refine tr_exit ?_
     simp only [thenE, inBlkE, Nat.reduceEqDiff, ↓reduceIte]
     refine hK13 _ ?_
     refine tr_seq fun K21 hK21 => ?_
     refine tr_sR [1, 3, 4, 5, 6, 75, 76, 77] fun K hK => ?_
     iterate 4 refine evR_p ?_
     refine evR_z hK ?_; clear hK K
     refine tr_block ?_
     -- loop 3: live [1, 3, 4, 5, 6, 75, 76, 77]
     refine tr_loopW (fun m σ => ∃ i : Nat, i + m = h.apart.length ∧ σ = ⟨[(1, .ep (encHr h)), (3, .fn 52 [.ep (encHr h)]), (4, .ptr 1 0), (5, .fn 53 [.ptr 1 0]), (6, .fn 54 []), (75, .sl 2 (encP2s h.apart)), (76, .int .i64 h.apart.length), (77, .int .i64 (i : Nat))], [(2, .row 68 6 (encR ((roomRs h h.rooms.length ++ onceRs h 12) ++ apartsRs h i))), (1, .cells [.own 2])], 3⟩) (h.apart.length) ?_ ?_
     ·
      exact ⟨_, Wk.refl _, 0, by omega, by rw [show apartsRs h 0 = [] from rfl, List.append_nil]; rfl⟩
     ·
      rintro m3 σ ⟨i, hi, rfl⟩ KL3 hKL3
      refine tr_sR [1, 3, 4, 5, 6, 75, 76, 77, 78] fun K hK => ?_
      refine evR_p ?_
      refine evR_z hK ?_; clear hK K
      refine tr_seq fun K24 hK24 => ?_
      refine tr_condB (fun ht4 => ?_) (fun ht4 => ?_)
      ·
       skip
       have hil : i < h.apart.length := by omega
       obtain ⟨a, hA⟩ : ∃ a, h.apart.getD i p20 = a := ⟨_, rfl⟩
       have hap := apartsRs_len h i
       have hmm : i * h.rooms.length ≤ 12 * 6 := Nat.mul_le_mul (by omega) hrl
       replace hq := And.intro hq (And.intro hil (hA))
       refine skipZ ?_
       refine hK24 _ ?_
       refine tr_seq fun K25 hK25 => ?_
       refine tr_block ?_
       refine tr_sR [1, 3, 4, 5, 6, 15, 75, 76, 77] fun K hK => ?_
       iterate 4 refine evR_p ?_
       refine evR_z hK ?_; clear hK K
       refine tr_seq fun K27 hK27 => ?_
       refine tr_fz [.ptr 3 0] (by simp (maxSteps := 4000000) (disch := first | assumption | omega | (simp only [go_sem, *]; done) | (simp only [go_sem, *]; omega)) only [go_sem, hq, Int.reduceToNat, Nat.reduceBEq, Nat.reduceEqDiff, Nat.reduceAdd, Nat.reduceMul, Nat.reduceLeDiff, Nat.reduceLT, Nat.reduceSub, ↓reduceIte, reduceCtorEq]; (try rfl)) ?_
       refine tr_region [1, 3, 4, 5, 6, 15, 75, 76, 77, 82, 83, 84] rfl rfl fun K hK => ?_
       iterate 4 refine evR_p ?_
       refine evR_e hK ?_; clear hK K
       refine hK27 _ ?_
       refine tr_block ?_
       -- loop 4: live [1, 3, 4, 5, 6, 15, 75, 76, 77, 82, 83, 84]
       refine tr_loopW (fun m σ => ∃ k : Nat, k + m = h.rooms.length ∧ σ = ⟨[(1, .ep (encHr h)), (3, .fn 52 [.ep (encHr h)]), (4, .ptr 1 0), (5, .fn 53 [.ptr 1 0]), (6, .fn 54 []), (15, .ep (encP2 a)), (75, .sl 2 (encP2s h.apart)), (76, .int .i64 h.apart.length), (77, .int .i64 (i : Nat)), (82, .sl 2 (encSps h.rooms)), (83, .int .i64 h.rooms.length), (84, .int .i64 (k : Nat))], [(2, .row 68 6 (encR ((roomRs h h.rooms.length ++ onceRs h 12) ++ (apartsRs h i ++ apartRs h a k)))), (1, .cells [.own 2])], 4⟩) (h.rooms.length) ?_ ?_
       ·
        exact ⟨_, Wk.refl _, 0, by omega, by rw [show apartRs h a 0 = [] from rfl, List.append_nil]; rfl⟩
       ·
        rintro m4 σ ⟨k, hk, rfl⟩ KL4 hKL4
        refine tr_sR [1, 3, 4, 5, 6, 15, 75, 76, 77, 82, 83, 84, 85] fun K hK => ?_
        refine evR_p ?_
        refine evR_z hK ?_; clear hK K
        refine tr_seq fun K29 hK29 => ?_
        refine tr_condB (fun ht5 => ?_) (fun ht5 => ?_)
        ·
         skip
         have hkl : k < h.rooms.length := by omega
         have hap2 := apartRs_len h a k
         have hl12 := hl2 12
         have hla : ((roomRs h h.rooms.length ++ onceRs h 12) ++ (apartsRs h i ++ apartRs h a k)).length ≤ 1000 := by simp only [List.length_append, roomRs_len]; omega
         replace hq := And.intro hq (hkl)
         refine skipZ ?_
         refine hK29 _ ?_
         refine tr_seq fun K30 hK30 => ?_
         refine tr_block ?_
         refine tr_sR [1, 3, 4, 5, 6, 15, 16, 17, 75, 76, 77, 82, 83, 84] fun K hK => ?_
         iterate 7 refine evR_p ?_
         refine evR_z hK ?_; clear hK K
         refine tr_seq fun K32 hK32 => ?_
         refine tr_fz [.ptr 4 0, .ptr 5 0] (by simp (maxSteps := 4000000) (disch := first | assumption | omega | (simp only [go_sem, *]; done) | (simp only [go_sem, *]; omega)) only [go_sem, hq, Int.reduceToNat, Nat.reduceBEq, Nat.reduceEqDiff, Nat.reduceAdd, Nat.reduceMul, Nat.reduceLeDiff, Nat.reduceLT, Nat.reduceSub, ↓reduceIte, reduceCtorEq]; (try rfl)) ?_
         refine tr_draw [91, 92, 93, 94, 96] [1, 3, 4, 5, 6, 15, 18, 19, 75, 76, 77, 82, 83, 84] mixed rfl (by kernel_rfl) rfl fun K hK => ?_
         iterate 10 refine evD_p ?_
         refine evD_c (hc := (kp72 58 [.ep [.int .i64 (k : Nat)], .ep (encP2 a)] 1 rfl)) (k := ?_)
         refine evD_c (hc := (kp70 h hol 3 a.a a.b _ 1 55 [.ep [.fn 58 [.ep [.int .i64 (k : Nat)], .ep (encP2 a)]], .ep [.int .i64 1]] (oneC 1 (isA a k)) okF_55 rfl (fun o _ => kp73 o 58 [.ep [.int .i64 (k : Nat)], .ep (encP2 a)] 1 (isA a k) okF_58 rfl (kp76 o k a)))) (k := ?_)
         iterate 6 refine evD_p ?_
         refine evD_e hK ?_; clear hK K
         refine hK32 _ ?_
         refine tr_sR [1, 3, 4, 5, 6, 15, 18, 75, 76, 77, 82, 83, 84, 105] fun K hK => ?_
         iterate 2 refine evR_p ?_
         refine evR_z hK ?_; clear hK K
         refine tr_condB (fun ht6 => ?_) (fun ht6 => ?_)
         ·
          skip
          refine tr_region [1, 3, 4, 5, 6, 15, 75, 76, 77, 82, 83, 84] rfl rfl fun K hK => ?_
          iterate 2 refine evR_p ?_
          refine evR_bs ?_
          refine evR_stepX fun Kq hKq => Or.inr ?_
          simp (maxSteps := 4000000) (disch := first | assumption | omega | (simp only [go_sem, *]; done) | (simp only [go_sem, *]; omega)) only [stpM, go_sem, hq, Int.reduceToNat, Nat.reduceBEq, Nat.reduceEqDiff, Nat.reduceAdd, Nat.reduceMul, Nat.reduceLeDiff, Nat.reduceLT, Nat.reduceSub, ↓reduceIte, reduceCtorEq]
          refine ⟨[1, 2], ?_⟩
          simp (maxSteps := 4000000) (disch := first | assumption | omega | (simp only [go_sem, *]; done) | (simp only [go_sem, *]; omega)) only [V.mapL, V.map, gJ, footJ, inJ, AObj.map, ndJ, ltJ, V.domL, V.dom, AObj.dom, kC, kR, AObj.isC, hJ, backJ, List.any_cons, List.any_nil, Nat.ble_eq, Nat.blt_eq, Nat.reduceLT, Nat.reduceLeDiff, Bool.or_true, Bool.true_or, Bool.or_false, Bool.false_or, Bool.and_self, go_sem, hq, Int.reduceToNat, Nat.reduceBEq, Nat.reduceEqDiff, Nat.reduceAdd, Nat.reduceMul, Nat.reduceLeDiff, Nat.reduceLT, Nat.reduceSub, ↓reduceIte, reduceCtorEq]
          refine ⟨_, _, _, (kp71 ((roomRs h h.rooms.length ++ onceRs h 12) ++ (apartsRs h i ++ apartRs h a k)) (apartR h a k) hla), ?_⟩
          simp (maxSteps := 4000000) (disch := first | assumption | omega | (simp only [go_sem, *]; done) | (simp only [go_sem, *]; omega)) only [V.mapL, V.map, gJ, footJ, inJ, AObj.map, ndJ, ltJ, V.domL, V.dom, AObj.dom, kC, kR, AObj.isC, hJ, backJ, List.any_cons, List.any_nil, Nat.ble_eq, Nat.blt_eq, Nat.reduceLT, Nat.reduceLeDiff, Bool.or_true, Bool.true_or, Bool.or_false, Bool.false_or, Bool.and_self, go_sem, hq, Int.reduceToNat, Nat.reduceBEq, Nat.reduceEqDiff, Nat.reduceAdd, Nat.reduceMul, Nat.reduceLeDiff, Nat.reduceLT, Nat.reduceSub, ↓reduceIte, reduceCtorEq]
          (repeat (refine And.intro (by first | assumption | omega | decide | (simp; done) | (simp; omega) | (have hq := hvv hgt; omega) | (have hq := hvv hgt.1; omega) | (simp_all; done)) ?_))
          refine hKq _ ?_; clear hKq Kq
          refine evR_e hK ?_; clear hK K
          refine hK30 _ ?_
          refine tr_region [1, 3, 4, 5, 6, 15, 75, 76, 77, 82, 83, 84] rfl rfl fun K hK => ?_
          iterate 2 refine evR_p ?_
          refine evR_e hK ?_; clear hK K
          refine hKL4 _ ?_
          first | exact ⟨m4 - 1, _, by omega, (Wk.trans (Wk.ren 7 2 (Nat.le_of_ble_eq_true rfl) (Nat.le_of_ble_eq_true rfl) rfl) (Wk.cut 4 rfl)), k + 1, by omega, by rw [w64 (x := (k : Int) + 1) (by omega), apartRs_t ht6, app3]; rfl⟩ | exact ⟨m4 - 1, _, by omega, Wk.cut 4 rfl, k + 1, by omega, by rw [w64 (x := (k : Int) + 1) (by omega), apartRs_f ht6]; rfl⟩
         ·
          skip
          refine skipZ ?_
          refine hK30 _ ?_
          refine tr_region [1, 3, 4, 5, 6, 15, 75, 76, 77, 82, 83, 84] rfl rfl fun K hK => ?_
          iterate 2 refine evR_p ?_
          refine evR_e hK ?_; clear hK K
          refine hKL4 _ ?_
          first | exact ⟨m4 - 1, _, by omega, (Wk.trans (Wk.ren 7 2 (Nat.le_of_ble_eq_true rfl) (Nat.le_of_ble_eq_true rfl) rfl) (Wk.cut 4 rfl)), k + 1, by omega, by rw [w64 (x := (k : Int) + 1) (by omega), apartRs_t ht6, app3]; rfl⟩ | exact ⟨m4 - 1, _, by omega, Wk.cut 4 rfl, k + 1, by omega, by rw [w64 (x := (k : Int) + 1) (by omega), apartRs_f ht6]; rfl⟩
        ·
         skip
         have hkl : k = h.rooms.length := by omega
         subst hkl
         refine tr_exit ?_
         simp only [thenE, inBlkE, Nat.reduceEqDiff, ↓reduceIte]
         refine hK25 _ ?_
         refine tr_region [1, 3, 4, 5, 6, 75, 76, 77] rfl rfl fun K hK => ?_
         iterate 2 refine evR_p ?_
         refine evR_e hK ?_; clear hK K
         refine hKL3 _ ?_
         exact ⟨m3 - 1, _, by omega, Wk.cut 3 rfl, i + 1, by omega, by rw [w64 (x := (i : Int) + 1) (by omega), show apartsRs h (i + 1) = apartsRs h i ++ apartRs h (h.apart.getD i p20) h.rooms.length from rfl, hA]; rfl⟩
      ·
       skip
       have hil : i = h.apart.length := by omega
       subst hil
       refine tr_exit ?_
       simp only [thenE, inBlkE, Nat.reduceEqDiff, ↓reduceIte]
       refine hK21 _ ?_
       refine tr_seq fun K34 hK34 => ?_
       refine tr_sR [3, 4, 5, 6, 113, 114, 115] fun K hK => ?_
       iterate 4 refine evR_p ?_
       refine evR_z hK ?_; clear hK K
       refine tr_block ?_
       -- loop 5: live [3, 4, 5, 6, 113, 114, 115]
       refine tr_loopW (fun m σ => ∃ i : Nat, i + m = h.must.length ∧ σ = ⟨[(3, .fn 52 [.ep (encHr h)]), (4, .ptr 1 0), (5, .fn 53 [.ptr 1 0]), (6, .fn 54 []), (113, .sl 1 (encI h.must)), (114, .int .i64 h.must.length), (115, .int .i64 (i : Nat))], [(2, .row 68 6 (encR ((roomRs h h.rooms.length ++ onceRs h 12) ++ (apartsRs h h.apart.length ++ mustRs h i)))), (1, .cells [.own 2])], 3⟩) (h.must.length) ?_ ?_
       ·
        exact ⟨_, Wk.refl _, 0, by omega, by rw [show mustRs h 0 = [] from rfl, List.append_nil]; rfl⟩
       ·
        rintro m5 σ ⟨i, hi, rfl⟩ KL5 hKL5
        refine tr_sR [3, 4, 5, 6, 113, 114, 115, 116] fun K hK => ?_
        refine evR_p ?_
        refine evR_z hK ?_; clear hK K
        refine tr_seq fun K37 hK37 => ?_
        refine tr_condB (fun ht7 => ?_) (fun ht7 => ?_)
        ·
         skip
         have hil : i < h.must.length := by omega
         have hap := apartsRs_len h h.apart.length
         have hmm : h.apart.length * h.rooms.length ≤ 12 * 6 := Nat.mul_le_mul (by omega) hrl
         have hl12 := hl2 12
         have hla : ((roomRs h h.rooms.length ++ onceRs h 12) ++ (apartsRs h h.apart.length ++ mustRs h i)).length ≤ 1000 := by have := mustRs_len h i; simp only [List.length_append, roomRs_len]; omega
         replace hq := And.intro hq (hil)
         refine skipZ ?_
         refine hK37 _ ?_
         refine tr_seq fun K38 hK38 => ?_
         refine tr_block ?_
         refine tr_sR [3, 4, 5, 6, 21, 113, 114, 115] fun K hK => ?_
         iterate 4 refine evR_p ?_
         refine evR_z hK ?_; clear hK K
         refine tr_seq fun K40 hK40 => ?_
         refine tr_fz [.ptr 3 0] (by simp (maxSteps := 4000000) (disch := first | assumption | omega | (simp only [go_sem, *]; done) | (simp only [go_sem, *]; omega)) only [go_sem, hq, Int.reduceToNat, Nat.reduceBEq, Nat.reduceEqDiff, Nat.reduceAdd, Nat.reduceMul, Nat.reduceLeDiff, Nat.reduceLT, Nat.reduceSub, ↓reduceIte, reduceCtorEq]; (try rfl)) ?_
         refine tr_draw [121] [3, 4, 5, 6, 22, 113, 114, 115] mixed rfl (by kernel_rfl) rfl fun K hK => ?_
         iterate 5 refine evD_p ?_
         refine evD_c (hc := (kp72 59 [.ep [.int .i64 (h.must.getD i 0)]] (-1) rfl)) (k := ?_)
         refine evD_c (hc := (kp70 h hol 4 (h.must.getD i 0) 0 0 (-1) 55 [.ep [.fn 59 [.ep [.int .i64 (h.must.getD i 0)]]], .ep [.int .i64 (-1)]] (oneC (-1) (isP (h.must.getD i 0))) okF_55 rfl (fun o _ => kp73 o 59 [.ep [.int .i64 (h.must.getD i 0)]] (-1) (isP (h.must.getD i 0)) okF_59 rfl (kp77 o (h.must.getD i 0))))) (k := ?_)
         iterate 6 refine evD_p ?_
         refine evD_e hK ?_; clear hK K
         refine hK40 _ ?_
         refine tr_region [3, 4, 5, 6, 113, 114, 115] rfl rfl fun K hK => ?_
         iterate 2 refine evR_p ?_
         refine evR_bs ?_
         refine evR_stepX fun Kq hKq => Or.inr ?_
         simp (maxSteps := 4000000) (disch := first | assumption | omega | (simp only [go_sem, *]; done) | (simp only [go_sem, *]; omega)) only [stpM, go_sem, hq, Int.reduceToNat, Nat.reduceBEq, Nat.reduceEqDiff, Nat.reduceAdd, Nat.reduceMul, Nat.reduceLeDiff, Nat.reduceLT, Nat.reduceSub, ↓reduceIte, reduceCtorEq]
         refine ⟨[1, 2], ?_⟩
         simp (maxSteps := 4000000) (disch := first | assumption | omega | (simp only [go_sem, *]; done) | (simp only [go_sem, *]; omega)) only [V.mapL, V.map, gJ, footJ, inJ, AObj.map, ndJ, ltJ, V.domL, V.dom, AObj.dom, kC, kR, AObj.isC, hJ, backJ, List.any_cons, List.any_nil, Nat.ble_eq, Nat.blt_eq, Nat.reduceLT, Nat.reduceLeDiff, Bool.or_true, Bool.true_or, Bool.or_false, Bool.false_or, Bool.and_self, go_sem, hq, Int.reduceToNat, Nat.reduceBEq, Nat.reduceEqDiff, Nat.reduceAdd, Nat.reduceMul, Nat.reduceLeDiff, Nat.reduceLT, Nat.reduceSub, ↓reduceIte, reduceCtorEq]
         refine ⟨_, _, _, (kp71 ((roomRs h h.rooms.length ++ onceRs h 12) ++ (apartsRs h h.apart.length ++ mustRs h i)) (mustR h (h.must.getD i 0)) hla), ?_⟩
         simp (maxSteps := 4000000) (disch := first | assumption | omega | (simp only [go_sem, *]; done) | (simp only [go_sem, *]; omega)) only [V.mapL, V.map, gJ, footJ, inJ, AObj.map, ndJ, ltJ, V.domL, V.dom, AObj.dom, kC, kR, AObj.isC, hJ, backJ, List.any_cons, List.any_nil, Nat.ble_eq, Nat.blt_eq, Nat.reduceLT, Nat.reduceLeDiff, Bool.or_true, Bool.true_or, Bool.or_false, Bool.false_or, Bool.and_self, go_sem, hq, Int.reduceToNat, Nat.reduceBEq, Nat.reduceEqDiff, Nat.reduceAdd, Nat.reduceMul, Nat.reduceLeDiff, Nat.reduceLT, Nat.reduceSub, ↓reduceIte, reduceCtorEq]
         (repeat (refine And.intro (by first | assumption | omega | decide | (simp; done) | (simp; omega) | (have hq := hvv hgt; omega) | (have hq := hvv hgt.1; omega) | (simp_all; done)) ?_))
         refine hKq _ ?_; clear hKq Kq
         refine evR_e hK ?_; clear hK K
         refine hK38 _ ?_
         refine tr_region [3, 4, 5, 6, 113, 114, 115] rfl rfl fun K hK => ?_
         iterate 2 refine evR_p ?_
         refine evR_e hK ?_; clear hK K
         refine hKL5 _ ?_
         exact ⟨m5 - 1, _, by omega, (Wk.trans (Wk.ren 5 2 (Nat.le_of_ble_eq_true rfl) (Nat.le_of_ble_eq_true rfl) rfl) (Wk.cut 3 rfl)), i + 1, by omega, by rw [w64 (x := (i : Int) + 1) (by omega), mustRs_s hil, app3]; rfl⟩
        ·
         skip
         have hil : i = h.must.length := by omega
         subst hil
         refine tr_exit ?_
         simp only [thenE, inBlkE, Nat.reduceEqDiff, ↓reduceIte]
         refine hK34 _ ?_
         refine tr_sR [2] fun K hK => ?_
         iterate 2 refine evR_p ?_
         refine evR_z hK ?_; clear hK K
         refine retZ ?_; try exact ⟨⟩
         all_goals ((rw [rowsH, List.append_assoc]; done))

set_option maxHeartbeats 4000000 in
theorem kp20 (h : Hr) (hv : validH h = true) : CallsA Tryd.prog 8 [.agg (encHr h)] (.tup [.agg (encPg (progH h)), .int .i64 0]) := by
 have hV := validH_all hv
 have hr : h.rooms.length ≤ maxLen := by have := hV.rl; unfold maxLen; omega
 have ho : h.offers.length ≤ maxLen := by have := hV.ol; unfold maxLen; omega
 have ha : h.apart.length ≤ maxLen := by have := hV.al; unfold maxLen; omega
 have hm : h.must.length ≤ maxLen := by have := hV.ml; unfold maxLen; omega
 have hol := hV.ol
 have hrl := hV.rl
 have hq := hv
 refine callsA_of_tr Tryd.func8 rfl (Nat.le_of_ble_eq_true rfl) ?_
 simp only [Tryd.results8, envOf, Nat.reduceAdd]
 refine tr_sR [1, 2] fun K hK => ?_
 iterate 3 refine evR_p ?_
 refine evR_z hK ?_; clear hK K
 refine tr_seq fun K2 hK2 => ?_
 refine tr_sR [1, 2, 9] fun K hK => ?_
 refine evR_p ?_
 refine evR_c (hc := (kp19 h hr ho ha hm)) (k := ?_)
 refine evR_p ?_
 refine evR_z hK ?_; clear hK K
 refine tr_condB (fun ht1 => ?_) (fun ht1 => ?_)
 ·
  skip
  (first | (exfalso; simp_all; done) | skip)
  all_goals
   refine tr_sR [2, 3] fun K hK => ?_
   iterate 3 refine evR_p ?_
   refine evR_z hK ?_; clear hK K
   refine retZ ?_; try exact ⟨⟩
   all_goals ((rw [valsT_end]; rfl))
 ·
  skip
  (first | (exfalso; simp_all; done) | skip)
  all_goals
   refine skipZ ?_
   refine hK2 _ ?_
   refine tr_seq fun K5 hK5 => ?_
   refine tr_fz [.ptr 0 0] (by simp (maxSteps := 4000000) (disch := first | assumption | omega | (simp only [go_sem, *]; done) | (simp only [go_sem, *]; omega)) only [go_sem, hq, Int.reduceToNat, Nat.reduceBEq, Nat.reduceEqDiff, Nat.reduceAdd, Nat.reduceMul, Nat.reduceLeDiff, Nat.reduceLT, Nat.reduceSub, ↓reduceIte, reduceCtorEq]; (try rfl)) ?_
   refine tr_draw [12, 13, 14] [1, 2, 4] mixed rfl (by kernel_rfl) rfl fun K hK => ?_
   iterate 4 refine evD_p ?_
   refine evD_c (hc := (kp50 h hV)) (k := ?_)
   iterate 3 refine evD_p ?_
   refine evD_e hK ?_; clear hK K
   refine hK5 _ ?_
   refine tr_seq fun K6 hK6 => ?_
   refine tr_sR [2, 4, 18, 19, 20] fun K hK => ?_
   iterate 4 refine evR_p ?_
   refine evR_z hK ?_; clear hK K
   refine tr_block ?_
   -- loop 1: live [2, 4, 18, 19, 20]
   refine tr_loopW (fun m σ => ∃ i : Nat, i + m = h.offers.length ∧ σ = ⟨[(2, .ptr 1 0), (4, .ptr 2 0), (18, .sl 4 (encOfs h.offers)), (19, .int .i64 h.offers.length), (20, .int .i64 (i : Nat))], [(3, .row 3 1 (encI (valsT h i))), (2, .cells [.int .i64 h.offers.length, .sl 6 (encR (rowsH h)), .own 3]), (1, .cells [.int .i64 0, .nsl, .nsl])], 4⟩) (h.offers.length) ?_ ?_
   ·
    exact ⟨_, Wk.nilown 3 1 2 2 rfl (Nat.le_of_ble_eq_true rfl) rfl, 0, by omega, rfl⟩
   ·
    rintro m σ ⟨i, hi, rfl⟩ KL1 hKL1
    refine tr_sR [2, 4, 18, 19, 20, 21] fun K hK => ?_
    refine evR_p ?_
    refine evR_z hK ?_; clear hK K
    refine tr_seq fun K9 hK9 => ?_
    refine tr_condB (fun ht2 => ?_) (fun ht2 => ?_)
    ·
     skip
     (first | (exfalso; simp_all; done) | skip)
     all_goals
      have hil : i < h.offers.length := by omega
      have hvl := valsT_len h i
      replace hq := And.intro hq (hil)
      refine skipZ ?_
      refine hK9 _ ?_
      refine tr_seq fun K10 hK10 => ?_
      refine tr_block ?_
      refine tr_sR [2, 4, 6, 18, 19, 20] fun K hK => ?_
      iterate 4 refine evR_p ?_
      refine evR_z hK ?_; clear hK K
      refine tr_region [2, 4, 18, 19, 20] rfl rfl fun K hK => ?_
      iterate 4 refine evR_p ?_
      refine evR_bs ?_
      iterate 3 refine evR_p ?_
      refine evR_e hK ?_; clear hK K
      refine hK10 _ ?_
      refine tr_region [2, 4, 18, 19, 20] rfl rfl fun K hK => ?_
      iterate 2 refine evR_p ?_
      refine evR_e hK ?_; clear hK K
      refine hKL1 _ ?_
      exact ⟨m - 1, _, by omega, (Wk.trans (Wk.ren 5 3 (Nat.le_of_ble_eq_true rfl) (Nat.le_of_ble_eq_true rfl) rfl) (Wk.cut 4 rfl)), i + 1, by omega, by rw [w64 (x := (i : Int) + 1) (by omega), valsT_s hil, encI_snoc]; rfl⟩
    ·
     skip
     (first | (exfalso; simp_all; done) | skip)
     all_goals
      have hil : i = h.offers.length := by omega
      subst hil
      refine tr_exit ?_
      simp only [thenE, inBlkE, Nat.reduceEqDiff, ↓reduceIte]
      refine hK6 _ ?_
      refine tr_sR [2, 3] fun K hK => ?_
      iterate 3 refine evR_p ?_
      refine evR_z hK ?_; clear hK K
      refine retZ ?_; try exact ⟨⟩
      all_goals ((rw [valsT_end]; rfl))

section
attribute [local go_sem] encPg encSol
theorem kp10 (h : Hr) (hv : validH h = true) : CallsA Tryd.prog 7 [.agg (encHr h)] (.tup [.agg (encSol (bestH h)), .int .i64 0]) := by
 have hV := validH_all hv
 have hr : h.rooms.length ≤ maxLen := by have := hV.rl; unfold maxLen; omega
 have ho : h.offers.length ≤ maxLen := by have := hV.ol; unfold maxLen; omega
 have ha : h.apart.length ≤ maxLen := by have := hV.al; unfold maxLen; omega
 have hm : h.must.length ≤ maxLen := by have := hV.ml; unfold maxLen; omega
 have hol := hV.ol
 have hrl := hV.rl
 have hpv := progH_valid hV
 have hq : True := trivial
 refine callsA_of_tr Tryd.func7 rfl (Nat.le_of_ble_eq_true rfl) ?_
 simp only [Tryd.results7, envOf, Nat.reduceAdd]
 refine tr_sR [1, 2] fun K hK => ?_
 iterate 3 refine evR_p ?_
 refine evR_z hK ?_; clear hK K
 refine tr_sR [2, 4, 5] fun K hK => ?_
 refine evR_p ?_
 refine evR_c (hc := (kp20 h hv)) (k := ?_)
 iterate 6 refine evR_p ?_
 refine evR_z hK ?_; clear hK K
 refine tr_seq fun K3 hK3 => ?_
 refine tr_sR [2, 4, 5, 13] fun K hK => ?_
 iterate 2 refine evR_p ?_
 refine evR_z hK ?_; clear hK K
 refine tr_condB (fun ht1 => ?_) (fun ht1 => ?_)
 ·
  skip
  (first | (exfalso; simp_all; done) | skip)
  all_goals
   refine tr_sR [2, 3] fun K hK => ?_
   iterate 4 refine evR_p ?_
   refine evR_z hK ?_; clear hK K
   refine retZ ?_; try exact ⟨⟩
   all_goals (rfl)
 ·
  skip
  (first | (exfalso; simp_all; done) | skip)
  all_goals
   refine skipZ ?_
   refine hK3 _ ?_
   refine tr_sR [2, 5, 6] fun K hK => ?_
   refine evR_p ?_
   refine evR_c (hc := (c14 (progH h) (valid_max hpv).1 (valid_max hpv).2.1 (valid_max hpv).2.2 hpv)) (k := ?_)
   iterate 6 refine evR_p ?_
   refine evR_z hK ?_; clear hK K
   refine tr_seq fun K7 hK7 => ?_
   refine tr_sR [2, 6, 22] fun K hK => ?_
   iterate 2 refine evR_p ?_
   refine evR_z hK ?_; clear hK K
   refine tr_condB (fun ht2 => ?_) (fun ht2 => ?_)
   ·
    skip
    (first | (exfalso; simp_all; done) | skip)
    all_goals
     refine tr_sR [2, 3] fun K hK => ?_
     iterate 3 refine evR_p ?_
     refine evR_z hK ?_; clear hK K
     refine retZ ?_; try exact ⟨⟩
     all_goals (rfl)
   ·
    skip
    (first | (exfalso; simp_all; done) | skip)
    all_goals
     refine skipZ ?_
     refine hK7 _ ?_
     refine tr_sR [2, 3] fun K hK => ?_
     iterate 3 refine evR_p ?_
     refine evR_z hK ?_; clear hK K
     refine retZ ?_; try exact ⟨⟩
     all_goals (rfl)
end

section
attribute [local go_sem] encSol
set_option maxHeartbeats 4000000 in
theorem kp15 (h : Hr) (hr : h.rooms.length ≤ maxLen) (ho : h.offers.length ≤ maxLen) (ha : h.apart.length ≤ maxLen) (hm : h.must.length ≤ maxLen) (n : Int) : CallsA Tryd.prog 9 [.agg (encHr h), .int .i64 n] (.tup (refV h n)) := by
 have hq := encI_one
 refine callsA_of_tr Tryd.func9 rfl (Nat.le_of_ble_eq_true rfl) ?_
 simp only [Tryd.results9, envOf, Nat.reduceAdd]
 refine tr_sR [1, 2] fun K hK => ?_
 iterate 4 refine evR_p ?_
 refine evR_z hK ?_; clear hK K
 refine tr_seq fun K2 hK2 => ?_
 refine tr_sR [1, 2, 16] fun K hK => ?_
 refine evR_p ?_
 refine evR_c (hc := (kp19 h hr ho ha hm)) (k := ?_)
 iterate 2 refine evR_p ?_
 refine evR_g ?_
 refine evR_gc (hc := (kp31 n)) (k := ?_)
 refine evR_g ?_
 refine evR_p ?_
 refine evR_z hK ?_; clear hK K
 refine tr_condB (fun ht1 => ?_) (fun ht1 => ?_)
 ·
  skip
  (first | (have hrv := ref_no ht1; skip) | (have hvl : validH h = true := ht1.1; have hnl : isInB n 0 11 = true := ht1.2; have hV := validH_all hvl; have hml := hV.ml; have hwv := with_valid hvl (isInB_spec.1 hnl); have hcs := cs_ins (valid_pw hvl) n; replace hq := And.intro hq hcs) | skip)
  refine tr_sR [4, 5, 6] fun K hK => ?_
  iterate 3 refine evR_p ?_
  refine evR_z hK ?_; clear hK K
  refine retZ ?_; try exact ⟨⟩
  all_goals (first | (rw [hrv]; done) | (rw [ref_f hvl hnl ht2]; done) | (rw [ref_t hvl hnl ht2]; done))
 ·
  skip
  (first | (have hrv := ref_no ht1; skip) | (have hvl : validH h = true := ht1.1; have hnl : isInB n 0 11 = true := ht1.2; have hV := validH_all hvl; have hml := hV.ml; have hwv := with_valid hvl (isInB_spec.1 hnl); have hcs := cs_ins (valid_pw hvl) n; replace hq := And.intro hq hcs) | skip)
  refine skipZ ?_
  refine hK2 _ ?_
  refine tr_sR [2] fun K hK => ?_
  iterate 2 refine evR_p ?_
  refine evR_stepX fun Kq hKq => Or.inr ?_
  simp (maxSteps := 4000000) (disch := first | assumption | omega | (simp only [go_sem, *]; done) | (simp only [go_sem, *]; omega)) only [stpM, go_sem, hq, Int.reduceToNat, Nat.reduceBEq, Nat.reduceEqDiff, Nat.reduceAdd, Nat.reduceMul, Nat.reduceLeDiff, Nat.reduceLT, Nat.reduceSub, ↓reduceIte, reduceCtorEq]
  refine ⟨[], ?_⟩
  simp (maxSteps := 4000000) (disch := first | assumption | omega | (simp only [go_sem, *]; done) | (simp only [go_sem, *]; omega)) only [V.mapL, V.map, gJ, footJ, inJ, AObj.map, ndJ, ltJ, V.domL, V.dom, AObj.dom, kC, kR, AObj.isC, hJ, backJ, List.any_cons, List.any_nil, Nat.ble_eq, Nat.blt_eq, Nat.reduceLT, Nat.reduceLeDiff, Bool.or_true, Bool.true_or, Bool.or_false, Bool.false_or, Bool.and_self, go_sem, hq, Int.reduceToNat, Nat.reduceBEq, Nat.reduceEqDiff, Nat.reduceAdd, Nat.reduceMul, Nat.reduceLeDiff, Nat.reduceLT, Nat.reduceSub, ↓reduceIte, reduceCtorEq]
  refine ⟨_, _, _, (kp32 h.must (by omega)), ?_⟩
  simp (maxSteps := 4000000) (disch := first | assumption | omega | (simp only [go_sem, *]; done) | (simp only [go_sem, *]; omega)) only [V.mapL, V.map, gJ, footJ, inJ, AObj.map, ndJ, ltJ, V.domL, V.dom, AObj.dom, kC, kR, AObj.isC, hJ, backJ, List.any_cons, List.any_nil, Nat.ble_eq, Nat.blt_eq, Nat.reduceLT, Nat.reduceLeDiff, Bool.or_true, Bool.true_or, Bool.or_false, Bool.false_or, Bool.and_self, go_sem, hq, Int.reduceToNat, Nat.reduceBEq, Nat.reduceEqDiff, Nat.reduceAdd, Nat.reduceMul, Nat.reduceLeDiff, Nat.reduceLT, Nat.reduceSub, ↓reduceIte, reduceCtorEq]
  (repeat (refine And.intro (by first | assumption | omega | decide | (simp; done) | (simp; omega) | (have hq := hvv hgt; omega) | (have hq := hvv hgt.1; omega) | (simp_all; done)) ?_))
  refine hKq _ ?_; clear hKq Kq
  refine evR_p ?_
  refine evR_bs ?_
  iterate 3 refine evR_p ?_
  refine evR_z hK ?_; clear hK K
  refine tr_sR [2] fun K hK => ?_
  iterate 2 refine evR_p ?_
  refine evR_stepX fun Kq hKq => Or.inr ?_
  simp (maxSteps := 4000000) (disch := first | assumption | omega | (simp only [go_sem, *]; done) | (simp only [go_sem, *]; omega)) only [stpM, go_sem, hq, Int.reduceToNat, Nat.reduceBEq, Nat.reduceEqDiff, Nat.reduceAdd, Nat.reduceMul, Nat.reduceLeDiff, Nat.reduceLT, Nat.reduceSub, ↓reduceIte, reduceCtorEq]
  refine ⟨[2], ?_⟩
  simp (maxSteps := 4000000) (disch := first | assumption | omega | (simp only [go_sem, *]; done) | (simp only [go_sem, *]; omega)) only [V.mapL, V.map, gJ, footJ, inJ, AObj.map, ndJ, ltJ, V.domL, V.dom, AObj.dom, kC, kR, AObj.isC, hJ, backJ, List.any_cons, List.any_nil, Nat.ble_eq, Nat.blt_eq, Nat.reduceLT, Nat.reduceLeDiff, Bool.or_true, Bool.true_or, Bool.or_false, Bool.false_or, Bool.and_self, go_sem, hq, Int.reduceToNat, Nat.reduceBEq, Nat.reduceEqDiff, Nat.reduceAdd, Nat.reduceMul, Nat.reduceLeDiff, Nat.reduceLT, Nat.reduceSub, ↓reduceIte, reduceCtorEq]
  refine ⟨_, _, _, (kp33 (h.must ++ [n]) 3 (by simp) (by simp; omega)), ?_⟩
  simp (maxSteps := 4000000) (disch := first | assumption | omega | (simp only [go_sem, *]; done) | (simp only [go_sem, *]; omega)) only [V.mapL, V.map, gJ, footJ, inJ, AObj.map, ndJ, ltJ, V.domL, V.dom, AObj.dom, kC, kR, AObj.isC, hJ, backJ, List.any_cons, List.any_nil, Nat.ble_eq, Nat.blt_eq, Nat.reduceLT, Nat.reduceLeDiff, Bool.or_true, Bool.true_or, Bool.or_false, Bool.false_or, Bool.and_self, go_sem, hq, Int.reduceToNat, Nat.reduceBEq, Nat.reduceEqDiff, Nat.reduceAdd, Nat.reduceMul, Nat.reduceLeDiff, Nat.reduceLT, Nat.reduceSub, ↓reduceIte, reduceCtorEq]
  (repeat (refine And.intro (by first | assumption | omega | decide | (simp; done) | (simp; omega) | (have hq := hvv hgt; omega) | (have hq := hvv hgt.1; omega) | (simp_all; done)) ?_))
  refine hKq _ ?_; clear hKq Kq
  refine evR_z hK ?_; clear hK K
  refine tr_sR [2] fun K hK => ?_
  iterate 2 refine evR_p ?_
  refine evR_stepX fun Kq hKq => Or.inr ?_
  simp (maxSteps := 4000000) (disch := first | assumption | omega | (simp only [go_sem, *]; done) | (simp only [go_sem, *]; omega)) only [stpM, go_sem, hq, Int.reduceToNat, Nat.reduceBEq, Nat.reduceEqDiff, Nat.reduceAdd, Nat.reduceMul, Nat.reduceLeDiff, Nat.reduceLT, Nat.reduceSub, ↓reduceIte, reduceCtorEq]
  refine ⟨[2], ?_⟩
  simp (maxSteps := 4000000) (disch := first | assumption | omega | (simp only [go_sem, *]; done) | (simp only [go_sem, *]; omega)) only [V.mapL, V.map, gJ, footJ, inJ, AObj.map, ndJ, ltJ, V.domL, V.dom, AObj.dom, kC, kR, AObj.isC, hJ, backJ, List.any_cons, List.any_nil, Nat.ble_eq, Nat.blt_eq, Nat.reduceLT, Nat.reduceLeDiff, Bool.or_true, Bool.true_or, Bool.or_false, Bool.false_or, Bool.and_self, go_sem, hq, Int.reduceToNat, Nat.reduceBEq, Nat.reduceEqDiff, Nat.reduceAdd, Nat.reduceMul, Nat.reduceLeDiff, Nat.reduceLT, Nat.reduceSub, ↓reduceIte, reduceCtorEq]
  refine ⟨_, _, _, (kp34 (sortI (h.must ++ [n])) 3 (by rw [sortI_len]; simp) (by rw [sortI_len]; simp; omega)), ?_⟩
  simp (maxSteps := 4000000) (disch := first | assumption | omega | (simp only [go_sem, *]; done) | (simp only [go_sem, *]; omega)) only [V.mapL, V.map, gJ, footJ, inJ, AObj.map, ndJ, ltJ, V.domL, V.dom, AObj.dom, kC, kR, AObj.isC, hJ, backJ, List.any_cons, List.any_nil, Nat.ble_eq, Nat.blt_eq, Nat.reduceLT, Nat.reduceLeDiff, Bool.or_true, Bool.true_or, Bool.or_false, Bool.false_or, Bool.and_self, go_sem, hq, Int.reduceToNat, Nat.reduceBEq, Nat.reduceEqDiff, Nat.reduceAdd, Nat.reduceMul, Nat.reduceLeDiff, Nat.reduceLT, Nat.reduceSub, ↓reduceIte, reduceCtorEq]
  (repeat (refine And.intro (by first | assumption | omega | decide | (simp; done) | (simp; omega) | (have hq := hvv hgt; omega) | (have hq := hvv hgt.1; omega) | (simp_all; done)) ?_))
  refine hKq _ ?_; clear hKq Kq
  iterate 2 refine evR_p ?_
  refine evR_z hK ?_; clear hK K
  refine tr_sR [7, 8] fun K hK => ?_
  refine evR_p ?_
  refine evR_c (hc := (kp10 (withH h n) hwv)) (k := ?_)
  iterate 6 refine evR_p ?_
  refine evR_z hK ?_; clear hK K
  refine tr_seq fun K9 hK9 => ?_
  refine tr_sR [7, 8, 41] fun K hK => ?_
  iterate 3 refine evR_p ?_
  iterate 2 refine evR_g ?_
  refine evR_p ?_
  refine evR_z hK ?_; clear hK K
  refine tr_condB (fun ht2 => ?_) (fun ht2 => ?_)
  ·
   skip
   (first | (have hrv := ref_no ht1; skip) | (have hvl : validH h = true := ht1.1; have hnl : isInB n 0 11 = true := ht1.2; have hV := validH_all hvl; have hml := hV.ml; have hwv := with_valid hvl (isInB_spec.1 hnl); have hcs := cs_ins (valid_pw hvl) n; replace hq := And.intro hq hcs) | skip)
   refine tr_sR [4, 5, 6] fun K hK => ?_
   iterate 4 refine evR_p ?_
   refine evR_z hK ?_; clear hK K
   refine retZ ?_; try exact ⟨⟩
   all_goals (first | (rw [hrv]; done) | (rw [ref_f hvl hnl ht2]; done) | (rw [ref_t hvl hnl ht2]; done))
  ·
   skip
   (first | (have hrv := ref_no ht1; skip) | (have hvl : validH h = true := ht1.1; have hnl : isInB n 0 11 = true := ht1.2; have hV := validH_all hvl; have hml := hV.ml; have hwv := with_valid hvl (isInB_spec.1 hnl); have hcs := cs_ins (valid_pw hvl) n; replace hq := And.intro hq hcs) | skip)
   refine skipZ ?_
   refine hK9 _ ?_
   refine tr_sR [4, 5, 6] fun K hK => ?_
   iterate 5 refine evR_p ?_
   refine evR_z hK ?_; clear hK K
   refine retZ ?_; try exact ⟨⟩
   all_goals (first | (rw [hrv]; done) | (rw [ref_f hvl hnl ht2]; done) | (rw [ref_t hvl hnl ht2]; done))
end

section
attribute [local go_sem] cellsI_length
theorem kp12 (h : Hr) (hr : h.rooms.length ≤ maxLen) (ho : h.offers.length ≤ maxLen) (ha : h.apart.length ≤ maxLen) (hm : h.must.length ≤ maxLen) (s : Int) : CallsA Tryd.prog 14 [.agg (encHr h), .int .i64 s] (.bool (keepsH h s)) := by
 have hq : True := trivial
 refine callsA_of_tr Tryd.func14 rfl (Nat.le_of_ble_eq_true rfl) ?_
 simp only [Tryd.results14, envOf, Nat.reduceAdd]
 refine tr_sR [1, 2] fun K hK => ?_
 iterate 2 refine evR_p ?_
 refine evR_z hK ?_; clear hK K
 refine tr_seq fun K2 hK2 => ?_
 refine tr_sR [1, 2, 16] fun K hK => ?_
 refine evR_p ?_
 refine evR_c (hc := (kp19 h hr ho ha hm)) (k := ?_)
 iterate 2 refine evR_p ?_
 iterate 2 refine evR_g ?_
 refine evR_gch (hc := fun hgt => (kp29 h s (validH_all (by simpa using hgt)).ol)) (k := ?_)
 refine evR_g ?_
 refine evR_p ?_
 refine evR_z hK ?_; clear hK K
 refine tr_condB (fun ht1 => ?_) (fun ht1 => ?_)
 ·
  skip
  (first | (have hkv := keeps_no ht1; skip) | (obtain ⟨hvl, hch⟩ := keeps_yes ht1; have hV := validH_all hvl; have htl := tal_length h s h.offers.length; have hct := cellsI_take (tal h s h.offers.length) 24 htl; have hcd := fun (i : Nat) (hi : i < 4) => kcond h hV _ htl i hi; have hok := fun (i : Nat) (hi : i < 4) => okCond i hi; have hcl := cellsI_cl (tal h s h.offers.length); replace hq := And.intro hq (And.intro htl (And.intro hct hcl))) | skip)
  refine tr_sR [4] fun K hK => ?_
  refine evR_p ?_
  refine evR_z hK ?_; clear hK K
  refine retZ ?_; try exact ⟨⟩
  all_goals (first | (rw [hkv]; done) | (rw [keeps_t hvl hch (allTo_no hil (by simpa using ht3))]; done) | (rw [keeps_t hvl hch (allTo_iff.2 hpi)]; done))
 ·
  skip
  (first | (have hkv := keeps_no ht1; skip) | (obtain ⟨hvl, hch⟩ := keeps_yes ht1; have hV := validH_all hvl; have htl := tal_length h s h.offers.length; have hct := cellsI_take (tal h s h.offers.length) 24 htl; have hcd := fun (i : Nat) (hi : i < 4) => kcond h hV _ htl i hi; have hok := fun (i : Nat) (hi : i < 4) => okCond i hi; have hcl := cellsI_cl (tal h s h.offers.length); replace hq := And.intro hq (And.intro htl (And.intro hct hcl))) | skip)
  refine skipZ ?_
  refine hK2 _ ?_
  refine tr_sR [2, 5] fun K hK => ?_
  iterate 2 refine evR_p ?_
  refine evR_c (hc := (kp30 h s hV)) (k := ?_)
  iterate 2 refine evR_p ?_
  refine evR_z hK ?_; clear hK K
  refine tr_seq fun K6 hK6 => ?_
  refine tr_sR [2, 5, 20, 21] fun K hK => ?_
  iterate 2 refine evR_p ?_
  refine evR_z hK ?_; clear hK K
  refine tr_block ?_
  -- loop 1: live [2, 5, 20, 21]
  refine tr_loopW (fun m σ => ∃ i : Nat, i + m = 4 ∧ (∀ j, j < i → condB h (tal h s h.offers.length) j = true) ∧ σ = ⟨[(2, .ptr 0 0), (5, .ptr 1 0), (20, .agg [.fn 119 [], .fn 121 [], .fn 122 [], .fn 123 []]), (21, .int .i64 (i : Nat))], [(1, .cells (cellsI (tal h s h.offers.length))), (0, .cells (encHr h))], 2⟩) (4) ?_ ?_
  ·
   exact ⟨_, Wk.refl _, 0, by omega, (by intro j hj; omega), (by rw [show List.drop 24 (cellsI (List.replicate 24 0)) = [] from rfl, List.append_nil]; rfl)⟩
  ·
   rintro m σ ⟨i, hi, hpi, rfl⟩ KL1 hKL1
   refine tr_sR [2, 5, 20, 21, 22] fun K hK => ?_
   refine evR_p ?_
   refine evR_z hK ?_; clear hK K
   refine tr_seq fun K9 hK9 => ?_
   refine tr_condB (fun ht2 => ?_) (fun ht2 => ?_)
   ·
    skip
    (first | (have hkv := keeps_no ht1; skip) | (obtain ⟨hvl, hch⟩ := keeps_yes ht1; have hV := validH_all hvl; have htl := tal_length h s h.offers.length; have hct := cellsI_take (tal h s h.offers.length) 24 htl; have hcd := fun (i : Nat) (hi : i < 4) => kcond h hV _ htl i hi; have hok := fun (i : Nat) (hi : i < 4) => okCond i hi; have hcl := cellsI_cl (tal h s h.offers.length); replace hq := And.intro hq (And.intro htl (And.intro hct hcl))) | skip)
    have hil : i < 4 := by omega
    have hcf := condF_at hil
    have hki := hok i hil
    replace hq := And.intro hq (And.intro hil (And.intro hcf (hki)))
    refine skipZ ?_
    refine hK9 _ ?_
    refine tr_seq fun K10 hK10 => ?_
    refine tr_block ?_
    refine tr_sR [2, 5, 7, 20, 21] fun K hK => ?_
    iterate 3 refine evR_p ?_
    refine evR_z hK ?_; clear hK K
    refine tr_sR [2, 5, 20, 21, 29] fun K hK => ?_
    iterate 4 refine evR_p ?_
    refine evR_c (hc := (hcd i hil)) (k := ?_)
    refine evR_p ?_
    refine evR_z hK ?_; clear hK K
    refine tr_condB (fun ht3 => ?_) (fun ht3 => ?_)
    ·
     skip
     (first | (have hkv := keeps_no ht1; skip) | (obtain ⟨hvl, hch⟩ := keeps_yes ht1; have hV := validH_all hvl; have htl := tal_length h s h.offers.length; have hct := cellsI_take (tal h s h.offers.length) 24 htl; have hcd := fun (i : Nat) (hi : i < 4) => kcond h hV _ htl i hi; have hok := fun (i : Nat) (hi : i < 4) => okCond i hi; have hcl := cellsI_cl (tal h s h.offers.length); replace hq := And.intro hq (And.intro htl (And.intro hct hcl))) | skip)
     refine tr_sR [4] fun K hK => ?_
     refine evR_p ?_
     refine evR_z hK ?_; clear hK K
     refine retZ ?_; try exact ⟨⟩
     all_goals (first | (rw [hkv]; done) | (rw [keeps_t hvl hch (allTo_no hil (by simpa using ht3))]; done) | (rw [keeps_t hvl hch (allTo_iff.2 hpi)]; done))
    ·
     skip
     (first | (have hkv := keeps_no ht1; skip) | (obtain ⟨hvl, hch⟩ := keeps_yes ht1; have hV := validH_all hvl; have htl := tal_length h s h.offers.length; have hct := cellsI_take (tal h s h.offers.length) 24 htl; have hcd := fun (i : Nat) (hi : i < 4) => kcond h hV _ htl i hi; have hok := fun (i : Nat) (hi : i < 4) => okCond i hi; have hcl := cellsI_cl (tal h s h.offers.length); replace hq := And.intro hq (And.intro htl (And.intro hct hcl))) | skip)
     refine skipZ ?_
     refine hK10 _ ?_
     refine tr_region [2, 5, 20, 21] rfl rfl fun K hK => ?_
     iterate 2 refine evR_p ?_
     refine evR_e hK ?_; clear hK K
     refine hKL1 _ ?_
     exact ⟨m - 1, _, by omega, Wk.cut 2 (by simp [St.cutOK, AObj.upto, V.upto, V.uptoL, cellsI_uptoL, List.all_cons, List.all_nil, List.filter_cons, List.filter_nil, Nat.blt_eq, Nat.reduceLT, Nat.lt_irrefl, decide_true, decide_false, Bool.and_self, Bool.and_true, Bool.true_and, if_true, if_false, ↓reduceIte, Bool.false_eq_true, encHr, encP2]), i + 1, by omega, all_step hpi (by simpa using ht3), by rw [w64 (x := (i : Int) + 1) (by omega)]; rfl⟩
   ·
    skip
    (first | (have hkv := keeps_no ht1; skip) | (obtain ⟨hvl, hch⟩ := keeps_yes ht1; have hV := validH_all hvl; have htl := tal_length h s h.offers.length; have hct := cellsI_take (tal h s h.offers.length) 24 htl; have hcd := fun (i : Nat) (hi : i < 4) => kcond h hV _ htl i hi; have hok := fun (i : Nat) (hi : i < 4) => okCond i hi; have hcl := cellsI_cl (tal h s h.offers.length); replace hq := And.intro hq (And.intro htl (And.intro hct hcl))) | skip)
    have hil : i = 4 := by omega
    subst hil
    refine tr_exit ?_
    simp only [thenE, inBlkE, Nat.reduceEqDiff, ↓reduceIte]
    refine hK6 _ ?_
    refine tr_sR [4] fun K hK => ?_
    refine evR_p ?_
    refine evR_z hK ?_; clear hK K
    refine retZ ?_; try exact ⟨⟩
    all_goals (first | (rw [hkv]; done) | (rw [keeps_t hvl hch (allTo_no hil (by simpa using ht3))]; done) | (rw [keeps_t hvl hch (allTo_iff.2 hpi)]; done))
end

end Go.Proofs.YtfamkbofdamkkaaDoor
namespace Go.Proofs.YtfamkbofdamkkaaDoor
open Go.RowKit
set_option linter.unusedVariables false
set_option linter.unusedSimpArgs false
set_option maxRecDepth 100000
attribute [local go_sem] Nat.zero_add Nat.add_zero Nat.mul_one eq_self ne_eq not_true_eq_false not_false_eq_true decide_true decide_false decide_not Bool.false_eq_true List.filter_cons List.filter_nil true_and and_true beq_false beq_true Bool.not_true Bool.not_false Bool.and_true Bool.true_and Option.getD_some Option.getD_none imp_self implies_true Int.toNat_natCast List.cons_append List.nil_append List.map_cons List.map_nil List.length_cons List.length_nil List.getD_cons_zero List.getD_cons_succ List.drop_zero List.drop_succ_cons List.take_succ_cons List.take_zero
attribute [local go_sem] shL isSh Option.isNone_none Option.isNone_some Option.isSome_none List.lookup Option.isSome_some Option.isSome_none Bool.or_true Bool.true_or Bool.or_false Bool.false_or false_and and_false false_or or_false
attribute [local go_sem] List.getElem?_cons_zero List.getElem?_cons_succ List.zip_cons_cons List.zip_nil_left List.zip_nil_right Bool.false_and Bool.and_false List.length_append List.length_set List.length_replicate List.all_cons List.all_nil encR_length encR_getD encRw encPg forall_const imp_self
attribute [local go_sem] encSg encW encSgs_length encWs_length encSgs_getD encWs_getD lookV lkM putM
attribute [local go_sem] encHr encOf encSp encP2 encSps_length encOfs_length encP2s_length encSps_getD encOfs_getD encP2s_getD
attribute [local simp] encSps_length encOfs_length encP2s_length
attribute [local simp] encI_length encR_length cellsI_length encSgs_length encWs_length
section
attribute [local go_sem] encSgs_length List.replicate_succ List.replicate_zero List.set_cons_zero List.set_cons_succ
set_option maxHeartbeats 8000000 in
theorem kt4  : CallsA Tryd.prog 4 [] (.bool true) := by
 have hfl := okPf_prf (top_valid pv0)
 have hpp := okPr_valid (top_valid pv0)
 have hpl0 : 0 < (stepsH (pvH [0]) 1).length := by unfold stepsH; rw [if_neg (by rw [pv_ref]; simp)]; exact (prf_len (top_valid (with_valid pv1 (by decide)))).1
 have c7 := ((kp10 (pvH []) pv0).le (sol_le (progH (pvH [])))).arg (pvN_le _ _ (.nsl))
 have c8 := (kp20 (pvH []) pv0).arg (pvN_le _ _ (.nsl))
 obtain ⟨w1, w2, w3, w4⟩ := pv_len [0] (by simp [maxLen])
 have c9 := ((kp15 (pvH [0]) w1 w2 w3 w4 1).le (refV_le pv1 (by decide))).arg (pv1_le _ _ _)
 have c12a := s32 hpp hfl 7
 have c12b := s32 hpp hfl 6
 have c13 := s24 hpp hfl
 rw [pv_b7] at c12a
 rw [pv_b6] at c12b
 rw [pv_r] at c13
 rw [pv_ref] at c9
 unfold encSol2 at c7
 obtain ⟨b1, b2, b3⟩ := pv_best
 rw [show (solveW (progH (pvH []))).found = true from b1, show (solveW (progH (pvH []))).gain = 7 from b3] at c7
 generalize (solveW (progH (pvH []))).set = S at c7
 generalize prfS (progH (pvH [])) = P at c7 c12a c12b c13 hfl
 generalize stepsH (pvH [0]) 1 = L at c9 hpl0
 generalize progH (pvH []) = Q at c8 c12a c12b c13
 simp only [encPg] at c8 c12a c12b c13
 simp only [pvH, encSps, encOfs, encSp, encOf, List.map_cons, List.map_nil] at c7 c8 c9
 have hpl : 0 < (L.length : Int) := by omega
 have hq := hpl
 refine callsA_of_tr Tryd.func4 rfl (Nat.le_of_ble_eq_true rfl) ?_
 simp only [Tryd.results4, envOf, Nat.reduceAdd]
 refine tr_sR [] fun K hK => ?_
 refine evR_p ?_
 refine evR_z hK ?_; clear hK K
 refine tr_sR [1] fun K hK => ?_
 refine evR_p ?_
 refine evR_bs ?_
 iterate 2 refine evR_p ?_
 refine evR_bs ?_
 iterate 3 refine evR_p ?_
 refine evR_z hK ?_; clear hK K
 refine tr_sR [1, 2, 3] fun K hK => ?_
 refine evR_p ?_
 refine evR_c (hc := c7) (k := ?_)
 iterate 6 refine evR_p ?_
 refine evR_z hK ?_; clear hK K
 refine tr_sR [1, 2, 3, 4, 5] fun K hK => ?_
 refine evR_p ?_
 refine evR_c (hc := c8) (k := ?_)
 iterate 6 refine evR_p ?_
 refine evR_z hK ?_; clear hK K
 refine tr_sR [1, 2, 3, 4, 5] fun K hK => ?_
 refine evR_bs ?_
 iterate 2 refine evR_p ?_
 refine evR_z hK ?_; clear hK K
 refine tr_sR [2, 3, 4, 5, 6, 7, 8] fun K hK => ?_
 refine evR_p ?_
 refine evR_c (hc := c9) (k := ?_)
 iterate 7 refine evR_p ?_
 refine evR_z hK ?_; clear hK K
 refine tr_sR [0] fun K hK => ?_
 iterate 3 refine evR_p ?_
 iterate 2 refine evR_g ?_
 iterate 2 refine evR_p ?_
 iterate 2 refine evR_g ?_
 iterate 2 refine evR_p ?_
 iterate 3 refine evR_g ?_
 iterate 2 refine evR_p ?_
 refine evR_g ?_
 iterate 2 refine evR_p ?_
 iterate 3 refine evR_g ?_
 iterate 2 refine evR_p ?_
 iterate 3 refine evR_g ?_
 refine evR_gc (hc := c12a) (k := ?_)
 iterate 2 refine evR_p ?_
 iterate 3 refine evR_g ?_
 refine evR_gc (hc := c12b) (k := ?_)
 refine evR_g ?_
 iterate 2 refine evR_p ?_
 iterate 3 refine evR_g ?_
 refine evR_gc (hc := c13) (k := ?_)
 refine evR_g ?_
 iterate 2 refine evR_p ?_
 refine evR_z hK ?_; clear hK K
 refine retZ ?_; try exact ⟨⟩
 all_goals (first | rfl | (simp; done) | (simp_all; done))
end

theorem kt6 (c n : Int) (hn : 0 < n) : CallsA Tryd.prog 6 [.int .i64 c, .int .i64 n] (.int .i64 (pickW c n)) := by
 have hq : True := trivial
 refine callsA_of_tr Tryd.func6 rfl (Nat.le_of_ble_eq_true rfl) ?_
 simp only [Tryd.results6, envOf, Nat.reduceAdd]
 refine tr_sR [0, 1] fun K hK => ?_
 refine evR_p ?_
 refine evR_z hK ?_; clear hK K
 refine tr_seq fun K2 hK2 => ?_
 refine tr_sR [0, 1, 6] fun K hK => ?_
 iterate 2 refine evR_p ?_
 refine evR_z hK ?_; clear hK K
 refine tr_condB (fun ht1 => ?_) (fun ht1 => ?_)
 ·
  skip
  refine tr_region [0, 1] rfl rfl fun K hK => ?_
  iterate 4 refine evR_p ?_
  refine evR_e hK ?_; clear hK K
  refine hK2 _ ?_
  refine tr_sR [4] fun K hK => ?_
  iterate 4 refine evR_p ?_
  refine evR_z hK ?_; clear hK K
  refine retZ ?_; try exact ⟨⟩
  all_goals (simp [pickW, *])
 ·
  skip
  refine skipZ ?_
  refine hK2 _ ?_
  refine tr_sR [4] fun K hK => ?_
  iterate 4 refine evR_p ?_
  refine evR_z hK ?_; clear hK K
  refine retZ ?_; try exact ⟨⟩
  all_goals (simp [pickW, *])

section
attribute [local go_sem] encSgs_take encSgs_length encPfs_length encPfs_getD List.replicate_succ List.replicate_zero List.set_cons_zero List.set_cons_succ
set_option maxHeartbeats 16000000 in
theorem kt3 (fr : Int) (rs : List P2) (os : List Of) (ap mu : Int) (hrl : rs.length ≤ maxLen) (hol : os.length ≤ maxLen) (hrk : ∀ p ∈ rs, okP2 p) (hok : ∀ o ∈ os, okO o) (hf : okI fr) (pm : Int) (hpm : okI pm) (se : Int) (hse : okI se) (odd : List Sg) (hod : odd.length ≤ maxLen) (how : ∀ s ∈ odd, s.ws.length ≤ maxLen) (gn : Int) (hgn : okI gn) : CallsA Tryd.prog 3 [.agg [.int .i64 fr, .sl 2 (encP2s rs), .sl 4 (encOfs os), .int .i64 ap, .int .i64 mu], .int .i64 pm, .int .i64 se, .sl 4 (encSgs odd), .int .i64 gn] (.bool true) := by
 have hom := hod
 unfold maxLen at hom
 obtain ⟨M, hM⟩ : ∃ M, madeH fr rs os ap mu = M := ⟨_, rfl⟩
 have c5 := kp27 fr rs os ap mu hrl hol hrk hf
 have hv := made_validH (ap := ap) (mu := mu) hf hrk hok
 rw [hM] at c5 hv
 have hV := validH_all hv
 have hol12 := hV.ol
 have hpk := pickW_range pm (n := 6) (by decide) (by decide) hpm
 have hn : 0 ≤ pickW pm 6 ∧ pickW pm 6 ≤ 11 := by omega
 have hni : isInB (pickW pm 6) 0 11 = true := by rw [isInB_spec]; exact hn
 have hw := with_valid hv hn
 have hW := validH_all hw
 have hWo : (withH M (pickW pm 6)).offers = M.offers := rfl
 have c6a := kt6 pm 6 (by decide)
 obtain ⟨u, hu0, hu⟩ := pick_pow2 se hse M.offers.length
 have c6b : CallsA Tryd.prog 6 [.int .i64 se, .int .i64 ((2 ^ M.offers.length : Nat) : Int)] (.int .i64 (u : Nat)) := hu0 ▸ kt6 se _ (by have := Nat.two_pow_pos M.offers.length; omega)
 have c6c := kt6 gn 1000 (by decide)
 have hpg := pickW_range gn (n := 1000) (by decide) (by decide) hgn
 obtain ⟨most, hmo⟩ : ∃ most, pickW gn 1000 - 1 = most := ⟨_, rfl⟩
 have hmw : IntKind.i64.wrap (pickW gn 1000 - 1) = most := by rw [w64 (by omega)]; exact hmo
 have hsh : shlW .i64 1 (M.offers.length : Nat) = ((2 ^ M.offers.length : Nat) : Int) := shl1 (by omega)
 have hmc := minV_range odd.length 8 (by omega)
 have hmc2 : minV (odd.length : Int) 8 ≤ ((encSgs odd).length : Int) := by rw [encSgs_length]; exact hmc.2
 have htc : List.take (minV (odd.length : Int) 8).toNat odd = List.take 8 odd := take_min odd 8
 have c7 := (kp10 M hv).le (sol_le (progH M))
 have c8 := kp20 M hv
 have c8w := kp20 (withH M (pickW pm 6)) hw
 obtain ⟨m1, m2, m3, m4⟩ : M.rooms.length ≤ maxLen ∧ M.offers.length ≤ maxLen ∧ M.apart.length ≤ maxLen ∧ M.must.length ≤ maxLen := by
  unfold maxLen
  exact ⟨by have := hV.rl; omega, by omega, by have := hV.al; omega, by have := hV.ml; omega⟩
 obtain ⟨w1, w2, w3, w4⟩ : (withH M (pickW pm 6)).rooms.length ≤ maxLen ∧ (withH M (pickW pm 6)).offers.length ≤ maxLen ∧ (withH M (pickW pm 6)).apart.length ≤ maxLen ∧ (withH M (pickW pm 6)).must.length ≤ maxLen := by
  unfold maxLen
  exact ⟨by have := hW.rl; omega, by have := hW.ol; omega, by have := hW.al; omega, by have := hW.ml; omega⟩
 have c9 := (kp15 M m1 m2 m3 m4 (pickW pm 6)).le (refV_le hv hni)
 have c10 := kp16 M hv (pickW pm 6)
 have hpP := okPr_valid (top_valid hv)
 have hpQ := okPr_valid (top_valid hw)
 have c11 := c20 (progH (withH M (pickW pm 6))) hpQ.r hpQ.g hpQ.c
 rw [top_valid hw] at c11
 have c14 := kp12 M m1 m2 m3 m4 (u : Nat)
 have c14w := kp12 (withH M (pickW pm 6)) w1 w2 w3 w4 (u : Nat)
 have hfP := okPf_prf (top_valid hv)
 have hfS := okPf_steps hv hn
 have hA := top_bound hv
 have hB := top_none hv
 have hC := top_refused hv hn
 have hD := fun L => top_more hv hu L most
 have hE := fun L => top_sound hw (u := u) hu L
 have hsm := fun (i : Nat) (hi : i < M.offers.length) => top_sum hv hu hi
 unfold encSol2 at c7
 rw [show (solveW (progH M)).gain = (bestH M).gain from rfl, show (solveW (progH M)).found = (bestH M).found from rfl] at c7
 have hPL0 : ∀ PL, PL = [odd.take 8, prfS (progH M), stepsH M (pickW pm 6)] → ∀ i, i < 3 → okPf (PL.getD i []) := fun PL hPL i hi => by
  subst hPL
  match i, hi with
  | 0, _ => exact okPf_take8 how
  | 1, _ => exact hfP
  | 2, _ => exact hfS
 generalize (bestH M).found = F at c7 hA hB
 generalize (bestH M).gain = G at c7 hA
 generalize (solveW (progH M)).set = S at c7
 generalize (bestH (withH M (pickW pm 6))).found = F2 at c9 hC
 generalize stepsH M (pickW pm 6) = SH at c9 hC hfS hPL0
 generalize prfS (progH M) = PF at c7 hA hB hfP hPL0
 generalize progH M = P at c8 hA hB hD hpP
 generalize progH (withH M (pickW pm 6)) = Q at c8w hC hE hpQ c11
 generalize keepsH M (u : Nat) = KM at c14 hD
 generalize keepsH (withH M (pickW pm 6)) (u : Nat) = KW at c14w hE
 obtain ⟨W, hWd⟩ : ∃ W, withH M (pickW pm 6) = W := ⟨_, rfl⟩
 rw [hWd] at c8w c10 c14w
 have hvQ : True := trivial
 obtain ⟨PL, hPL⟩ : ∃ PL, PL = [odd.take 8, PF, SH] := ⟨_, rfl⟩
 have hPLe : [[V.sl 4 (encSgs (odd.take 8))], [V.sl 4 (encSgs PF)], [V.sl 4 (encSgs SH)]] = encPfs PL := by rw [hPL]; rfl
 have hP8 : PL.length = 3 := by rw [hPL]; rfl
 have hPLf := hPL0 PL hPL
 simp only [encHr] at c5 c7 c8 c8w c9 c10 c14 c14w
 simp only [encPg] at c8 c8w c11
 have hq := And.intro hsh (And.intro hA (And.intro hB (And.intro hC (And.intro hvQ (And.intro hmc (And.intro hmc2 (And.intro htc (And.intro hmw (hP8)))))))))
 refine callsA_of_tr Tryd.func3 rfl (Nat.le_of_ble_eq_true rfl) ?_
 simp only [Tryd.results3, envOf, Nat.reduceAdd]
 refine tr_sR [1, 2, 3, 4, 5] fun K hK => ?_
 iterate 2 refine evR_p ?_
 refine evR_z hK ?_; clear hK K
 refine tr_seq fun K2 hK2 => ?_
 refine tr_sR [1, 2, 3, 4, 5, 30] fun K hK => ?_
 refine evR_c (hc := kt4) (k := ?_)
 refine evR_p ?_
 refine evR_z hK ?_; clear hK K
 refine tr_condB (fun ht1 => ?_) (fun ht1 => ?_)
 ·
  skip
  (first | (exfalso; omega) | (exfalso; simp_all; done) | skip)
  all_goals
   refine tr_sR [10] fun K hK => ?_
   refine evR_p ?_
   refine evR_z hK ?_; clear hK K
   refine retZ ?_; try exact ⟨⟩
   all_goals (rfl)
 ·
  skip
  (first | (exfalso; omega) | (exfalso; simp_all; done) | skip)
  all_goals
   refine skipZ ?_
   refine hK2 _ ?_
   refine tr_sR [1, 2, 3, 4, 11] fun K hK => ?_
   iterate 10 refine evR_p ?_
   refine evR_c (hc := c5) (k := ?_)
   iterate 2 refine evR_p ?_
   refine evR_z hK ?_; clear hK K
   refine tr_sR [2, 3, 4, 11, 12] fun K hK => ?_
   refine evR_p ?_
   refine evR_c (hc := c6a) (k := ?_)
   refine evR_p ?_
   refine evR_z hK ?_; clear hK K
   refine tr_sR [2, 3, 4, 11, 12, 13, 14] fun K hK => ?_
   refine evR_p ?_
   refine evR_c (hc := c7) (k := ?_)
   iterate 6 refine evR_p ?_
   refine evR_z hK ?_; clear hK K
   refine tr_sR [2, 3, 4, 11, 12, 13, 14, 15, 16] fun K hK => ?_
   refine evR_p ?_
   refine evR_c (hc := c8) (k := ?_)
   iterate 6 refine evR_p ?_
   refine evR_z hK ?_; clear hK K
   refine tr_sR [2, 3, 4, 11, 12, 13, 14, 15, 16, 17, 18, 19] fun K hK => ?_
   iterate 2 refine evR_p ?_
   refine evR_c (hc := c9) (k := ?_)
   iterate 7 refine evR_p ?_
   refine evR_z hK ?_; clear hK K
   refine tr_sR [2, 3, 4, 11, 13, 14, 15, 16, 17, 18, 19, 20] fun K hK => ?_
   iterate 2 refine evR_p ?_
   refine evR_c (hc := c10) (k := ?_)
   iterate 2 refine evR_p ?_
   refine evR_z hK ?_; clear hK K
   refine tr_sR [2, 3, 4, 11, 13, 14, 15, 16, 17, 18, 19, 20, 21, 22] fun K hK => ?_
   refine evR_p ?_
   refine evR_c (hc := c8w) (k := ?_)
   iterate 6 refine evR_p ?_
   refine evR_z hK ?_; clear hK K
   refine tr_seq fun K12 hK12 => ?_
   refine tr_sR [2, 3, 4, 11, 13, 15, 17, 18, 20, 21, 87] fun K hK => ?_
   iterate 3 refine evR_p ?_
   iterate 2 refine evR_g ?_
   iterate 2 refine evR_p ?_
   iterate 2 refine evR_g ?_
   iterate 2 refine evR_p ?_
   iterate 2 refine evR_g ?_
   iterate 2 refine evR_p ?_
   refine evR_g ?_
   refine evR_gc (hc := c11) (k := ?_)
   refine evR_g ?_
   refine evR_p ?_
   refine evR_z hK ?_; clear hK K
   refine tr_condB (fun ht2 => ?_) (fun ht2 => ?_)
   ·
    skip
    (first | (exfalso; omega) | (exfalso; simp_all; done) | skip)
    all_goals
     refine tr_sR [10] fun K hK => ?_
     refine evR_p ?_
     refine evR_z hK ?_; clear hK K
     refine retZ ?_; try exact ⟨⟩
     all_goals (rfl)
   ·
    skip
    (first | (exfalso; omega) | (exfalso; simp_all; done) | skip)
    all_goals
     refine skipZ ?_
     refine hK12 _ ?_
     refine tr_seq fun K15 hK15 => ?_
     refine tr_sR [2, 3, 4, 11, 13, 15, 17, 20, 21, 119] fun K hK => ?_
     iterate 3 refine evR_p ?_
     iterate 5 refine evR_g ?_
     refine evR_gc (hc := (s32 hpP hfP _)) (k := ?_)
     refine evR_g ?_
     iterate 2 refine evR_p ?_
     iterate 7 refine evR_g ?_
     refine evR_gc (hc := (s24 hpP hfP)) (k := ?_)
     iterate 2 refine evR_g ?_
     iterate 2 refine evR_p ?_
     iterate 4 refine evR_g ?_
     refine evR_gc (hc := (s24 hpQ hfS)) (k := ?_)
     iterate 2 refine evR_g ?_
     refine evR_p ?_
     refine evR_z hK ?_; clear hK K
     refine tr_condB (fun ht3 => ?_) (fun ht3 => ?_)
     ·
      skip
      (first | (exfalso; omega) | (exfalso; simp_all; done) | skip)
      all_goals
       refine tr_sR [10] fun K hK => ?_
       refine evR_p ?_
       refine evR_z hK ?_; clear hK K
       refine retZ ?_; try exact ⟨⟩
       all_goals (rfl)
     ·
      skip
      (first | (exfalso; omega) | (exfalso; simp_all; done) | skip)
      all_goals
       refine skipZ ?_
       refine hK15 _ ?_
       refine tr_sR [3, 4, 11, 13, 15, 17, 20, 21, 23] fun K hK => ?_
       iterate 5 refine evR_p ?_
       refine evR_c (hc := c6b) (k := ?_)
       refine evR_p ?_
       refine evR_z hK ?_; clear hK K
       refine tr_sR [3, 4, 11, 13, 15, 17, 20, 21, 23, 24] fun K hK => ?_
       refine evR_p ?_
       refine evR_z hK ?_; clear hK K
       refine tr_seq fun K20 hK20 => ?_
       refine tr_sR [3, 4, 11, 13, 15, 17, 20, 21, 23, 24, 25] fun K hK => ?_
       refine evR_p ?_
       refine evR_z hK ?_; clear hK K
       refine tr_block ?_
       -- loop 1: live [3, 4, 11, 13, 15, 17, 20, 21, 23, 24, 25]
       refine tr_loopW (fun m σ => ∃ i : Nat, i + m = M.offers.length ∧ σ = ⟨[(3, .sl 4 (encSgs odd)), (4, .int .i64 gn), (11, .ptr 1 0), (13, .ptr 2 0), (15, .ptr 3 0), (17, .sl 4 (encSgs SH)), (20, .ptr 4 0), (21, .ptr 5 0), (23, .int .i64 (u : Nat)), (24, .int .i64 (smC M (·.vl) u i)), (25, .int .i64 (i : Nat))], [(5, .cells (encPg Q)), (4, .cells (encHr W)), (3, .cells (encPg P)), (2, .cells [.bool F, .int .i64 S, .int .i64 G, .sl 4 (encSgs PF)]), (1, .cells (encHr M)), (0, .cells [.int .i64 fr, .sl 2 (encP2s rs), .sl 4 (encOfs os), .int .i64 ap, .int .i64 mu])], 6⟩) (M.offers.length) ?_ ?_
       ·
        exact ⟨_, Wk.refl _, 0, by omega, rfl⟩
       ·
        rintro m σ ⟨i, hi, rfl⟩ KL1 hKL1
        refine tr_seq fun K22 hK22 => ?_
        refine tr_sR [3, 4, 11, 13, 15, 17, 20, 21, 23, 24, 25, 130] fun K hK => ?_
        iterate 5 refine evR_p ?_
        refine evR_z hK ?_; clear hK K
        refine tr_condB (fun ht4 => ?_) (fun ht4 => ?_)
        ·
         skip
         (first | (exfalso; omega) | (exfalso; simp_all; done) | skip)
         all_goals
          have hil : i < M.offers.length := by omega
          obtain ⟨hs1, hs2⟩ := hsm i hil
          replace hq := And.intro hq (hil)
          refine skipZ ?_
          refine hK22 _ ?_
          refine tr_seq fun K24 hK24 => ?_
          refine tr_block ?_
          refine tr_sR [3, 4, 11, 13, 15, 17, 20, 21, 23, 24, 25, 137] fun K hK => ?_
          iterate 5 refine evR_p ?_
          refine evR_z hK ?_; clear hK K
          refine tr_condB (fun ht5 => ?_) (fun ht5 => ?_)
          ·
           skip
           (first | (exfalso; omega) | (exfalso; simp_all; done) | skip)
           all_goals
            refine tr_region [3, 4, 11, 13, 15, 17, 20, 21, 23, 24, 25] rfl rfl fun K hK => ?_
            iterate 9 refine evR_p ?_
            refine evR_e hK ?_; clear hK K
            refine hK24 _ ?_
            refine tr_region [3, 4, 11, 13, 15, 17, 20, 21, 23, 24, 25] rfl rfl fun K hK => ?_
            iterate 3 refine evR_p ?_
            refine evR_e hK ?_; clear hK K
            refine hKL1 _ ?_
            first
             | exact ⟨m - 1, _, by omega, Wk.refl _, i + 1, by omega, by rw [w64 (x := (i : Int) + 1) (by omega), hs1 (by first | exact ht5 | simpa using ht5)]; rfl⟩
             | exact ⟨m - 1, _, by omega, Wk.refl _, i + 1, by omega, by rw [w64 (x := (i : Int) + 1) (by omega), hs2 (by first | exact ht5 | simpa using ht5)]; rfl⟩
          ·
           skip
           (first | (exfalso; omega) | (exfalso; simp_all; done) | skip)
           all_goals
            refine skipZ ?_
            refine hK24 _ ?_
            refine tr_region [3, 4, 11, 13, 15, 17, 20, 21, 23, 24, 25] rfl rfl fun K hK => ?_
            iterate 3 refine evR_p ?_
            refine evR_e hK ?_; clear hK K
            refine hKL1 _ ?_
            first
             | exact ⟨m - 1, _, by omega, Wk.refl _, i + 1, by omega, by rw [w64 (x := (i : Int) + 1) (by omega), hs1 (by first | exact ht5 | simpa using ht5)]; rfl⟩
             | exact ⟨m - 1, _, by omega, Wk.refl _, i + 1, by omega, by rw [w64 (x := (i : Int) + 1) (by omega), hs2 (by first | exact ht5 | simpa using ht5)]; rfl⟩
        ·
         skip
         (first | (exfalso; omega) | (exfalso; simp_all; done) | skip)
         all_goals
          have hil : i = M.offers.length := by omega
          subst hil
          refine tr_exit ?_
          simp only [thenE, inBlkE, Nat.reduceEqDiff, ↓reduceIte]
          refine hK20 _ ?_
          refine tr_sR [3, 4, 11, 13, 15, 17, 20, 21, 23, 24] fun K hK => ?_
          iterate 6 refine evR_p ?_
          refine evR_z hK ?_; clear hK K
          refine tr_sR [3, 11, 13, 15, 17, 20, 21, 23, 24, 26] fun K hK => ?_
          refine evR_p ?_
          refine evR_c (hc := c6c) (k := ?_)
          iterate 2 refine evR_p ?_
          refine evR_z hK ?_; clear hK K
          refine tr_seq fun K28 hK28 => ?_
          refine tr_sR [11, 15, 20, 21, 23, 24, 26, 158, 159, 160] fun K hK => ?_
          iterate 4 refine evR_p ?_
          refine evR_bs ?_
          iterate 2 refine evR_p ?_
          refine evR_z hK ?_; clear hK K
          refine tr_block ?_
          -- loop 2: live [11, 15, 20, 21, 23, 24, 26, 158, 159, 160]
          refine tr_loopW (fun m σ => ∃ i : Nat, i + m = 3 ∧ σ = ⟨[(11, .ptr 1 0), (15, .ptr 3 0), (20, .ptr 4 0), (21, .ptr 5 0), (23, .int .i64 (u : Nat)), (24, .int .i64 (smC M (·.vl) u M.offers.length)), (26, .int .i64 most), (158, .sl 1 (encPfs PL)), (159, .int .i64 3), (160, .int .i64 (i : Nat))], [(5, .cells (encPg Q)), (4, .cells (encHr W)), (3, .cells (encPg P)), (2, .cells [.bool F, .int .i64 S, .int .i64 G, .sl 4 (encSgs PF)]), (1, .cells (encHr M)), (0, .cells [.int .i64 fr, .sl 2 (encP2s rs), .sl 4 (encOfs os), .int .i64 ap, .int .i64 mu])], 6⟩) (3) ?_ ?_
          ·
           exact ⟨_, Wk.refl _, 0, by omega, by first | rfl | (rw [← hPLe]; rfl) | (rw [hP8, ← hPLe]; rfl)⟩
          ·
           rintro m2 σ ⟨i, hi, rfl⟩ KL2 hKL2
           refine tr_sR [11, 15, 20, 21, 23, 24, 26, 158, 159, 160, 161] fun K hK => ?_
           refine evR_p ?_
           refine evR_z hK ?_; clear hK K
           refine tr_seq fun K31 hK31 => ?_
           refine tr_condB (fun ht6 => ?_) (fun ht6 => ?_)
           ·
            skip
            (first | (exfalso; omega) | (exfalso; simp_all; done) | skip)
            all_goals
             have hil : i < PL.length := by omega
             have hfL := hPLf i (by omega)
             obtain ⟨L, hLd⟩ : ∃ L, PL.getD i [] = L := ⟨_, rfl⟩
             rw [hLd] at hfL
             have hDL := hD L
             have hEL := hE L
             replace hq := And.intro hq (And.intro hil (And.intro hLd (And.intro hDL (hEL))))
             refine skipZ ?_
             refine hK31 _ ?_
             refine tr_seq fun K32 hK32 => ?_
             refine tr_block ?_
             refine tr_sR [11, 15, 20, 21, 23, 24, 26, 28, 158, 159, 160] fun K hK => ?_
             iterate 3 refine evR_p ?_
             refine evR_z hK ?_; clear hK K
             refine tr_seq fun K34 hK34 => ?_
             refine tr_sR [11, 15, 20, 21, 23, 24, 26, 28, 158, 159, 160, 182] fun K hK => ?_
             iterate 2 refine evR_p ?_
             refine evR_c (hc := c14) (k := ?_)
             refine evR_p ?_
             iterate 2 refine evR_g ?_
             refine evR_gc (hc := (s24 hpP hfL)) (k := ?_)
             iterate 8 refine evR_g ?_
             refine evR_gc (hc := (s32 hpP hfL _)) (k := ?_)
             iterate 2 refine evR_g ?_
             refine evR_p ?_
             refine evR_z hK ?_; clear hK K
             refine tr_condB (fun ht7 => ?_) (fun ht7 => ?_)
             ·
              skip
              (first | (exfalso; omega) | (exfalso; simp_all; done) | skip)
              all_goals
               refine tr_sR [10] fun K hK => ?_
               refine evR_p ?_
               refine evR_z hK ?_; clear hK K
               refine retZ ?_; try exact ⟨⟩
               all_goals (rfl)
             ·
              skip
              (first | (exfalso; omega) | (exfalso; simp_all; done) | skip)
              all_goals
               refine skipZ ?_
               refine hK34 _ ?_
               refine tr_sR [11, 15, 20, 21, 23, 24, 26, 158, 159, 160, 190] fun K hK => ?_
               iterate 2 refine evR_p ?_
               refine evR_c (hc := c14w) (k := ?_)
               refine evR_p ?_
               iterate 2 refine evR_g ?_
               refine evR_gc (hc := (s24 hpQ hfL)) (k := ?_)
               refine evR_p ?_
               refine evR_z hK ?_; clear hK K
               refine tr_condB (fun ht8 => ?_) (fun ht8 => ?_)
               ·
                skip
                (first | (exfalso; omega) | (exfalso; simp_all; done) | skip)
                all_goals
                 refine tr_sR [10] fun K hK => ?_
                 refine evR_p ?_
                 refine evR_z hK ?_; clear hK K
                 refine retZ ?_; try exact ⟨⟩
                 all_goals (rfl)
               ·
                skip
                (first | (exfalso; omega) | (exfalso; simp_all; done) | skip)
                all_goals
                 refine skipZ ?_
                 refine hK32 _ ?_
                 refine tr_region [11, 15, 20, 21, 23, 24, 26, 158, 159, 160] rfl rfl fun K hK => ?_
                 iterate 2 refine evR_p ?_
                 refine evR_e hK ?_; clear hK K
                 refine hKL2 _ ?_
                 exact ⟨m2 - 1, _, by omega, Wk.refl _, i + 1, by omega, by rw [w64 (x := (i : Int) + 1) (by omega)]; rfl⟩
           ·
            skip
            (first | (exfalso; omega) | (exfalso; simp_all; done) | skip)
            all_goals
             have hil : i = 3 := by omega
             refine tr_exit ?_
             simp only [thenE, inBlkE, Nat.reduceEqDiff, ↓reduceIte]
             refine hK28 _ ?_
             refine tr_sR [10] fun K hK => ?_
             refine evR_p ?_
             refine evR_z hK ?_; clear hK K
             refine retZ ?_; try exact ⟨⟩
             all_goals (rfl)
end

end Go.Proofs.YtfamkbofdamkkaaDoor
