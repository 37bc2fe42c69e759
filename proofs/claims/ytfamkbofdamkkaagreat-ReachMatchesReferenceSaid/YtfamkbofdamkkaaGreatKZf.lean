/- Texts of this proof, put together. -/
import Derived.Test.YtfamkbofdamkkaaGreatKZb
import Derived.Test.YtfamkbofdamkkaaGreatKZc
import Derived.Test.YtfamkbofdamkkaaGreatKZe
import Derived.Test.YtfamkbofdamkkaaGreatKZd
namespace Go.Proofs.YtfamkbofdamkkaaGreat
open Go.RowKit
set_option linter.unusedVariables false
set_option linter.unusedSimpArgs false
set_option maxRecDepth 100000
attribute [local go_sem] Nat.zero_add Nat.add_zero Nat.mul_one eq_self ne_eq not_true_eq_false not_false_eq_true decide_true decide_false decide_not Bool.false_eq_true List.filter_cons List.filter_nil true_and and_true beq_false beq_true Bool.not_true Bool.not_false Bool.and_true Bool.true_and Option.getD_some Option.getD_none imp_self implies_true Int.toNat_natCast List.cons_append List.nil_append List.map_cons List.map_nil List.length_cons List.length_nil List.getD_cons_zero List.getD_cons_succ List.drop_zero List.drop_succ_cons List.take_succ_cons List.take_zero
attribute [local go_sem] Option.isNone_none Option.isNone_some Option.isSome_none List.lookup Option.isSome_some Bool.or_true Bool.true_or Bool.or_false Bool.false_or and_false false_and or_false false_or List.length_append forall_const imp_self
attribute [local go_sem] cellsI_fzL cellsI_uptoL List.getElem?_cons_zero List.getElem?_cons_succ List.zip_cons_cons List.zip_nil_left List.zip_nil_right Bool.false_and Bool.and_false cellsG_length polyA_length discA_length agEq_cells cellsI_isI cellsI_length cellsI_sc cellsI_cl cellsI_rows cellsI_take cellsI_dropD cellsI_set cellsI_full List.length_set List.length_replicate List.all_cons List.all_nil outA_length eachA_length outM_length getD_set_same List.set_set spl_nil0 spl_cons0 spl_succ encP_length encP_getD
attribute [local simp] encP_length padP_length encI_length
attribute [local go_sem] encR_length encR_getD encRw encPg lookV
attribute [local simp] encA_length encR_length cellsI_length
section
attribute [local go_sem] encA_length encA_getD
theorem k86 (l : List (List Int)) (hl : okAs l) (t : List Int) (ht : t.length = 16) : CallsA Tryz.prog 14 [.sl 16 (encA l), .agg (cellsI t)] (.bool (validR l t)) := by
 have hlm := hl.1
 unfold maxLen at hlm
 have hq := ht
 refine callsA_of_tr Tryz.func14 rfl (Nat.le_of_ble_eq_true rfl) ?_
 simp only [Tryz.results14, envOf, Nat.reduceAdd]
 refine tr_sR [0, 3] fun K hK => ?_
 iterate 2 refine evR_p ?_
 refine evR_z hK ?_; clear hK K
 refine tr_seq fun K2 hK2 => ?_
 refine tr_seq fun K3 hK3 => ?_
 refine tr_fz [.ptr 0 0] (by simp (maxSteps := 4000000) (disch := first | assumption | omega | (simp only [go_sem, *]; done) | (simp only [go_sem, *]; omega)) only [go_sem, hq, Int.reduceToNat, Nat.reduceBEq, Nat.reduceEqDiff, Nat.reduceAdd, Nat.reduceMul, Nat.reduceLeDiff, Nat.reduceLT, Nat.reduceSub, ↓reduceIte, reduceCtorEq]; (try rfl)) ?_
 refine tr_region [0, 3, 7, 8, 9] rfl rfl fun K hK => ?_
 iterate 3 refine evR_p ?_
 refine evR_e hK ?_; clear hK K
 refine hK3 _ ?_
 refine tr_block ?_
 -- loop 1: live [0, 3, 7, 8, 9]
 refine tr_loopW (fun m σ => ∃ i : Nat, i + m = l.length ∧ (∀ j, j < i → validA (l.getD j []) = true) ∧ σ = ⟨[(0, .sl 16 (encA l)), (3, .ep (cellsI t)), (7, .sl 16 (encA l)), (8, .int .i64 l.length), (9, .int .i64 (i : Nat))], [], 1⟩) (l.length) ?_ ?_
 ·
  exact ⟨_, Wk.refl _, 0, by omega, (by intro j hj; omega), rfl⟩
 ·
  rintro m σ ⟨i, hi, hpi, rfl⟩ KL1 hKL1
  refine tr_sR [0, 3, 7, 8, 9, 10] fun K hK => ?_
  refine evR_p ?_
  refine evR_z hK ?_; clear hK K
  refine tr_seq fun K5 hK5 => ?_
  refine tr_condB (fun ht1 => ?_) (fun ht1 => ?_)
  ·
   skip
   have hil : i < l.length := by omega
   have hli := hl.at hil
   replace hq := And.intro hq (And.intro hil (hli))
   refine skipZ ?_
   refine hK5 _ ?_
   refine tr_seq fun K6 hK6 => ?_
   refine tr_block ?_
   refine tr_sR [0, 3, 6, 7, 8, 9] fun K hK => ?_
   iterate 4 refine evR_p ?_
   refine evR_z hK ?_; clear hK K
   refine tr_sR [0, 3, 7, 8, 9, 15] fun K hK => ?_
   refine evR_p ?_
   refine evR_c (hc := (ca13 _ hli)) (k := ?_)
   refine evR_p ?_
   refine evR_z hK ?_; clear hK K
   refine tr_condB (fun ht2 => ?_) (fun ht2 => ?_)
   ·
    skip
    refine tr_sR [4] fun K hK => ?_
    refine evR_p ?_
    refine evR_z hK ?_; clear hK K
    refine retZ ?_; try exact ⟨⟩
    all_goals (first | (rw [validR_no hil ht2]; done) | (rw [validR_yes hpi]; done))
   ·
    skip
    refine skipZ ?_
    refine hK6 _ ?_
    refine tr_region [0, 3, 7, 8, 9] rfl rfl fun K hK => ?_
    iterate 2 refine evR_p ?_
    refine evR_e hK ?_; clear hK K
    refine hKL1 _ ?_
    exact ⟨m - 1, _, by omega, Wk.cut 1 (by simp [St.cutOK, AObj.upto, V.upto, V.uptoL, cellsI_uptoL, enC_uptoL, List.all_cons, List.all_nil, List.filter_cons, List.filter_nil, Nat.blt_eq, Nat.reduceLT, Nat.lt_irrefl, decide_true, decide_false, Bool.and_self, Bool.and_true, Bool.true_and, if_true, if_false, ↓reduceIte, Bool.false_eq_true]), i + 1, by omega, (fun j hj => by by_cases e : j = i; (subst e; exact ht2); exact hpi j (by omega)), by rw [w64 (x := (i : Int) + 1) (by omega)]; rfl⟩
  ·
   skip
   have hil : i = l.length := by omega
   subst hil
   refine tr_exit ?_
   simp only [thenE, inBlkE, Nat.reduceEqDiff, ↓reduceIte]
   refine hK2 _ ?_
   refine tr_sR [4] fun K hK => ?_
   iterate 4 refine evR_p ?_
   refine evR_g ?_
   refine evR_gc (hc := (ca13 t ht)) (k := ?_)
   iterate 2 refine evR_p ?_
   refine evR_z hK ?_; clear hK K
   refine retZ ?_; try exact ⟨⟩
   all_goals (first | (rw [validR_no hil ht2]; done) | (rw [validR_yes hpi]; done))
end

section
attribute [local go_sem] encA_length encA_getD
theorem k102 (l : List (List Int)) (hl : okAs l) : CallsA Tryz.prog 31 [.sl 16 (encA l)] (.agg (cellsI (unionL l))) := by
 have hlm := hl.1
 unfold maxLen at hlm
 have hul0 := fun n (h : n ≤ l.length) => unionT_len hl n h
 have hq : True := trivial
 refine callsA_of_tr Tryz.func31 rfl (Nat.le_of_ble_eq_true rfl) ?_
 simp only [Tryz.results31, envOf, Nat.reduceAdd]
 refine tr_sR [0, 2] fun K hK => ?_
 refine evR_p ?_
 refine evR_z hK ?_; clear hK K
 refine tr_seq fun K2 hK2 => ?_
 refine tr_sR [2, 5, 6, 7] fun K hK => ?_
 iterate 3 refine evR_p ?_
 refine evR_z hK ?_; clear hK K
 refine tr_block ?_
 -- loop 1: live [2, 5, 6, 7]
 refine tr_loopW (fun m σ => ∃ i : Nat, i + m = l.length ∧ σ = ⟨[(2, .ptr 0 0), (5, .sl 16 (encA l)), (6, .int .i64 l.length), (7, .int .i64 (i : Nat))], [(0, .cells (cellsI (unionT l i)))], 1⟩) (l.length) ?_ ?_
 ·
  exact ⟨_, Wk.refl _, 0, by omega, rfl⟩
 ·
  rintro m σ ⟨i, hi, rfl⟩ KL1 hKL1
  refine tr_sR [2, 5, 6, 7, 8] fun K hK => ?_
  refine evR_p ?_
  refine evR_z hK ?_; clear hK K
  refine tr_seq fun K5 hK5 => ?_
  refine tr_condB (fun ht1 => ?_) (fun ht1 => ?_)
  ·
   skip
   have hil : i < l.length := by omega
   have hli := hl.at hil
   have hul := hul0 i (by omega)
   have hu3 := unionA_len hul hli
   replace hq := And.intro hq (And.intro hil (And.intro hli (And.intro hul (hu3))))
   refine skipZ ?_
   refine hK5 _ ?_
   refine tr_seq fun K6 hK6 => ?_
   refine tr_block ?_
   refine tr_sR [2, 4, 5, 6, 7] fun K hK => ?_
   iterate 4 refine evR_p ?_
   refine evR_z hK ?_; clear hK K
   refine tr_region [2, 5, 6, 7] rfl rfl fun K hK => ?_
   iterate 2 refine evR_p ?_
   refine evR_c (hc := (ca17u _ _ (unionT_len hl i (by omega)) hli)) (k := ?_)
   refine evR_p ?_
   refine evR_e hK ?_; clear hK K
   refine hK6 _ ?_
   refine tr_region [2, 5, 6, 7] rfl rfl fun K hK => ?_
   iterate 2 refine evR_p ?_
   refine evR_e hK ?_; clear hK K
   refine hKL1 _ ?_
   exact ⟨m - 1, _, by omega, Wk.cut 1 (by simp [St.cutOK, AObj.upto, V.upto, V.uptoL, cellsI_uptoL, enC_uptoL, List.all_cons, List.all_nil, List.filter_cons, List.filter_nil, Nat.blt_eq, Nat.reduceLT, Nat.lt_irrefl, decide_true, decide_false, Bool.and_self, Bool.and_true, Bool.true_and, if_true, if_false, ↓reduceIte, Bool.false_eq_true]), i + 1, by omega, by rw [w64 (x := (i : Int) + 1) (by omega)]; rfl⟩
  ·
   skip
   have hil : i = l.length := by omega
   subst hil
   have hul := hul0 l.length (Nat.le_refl _)
   replace hq := And.intro hq hul
   refine tr_exit ?_
   simp only [thenE, inBlkE, Nat.reduceEqDiff, ↓reduceIte]
   refine hK2 _ ?_
   refine tr_sR [2] fun K hK => ?_
   iterate 2 refine evR_p ?_
   refine evR_z hK ?_; clear hK K
   refine retZ ?_; try exact ⟨⟩
   all_goals (rfl)
end

section
attribute [local go_sem] encA_length encA_getD encA_one
theorem k103 (l : List (List Int)) (hl : okAs l) (hl8 : l.length ≤ 100000) (set : Int) : CallsA Tryz.prog 42 [.sl 16 (encA l), .int .i64 set] (.sl 16 (encA (chosenL l set))) := by
 have hlm := hl.1
 unfold maxLen at hlm
 have hq : True := trivial
 refine callsA_of_tr Tryz.func42 rfl (Nat.le_of_ble_eq_true rfl) ?_
 simp only [Tryz.results42, envOf, Nat.reduceAdd]
 refine tr_sR [0, 1, 4] fun K hK => ?_
 refine evR_p ?_
 refine evR_z hK ?_; clear hK K
 refine tr_seq fun K2 hK2 => ?_
 refine tr_sR [1, 4, 7, 8, 9] fun K hK => ?_
 iterate 3 refine evR_p ?_
 refine evR_z hK ?_; clear hK K
 refine tr_block ?_
 -- loop 1: live [1, 4, 7, 8, 9]
 refine tr_loopW (fun m σ => ∃ i : Nat, i + m = l.length ∧ σ = ⟨[(1, .int .i64 set), (4, .own 0), (7, .sl 16 (encA l)), (8, .int .i64 l.length), (9, .int .i64 (i : Nat))], [(0, .row 26 16 (encA (chosenT l set i)))], 1⟩) (l.length) ?_ ?_
 ·
  exact ⟨_, Wk.nilslot 26 16 4 rfl, 0, by omega, rfl⟩
 ·
  rintro m σ ⟨i, hi, rfl⟩ KL1 hKL1
  refine tr_sR [1, 4, 7, 8, 9, 10] fun K hK => ?_
  refine evR_p ?_
  refine evR_z hK ?_; clear hK K
  refine tr_seq fun K5 hK5 => ?_
  refine tr_condB (fun ht1 => ?_) (fun ht1 => ?_)
  ·
   skip
   have hil : i < l.length := by omega
   have hli := hl.at hil
   have hcl := chosenT_len l set i
   replace hq := And.intro hq (And.intro hil (hli))
   refine skipZ ?_
   refine hK5 _ ?_
   refine tr_seq fun K6 hK6 => ?_
   refine tr_block ?_
   refine tr_sR [1, 4, 5, 6, 7, 8, 9] fun K hK => ?_
   iterate 6 refine evR_p ?_
   refine evR_z hK ?_; clear hK K
   refine tr_sR [1, 4, 6, 7, 8, 9, 18] fun K hK => ?_
   iterate 5 refine evR_p ?_
   refine evR_z hK ?_; clear hK K
   refine tr_condB (fun ht2 => ?_) (fun ht2 => ?_)
   ·
    skip
    refine tr_region [1, 4, 7, 8, 9] rfl rfl fun K hK => ?_
    iterate 2 refine evR_p ?_
    refine evR_bs ?_
    iterate 2 refine evR_p ?_
    refine evR_e hK ?_; clear hK K
    refine hK6 _ ?_
    refine tr_region [1, 4, 7, 8, 9] rfl rfl fun K hK => ?_
    iterate 2 refine evR_p ?_
    refine evR_e hK ?_; clear hK K
    refine hKL1 _ ?_
    first
     | exact ⟨m - 1, _, by omega, (Wk.trans (Wk.ren 2 0 (Nat.le_of_ble_eq_true rfl) (Nat.le_of_ble_eq_true rfl) (by simp [St.noSt, St.ren, St.cutOK, St.cut, AObj.no, AObj.upto, AObj.ren, V.no, V.upto, V.ren, V.noL, V.uptoL, V.renL, cellsI_uptoL, cellsI_noA, cellsI_renA, enC_uptoL])) (Wk.cut 1 (by simp [St.noSt, St.ren, St.cutOK, St.cut, AObj.no, AObj.upto, AObj.ren, V.no, V.upto, V.ren, V.noL, V.uptoL, V.renL, cellsI_uptoL, cellsI_noA, cellsI_renA, enC_uptoL]))), i + 1, by omega, by rw [w64 (x := (i : Int) + 1) (by omega), chosenT_t (by simpa [cBit] using ht2)]; rfl⟩
     | exact ⟨m - 1, _, by omega, Wk.cut 1 (by simp [St.cutOK, AObj.upto, V.upto, V.uptoL, cellsI_uptoL, enC_uptoL, List.all_cons, List.all_nil, List.filter_cons, List.filter_nil, Nat.blt_eq, Nat.reduceLT, Nat.lt_irrefl, decide_true, decide_false, Bool.and_self, Bool.and_true, Bool.true_and, if_true, if_false, ↓reduceIte, Bool.false_eq_true]), i + 1, by omega, by rw [w64 (x := (i : Int) + 1) (by omega), chosenT_f (by simpa [cBit] using ht2)]; rfl⟩
   ·
    skip
    refine skipZ ?_
    refine hK6 _ ?_
    refine tr_region [1, 4, 7, 8, 9] rfl rfl fun K hK => ?_
    iterate 2 refine evR_p ?_
    refine evR_e hK ?_; clear hK K
    refine hKL1 _ ?_
    first
     | exact ⟨m - 1, _, by omega, (Wk.trans (Wk.ren 2 0 (Nat.le_of_ble_eq_true rfl) (Nat.le_of_ble_eq_true rfl) (by simp [St.noSt, St.ren, St.cutOK, St.cut, AObj.no, AObj.upto, AObj.ren, V.no, V.upto, V.ren, V.noL, V.uptoL, V.renL, cellsI_uptoL, cellsI_noA, cellsI_renA, enC_uptoL])) (Wk.cut 1 (by simp [St.noSt, St.ren, St.cutOK, St.cut, AObj.no, AObj.upto, AObj.ren, V.no, V.upto, V.ren, V.noL, V.uptoL, V.renL, cellsI_uptoL, cellsI_noA, cellsI_renA, enC_uptoL]))), i + 1, by omega, by rw [w64 (x := (i : Int) + 1) (by omega), chosenT_t (by simpa [cBit] using ht2)]; rfl⟩
     | exact ⟨m - 1, _, by omega, Wk.cut 1 (by simp [St.cutOK, AObj.upto, V.upto, V.uptoL, cellsI_uptoL, enC_uptoL, List.all_cons, List.all_nil, List.filter_cons, List.filter_nil, Nat.blt_eq, Nat.reduceLT, Nat.lt_irrefl, decide_true, decide_false, Bool.and_self, Bool.and_true, Bool.true_and, if_true, if_false, ↓reduceIte, Bool.false_eq_true]), i + 1, by omega, by rw [w64 (x := (i : Int) + 1) (by omega), chosenT_f (by simpa [cBit] using ht2)]; rfl⟩
  ·
   skip
   have hil : i = l.length := by omega
   subst hil
   refine tr_exit ?_
   simp only [thenE, inBlkE, Nat.reduceEqDiff, ↓reduceIte]
   refine hK2 _ ?_
   refine tr_sR [4] fun K hK => ?_
   iterate 2 refine evR_p ?_
   refine evR_z hK ?_; clear hK K
   refine retZ ?_; try exact ⟨⟩
   all_goals (rfl)
end

theorem k95 (a : List Int) : CallsA Tryz.prog 33 [.agg (cellsI a)] (.fn 61 [.ep (cellsI a)]) := by
 have hq : True := trivial
 refine callsA_of_tr Tryz.func33 rfl (Nat.le_of_ble_eq_true rfl) ?_
 simp only [Tryz.results33, envOf, Nat.reduceAdd]
 refine tr_sR [1] fun K hK => ?_
 iterate 2 refine evR_p ?_
 refine evR_z hK ?_; clear hK K
 refine tr_seq fun K2 hK2 => ?_
 refine tr_fz [.ptr 0 0] (by simp (maxSteps := 4000000) (disch := first | assumption | omega | (simp only [go_sem, *]; done) | (simp only [go_sem, *]; omega)) only [go_sem, hq, Int.reduceToNat, Nat.reduceBEq, Nat.reduceEqDiff, Nat.reduceAdd, Nat.reduceMul, Nat.reduceLeDiff, Nat.reduceLT, Nat.reduceSub, ↓reduceIte, reduceCtorEq]; (try rfl)) ?_
 refine tr_region [2] rfl rfl fun K hK => ?_
 iterate 2 refine evR_p ?_
 refine evR_e hK ?_; clear hK K
 refine hK2 _ ?_
 refine retZ ?_; try exact ⟨⟩
 all_goals (rfl)

section
attribute [local go_sem] enC_fzL
theorem k139 (a : List Int) (ha : a.length = 16) : SeqA Tryz.prog evCl 61 [.ep (cellsI a)] (fun xs => xs = cellsL a) 257 := by
 have hq := ha
 refine seqA_of_tr Tryz.func61 rfl (by rw [Tryz.results61]) enok_C (Nat.le_of_ble_eq_true rfl) (Nat.le_of_ble_eq_true rfl) fun l ys C hys hCY => ?_
 obtain ⟨y0, rfl⟩ : ∃ y0, ys = [y0] := by match ys, hys with | [y0], _ => exact ⟨y0, rfl⟩
 simp only [List.zipWith_cons_cons, List.zipWith_nil_left, List.zip_cons_cons, List.zip_nil_left, envOf, List.cons_append, List.nil_append, Nat.reduceAdd] at hCY ⊢
 refine tr_sR [0, 1, 5, 1000000, 1000001] fun K hK => ?_
 refine evR_p ?_
 refine evR_z hK ?_; clear hK K
 refine tr_block ?_
 -- loop 1: live [0, 1, 5]
 refine tr_loopW (fun m σ => ∃ y : Nat, y + m = 16 ∧ σ = ⟨[(0, .yl l), (1, .eq y0 (.ep (cellsI a))), (5, .int .i64 (y : Nat)), (1000000, .tup ((cellT a (16 * y)).map enCl)), (1000001, .bool false)], [], 0⟩) (16) ?_ ?_
 ·
  exact ⟨_, Wk.refl _, 0, by omega, rfl⟩
 ·
  rintro m σ ⟨y, hy, rfl⟩ KL1 hKL1
  refine tr_sR [0, 1, 5, 6, 1000000, 1000001] fun K hK => ?_
  refine evR_p ?_
  refine evR_z hK ?_; clear hK K
  refine tr_seq fun K3 hK3 => ?_
  refine tr_condB (fun ht1 => ?_) (fun ht1 => ?_)
  ·
   skip
   (first | (exfalso; omega) | (exfalso; simp_all; done) | skip)
   all_goals
    have hyl : y < 16 := by omega
    replace hq := And.intro hq (hyl)
    refine skipZ ?_
    refine hK3 _ ?_
    refine tr_seq fun K4 hK4 => ?_
    refine tr_block ?_
    refine tr_sR [0, 1, 3, 5, 1000000, 1000001] fun K hK => ?_
    iterate 2 refine evR_p ?_
    refine evR_z hK ?_; clear hK K
    refine tr_sR [0, 1, 3, 5, 8, 1000000, 1000001] fun K hK => ?_
    refine evR_p ?_
    refine evR_z hK ?_; clear hK K
    refine tr_block ?_
    -- loop 2: live [0, 1, 3, 5, 8]
    refine tr_loopW (fun m σ => ∃ x : Nat, x + m = 16 ∧ σ = ⟨[(0, .yl l), (1, .eq y0 (.ep (cellsI a))), (3, .int .i64 (y : Nat)), (5, .int .i64 (y : Nat)), (8, .int .i64 (x : Nat)), (1000000, .tup ((cellT a (16 * y + x)).map enCl)), (1000001, .bool false)], [], 0⟩) (16) ?_ ?_
    ·
     exact ⟨_, Wk.refl _, 0, by omega, rfl⟩
    ·
     rintro m2 σ ⟨x, hx, rfl⟩ KL2 hKL2
     refine tr_sR [0, 1, 3, 5, 8, 9, 1000000, 1000001] fun K hK => ?_
     refine evR_p ?_
     refine evR_z hK ?_; clear hK K
     refine tr_seq fun K8 hK8 => ?_
     refine tr_condB (fun ht2 => ?_) (fun ht2 => ?_)
     ·
      skip
      (first | (exfalso; omega) | (exfalso; simp_all; done) | skip)
      all_goals
       have hxl : x < 16 := by omega
       have hcl := cellT_len a (16 * y + x)
       replace hq := And.intro hq (hxl)
       refine skipZ ?_
       refine hK8 _ ?_
       refine tr_seq fun K9 hK9 => ?_
       refine tr_block ?_
       refine tr_sR [0, 1, 3, 4, 5, 8, 1000000, 1000001] fun K hK => ?_
       iterate 2 refine evR_p ?_
       refine evR_z hK ?_; clear hK K
       refine tr_sR [0, 1, 3, 5, 8, 25, 1000000, 1000001] fun K hK => ?_
       iterate 8 refine evR_p ?_
       iterate 4 refine evR_g ?_
       refine evR_stepY rfl rfl fun Kq hKq => ⟨fun hyt => hCY _ _ _ ?_, fun hyt => ⟨.bool false, hKq _ ?_⟩⟩
       (try simp only [decide_eq_true_eq, decide_eq_false_iff_not, Bool.not_eq_true', Bool.not_eq_false', Bool.and_eq_true, Bool.or_eq_true, Bool.and_eq_false_iff, Bool.or_eq_false_iff, beq_true, beq_false] at hyt)
       simp (maxSteps := 4000000) (disch := first | assumption | omega | (simp only [go_sem, *]; done) | (simp only [go_sem, *]; omega)) only [YI, go_sem, hq, Int.reduceToNat, Nat.reduceBEq, Nat.reduceEqDiff, Nat.reduceAdd, Nat.reduceMul, Nat.reduceLeDiff, Nat.reduceLT, Nat.reduceSub, ↓reduceIte, reduceCtorEq]
       (repeat (refine And.intro (by first | assumption | omega | decide | (simp; done) | (simp; omega) | (have hq := hvv hgt; omega) | (have hq := hvv hgt.1; omega) | (simp_all; done)) ?_))
       refine ⟨(x, y), cellT a (16 * y + x), [1], ?_⟩
       (repeat (refine And.intro (by first | rfl | exact (show (cellT a (16 * y + x)).length < 257 by omega) | (intro t ht; rw [List.mem_singleton] at ht; subst ht; exact ⟨_, List.mem_singleton.2 rfl, rfl⟩) | (rfl)) ?_))
       refine ⟨hKq _ ?_, hKq _ ?_⟩
       all_goals try simp only [goY, stY, keepE, simE, V.simpl, V.simp, List.cons_append, List.nil_append, St.put, St.slot, List.lookup, Option.getD_some, Nat.reduceBEq]
       all_goals (try clear hKq Kq)
       all_goals (try simp only [decide_eq_true_eq, decide_eq_false_iff_not, Bool.not_eq_true', Bool.not_eq_false', Bool.and_eq_true, Bool.or_eq_true, Bool.and_eq_false_iff, Bool.or_eq_false_iff, beq_true, beq_false] at hyt)
       all_goals (replace hq := And.intro hq hyt)
       all_goals
        first | refine evR_g ?_ | refine evR_gf (.bool true) ?_
        refine evR_p ?_
        refine evR_z hK ?_; clear hK K
        refine tr_condB (fun ht3 => ?_) (fun ht3 => ?_)
        ·
         skip
         (first | (exfalso; omega) | (exfalso; simp_all; done) | skip)
         all_goals
          refine tr_ret ?_
          (try simp only [thenE, inBlkE])
          simp (maxSteps := 4000000) (disch := first | assumption | omega | (simp only [go_sem, *]; done) | (simp only [go_sem, *]; omega)) only [postI, go_sem, hq, Int.reduceToNat, Nat.reduceBEq, Nat.reduceEqDiff, Nat.reduceAdd, Nat.reduceMul, Nat.reduceLeDiff, Nat.reduceLT, Nat.reduceSub, ↓reduceIte, reduceCtorEq]
          all_goals (first | exact Or.inl trivial | exact Or.inl rfl | exact Or.inr ⟨_, rfl, rfl⟩)
        ·
         skip
         (first | (exfalso; omega) | (exfalso; simp_all; done) | skip)
         all_goals
          refine skipZ ?_
          refine hK9 _ ?_
          refine tr_region [0, 1, 3, 5, 8, 1000000, 1000001] rfl rfl fun K hK => ?_
          iterate 2 refine evR_p ?_
          refine evR_e hK ?_; clear hK K
          refine hKL2 _ ?_
          first
           | exact ⟨m2 - 1, _, by omega, Wk.cut 0 (by simp only [St.cutOK, List.all_cons, List.all_nil, V.upto, enC_uptoL, Bool.and_self, List.filter_nil]), x + 1, by omega, by rw [w64 (x := (x : Int) + 1) (by omega), cellT_t hxl (by simpa [cellB] using hyt)]; rfl⟩
           | exact ⟨m2 - 1, _, by omega, Wk.cut 0 (by simp only [St.cutOK, List.all_cons, List.all_nil, V.upto, enC_uptoL, Bool.and_self, List.filter_nil]), x + 1, by omega, by rw [w64 (x := (x : Int) + 1) (by omega), cellT_f hxl (by simpa [cellB] using hyt)]; rfl⟩
     ·
      skip
      (first | (exfalso; omega) | (exfalso; simp_all; done) | skip)
      all_goals
       have hxl : x = 16 := by omega
       subst hxl
       refine tr_exit ?_
       simp only [thenE, inBlkE, Nat.reduceEqDiff, ↓reduceIte]
       refine hK4 _ ?_
       refine tr_region [0, 1, 5, 1000000, 1000001] rfl rfl fun K hK => ?_
       iterate 2 refine evR_p ?_
       refine evR_e hK ?_; clear hK K
       refine hKL1 _ ?_
       exact ⟨m - 1, _, by omega, Wk.refl _, y + 1, by omega, by rw [w64 (x := (y : Int) + 1) (by omega)]; rfl⟩
  ·
   skip
   (first | (exfalso; omega) | (exfalso; simp_all; done) | skip)
   all_goals
    have hyl : y = 16 := by omega
    subst hyl
    refine tr_exit ?_
    simp only [thenE, inBlkE, Nat.reduceEqDiff, ↓reduceIte]
    simp (maxSteps := 4000000) (disch := first | assumption | omega | (simp only [go_sem, *]; done) | (simp only [go_sem, *]; omega)) only [postI, go_sem, hq, Int.reduceToNat, Nat.reduceBEq, Nat.reduceEqDiff, Nat.reduceAdd, Nat.reduceMul, Nat.reduceLeDiff, Nat.reduceLT, Nat.reduceSub, ↓reduceIte, reduceCtorEq]
    all_goals (first | exact Or.inl trivial | exact Or.inl rfl | exact Or.inr ⟨_, rfl, rfl⟩)
end

section
attribute [local go_sem] encA_length encA_getD encR_one encI_set coefT_len List.drop_nil enCl encI_oneS
set_option maxHeartbeats 16000000 in
theorem k49 (l : List (List Int)) (hl : okAs l) (t : List Int) (ht : t.length = 16) (hv : validR l t = true) : CallsA Tryz.prog 10 [.sl 16 (encA l), .agg (cellsI t)] (.tup [.agg (encPg (progR l t)), .int .i64 0]) := by
 have hlm := hl.1
 unfold maxLen at hlm
 have hl12 : l.length ≤ 12 := by simp only [validR, Bool.and_eq_true, decide_eq_true_eq] at hv; omega
 have hq := And.intro hv (ht)
 refine callsA_of_tr Tryz.func10 rfl (Nat.le_of_ble_eq_true rfl) ?_
 simp only [Tryz.results10, envOf, Nat.reduceAdd]
 refine tr_sR [2, 3, 4] fun K hK => ?_
 iterate 4 refine evR_p ?_
 refine evR_z hK ?_; clear hK K
 refine tr_seq fun K2 hK2 => ?_
 refine tr_sR [2, 3, 4, 16] fun K hK => ?_
 iterate 2 refine evR_p ?_
 refine evR_c (hc := (k86 l hl t ht)) (k := ?_)
 refine evR_p ?_
 refine evR_z hK ?_; clear hK K
 refine tr_condB (fun ht1 => ?_) (fun ht1 => ?_)
 ·
  skip
  (first | (exfalso; omega) | (exfalso; simp_all; done) | skip)
  all_goals
   refine tr_sR [4, 5] fun K hK => ?_
   iterate 3 refine evR_p ?_
   refine evR_z hK ?_; clear hK K
   refine retZ ?_; try exact ⟨⟩
   all_goals (rfl)
 ·
  skip
  (first | (exfalso; omega) | (exfalso; simp_all; done) | skip)
  all_goals
   refine skipZ ?_
   refine hK2 _ ?_
   refine tr_sR [2, 3, 4, 6] fun K hK => ?_
   iterate 5 refine evR_p ?_
   refine evR_z hK ?_; clear hK K
   refine tr_seq fun K6 hK6 => ?_
   refine tr_sR [2, 3, 4, 6, 22, 23] fun K hK => ?_
   iterate 3 refine evR_p ?_
   refine evR_z hK ?_; clear hK K
   refine tr_block ?_
   -- loop 1: live [2, 3, 4, 6, 22, 23]
   refine tr_loopW (fun m σ => ∃ i : Nat, i + m = l.length ∧ σ = ⟨[(2, .ptr 0 0), (3, .ptr 1 0), (4, .ptr 2 0), (6, .ptr 3 0), (22, .int .i64 l.length), (23, .int .i64 (i : Nat))], [(4, .row 3 1 (encI (List.replicate i (-1)))), (3, .cells [.int .i64 l.length, .nsl, .own 4]), (2, .cells [.int .i64 0, .nsl, .nsl]), (1, .cells (cellsI t)), (0, .cells [.sl 16 (encA l)])], 5⟩) (l.length) ?_ ?_
   ·
    exact ⟨_, Wk.nilown 3 1 3 2 rfl (Nat.le_of_ble_eq_true rfl) rfl, 0, by omega, rfl⟩
   ·
    rintro m σ ⟨i, hi, rfl⟩ KL1 hKL1
    refine tr_sR [2, 3, 4, 6, 22, 23, 24] fun K hK => ?_
    refine evR_p ?_
    refine evR_z hK ?_; clear hK K
    refine tr_seq fun K9 hK9 => ?_
    refine tr_condB (fun ht2 => ?_) (fun ht2 => ?_)
    ·
     skip
     (first | (exfalso; omega) | (exfalso; simp_all; done) | skip)
     all_goals
      have hil : i < l.length := by omega
      replace hq := And.intro hq (hil)
      refine skipZ ?_
      refine hK9 _ ?_
      refine tr_seq fun K10 hK10 => ?_
      refine tr_block ?_
      refine tr_region [2, 3, 4, 6, 22, 23] rfl rfl fun K hK => ?_
      iterate 2 refine evR_p ?_
      refine evR_bs ?_
      iterate 3 refine evR_p ?_
      refine evR_e hK ?_; clear hK K
      refine hK10 _ ?_
      refine tr_region [2, 3, 4, 6, 22, 23] rfl rfl fun K hK => ?_
      iterate 2 refine evR_p ?_
      refine evR_e hK ?_; clear hK K
      refine hKL1 _ ?_
      exact ⟨m - 1, _, by omega, (Wk.trans (Wk.ren 5 4 (Nat.le_of_ble_eq_true rfl) (Nat.le_of_ble_eq_true rfl) (by simp [St.noSt, St.ren, St.cutOK, St.cut, AObj.no, AObj.upto, AObj.ren, V.no, V.upto, V.ren, V.noL, V.uptoL, V.renL, cellsI_uptoL, cellsI_noA, cellsI_renA, enC_uptoL])) (Wk.cut 5 (by simp [St.noSt, St.ren, St.cutOK, St.cut, AObj.no, AObj.upto, AObj.ren, V.no, V.upto, V.ren, V.noL, V.uptoL, V.renL, cellsI_uptoL, cellsI_noA, cellsI_renA, enC_uptoL]))), i + 1, by omega, by rw [w64 (x := (i : Int) + 1) (by omega), List.replicate_succ' (n := i)]; simp [St.noSt, St.ren, St.cutOK, St.cut, AObj.no, AObj.upto, AObj.ren, V.no, V.upto, V.ren, V.noL, V.uptoL, V.renL, cellsI_uptoL, cellsI_noA, cellsI_renA, enC_uptoL]⟩
    ·
     skip
     (first | (exfalso; omega) | (exfalso; simp_all; done) | skip)
     all_goals
      have hil : i = l.length := by omega
      subst hil
      refine tr_exit ?_
      simp only [thenE, inBlkE, Nat.reduceEqDiff, ↓reduceIte]
      refine hK6 _ ?_
      refine tr_sR [2, 3, 4, 6, 7] fun K hK => ?_
      iterate 3 refine evR_p ?_
      refine evR_z hK ?_; clear hK K
      refine tr_seq fun K12 hK12 => ?_
      refine tr_seq fun K13 hK13 => ?_
      refine tr_fz [.own 4, .ptr 0 0] (by simp (maxSteps := 4000000) (disch := first | assumption | omega | (simp only [go_sem, *]; done) | (simp only [go_sem, *]; omega)) only [go_sem, hq, Int.reduceToNat, Nat.reduceBEq, Nat.reduceEqDiff, Nat.reduceAdd, Nat.reduceMul, Nat.reduceLeDiff, Nat.reduceLT, Nat.reduceSub, ↓reduceIte, reduceCtorEq]; (try rfl)) ?_
      refine tr_region [2, 4, 6, 7, 33] rfl rfl fun K hK => ?_
      refine evR_p ?_
      refine evR_c (hc := (k95 t)) (k := ?_)
      refine evR_e hK ?_; clear hK K
      refine hK13 _ ?_
      refine tr_block ?_
      -- loop over a function 2: live [2, 4, 6, 7]
      refine tr_wk (Wk.trans (Wk.drop (fun k => k != 1)) (Wk.nilown 57 6 3 1 rfl (Nat.le_of_ble_eq_true rfl) rfl)) ?_
      try simp only [List.map_cons, List.map_nil, Nat.reduceEqDiff, ↓reduceIte, List.set_cons_zero, List.set_cons_succ, Nat.reduceAdd]
      refine tr_rangeFunc (en := enCl) (k139 t ht) enok_C.rel rfl rfl okF_61 rfl (fun pre σ => σ = ⟨[(2, .ep [.sl 16 (encA l)]), (4, .ptr 2 0), (6, .ptr 3 0), (7, .ptr 6 0)], [(7, .row 57 6 (encR (foldR l pre).2)), (6, .cells [.mp 5]), (5, .dict (foldR l pre).1), (3, .cells [.int .i64 l.length, .own 7, .sl 1 (encI (List.replicate l.length (-1)))]), (2, .cells [.int .i64 0, .nsl, .nsl])], 8⟩) [2, 4, 6, 7] ?_ ?_ ?_
      ·
       rfl
      ·
       rintro pre x σ rfl hpre KL2 hKL2 KA2 hKA2
       simp only [St.rd, List.filter_cons, List.filter_nil, List.map_cons, List.map_nil, Nat.blt_eq, Nat.reduceLT, ↓reduceIte, List.cons_append, List.nil_append, Nat.reduceAdd]
       have hfl := foldR_len l pre
       have hml : (foldR l pre).1.length < maxLen := by unfold maxLen; omega
       have hmk : List.replicate l.length [V.int IntKind.i64 0] = encI (coefT l x 0) := by rw [coefT_0, ← encI_rep]
       replace hq := And.intro hq (And.intro hml (hmk))
       refine tr_region [2, 6, 7, 8, 2000002, 2000004, 2000006, 2000007] rfl rfl fun K hK => ?_
       iterate 2 refine evR_p ?_
       refine evR_e hK ?_; clear hK K
       refine hKA2 _ ?_
       refine tr_block ?_
       refine tr_seq fun K14 hK14 => ?_
       refine tr_fz [.ptr 8 0] (by simp (maxSteps := 4000000) (disch := first | assumption | omega | (simp only [go_sem, *]; done) | (simp only [go_sem, *]; omega)) only [go_sem, hq, Int.reduceToNat, Nat.reduceBEq, Nat.reduceEqDiff, Nat.reduceAdd, Nat.reduceMul, Nat.reduceLeDiff, Nat.reduceLT, Nat.reduceSub, ↓reduceIte, reduceCtorEq]; (try rfl)) ?_
       refine tr_cut (fun σ => ∃ σ2, Wk Tryz.f10.ntmps σ σ2 ∧ σ2 = ⟨[(2, .ep [.sl 16 (encA l)]), (6, .ptr 3 0), (7, .ptr 6 0), (8, .ep [.int .i64 (x.1 : Nat), .int .i64 (x.2 : Nat)]), (9, .ptr 10 0), (2000002, .ep [.sl 16 (encA l)]), (2000004, .ptr 2 0), (2000006, .ptr 3 0), (2000007, .ptr 6 0)], [(10, .cells [.int .i64 1, .int .i64 (x.1 : Nat), .int .i64 (x.2 : Nat), .int .i64 0, .own 9, .int .i64 (-1)]), (9, .row 3 1 (encI (coefT l x 0))), (7, .row 57 6 (encR (foldR l pre).2)), (6, .cells [.mp 5]), (5, .dict (foldR l pre).1), (3, .cells [.int .i64 l.length, .own 7, .sl 1 (encI (List.replicate l.length (-1)))]), (2, .cells [.int .i64 0, .nsl, .nsl])], 11⟩) (fun KS hKS => ?_) ?_
       ·
        skip
        refine tr_draw2 [36, 38, 39, 40] 8 6 [0, 1, 2, 3, 4, 5, 6, 7, 8, 9] [8, 0, 1, 2, 3, 4, 5, 6, 7, 9] [2, 6, 7, 8, 9, 2000002, 2000004, 2000006, 2000007] mixed rfl (by kernel_rfl) (by kernel_rfl) (by kernel_rfl) (fun K hK => ?_) (fun K hK => ?_)
        ·
         simp only [pick, List.filterMap_cons, List.filterMap_nil, List.getElem?_cons_zero, List.getElem?_cons_succ, List.map_cons, List.map_nil]
         iterate 10 refine evD_p ?_
         refine evD_e hK ?_; clear hK K
         refine hKS _ ?_
         exact ⟨_, Wk.refl _, rfl⟩
        ·
         simp only [pick, List.filterMap_cons, List.filterMap_nil, List.getElem?_cons_zero, List.getElem?_cons_succ, List.map_cons, List.map_nil]
         iterate 10 refine evD_p ?_
         refine evD_e hK ?_; clear hK K
         refine hKS _ ?_
         exact ⟨_, Wk.trans Wk.more (Wk.trans (Wk.ren 9 11 (Nat.le_of_ble_eq_true rfl) (Nat.le_of_ble_eq_true rfl) (by simp [St.noSt, St.ren, St.cutOK, St.cut, AObj.no, AObj.upto, AObj.ren, V.no, V.upto, V.ren, V.noL, V.uptoL, V.renL, cellsI_uptoL, cellsI_noA, cellsI_renA, enC_uptoL])) (Wk.trans (Wk.ren 10 9 (Nat.le_of_ble_eq_true rfl) (Nat.le_of_ble_eq_true rfl) (by simp [St.noSt, St.ren, St.cutOK, St.cut, AObj.no, AObj.upto, AObj.ren, V.no, V.upto, V.ren, V.noL, V.uptoL, V.renL, cellsI_uptoL, cellsI_noA, cellsI_renA, enC_uptoL])) (Wk.trans (Wk.ren 11 10 (Nat.le_of_ble_eq_true rfl) (Nat.le_of_ble_eq_true rfl) (by simp [St.noSt, St.ren, St.cutOK, St.cut, AObj.no, AObj.upto, AObj.ren, V.no, V.upto, V.ren, V.noL, V.uptoL, V.renL, cellsI_uptoL, cellsI_noA, cellsI_renA, enC_uptoL])) (Wk.trans (Wk.cut 11 (by simp [St.noSt, St.ren, St.cutOK, St.cut, AObj.no, AObj.upto, AObj.ren, V.no, V.upto, V.ren, V.noL, V.uptoL, V.renL, cellsI_uptoL, cellsI_noA, cellsI_renA, enC_uptoL])) Wk.swap)))), rfl⟩
       ·
        rintro σ ⟨_, hwk11, rfl⟩
        refine hK14 _ ?_
        refine tr_seq fun K15 hK15 => ?_
        refine tr_wk hwk11 ?_
        try simp only [List.map_cons, List.map_nil, Nat.reduceEqDiff, ↓reduceIte, List.set_cons_zero, List.set_cons_succ, Nat.reduceAdd]
        refine tr_region [2, 6, 7, 8, 9, 10, 2000002, 2000004, 2000006, 2000007] rfl rfl fun K hK => ?_
        refine evR_p ?_
        refine evR_e hK ?_; clear hK K
        refine hK15 _ ?_
        refine tr_seq fun K16 hK16 => ?_
        refine tr_sR [6, 7, 8, 9, 10, 43, 44, 45, 2000002, 2000004, 2000006, 2000007] fun K hK => ?_
        iterate 3 refine evR_p ?_
        refine evR_z hK ?_; clear hK K
        refine tr_block ?_
        -- loop 3: live [6, 7, 8, 9, 10, 43, 44, 45]
        refine tr_loopW (fun m σ => ∃ i : Nat, i + m = l.length ∧ σ = ⟨[(6, .ptr 3 0), (7, .ptr 6 0), (8, .ep [.int .i64 (x.1 : Nat), .int .i64 (x.2 : Nat)]), (9, .ptr 10 0), (10, .int .i64 (setN l x i : Nat)), (43, .sl 16 (encA l)), (44, .int .i64 l.length), (45, .int .i64 (i : Nat)), (2000002, .ep [.sl 16 (encA l)]), (2000004, .ptr 2 0), (2000006, .ptr 3 0), (2000007, .ptr 6 0)], [(10, .cells [.int .i64 1, .int .i64 (x.1 : Nat), .int .i64 (x.2 : Nat), .int .i64 0, .own 9, .int .i64 (-1)]), (9, .row 3 1 (encI (coefT l x i))), (7, .row 57 6 (encR (foldR l pre).2)), (6, .cells [.mp 5]), (5, .dict (foldR l pre).1), (3, .cells [.int .i64 l.length, .own 7, .sl 1 (encI (List.replicate l.length (-1)))]), (2, .cells [.int .i64 0, .nsl, .nsl])], 11⟩) (l.length) ?_ ?_
        ·
         exact ⟨_, Wk.refl _, 0, by omega, rfl⟩
        ·
         rintro m3 σ ⟨i, hi, rfl⟩ KL3 hKL3
         refine tr_sR [6, 7, 8, 9, 10, 43, 44, 45, 46, 2000002, 2000004, 2000006, 2000007] fun K hK => ?_
         refine evR_p ?_
         refine evR_z hK ?_; clear hK K
         refine tr_seq fun K19 hK19 => ?_
         refine tr_condB (fun ht3 => ?_) (fun ht3 => ?_)
         ·
          skip
          (first | (exfalso; omega) | (exfalso; simp_all; done) | skip)
          all_goals
           have hil : i < l.length := by omega
           have hli := hl.at hil
           have hor := setN_or l x (show i ≤ 12 by omega)
           replace hq := And.intro hq (And.intro hil (And.intro hli (hor)))
           refine skipZ ?_
           refine hK19 _ ?_
           refine tr_seq fun K20 hK20 => ?_
           refine tr_block ?_
           refine tr_sR [6, 7, 8, 9, 10, 11, 12, 43, 44, 45, 2000002, 2000004, 2000006, 2000007] fun K hK => ?_
           iterate 6 refine evR_p ?_
           refine evR_z hK ?_; clear hK K
           refine tr_sR [6, 7, 8, 9, 10, 11, 43, 44, 45, 55, 2000002, 2000004, 2000006, 2000007] fun K hK => ?_
           iterate 5 refine evR_p ?_
           refine evR_c (hc := (ca25 (l.getD i []) hli (x.1 : Nat) (x.2 : Nat))) (k := ?_)
           refine evR_z hK ?_; clear hK K
           refine tr_condB (fun ht4 => ?_) (fun ht4 => ?_)
           ·
            skip
            (first | (exfalso; omega) | (exfalso; simp_all; done) | skip)
            all_goals
             refine tr_sR [6, 7, 8, 9, 10, 11, 43, 44, 45, 2000002, 2000004, 2000006, 2000007] fun K hK => ?_
             iterate 5 refine evR_p ?_
             refine evR_z hK ?_; clear hK K
             refine tr_region [6, 7, 8, 9, 10, 43, 44, 45, 2000002, 2000004, 2000006, 2000007] rfl rfl fun K hK => ?_
             iterate 5 refine evR_p ?_
             refine evR_e hK ?_; clear hK K
             refine hK20 _ ?_
             refine tr_region [6, 7, 8, 9, 10, 43, 44, 45, 2000002, 2000004, 2000006, 2000007] rfl rfl fun K hK => ?_
             iterate 2 refine evR_p ?_
             refine evR_e hK ?_; clear hK K
             refine hKL3 _ ?_
             first
              | exact ⟨m3 - 1, _, by omega, Wk.cut 11 (by simp [St.cutOK, AObj.upto, V.upto, V.uptoL, cellsI_uptoL, enC_uptoL, List.all_cons, List.all_nil, List.filter_cons, List.filter_nil, Nat.blt_eq, Nat.reduceLT, Nat.lt_irrefl, decide_true, decide_false, Bool.and_self, Bool.and_true, Bool.true_and, if_true, if_false, ↓reduceIte, Bool.false_eq_true]), i + 1, by omega, by rw [w64 (x := (i : Int) + 1) (by omega), setN_t ht4, ← coefT_t hil ht4]; rfl⟩
              | exact ⟨m3 - 1, _, by omega, Wk.cut 11 (by simp [St.cutOK, AObj.upto, V.upto, V.uptoL, cellsI_uptoL, enC_uptoL, List.all_cons, List.all_nil, List.filter_cons, List.filter_nil, Nat.blt_eq, Nat.reduceLT, Nat.lt_irrefl, decide_true, decide_false, Bool.and_self, Bool.and_true, Bool.true_and, if_true, if_false, ↓reduceIte, Bool.false_eq_true]), i + 1, by omega, by rw [w64 (x := (i : Int) + 1) (by omega), setN_f ht4, ← coefT_f ht4]; rfl⟩
           ·
            skip
            (first | (exfalso; omega) | (exfalso; simp_all; done) | skip)
            all_goals
             refine skipZ ?_
             refine hK20 _ ?_
             refine tr_region [6, 7, 8, 9, 10, 43, 44, 45, 2000002, 2000004, 2000006, 2000007] rfl rfl fun K hK => ?_
             iterate 2 refine evR_p ?_
             refine evR_e hK ?_; clear hK K
             refine hKL3 _ ?_
             first
              | exact ⟨m3 - 1, _, by omega, Wk.cut 11 (by simp [St.cutOK, AObj.upto, V.upto, V.uptoL, cellsI_uptoL, enC_uptoL, List.all_cons, List.all_nil, List.filter_cons, List.filter_nil, Nat.blt_eq, Nat.reduceLT, Nat.lt_irrefl, decide_true, decide_false, Bool.and_self, Bool.and_true, Bool.true_and, if_true, if_false, ↓reduceIte, Bool.false_eq_true]), i + 1, by omega, by rw [w64 (x := (i : Int) + 1) (by omega), setN_t ht4, ← coefT_t hil ht4]; rfl⟩
              | exact ⟨m3 - 1, _, by omega, Wk.cut 11 (by simp [St.cutOK, AObj.upto, V.upto, V.uptoL, cellsI_uptoL, enC_uptoL, List.all_cons, List.all_nil, List.filter_cons, List.filter_nil, Nat.blt_eq, Nat.reduceLT, Nat.lt_irrefl, decide_true, decide_false, Bool.and_self, Bool.and_true, Bool.true_and, if_true, if_false, ↓reduceIte, Bool.false_eq_true]), i + 1, by omega, by rw [w64 (x := (i : Int) + 1) (by omega), setN_f ht4, ← coefT_f ht4]; rfl⟩
         ·
          skip
          (first | (exfalso; omega) | (exfalso; simp_all; done) | skip)
          all_goals
           have hil : i = l.length := by omega
           subst hil
           refine tr_exit ?_
           simp only [thenE, inBlkE, Nat.reduceEqDiff, ↓reduceIte]
           refine hK16 _ ?_
           refine tr_sR [6, 7, 9, 10, 68, 2000002, 2000004, 2000006, 2000007] fun K hK => ?_
           iterate 4 refine evR_p ?_
           refine evR_z hK ?_; clear hK K
           refine tr_condB (fun ht5 => ?_) (fun ht5 => ?_)
           ·
            skip
            (first | (exfalso; omega) | (exfalso; simp_all; done) | skip)
            all_goals
             refine tr_seq fun K25 hK25 => ?_
             refine tr_fz [.own 9] (by simp (maxSteps := 4000000) (disch := first | assumption | omega | (simp only [go_sem, *]; done) | (simp only [go_sem, *]; omega)) only [go_sem, hq, Int.reduceToNat, Nat.reduceBEq, Nat.reduceEqDiff, Nat.reduceAdd, Nat.reduceMul, Nat.reduceLeDiff, Nat.reduceLT, Nat.reduceSub, ↓reduceIte, reduceCtorEq]; (try rfl)) ?_
             refine tr_region [6, 9, 2000002, 2000004, 2000006, 2000007] rfl rfl fun K hK => ?_
             iterate 3 refine evR_p ?_
             refine evR_e hK ?_; clear hK K
             refine hK25 _ ?_
             refine tr_region [2000002, 2000004, 2000006, 2000007] rfl rfl fun K hK => ?_
             iterate 3 refine evR_p ?_
             refine evR_bs ?_
             iterate 3 refine evR_p ?_
             refine evR_e hK ?_; clear hK K
             refine hKL2 _ ?_
             refine bk_of [(2, _), (4, _), (6, _), (7, _)] _ _ ?_
             first
              | exact ⟨_, (Wk.trans (Wk.ren 11 7 (Nat.le_of_ble_eq_true rfl) (Nat.le_of_ble_eq_true rfl) (by simp [St.noSt, St.ren, St.cutOK, St.cut, AObj.no, AObj.upto, AObj.ren, V.no, V.upto, V.ren, V.noL, V.uptoL, V.renL, cellsI_uptoL, cellsI_noA, cellsI_renA, enC_uptoL])) (Wk.cut 8 (by simp [St.noSt, St.ren, St.cutOK, St.cut, AObj.no, AObj.upto, AObj.ren, V.no, V.upto, V.ren, V.noL, V.uptoL, V.renL, cellsI_uptoL, cellsI_noA, cellsI_renA, enC_uptoL]))), by rw [foldR_snoc, stepR_f (by assumption)]; rfl⟩
              | exact ⟨_, Wk.cut 8 (by simp [St.cutOK, AObj.upto, V.upto, V.uptoL, cellsI_uptoL, enC_uptoL, List.all_cons, List.all_nil, List.filter_cons, List.filter_nil, Nat.blt_eq, Nat.reduceLT, Nat.lt_irrefl, decide_true, decide_false, Bool.and_self, Bool.and_true, Bool.true_and, if_true, if_false, ↓reduceIte, Bool.false_eq_true]), by rw [foldR_snoc, stepR_t (by assumption)]; rfl⟩
           ·
            skip
            (first | (exfalso; omega) | (exfalso; simp_all; done) | skip)
            all_goals
             refine skipZ ?_
             refine hKL2 _ ?_
             refine bk_of [(2, _), (4, _), (6, _), (7, _)] _ _ ?_
             first
              | exact ⟨_, (Wk.trans (Wk.ren 11 7 (Nat.le_of_ble_eq_true rfl) (Nat.le_of_ble_eq_true rfl) (by simp [St.noSt, St.ren, St.cutOK, St.cut, AObj.no, AObj.upto, AObj.ren, V.no, V.upto, V.ren, V.noL, V.uptoL, V.renL, cellsI_uptoL, cellsI_noA, cellsI_renA, enC_uptoL])) (Wk.cut 8 (by simp [St.noSt, St.ren, St.cutOK, St.cut, AObj.no, AObj.upto, AObj.ren, V.no, V.upto, V.ren, V.noL, V.uptoL, V.renL, cellsI_uptoL, cellsI_noA, cellsI_renA, enC_uptoL]))), by rw [foldR_snoc, stepR_f (by assumption)]; rfl⟩
              | exact ⟨_, Wk.cut 8 (by simp [St.cutOK, AObj.upto, V.upto, V.uptoL, cellsI_uptoL, enC_uptoL, List.all_cons, List.all_nil, List.filter_cons, List.filter_nil, Nat.blt_eq, Nat.reduceLT, Nat.lt_irrefl, decide_true, decide_false, Bool.and_self, Bool.and_true, Bool.true_and, if_true, if_false, ↓reduceIte, Bool.false_eq_true]), by rw [foldR_snoc, stepR_t (by assumption)]; rfl⟩
      ·
       rintro pre σ hS rfl
       subst hS
       refine hK12 _ ?_
       refine tr_seq fun K26 hK26 => ?_
       refine tr_fz [.own 7] (by simp (maxSteps := 4000000) (disch := first | assumption | omega | (simp only [go_sem, *]; done) | (simp only [go_sem, *]; omega)) only [go_sem, hq, Int.reduceToNat, Nat.reduceBEq, Nat.reduceEqDiff, Nat.reduceAdd, Nat.reduceMul, Nat.reduceLeDiff, Nat.reduceLT, Nat.reduceSub, ↓reduceIte, reduceCtorEq]; (try rfl)) ?_
       refine tr_region [4, 5] rfl rfl fun K hK => ?_
       iterate 3 refine evR_p ?_
       refine evR_e hK ?_; clear hK K
       refine hK26 _ ?_
       refine retZ ?_; try exact ⟨⟩
       all_goals (rfl)
end

section
attribute [local go_sem] encA_length encA_getD
theorem k53 (l : List (List Int)) (hl : okAs l) (hl12 : l.length ≤ 12) (set : Int) (hv : validR l zeros16 = true) (h0 : 0 ≤ set) (h1 : set < ((2 ^ l.length : Nat) : Int)) : CallsA Tryz.prog 19 [.sl 16 (encA l), .int .i64 set] (.tup [.agg (cellsI (reachedL l set)), .int .i64 0]) := by
 have hlm := hl.1
 unfold maxLen at hlm
 have hul : (unionL (chosenL l set)).length = 16 := unionT_len (chosenT_ok hl set l.length (Nat.le_refl _)) _ (Nat.le_refl _)
 have hspl := cellsI_full (unionL (chosenL l set)) (cellsI (List.replicate 16 0)) (by rw [cellsI_length, hul]; rfl)
 have htk : List.take 16 (cellsI (unionL (chosenL l set))) = cellsI (unionL (chosenL l set)) := List.take_of_length_le (by rw [cellsI_length, hul]; decide)
 have hsh : shlW .i64 1 (l.length : Nat) = ((2 ^ l.length : Nat) : Int) := shl1 (by omega)
 have h16 : (zeros16 : List Int).length = 16 := rfl
 have hcc : 0 < 2 ^ l.length := Nat.pos_of_ne_zero (by simp)
 clear hcc
 have hq := And.intro hv (And.intro hsh (And.intro hul (And.intro hspl (htk))))
 refine callsA_of_tr Tryz.func19 rfl (Nat.le_of_ble_eq_true rfl) ?_
 simp only [Tryz.results19, envOf, Nat.reduceAdd]
 refine tr_sR [0, 1, 4] fun K hK => ?_
 iterate 2 refine evR_p ?_
 refine evR_z hK ?_; clear hK K
 refine tr_seq fun K2 hK2 => ?_
 refine tr_sR [0, 1, 4, 20] fun K hK => ?_
 iterate 2 refine evR_p ?_
 refine evR_c (hc := (k86 l hl zeros16 rfl)) (k := ?_)
 iterate 2 refine evR_p ?_
 iterate 2 refine evR_g ?_
 iterate 2 refine evR_p ?_
 iterate 5 refine evR_g ?_
 refine evR_p ?_
 refine evR_z hK ?_; clear hK K
 refine tr_condB (fun ht1 => ?_) (fun ht1 => ?_)
 ·
  skip
  (first | (exfalso; omega) | (exfalso; simp_all; done) | skip)
  all_goals
   refine tr_sR [4, 5] fun K hK => ?_
   iterate 3 refine evR_p ?_
   refine evR_z hK ?_; clear hK K
   refine retZ ?_; try exact ⟨⟩
   all_goals (first | exact ⟨cellsI_cl _, rfl⟩ | exact ⟨Nat.le_refl _, cellsI_cl _, rfl⟩ | exact ⟨by rw [cellsI_length, hul]; decide, cellsI_cl _, rfl⟩ | rfl)
 ·
  skip
  (first | (exfalso; omega) | (exfalso; simp_all; done) | skip)
  all_goals
   refine skipZ ?_
   refine hK2 _ ?_
   refine tr_sR [4, 5] fun K hK => ?_
   iterate 2 refine evR_p ?_
   refine evR_c (hc := (k103 l hl (by omega) set)) (k := ?_)
   refine evR_c (hc := (k102 (chosenL l set) (chosenT_ok hl set l.length (Nat.le_refl _)))) (k := ?_)
   iterate 2 refine evR_p ?_
   refine evR_z hK ?_; clear hK K
   refine retZ ?_; try exact ⟨⟩
   all_goals (first | exact ⟨cellsI_cl _, rfl⟩ | exact ⟨Nat.le_refl _, cellsI_cl _, rfl⟩ | exact ⟨by rw [cellsI_length, hul]; decide, cellsI_cl _, rfl⟩ | rfl)
end

section
attribute [local go_sem] encA_length encA_getD
theorem k53n (l : List (List Int)) (hl : okAs l) (hl12 : l.length ≤ 12) (set : Int) (h1 : validR l zeros16 = false ∨ set < 0 ∨ ((2 ^ l.length : Nat) : Int) ≤ set) : CallsA Tryz.prog 19 [.sl 16 (encA l), .int .i64 set] (.tup [.agg (cellsI zeros16), .int .i64 280]) := by
 have hlm := hl.1
 unfold maxLen at hlm
 have hsh : shlW .i64 1 (l.length : Nat) = ((2 ^ l.length : Nat) : Int) := shl1 (by omega)
 have h16 : (zeros16 : List Int).length = 16 := rfl
 have hcc : 0 < 2 ^ l.length := Nat.pos_of_ne_zero (by simp)
 clear hcc
 have hq := hsh
 refine callsA_of_tr Tryz.func19 rfl (Nat.le_of_ble_eq_true rfl) ?_
 simp only [Tryz.results19, envOf, Nat.reduceAdd]
 refine tr_sR [0, 1, 4] fun K hK => ?_
 iterate 2 refine evR_p ?_
 refine evR_z hK ?_; clear hK K
 refine tr_seq fun K2 hK2 => ?_
 refine tr_sR [0, 1, 4, 20] fun K hK => ?_
 iterate 2 refine evR_p ?_
 refine evR_c (hc := (k86 l hl zeros16 rfl)) (k := ?_)
 iterate 2 refine evR_p ?_
 iterate 2 refine evR_g ?_
 iterate 2 refine evR_p ?_
 iterate 5 refine evR_g ?_
 refine evR_p ?_
 refine evR_z hK ?_; clear hK K
 refine tr_condB (fun ht1 => ?_) (fun ht1 => ?_)
 ·
  skip
  (first | (exfalso; omega) | (exfalso; simp_all; done) | skip)
  all_goals
   refine tr_sR [4, 5] fun K hK => ?_
   iterate 3 refine evR_p ?_
   refine evR_z hK ?_; clear hK K
   refine retZ ?_; try exact ⟨⟩
   all_goals (rfl)
 ·
  exfalso; first | omega | (simp_all; done) | (simp_all; omega)
end

section
attribute [local go_sem] encA_length encA_getD
theorem k52 (l : List (List Int)) (hl : okAs l) (t : List Int) (ht : t.length = 16) (hv : validR l t = true) : CallsA Tryz.prog 8 [.sl 16 (encA l), .agg (cellsI t)] (.tup [.agg (cellsI (minusA t (unionL l))), .int .i64 0]) := by
 have hlm := hl.1
 unfold maxLen at hlm
 have hul : (unionL l).length = 16 := unionT_len hl _ (Nat.le_refl _)
 have hml : (minusA t (unionL l)).length = 16 := minusA_len ht hul
 have hspl := cellsI_full (minusA t (unionL l)) (cellsI (List.replicate 16 0)) (by rw [cellsI_length, hml]; rfl)
 have htk : List.take 16 (cellsI (minusA t (unionL l))) = cellsI (minusA t (unionL l)) := List.take_of_length_le (by rw [cellsI_length, hml]; decide)
 have hq := And.intro hv (And.intro ht (And.intro hul (And.intro hml (And.intro hspl (htk)))))
 refine callsA_of_tr Tryz.func8 rfl (Nat.le_of_ble_eq_true rfl) ?_
 simp only [Tryz.results8, envOf, Nat.reduceAdd]
 refine tr_sR [0, 3, 4] fun K hK => ?_
 iterate 3 refine evR_p ?_
 refine evR_z hK ?_; clear hK K
 refine tr_seq fun K2 hK2 => ?_
 refine tr_sR [0, 3, 4, 9] fun K hK => ?_
 iterate 2 refine evR_p ?_
 refine evR_c (hc := (k86 l hl t ht)) (k := ?_)
 refine evR_p ?_
 refine evR_z hK ?_; clear hK K
 refine tr_condB (fun ht1 => ?_) (fun ht1 => ?_)
 ·
  skip
  (first | (exfalso; omega) | (exfalso; simp_all; done) | skip)
  all_goals
   refine tr_sR [4, 5] fun K hK => ?_
   iterate 3 refine evR_p ?_
   refine evR_z hK ?_; clear hK K
   refine retZ ?_; try exact ⟨⟩
   all_goals (first | exact ⟨cellsI_cl _, rfl⟩ | exact ⟨Nat.le_refl _, cellsI_cl _, rfl⟩ | exact ⟨by rw [cellsI_length, hml]; decide, cellsI_cl _, rfl⟩ | rfl)
 ·
  skip
  (first | (exfalso; omega) | (exfalso; simp_all; done) | skip)
  all_goals
   refine skipZ ?_
   refine hK2 _ ?_
   refine tr_sD [] [4, 5] fun K hK => ?_
   iterate 2 refine evD_p ?_
   refine evD_c (hc := (k102 l hl)) (k := ?_)
   refine evD_c (hc := (ca21u t (unionL l) ht hul)) (k := ?_)
   iterate 2 refine evD_p ?_
   refine evD_z hK ?_; clear hK K
   refine retZ ?_; try exact ⟨⟩
   all_goals (first | exact ⟨cellsI_cl _, rfl⟩ | exact ⟨Nat.le_refl _, cellsI_cl _, rfl⟩ | exact ⟨by rw [cellsI_length, hml]; decide, cellsI_cl _, rfl⟩ | rfl)
end

section
attribute [local go_sem] encA_length encA_getD encSol2
theorem k43 (l : List (List Int)) (hl : okAs l) (t : List Int) (ht : t.length = 16) (hv : validR l t = true) (hvM : validB (progR l t) = true) : CallsA Tryz.prog 12 [.sl 16 (encA l), .agg (cellsI t)] (.tup [.agg (encSol2 (progR l t)), .int .i64 0]) := by
 have hlm := hl.1
 unfold maxLen at hlm
 have hq := And.intro hv (ht)
 refine callsA_of_tr Tryz.func12 rfl (Nat.le_of_ble_eq_true rfl) ?_
 simp only [Tryz.results12, envOf, Nat.reduceAdd]
 refine tr_sR [0, 3, 4] fun K hK => ?_
 iterate 3 refine evR_p ?_
 refine evR_z hK ?_; clear hK K
 refine tr_sR [4, 6, 7] fun K hK => ?_
 iterate 2 refine evR_p ?_
 refine evR_c (hc := (k49 l hl t ht hv)) (k := ?_)
 iterate 6 refine evR_p ?_
 refine evR_z hK ?_; clear hK K
 refine tr_seq fun K3 hK3 => ?_
 refine tr_sR [4, 6, 7, 16] fun K hK => ?_
 iterate 2 refine evR_p ?_
 refine evR_z hK ?_; clear hK K
 refine tr_condB (fun ht1 => ?_) (fun ht1 => ?_)
 ·
  skip
  (first | (exfalso; omega) | (exfalso; simp_all; done) | skip)
  all_goals
   refine tr_sR [4, 5] fun K hK => ?_
   iterate 4 refine evR_p ?_
   refine evR_z hK ?_; clear hK K
   refine retZ ?_; try exact ⟨⟩
   all_goals (rfl)
 ·
  skip
  (first | (exfalso; omega) | (exfalso; simp_all; done) | skip)
  all_goals
   refine skipZ ?_
   refine hK3 _ ?_
   refine tr_sR [4, 7, 8] fun K hK => ?_
   refine evR_p ?_
   refine evR_c (hc := (s36 hvM)) (k := ?_)
   iterate 6 refine evR_p ?_
   refine evR_z hK ?_; clear hK K
   refine tr_seq fun K7 hK7 => ?_
   refine tr_sR [4, 8, 25] fun K hK => ?_
   iterate 2 refine evR_p ?_
   refine evR_z hK ?_; clear hK K
   refine tr_condB (fun ht2 => ?_) (fun ht2 => ?_)
   ·
    skip
    (first | (exfalso; omega) | (exfalso; simp_all; done) | skip)
    all_goals
     refine tr_sR [4, 5] fun K hK => ?_
     iterate 3 refine evR_p ?_
     refine evR_z hK ?_; clear hK K
     refine retZ ?_; try exact ⟨⟩
     all_goals (rfl)
   ·
    skip
    (first | (exfalso; omega) | (exfalso; simp_all; done) | skip)
    all_goals
     refine skipZ ?_
     refine hK7 _ ?_
     refine tr_sR [4, 5] fun K hK => ?_
     iterate 3 refine evR_p ?_
     refine evR_z hK ?_; clear hK K
     refine retZ ?_; try exact ⟨⟩
     all_goals (rfl)
end

theorem k91 (set : Int) : CallsA Tryz.prog 50 [.int .i64 set] (.int .i64 (manyR set 12)) := by
 have hq : True := trivial
 refine callsA_of_tr Tryz.func50 rfl (Nat.le_of_ble_eq_true rfl) ?_
 simp only [Tryz.results50, envOf, Nat.reduceAdd]
 refine tr_sR [0] fun K hK => ?_
 refine evR_p ?_
 refine evR_z hK ?_; clear hK K
 refine tr_sR [0, 3] fun K hK => ?_
 refine evR_p ?_
 refine evR_z hK ?_; clear hK K
 refine tr_seq fun K3 hK3 => ?_
 refine tr_sR [0, 3, 4] fun K hK => ?_
 refine evR_p ?_
 refine evR_z hK ?_; clear hK K
 refine tr_block ?_
 -- loop 1: live [0, 3, 4]
 refine tr_loopW (fun m σ => ∃ i : Nat, i + m = 12 ∧ σ = ⟨[(0, .int .i64 set), (3, .int .i64 (manyR set i)), (4, .int .i64 (i : Nat))], [], 0⟩) (12) ?_ ?_
 ·
  exact ⟨_, Wk.refl _, 0, by omega, rfl⟩
 ·
  rintro m σ ⟨i, hi, rfl⟩ KL1 hKL1
  refine tr_seq fun K5 hK5 => ?_
  refine tr_sR [0, 3, 4, 6] fun K hK => ?_
  iterate 2 refine evR_p ?_
  refine evR_z hK ?_; clear hK K
  refine tr_condB (fun ht1 => ?_) (fun ht1 => ?_)
  ·
   skip
   have hil : i < 12 := by omega
   refine skipZ ?_
   refine hK5 _ ?_
   refine tr_seq fun K7 hK7 => ?_
   refine tr_block ?_
   refine tr_region [0, 3, 4] rfl rfl fun K hK => ?_
   iterate 7 refine evR_p ?_
   refine evR_e hK ?_; clear hK K
   refine hK7 _ ?_
   refine tr_region [0, 3, 4] rfl rfl fun K hK => ?_
   iterate 3 refine evR_p ?_
   refine evR_e hK ?_; clear hK K
   refine hKL1 _ ?_
   exact ⟨m - 1, _, by omega, Wk.refl _, i + 1, by omega, by rw [w64 (x := (i : Int) + 1) (by omega), manyR_w set (by omega)]; rfl⟩
  ·
   skip
   have hil : i = 12 := by omega
   subst hil
   refine tr_exit ?_
   simp only [thenE, inBlkE, Nat.reduceEqDiff, ↓reduceIte]
   refine hK3 _ ?_
   refine tr_sR [2] fun K hK => ?_
   iterate 2 refine evR_p ?_
   refine evR_z hK ?_; clear hK K
   refine retZ ?_; try exact ⟨⟩
   all_goals (rfl)

section
attribute [local go_sem] encA_length encA_getD
theorem k47a (l : List (List Int)) (hl : okAs l) (t : List Int) (ht : t.length = 16) (hv : validR l t = true) (fd : Bool) (set gain : Int) (pf : List Sg) (kR : CallsA Tryz.prog 45 [.agg (encPg (progR l t)), .sl 4 (encSgs pf)] (.bool (refutesW (progR l t) pf))) (kB : ∀ n : Int, CallsA Tryz.prog 47 [.agg (encPg (progR l t)), .sl 4 (encSgs pf), .int .i64 n] (.bool (boundsW (progR l t) pf n))) (hfd : fd = false) : CallsA Tryz.prog 22 [.sl 16 (encA l), .agg (cellsI t), .agg [.bool fd, .int .i64 set, .int .i64 gain, .sl 4 (encSgs pf)]] (.bool (decide (set = 0) && decide (gain = 0) && refutesW (progR l t) pf)) := by
 have hlm := hl.1
 unfold maxLen at hlm
 subst hfd
 have hq := And.intro hv (ht)
 refine callsA_of_tr Tryz.func22 rfl (Nat.le_of_ble_eq_true rfl) ?_
 simp only [Tryz.results22, envOf, Nat.reduceAdd]
 refine tr_sR [0, 4, 5] fun K hK => ?_
 iterate 3 refine evR_p ?_
 refine evR_z hK ?_; clear hK K
 refine tr_sR [0, 4, 5, 7, 8] fun K hK => ?_
 iterate 2 refine evR_p ?_
 refine evR_c (hc := (k49 l hl t ht hv)) (k := ?_)
 iterate 6 refine evR_p ?_
 refine evR_z hK ?_; clear hK K
 refine tr_seq fun K3 hK3 => ?_
 refine tr_sR [0, 4, 5, 7, 18] fun K hK => ?_
 iterate 2 refine evR_p ?_
 refine evR_z hK ?_; clear hK K
 refine tr_condB (fun ht1 => ?_) (fun ht1 => ?_)
 ·
  exfalso; first | omega | (simp_all; done) | (simp_all; omega)
 ·
  skip
  (first | (exfalso; omega) | (exfalso; simp_all; done) | skip)
  all_goals
   refine skipZ ?_
   refine hK3 _ ?_
   refine tr_seq fun K5 hK5 => ?_
   refine tr_sR [0, 4, 5, 7, 21] fun K hK => ?_
   iterate 3 refine evR_p ?_
   refine evR_z hK ?_; clear hK K
   refine tr_condB (fun ht2 => ?_) (fun ht2 => ?_)
   ·
    skip
    (first | (exfalso; omega) | (exfalso; simp_all; done) | skip)
    all_goals
     refine tr_sR [6] fun K hK => ?_
     iterate 4 refine evR_p ?_
     iterate 3 refine evR_g ?_
     iterate 2 refine evR_p ?_
     iterate 3 refine evR_g ?_
     refine evR_gc (hc := kR) (k := ?_)
     iterate 2 refine evR_p ?_
     refine evR_z hK ?_; clear hK K
     refine retZ ?_; try exact ⟨⟩
     all_goals ((cases hq1 : decide (set = 0) <;> cases hq2 : decide (gain = 0) <;> simp_all))
   ·
    exfalso; first | omega | (simp_all; done) | (simp_all; omega)
end

section
attribute [local go_sem] encA_length encA_getD
theorem k47b (l : List (List Int)) (hl : okAs l) (t : List Int) (ht : t.length = 16) (hl12 : l.length ≤ 12) (hv : validR l t = true) (hv0 : validR l zeros16 = true) (fd : Bool) (set gain : Int) (pf : List Sg) (kR : CallsA Tryz.prog 45 [.agg (encPg (progR l t)), .sl 4 (encSgs pf)] (.bool (refutesW (progR l t) pf))) (kB : ∀ n : Int, CallsA Tryz.prog 47 [.agg (encPg (progR l t)), .sl 4 (encSgs pf), .int .i64 n] (.bool (boundsW (progR l t) pf n))) (hfd : fd = true) (h0 : 0 ≤ set) (h1 : set < ((2 ^ l.length : Nat) : Int)) : CallsA Tryz.prog 22 [.sl 16 (encA l), .agg (cellsI t), .agg [.bool fd, .int .i64 set, .int .i64 gain, .sl 4 (encSgs pf)]] (.bool (decide (minusA t (reachedL l set) = zeros16) && (decide (gain = -onesW (IntKind.u64.wrap set)) && boundsW (progR l t) pf gain))) := by
 have hlm := hl.1
 unfold maxLen at hlm
 subst hfd
 have hrl : (reachedL l set).length = 16 := unionT_len (chosenT_ok hl set l.length (Nat.le_refl _)) _ (Nat.le_refl _)
 have hml : (minusA t (reachedL l set)).length = 16 := minusA_len ht hrl
 have hrf := cellsI_full (reachedL l set) (cellsI (List.replicate 16 0)) (by rw [cellsI_length, hrl]; rfl)
 have hrk : List.take 16 (cellsI (reachedL l set)) = cellsI (reachedL l set) := List.take_of_length_le (by rw [cellsI_length, hrl]; decide)
 have hq := And.intro hv (And.intro ht (And.intro hrl (And.intro hml (And.intro hrf (hrk)))))
 refine callsA_of_tr Tryz.func22 rfl (Nat.le_of_ble_eq_true rfl) ?_
 simp only [Tryz.results22, envOf, Nat.reduceAdd]
 refine tr_sR [0, 4, 5] fun K hK => ?_
 iterate 3 refine evR_p ?_
 refine evR_z hK ?_; clear hK K
 refine tr_sR [0, 4, 5, 7, 8] fun K hK => ?_
 iterate 2 refine evR_p ?_
 refine evR_c (hc := (k49 l hl t ht hv)) (k := ?_)
 iterate 6 refine evR_p ?_
 refine evR_z hK ?_; clear hK K
 refine tr_seq fun K3 hK3 => ?_
 refine tr_sR [0, 4, 5, 7, 18] fun K hK => ?_
 iterate 2 refine evR_p ?_
 refine evR_z hK ?_; clear hK K
 refine tr_condB (fun ht1 => ?_) (fun ht1 => ?_)
 ·
  exfalso; first | omega | (simp_all; done) | (simp_all; omega)
 ·
  skip
  (first | (exfalso; omega) | (exfalso; simp_all; done) | skip)
  all_goals
   refine skipZ ?_
   refine hK3 _ ?_
   refine tr_seq fun K5 hK5 => ?_
   refine tr_sR [0, 4, 5, 7, 21] fun K hK => ?_
   iterate 3 refine evR_p ?_
   refine evR_z hK ?_; clear hK K
   refine tr_condB (fun ht2 => ?_) (fun ht2 => ?_)
   ·
    exfalso; first | omega | (simp_all; done) | (simp_all; omega)
   ·
    skip
    (first | (exfalso; omega) | (exfalso; simp_all; done) | skip)
    all_goals
     refine skipZ ?_
     refine hK5 _ ?_
     refine tr_sR [4, 5, 7, 8, 9] fun K hK => ?_
     iterate 3 refine evR_p ?_
     refine evR_c (hc := (k53 l hl hl12 set hv0 h0 h1)) (k := ?_)
     iterate 6 refine evR_p ?_
     refine evR_z hK ?_; clear hK K
     refine tr_sR [5, 7, 10] fun K hK => ?_
     iterate 3 refine evR_p ?_
     iterate 2 refine evR_g ?_
     refine evR_gc (hc := (ca21u t (reachedL l set) ht hrl)) (k := ?_)
     iterate 2 refine evR_g ?_
     iterate 2 refine evR_p ?_
     refine evR_z hK ?_; clear hK K
     refine tr_sD [] [6] fun K hK => ?_
     iterate 2 refine evD_p ?_
     iterate 5 refine evD_g ?_
     refine evD_gc (hc := (ca43 _)) (k := ?_)
     iterate 2 refine evD_g ?_
     iterate 2 refine evD_p ?_
     iterate 5 refine evD_g ?_
     refine evD_gc (hc := (kB _)) (k := ?_)
     iterate 2 refine evD_p ?_
     refine evD_z hK ?_; clear hK K
     refine retZ ?_; try exact ⟨⟩
     all_goals (rw [w64 (x := 0 - onesW (IntKind.u64.wrap set)) (by have := onesW_range (IntKind.u64.wrap set); omega), Int.zero_sub, Bool.and_assoc]; rfl)
end

section
attribute [local go_sem] encA_length encA_getD
theorem k47c (l : List (List Int)) (hl : okAs l) (t : List Int) (ht : t.length = 16) (hl12 : l.length ≤ 12) (hv : validR l t = true) (fd : Bool) (set gain : Int) (pf : List Sg) (kR : CallsA Tryz.prog 45 [.agg (encPg (progR l t)), .sl 4 (encSgs pf)] (.bool (refutesW (progR l t) pf))) (kB : ∀ n : Int, CallsA Tryz.prog 47 [.agg (encPg (progR l t)), .sl 4 (encSgs pf), .int .i64 n] (.bool (boundsW (progR l t) pf n))) (hfd : fd = true) (h1 : validR l zeros16 = false ∨ set < 0 ∨ ((2 ^ l.length : Nat) : Int) ≤ set) : CallsA Tryz.prog 22 [.sl 16 (encA l), .agg (cellsI t), .agg [.bool fd, .int .i64 set, .int .i64 gain, .sl 4 (encSgs pf)]] (.bool false) := by
 have hlm := hl.1
 unfold maxLen at hlm
 subst hfd
 have hrl : (zeros16 : List Int).length = 16 := rfl
 have hq := And.intro hv (ht)
 refine callsA_of_tr Tryz.func22 rfl (Nat.le_of_ble_eq_true rfl) ?_
 simp only [Tryz.results22, envOf, Nat.reduceAdd]
 refine tr_sR [0, 4, 5] fun K hK => ?_
 iterate 3 refine evR_p ?_
 refine evR_z hK ?_; clear hK K
 refine tr_sR [0, 4, 5, 7, 8] fun K hK => ?_
 iterate 2 refine evR_p ?_
 refine evR_c (hc := (k49 l hl t ht hv)) (k := ?_)
 iterate 6 refine evR_p ?_
 refine evR_z hK ?_; clear hK K
 refine tr_seq fun K3 hK3 => ?_
 refine tr_sR [0, 4, 5, 7, 18] fun K hK => ?_
 iterate 2 refine evR_p ?_
 refine evR_z hK ?_; clear hK K
 refine tr_condB (fun ht1 => ?_) (fun ht1 => ?_)
 ·
  exfalso; first | omega | (simp_all; done) | (simp_all; omega)
 ·
  skip
  (first | (exfalso; omega) | (exfalso; simp_all; done) | skip)
  all_goals
   refine skipZ ?_
   refine hK3 _ ?_
   refine tr_seq fun K5 hK5 => ?_
   refine tr_sR [0, 4, 5, 7, 21] fun K hK => ?_
   iterate 3 refine evR_p ?_
   refine evR_z hK ?_; clear hK K
   refine tr_condB (fun ht2 => ?_) (fun ht2 => ?_)
   ·
    exfalso; first | omega | (simp_all; done) | (simp_all; omega)
   ·
    skip
    (first | (exfalso; omega) | (exfalso; simp_all; done) | skip)
    all_goals
     refine skipZ ?_
     refine hK5 _ ?_
     refine tr_sR [4, 5, 7, 8, 9] fun K hK => ?_
     iterate 3 refine evR_p ?_
     refine evR_c (hc := (k53n l hl hl12 set h1)) (k := ?_)
     iterate 6 refine evR_p ?_
     refine evR_z hK ?_; clear hK K
     refine tr_sR [5, 7, 10] fun K hK => ?_
     iterate 3 refine evR_p ?_
     iterate 2 refine evR_g ?_
     refine evR_gc (hc := (ca21u t zeros16 ht hrl)) (k := ?_)
     iterate 2 refine evR_g ?_
     iterate 2 refine evR_p ?_
     refine evR_z hK ?_; clear hK K
     refine tr_sD [] [6] fun K hK => ?_
     iterate 2 refine evD_p ?_
     iterate 5 refine evD_g ?_
     refine evD_gc (hc := (ca43 _)) (k := ?_)
     iterate 2 refine evD_g ?_
     iterate 2 refine evD_p ?_
     iterate 5 refine evD_g ?_
     refine evD_gc (hc := (kB _)) (k := ?_)
     iterate 2 refine evD_p ?_
     refine evD_z hK ?_; clear hK K
     refine retZ ?_; try exact ⟨⟩
     all_goals (rfl)
end

theorem k106 (c n : Int) (hn : 0 < n) : CallsA Tryz.prog 53 [.int .i64 c, .int .i64 n] (.int .i64 (pickW c n)) := by
 have hq : True := trivial
 refine callsA_of_tr Tryz.func53 rfl (Nat.le_of_ble_eq_true rfl) ?_
 simp only [Tryz.results53, envOf, Nat.reduceAdd]
 refine tr_sR [0, 1] fun K hK => ?_
 refine evR_p ?_
 refine evR_z hK ?_; clear hK K
 refine tr_seq fun K2 hK2 => ?_
 refine tr_sR [0, 1, 6] fun K hK => ?_
 iterate 2 refine evR_p ?_
 refine evR_z hK ?_; clear hK K
 refine tr_condB (fun ht1 => ?_) (fun ht1 => ?_)
 ·
  skip
  refine tr_region [0, 1] rfl rfl fun K hK => ?_
  iterate 4 refine evR_p ?_
  refine evR_e hK ?_; clear hK K
  refine hK2 _ ?_
  refine tr_sR [4] fun K hK => ?_
  iterate 4 refine evR_p ?_
  refine evR_z hK ?_; clear hK K
  refine retZ ?_; try exact ⟨⟩
  all_goals (simp [pickW, *])
 ·
  skip
  refine skipZ ?_
  refine hK2 _ ?_
  refine tr_sR [4] fun K hK => ?_
  iterate 4 refine evR_p ?_
  refine evR_z hK ?_; clear hK K
  refine retZ ?_; try exact ⟨⟩
  all_goals (simp [pickW, *])

theorem k57 (x : T3) : CallsA Tryz.prog 26 [.agg [.int .i64 x.p, .int .i64 x.q, .int .i64 x.r]] (.tup [.agg [.int .i64 (mastP x).x, .int .i64 (mastP x).y], .int .i64 (mastR x)]) := by
 have hpr := pickW_abs x.r (n := 30) (by decide)
 have hw6 : IntKind.i64.wrap (6 + pickW x.r 30) = 6 + pickW x.r 30 := w64 (by omega)
 have hq := hw6
 refine callsA_of_tr Tryz.func26 rfl (Nat.le_of_ble_eq_true rfl) ?_
 simp only [Tryz.results26, envOf, Nat.reduceAdd]
 refine tr_sR [1, 2] fun K hK => ?_
 iterate 3 refine evR_p ?_
 refine evR_z hK ?_; clear hK K
 refine tr_sD [] [2, 3] fun K hK => ?_
 iterate 5 refine evD_p ?_
 refine evD_c (hc := (ca30 ⟨x.p, x.q⟩)) (k := ?_)
 iterate 2 refine evD_p ?_
 refine evD_c (hc := (k106 x.r 30 (by decide))) (k := ?_)
 iterate 3 refine evD_p ?_
 refine evD_z hK ?_; clear hK K
 refine retZ ?_; try exact ⟨⟩
 all_goals (first | exact ⟨rfl, rfl⟩ | rfl)

section
attribute [local go_sem] encA_length encA_getD encT_length encT_getD encA_one
theorem k40 (l : List T3) (hm : l.length ≤ maxLen) : CallsA Tryz.prog 5 [.sl 3 (encT l)] (.sl 16 (encA (discsL l))) := by
 have hlm := hm
 unfold maxLen at hlm
 have hq : True := trivial
 refine callsA_of_tr Tryz.func5 rfl (Nat.le_of_ble_eq_true rfl) ?_
 simp only [Tryz.results5, envOf, Nat.reduceAdd]
 refine tr_sR [0] fun K hK => ?_
 refine evR_p ?_
 refine evR_z hK ?_; clear hK K
 refine tr_sR [0, 3] fun K hK => ?_
 refine evR_p ?_
 refine evR_z hK ?_; clear hK K
 refine tr_seq fun K3 hK3 => ?_
 refine tr_sR [0, 3, 4] fun K hK => ?_
 refine evR_p ?_
 refine evR_z hK ?_; clear hK K
 refine tr_block ?_
 -- loop 1: live [0, 3, 4]
 refine tr_loopW (fun m σ => ∃ i : Nat, i + m = 7 ∧ i ≤ l.length ∧ σ = ⟨[(0, .sl 3 (encT l)), (3, .own 0), (4, .int .i64 (i : Nat))], [(0, .row 26 16 (encA ((l.take i).map discV)))], 1⟩) (7) ?_ ?_
 ·
  exact ⟨_, Wk.nilslot 26 16 3 rfl, 0, by omega, by omega, rfl⟩
 ·
  rintro m σ ⟨i, hi, hil0, rfl⟩ KL1 hKL1
  refine tr_seq fun K5 hK5 => ?_
  refine tr_sR [0, 3, 4, 16] fun K hK => ?_
  iterate 5 refine evR_p ?_
  iterate 2 refine evR_g ?_
  refine evR_p ?_
  refine evR_z hK ?_; clear hK K
  refine tr_condB (fun ht1 => ?_) (fun ht1 => ?_)
  ·
   skip
   have hil : i < l.length := by omega
   have hti : ((l.take i).map discV).length = i := by simp; omega
   have hdl : (discA (mastP (l.getD i t30)) (mastR (l.getD i t30))).1.length = 16 := discA_length _ _
   have hrf := cellsI_full (discA (mastP (l.getD i t30)) (mastR (l.getD i t30))).1 (cellsI (List.replicate 16 0)) (by rw [cellsI_length, hdl]; rfl)
   have hrk : List.take 16 (cellsI (discA (mastP (l.getD i t30)) (mastR (l.getD i t30))).1) = cellsI (discA (mastP (l.getD i t30)) (mastR (l.getD i t30))).1 := List.take_of_length_le (by rw [cellsI_length, hdl]; decide)
   have hcl := cellsI_cl (discA (mastP (l.getD i t30)) (mastR (l.getD i t30))).1
   replace hq := And.intro hq (And.intro hil (And.intro hti (And.intro hdl (And.intro hrf (And.intro hrk (hcl))))))
   refine skipZ ?_
   refine hK5 _ ?_
   refine tr_seq fun K7 hK7 => ?_
   refine tr_block ?_
   refine tr_sR [0, 3, 4, 5, 6] fun K hK => ?_
   iterate 4 refine evR_p ?_
   refine evR_c (hc := (k57 (l.getD i t30))) (k := ?_)
   iterate 6 refine evR_p ?_
   refine evR_z hK ?_; clear hK K
   refine tr_sR [0, 3, 4, 7] fun K hK => ?_
   iterate 2 refine evR_p ?_
   refine evR_c (hc := (ca38 (mastP (l.getD i t30)) (mastR (l.getD i t30)))) (k := ?_)
   iterate 6 refine evR_p ?_
   refine evR_z hK ?_; clear hK K
   refine tr_region [0, 3, 4] rfl rfl fun K hK => ?_
   iterate 2 refine evR_p ?_
   refine evR_bs ?_
   iterate 2 refine evR_p ?_
   refine evR_e hK ?_; clear hK K
   refine hK7 _ ?_
   refine tr_region [0, 3, 4] rfl rfl fun K hK => ?_
   iterate 3 refine evR_p ?_
   refine evR_e hK ?_; clear hK K
   refine hKL1 _ ?_
   exact ⟨m - 1, _, by omega, (Wk.trans (Wk.ren 3 0 (Nat.le_of_ble_eq_true rfl) (Nat.le_of_ble_eq_true rfl) (by simp [St.noSt, St.ren, St.cutOK, St.cut, AObj.no, AObj.upto, AObj.ren, V.no, V.upto, V.ren, V.noL, V.uptoL, V.renL, cellsI_uptoL, cellsI_noA, cellsI_renA, enC_uptoL])) (Wk.cut 1 (by simp [St.noSt, St.ren, St.cutOK, St.cut, AObj.no, AObj.upto, AObj.ren, V.no, V.upto, V.ren, V.noL, V.uptoL, V.renL, cellsI_uptoL, cellsI_noA, cellsI_renA, enC_uptoL]))), i + 1, by omega, by omega, by rw [w64 (x := (i : Int) + 1) (by omega), discs_snoc hil]; rfl⟩
  ·
   skip
   have hdn := discs_done (l := l) (i := i) hil0 (by omega) (by assumption)
   refine tr_exit ?_
   simp only [thenE, inBlkE, Nat.reduceEqDiff, ↓reduceIte]
   refine hK3 _ ?_
   refine tr_sR [2] fun K hK => ?_
   iterate 2 refine evR_p ?_
   refine evR_z hK ?_; clear hK K
   refine retZ ?_; try exact ⟨⟩
   all_goals ((rw [hdn]))
end

theorem k41 (l : List Pl) (hm : l.length ≤ maxLen) : CallsA Tryz.prog 6 [.sl 2 (encP l)] (.agg (cellsI (targetL l))) := by
 have hmp : (madeP l).length ≤ maxLen := by have := madeP_length l; unfold maxLen; omega
 have htl : (polyA (madeP l)).1.length = 16 := polyA_length _
 have hrf := cellsI_full (polyA (madeP l)).1 (cellsI (List.replicate 16 0)) (by rw [cellsI_length, htl]; rfl)
 have hrk : List.take 16 (cellsI (polyA (madeP l)).1) = cellsI (polyA (madeP l)).1 := List.take_of_length_le (by rw [cellsI_length, htl]; decide)
 have hq := And.intro hrf (And.intro hrk (htl))
 refine callsA_of_tr Tryz.func6 rfl (Nat.le_of_ble_eq_true rfl) ?_
 simp only [Tryz.results6, envOf, Nat.reduceAdd]
 refine tr_sR [0, 2] fun K hK => ?_
 refine evR_p ?_
 refine evR_z hK ?_; clear hK K
 refine tr_sR [2, 3] fun K hK => ?_
 refine evR_p ?_
 refine evR_c (hc := (ca29 l hm)) (k := ?_)
 refine evR_c (hc := (ca32 (madeP l) hmp)) (k := ?_)
 iterate 6 refine evR_p ?_
 refine evR_z hK ?_; clear hK K
 refine tr_sR [2] fun K hK => ?_
 iterate 2 refine evR_p ?_
 refine evR_z hK ?_; clear hK K
 refine retZ ?_; try exact ⟨⟩
 all_goals (first | exact ⟨cellsI_cl _, rfl⟩ | exact ⟨Nat.le_refl _, cellsI_cl _, rfl⟩ | exact ⟨by rw [cellsI_length, htl]; decide, cellsI_cl _, rfl⟩ | rfl)

theorem k85  : CallsA Tryz.prog 24 [] (.sl 16 (encA exR)) := by
 have hq : True := trivial
 refine callsA_of_tr Tryz.func24 rfl (Nat.le_of_ble_eq_true rfl) ?_
 simp only [Tryz.results24, envOf, Nat.reduceAdd]
 refine tr_sR [] fun K hK => ?_
 refine evR_p ?_
 refine evR_z hK ?_; clear hK K
 refine tr_sR [0] fun K hK => ?_
 iterate 3 refine evR_p ?_
 refine evR_bo ?_
 refine evR_p ?_
 refine evR_z hK ?_; clear hK K
 refine retZ ?_; try exact ⟨⟩
 all_goals (rfl)

def checkC (l : List (List Int)) (t : List Int) (fd : Bool) (set gain : Int) (pf : List Sg) : Bool :=
 if fd then decide (0 ≤ set ∧ set < ((2 ^ l.length : Nat) : Int)) && (decide (minusA t (reachedL l set) = zeros16) && (decide (gain = -onesW (IntKind.u64.wrap set)) && boundsW (progR l t) pf gain))
 else decide (set = 0) && decide (gain = 0) && refutesW (progR l t) pf
theorem valid0 {l : List (List Int)} {t : List Int} (hR : validR l t = true) : validR l zeros16 = true := by
 obtain ⟨h1, h2, -⟩ := validR_iff.1 hR
 exact validR_iff.2 ⟨h1, h2, zeros_has.1⟩
theorem kCheck {l : List (List Int)} (hl : okAs l) {t : List Int} (ht : t.length = 16) (hR : validR l t = true) (fd : Bool) (set gain : Int) (pf : List Sg) (hpf : okPf pf) :
  CallsA Tryz.prog 22 [.sl 16 (encA l), .agg (cellsI t), .agg [.bool fd, .int .i64 set, .int .i64 gain, .sl 4 (encSgs pf)]] (.bool (checkC l t fd set gain pf)) := by
 have h12 := (validR_iff.1 hR).2.1
 have hvM := progR_valid h12 t
 have kR := s24 (okPr_valid hvM) hpf
 have kB := s32 (okPr_valid hvM) hpf
 cases fd with
 | false => exact k47a l hl t ht hR false set gain pf kR kB rfl
 | true =>
  by_cases h : 0 ≤ set ∧ set < ((2 ^ l.length : Nat) : Int)
  ·
   have := k47b l hl t ht h12 hR (valid0 hR) true set gain pf kR kB rfl h.1 h.2
   have e : checkC l t true set gain pf = (decide (minusA t (reachedL l set) = zeros16) && (decide (gain = -onesW (IntKind.u64.wrap set)) && boundsW (progR l t) pf gain)) := by
    unfold checkC; rw [if_pos rfl, decide_eq_true h, Bool.true_and]
   rw [e]; exact this
  ·
   have := k47c l hl t ht h12 hR true set gain pf kR kB rfl (by right; omega)
   have e : checkC l t true set gain pf = false := by
    unfold checkC; rw [if_pos rfl, decide_eq_false h, Bool.false_and]
   rw [e]; exact this
theorem kLeast {l : List (List Int)} (hl : okAs l) {t : List Int} (ht : t.length = 16) (hR : validR l t = true) :
  CallsA Tryz.prog 12 [.sl 16 (encA l), .agg (cellsI t)] (.tup [.agg (encSol2 (progR l t)), .int .i64 0]) := k43 l hl t ht hR (progR_valid (validR_iff.1 hR).2.1 t)
end Go.Proofs.YtfamkbofdamkkaaGreat
namespace Go.Proofs.YtfamkbofdamkkaaGreat
open Go.RowKit
set_option linter.unusedVariables false
set_option linter.unusedSimpArgs false
theorem solveW_f (p : Pg) : (solveB p).1 = (solveW p).found := rfl
theorem solveW_g (p : Pg) : (solveB p).2.2 = (solveW p).gain := rfl
theorem vx (n : Int) (h : validA (tX n) = true := by decide) : validR exR (tX n) = true := ex_val h
theorem sx43 {n : Int} (h : validA (tX n) = true) : CallsA Tryz.prog 12 [.sl 16 (encA exR), .agg (cellsI (tX n))] (.tup [.agg [.bool (solveW (progR exR (tX n))).found, .int .i64 (solveW (progR exR (tX n))).set, .int .i64 (solveW (progR exR (tX n))).gain, .sl 4 (encSgs (prfS (progR exR (tX n))))], .int .i64 0]) := kLeast exR_ok (t := tX n) rfl (ex_val h)
theorem sx1 : ∃ P : List Sg, CallsA Tryz.prog 12 [.sl 16 (encA exR), .agg (cellsI (tX 255))] (.tup [.agg [.bool true, .int .i64 5, .int .i64 (-2), .sl 4 (encSgs P)], .int .i64 0]) ∧
  CallsA Tryz.prog 22 [.sl 16 (encA exR), .agg (cellsI (tX 255)), .agg [.bool true, .int .i64 5, .int .i64 (-2), .sl 4 (encSgs P)]] (.bool true) ∧
  CallsA Tryz.prog 22 [.sl 16 (encA exR), .agg (cellsI (tX 255)), .agg [.bool true, .int .i64 7, .int .i64 (-3), .sl 4 (encSgs P)]] (.bool false) := by
 have hv := progR_valid (l := exR) (by decide) (tX 255)
 have h := sx43 (n := 255) (by decide)
 obtain ⟨e1, e2, e3⟩ := ex255
 rw [e1, e2, e3] at h
 refine ⟨_, h, ?_, ?_⟩
 ·
  have hb := cmp_bound hv ((solveW_f _).trans e1)
  have e3' : (solveB (progR exR (tX 255))).2.2 = -2 := (solveW_g _).trans e3
  rw [e3'] at hb
  have hc := kCheck exR_ok (t := tX 255) rfl (vx 255) true 5 (-2) _ (okPf_prf hv)
  have e : checkC exR (tX 255) true 5 (-2) (prfS (progR exR (tX 255))) = true := by
   unfold checkC
   rw [if_pos rfl, hb, exReach5.1]; decide
  rw [e] at hc; exact hc
 ·
  have hc := kCheck exR_ok (t := tX 255) rfl (vx 255) true 7 (-3) _ (okPf_prf hv)
  have hb : boundsW (progR exR (tX 255)) (prfS (progR exR (tX 255))) (-3) = false := by
   cases hb : boundsW (progR exR (tX 255)) (prfS (progR exR (tX 255))) (-3) with
   | false => rfl
   | true =>
    have := bounds_true hb (v := 3) rfl (s := 5) (by decide) (by decide +kernel)
    exact absurd this (by decide)
  have e : checkC exR (tX 255) true 7 (-3) (prfS (progR exR (tX 255))) = false := by
   unfold checkC
   rw [if_pos rfl, hb, Bool.and_false, Bool.and_false, Bool.and_false]
  rw [e] at hc; exact hc
theorem sx2 : ∃ P : List Sg, CallsA Tryz.prog 12 [.sl 16 (encA exR), .agg (cellsI (tX 12))] (.tup [.agg [.bool true, .int .i64 1, .int .i64 (-1), .sl 4 (encSgs P)], .int .i64 0]) := by
 have h := sx43 (n := 12) (by decide)
 obtain ⟨e1, e2, e3⟩ := ex12
 rw [e1, e2, e3] at h; exact ⟨_, h⟩
theorem sx3 : ∃ P : List Sg, CallsA Tryz.prog 12 [.sl 16 (encA exR), .agg (cellsI (tX 24))] (.tup [.agg [.bool true, .int .i64 2, .int .i64 (-1), .sl 4 (encSgs P)], .int .i64 0]) := by
 have h := sx43 (n := 24) (by decide)
 obtain ⟨e1, e2, e3⟩ := ex24
 rw [e1, e2, e3] at h; exact ⟨_, h⟩
theorem sx4 : ∃ P : List Sg, CallsA Tryz.prog 12 [.sl 16 (encA exR), .agg (cellsI (tX 511))] (.tup [.agg [.bool false, .int .i64 0, .int .i64 0, .sl 4 (encSgs P)], .int .i64 0]) ∧
  CallsA Tryz.prog 22 [.sl 16 (encA exR), .agg (cellsI (tX 511)), .agg [.bool false, .int .i64 0, .int .i64 0, .sl 4 (encSgs P)]] (.bool true) ∧
  CallsA Tryz.prog 22 [.sl 16 (encA exR), .agg (cellsI (tX 255)), .agg [.bool false, .int .i64 0, .int .i64 0, .sl 4 (encSgs P)]] (.bool false) := by
 have hv := progR_valid (l := exR) (by decide) (tX 511)
 have h := sx43 (n := 511) (by decide)
 obtain ⟨e1, e2, e3⟩ := ex511
 rw [e1, e2, e3] at h
 refine ⟨_, h, ?_, ?_⟩
 ·
  have hb := prf_refutes hv ((solveW_f _).trans e1)
  have hc := kCheck exR_ok (t := tX 511) rfl (vx 511) false 0 0 _ (okPf_prf hv)
  have e : checkC exR (tX 511) false 0 0 (prfS (progR exR (tX 511))) = true := by
   unfold checkC
   rw [hb]; decide
  rw [e] at hc; exact hc
 ·
  have hc := kCheck exR_ok (t := tX 255) rfl (vx 255) false 0 0 _ (okPf_prf hv)
  have hb : refutesW (progR exR (tX 255)) (prfS (progR exR (tX 511))) = false := by
   cases hb : refutesW (progR exR (tX 255)) (prfS (progR exR (tX 511))) with
   | false => rfl
   | true =>
    have := refutes_true hb (v := 3) rfl (s := 5) (by decide)
    have h5 : allKept (progR exR (tX 255)).rows (5 : Nat) = true := by decide +kernel
    rw [h5] at this; cases this
  have e : checkC exR (tX 255) false 0 0 (prfS (progR exR (tX 511))) = false := by
   unfold checkC
   rw [hb]; decide
  rw [e] at hc; exact hc
theorem sx5 : CallsA Tryz.prog 10 [.sl 16 (encA exR), .agg (cellsI (tX 255))] (.tup [.agg [.int .i64 3, .sl 6 (encR [⟨1, 0, 0, 0, [-1, 0, 0], -1⟩, ⟨1, 2, 0, 0, [-1, -1, 0], -1⟩, ⟨1, 4, 0, 0, [0, -1, -1], -1⟩, ⟨1, 6, 0, 0, [0, 0, -1], -1⟩]), .sl 1 (encI [-1, -1, -1])], .int .i64 0]) := by
 have h := k49 exR exR_ok (tX 255) rfl (vx 255)
 unfold encPg at h; rw [exRows] at h; exact h
theorem sx6 : CallsA Tryz.prog 8 [.sl 16 (encA exR), .agg (cellsI (tX 511))] (.tup [.agg (cellsI (tX 256)), .int .i64 0]) := by
 have h := k52 exR exR_ok (tX 511) rfl (vx 511); rw [exMiss] at h; exact h
theorem sx7 : CallsA Tryz.prog 19 [.sl 16 (encA exR), .int .i64 3] (.tup [.agg (cellsI (tX 63)), .int .i64 0]) := by
 have h := k53 exR exR_ok (by decide) 3 (valid0 (vx 255)) (by decide) (by decide); rw [exReach] at h; exact h
theorem sx8 : CallsA Tryz.prog 19 [.sl 16 (encA exR), .int .i64 8] (.tup [.agg (cellsI zeros16), .int .i64 280]) := k53n exR exR_ok (by decide) 8 (by decide)
theorem sx9 : CallsA Tryz.prog 14 [.sl 16 (encA exR), .agg (cellsI (tX 1))] (.bool true) := by
 have h := k86 exR exR_ok (tX 1) rfl; rw [vx 1] at h; exact h
theorem sx10 : CallsA Tryz.prog 14 [.sl 16 (encA exR), .agg (cellsI (tX (-1)))] (.bool false) := by
 have h := k86 exR exR_ok (tX (-1)) rfl
 have e : validR exR (tX (-1)) = false := by decide
 rw [e] at h; exact h
set_option maxRecDepth 100000
attribute [local go_sem] Nat.zero_add Nat.add_zero Nat.mul_one eq_self ne_eq not_true_eq_false not_false_eq_true decide_true decide_false decide_not Bool.false_eq_true List.filter_cons List.filter_nil true_and and_true beq_false beq_true Bool.not_true Bool.not_false Bool.and_true Bool.true_and Option.getD_some Option.getD_none imp_self implies_true Int.toNat_natCast List.cons_append List.nil_append List.map_cons List.map_nil List.length_cons List.length_nil List.getD_cons_zero List.getD_cons_succ List.drop_zero List.drop_succ_cons List.take_succ_cons List.take_zero
attribute [local go_sem] Option.isNone_none Option.isNone_some Option.isSome_none List.lookup Option.isSome_some Bool.or_true Bool.true_or Bool.or_false Bool.false_or and_false false_and or_false false_or List.length_append forall_const imp_self
attribute [local go_sem] cellsI_fzL cellsI_uptoL List.getElem?_cons_zero List.getElem?_cons_succ List.zip_cons_cons List.zip_nil_left List.zip_nil_right Bool.false_and Bool.and_false cellsG_length polyA_length discA_length agEq_cells cellsI_isI cellsI_length cellsI_sc cellsI_cl cellsI_rows cellsI_take cellsI_dropD cellsI_set cellsI_full List.length_set List.length_replicate List.all_cons List.all_nil outA_length eachA_length outM_length getD_set_same List.set_set spl_nil0 spl_cons0 spl_succ encP_length encP_getD
attribute [local simp] encP_length padP_length encI_length
attribute [local go_sem] encR_length encR_getD encRw encPg lookV
attribute [local simp] encA_length encR_length cellsI_length
section
attribute [local go_sem] encR encRw
set_option maxHeartbeats 16000000 in
theorem k39  : CallsA Tryz.prog 4 [] (.bool true) := by
 obtain ⟨P1, c1, q1, q2⟩ := sx1
 obtain ⟨P2, c2⟩ := sx2
 obtain ⟨P3, c3⟩ := sx3
 obtain ⟨P4, c4, q3, q4⟩ := sx4
 have e1 : List.take 16 (spl (cellsI (List.replicate 16 0)) 0 (cellsI (tX 256))) = cellsI (tX 256) := by rw [cellsI_full (tX 256) _ rfl]; exact List.take_of_length_le (Nat.le_refl 16)
 have e2 : List.take 16 (spl (cellsI (List.replicate 16 0)) 0 (cellsI (tX 63))) = cellsI (tX 63) := by rw [cellsI_full (tX 63) _ rfl]; exact List.take_of_length_le (Nat.le_refl 16)
 have hq : True := trivial
 refine callsA_of_tr Tryz.func4 rfl (Nat.le_of_ble_eq_true rfl) ?_
 simp only [Tryz.results4, envOf, Nat.reduceAdd]
 refine tr_sR [] fun K hK => ?_
 refine evR_p ?_
 refine evR_z hK ?_; clear hK K
 refine tr_sR [1] fun K hK => ?_
 refine evR_c (hc := k85) (k := ?_)
 refine evR_p ?_
 refine evR_z hK ?_; clear hK K
 refine tr_sR [1, 2, 3] fun K hK => ?_
 iterate 2 refine evR_p ?_
 refine evR_c (hc := c1) (k := ?_)
 iterate 6 refine evR_p ?_
 refine evR_z hK ?_; clear hK K
 refine tr_sR [1, 2, 3, 4, 5] fun K hK => ?_
 iterate 2 refine evR_p ?_
 refine evR_c (hc := c2) (k := ?_)
 iterate 6 refine evR_p ?_
 refine evR_z hK ?_; clear hK K
 refine tr_sR [1, 2, 3, 4, 5, 6, 7] fun K hK => ?_
 iterate 2 refine evR_p ?_
 refine evR_c (hc := c3) (k := ?_)
 iterate 6 refine evR_p ?_
 refine evR_z hK ?_; clear hK K
 refine tr_sR [1, 2, 3, 4, 5, 6, 7, 8, 9] fun K hK => ?_
 iterate 2 refine evR_p ?_
 refine evR_c (hc := sx5) (k := ?_)
 iterate 6 refine evR_p ?_
 refine evR_z hK ?_; clear hK K
 refine tr_sR [1, 2, 3, 4, 5, 6, 7, 8, 9, 10, 11] fun K hK => ?_
 iterate 2 refine evR_p ?_
 refine evR_c (hc := sx6) (k := ?_)
 iterate 6 refine evR_p ?_
 refine evR_z hK ?_; clear hK K
 refine tr_sR [1, 2, 3, 4, 5, 6, 7, 8, 9, 10, 11, 12, 13] fun K hK => ?_
 refine evR_p ?_
 refine evR_c (hc := sx7) (k := ?_)
 iterate 6 refine evR_p ?_
 refine evR_z hK ?_; clear hK K
 refine tr_sR [1, 2, 3, 4, 5, 6, 7, 8, 9, 10, 11, 12, 13, 14, 15] fun K hK => ?_
 iterate 2 refine evR_p ?_
 refine evR_c (hc := c4) (k := ?_)
 iterate 6 refine evR_p ?_
 refine evR_z hK ?_; clear hK K
 refine tr_sR [1, 2, 3, 4, 5, 6, 7, 8, 9, 10, 11, 12, 13, 14, 15, 17] fun K hK => ?_
 refine evR_p ?_
 refine evR_c (hc := sx8) (k := ?_)
 iterate 6 refine evR_p ?_
 refine evR_z hK ?_; clear hK K
 refine tr_seq fun K11 hK11 => ?_
 refine tr_sR [1, 2, 4, 6, 8, 10, 12, 14, 109] fun K hK => ?_
 iterate 3 refine evR_p ?_
 iterate 2 refine evR_g ?_
 iterate 2 refine evR_p ?_
 iterate 2 refine evR_g ?_
 iterate 2 refine evR_p ?_
 iterate 2 refine evR_g ?_
 iterate 2 refine evR_p ?_
 iterate 2 refine evR_g ?_
 iterate 2 refine evR_p ?_
 iterate 2 refine evR_g ?_
 iterate 2 refine evR_p ?_
 iterate 2 refine evR_g ?_
 iterate 2 refine evR_p ?_
 iterate 2 refine evR_g ?_
 iterate 2 refine evR_p ?_
 iterate 4 refine evR_g ?_
 iterate 2 refine evR_p ?_
 iterate 3 refine evR_g ?_
 refine evR_p ?_
 refine evR_z hK ?_; clear hK K
 refine tr_condB (fun ht1 => ?_) (fun ht1 => ?_)
 ·
  skip
  refine tr_sR [0] fun K hK => ?_
  refine evR_p ?_
  refine evR_z hK ?_; clear hK K
  refine retZ ?_; try exact ⟨⟩
  all_goals (first | exact absurd rfl ht1 | (rw [e1, e2, agEq_cells, agEq_cells]; decide) | (rw [e1, e2, agEq_cells, agEq_cells]; rfl))
 ·
  skip
  refine skipZ ?_
  refine hK11 _ ?_
  refine tr_sR [1, 2, 8, 10, 12, 14, 18] fun K hK => ?_
  iterate 3 refine evR_p ?_
  iterate 3 refine evR_g ?_
  iterate 2 refine evR_p ?_
  iterate 3 refine evR_g ?_
  iterate 2 refine evR_p ?_
  iterate 2 refine evR_g ?_
  iterate 2 refine evR_p ?_
  iterate 3 refine evR_g ?_
  iterate 2 refine evR_p ?_
  iterate 3 refine evR_g ?_
  iterate 2 refine evR_p ?_
  iterate 2 refine evR_g ?_
  iterate 2 refine evR_p ?_
  iterate 3 refine evR_g ?_
  iterate 2 refine evR_p ?_
  iterate 3 refine evR_g ?_
  iterate 2 refine evR_p ?_
  iterate 3 refine evR_g ?_
  iterate 2 refine evR_p ?_
  refine evR_z hK ?_; clear hK K
  refine tr_sR [1, 2, 10, 12, 14, 18, 19] fun K hK => ?_
  iterate 7 refine evR_p ?_
  iterate 6 refine evR_g ?_
  refine evR_gc (hc := (c19 [-1, -1, 0] [-1, -1, 0] (by simp [maxLen]) (by simp [maxLen]))) (k := ?_)
  iterate 2 refine evR_p ?_
  iterate 6 refine evR_g ?_
  iterate 2 refine evR_p ?_
  iterate 6 refine evR_g ?_
  refine evR_gc (hc := (c19 [0, 0, -1] [0, 0, -1] (by simp [maxLen]) (by simp [maxLen]))) (k := ?_)
  iterate 2 refine evR_p ?_
  refine evR_z hK ?_; clear hK K
  refine tr_sR [1, 2, 10, 12, 14, 18, 19, 20] fun K hK => ?_
  iterate 3 refine evR_p ?_
  refine evR_z hK ?_; clear hK K
  refine tr_sR [1, 2, 10, 12, 14, 18, 19, 20] fun K hK => ?_
  iterate 2 refine evR_p ?_
  refine evR_z hK ?_; clear hK K
  refine tr_sR [1, 2, 10, 12, 14, 18, 19, 20] fun K hK => ?_
  iterate 2 refine evR_p ?_
  refine evR_z hK ?_; clear hK K
  refine tr_sR [1, 10, 12, 18, 19, 21] fun K hK => ?_
  iterate 3 refine evR_p ?_
  refine evR_c (hc := q1) (k := ?_)
  refine evR_p ?_
  iterate 3 refine evR_g ?_
  refine evR_gc (hc := q2) (k := ?_)
  refine evR_g ?_
  iterate 2 refine evR_p ?_
  iterate 3 refine evR_g ?_
  refine evR_gc (hc := q3) (k := ?_)
  iterate 2 refine evR_p ?_
  iterate 3 refine evR_g ?_
  refine evR_gc (hc := q4) (k := ?_)
  refine evR_g ?_
  iterate 2 refine evR_p ?_
  refine evR_z hK ?_; clear hK K
  refine tr_sR [0] fun K hK => ?_
  iterate 2 refine evR_p ?_
  refine evR_g ?_
  iterate 2 refine evR_p ?_
  refine evR_g ?_
  iterate 2 refine evR_p ?_
  iterate 3 refine evR_g ?_
  iterate 2 refine evR_p ?_
  iterate 3 refine evR_g ?_
  iterate 2 refine evR_p ?_
  iterate 2 refine evR_g ?_
  refine evR_gc (hc := sx9) (k := ?_)
  iterate 2 refine evR_p ?_
  iterate 2 refine evR_g ?_
  refine evR_gc (hc := sx10) (k := ?_)
  refine evR_g ?_
  iterate 2 refine evR_p ?_
  refine evR_z hK ?_; clear hK K
  refine retZ ?_; try exact ⟨⟩
  all_goals (first | exact absurd rfl ht1 | (rw [e1, e2, agEq_cells, agEq_cells]; decide) | (rw [e1, e2, agEq_cells, agEq_cells]; rfl))
end

theorem k44 (c n : Int) (hn : 0 < n) : CallsA Tryz.prog 18 [.int .i64 c, .int .i64 n] (.int .i64 (pickW c n)) := by
 have hq : True := trivial
 refine callsA_of_tr Tryz.func18 rfl (Nat.le_of_ble_eq_true rfl) ?_
 simp only [Tryz.results18, envOf, Nat.reduceAdd]
 refine tr_sR [0, 1] fun K hK => ?_
 refine evR_p ?_
 refine evR_z hK ?_; clear hK K
 refine tr_seq fun K2 hK2 => ?_
 refine tr_sR [0, 1, 6] fun K hK => ?_
 iterate 2 refine evR_p ?_
 refine evR_z hK ?_; clear hK K
 refine tr_condB (fun ht1 => ?_) (fun ht1 => ?_)
 ·
  skip
  refine tr_region [0, 1] rfl rfl fun K hK => ?_
  iterate 4 refine evR_p ?_
  refine evR_e hK ?_; clear hK K
  refine hK2 _ ?_
  refine tr_sR [4] fun K hK => ?_
  iterate 4 refine evR_p ?_
  refine evR_z hK ?_; clear hK K
  refine retZ ?_; try exact ⟨⟩
  all_goals (simp [pickW, *])
 ·
  skip
  refine skipZ ?_
  refine hK2 _ ?_
  refine tr_sR [4] fun K hK => ?_
  iterate 4 refine evR_p ?_
  refine evR_z hK ?_; clear hK K
  refine retZ ?_; try exact ⟨⟩
  all_goals (simp [pickW, *])


theorem ca18u (a b : List Int) (ha : a.length = 16) (hb : b.length = 16) : CallsA Tryz.prog 43 [.agg (cellsI a), .agg (cellsI b)] (.agg (cellsI (unionA a b))) := ca18 a b ha hb
theorem ca22u (a b : List Int) (ha : a.length = 16) (hb : b.length = 16) : CallsA Tryz.prog 32 [.agg (cellsI a), .agg (cellsI b)] (.agg (cellsI (minusA a b))) := ca22 a b ha hb
section
attribute [local go_sem] encA_length encA_getD
theorem z15 (l : List (List Int)) (hl : okAs l) (t : List Int) (ht : t.length = 16) : CallsA Tryz.prog 15 [.sl 16 (encA l), .agg (cellsI t)] (.bool (validR l t)) := by
 have hlm := hl.1
 unfold maxLen at hlm
 have hq := ht
 refine callsA_of_tr Tryz.func15 rfl (Nat.le_of_ble_eq_true rfl) ?_
 simp only [Tryz.results15, envOf, Nat.reduceAdd]
 refine tr_sR [0, 3] fun K hK => ?_
 iterate 2 refine evR_p ?_
 refine evR_z hK ?_; clear hK K
 refine tr_seq fun K2 hK2 => ?_
 refine tr_sR [0, 13] fun K hK => ?_
 iterate 4 refine evR_p ?_
 refine evR_g ?_
 refine evR_gc (hc := (ca14 t ht)) (k := ?_)
 refine evR_g ?_
 refine evR_p ?_
 refine evR_z hK ?_; clear hK K
 refine tr_condB (fun ht1 => ?_) (fun ht1 => ?_)
 ·
  skip
  refine tr_sR [4] fun K hK => ?_
  refine evR_p ?_
  refine evR_z hK ?_; clear hK K
  refine retZ ?_; try exact ⟨⟩
  all_goals (first | (rw [validR_no hil ht3]; done) | (rw [validR_bad ht1]; done) | (rw [validR_good ht1 hpi]; done))
 ·
  skip
  refine skipZ ?_
  refine hK2 _ ?_
  refine tr_seq fun K5 hK5 => ?_
  refine tr_sR [0, 5] fun K hK => ?_
  refine evR_p ?_
  refine evR_z hK ?_; clear hK K
  refine tr_block ?_
  -- loop 1: live [0, 5]
  refine tr_loopW (fun m σ => ∃ i : Nat, i + m = l.length ∧ (∀ j, j < i → validA (l.getD j []) = true) ∧ σ = ⟨[(0, .sl 16 (encA l)), (5, .int .i64 (i : Nat))], [(0, .cells (cellsI t))], 1⟩) (l.length) ?_ ?_
  ·
   exact ⟨_, Wk.refl _, 0, by omega, (by intro j hj; omega), rfl⟩
  ·
   rintro m σ ⟨i, hi, hpi, rfl⟩ KL1 hKL1
   refine tr_seq fun K7 hK7 => ?_
   refine tr_sR [0, 5, 17] fun K hK => ?_
   iterate 4 refine evR_p ?_
   refine evR_z hK ?_; clear hK K
   refine tr_condB (fun ht2 => ?_) (fun ht2 => ?_)
   ·
    skip
    have hil : i < l.length := by omega
    have hli := hl.at hil
    replace hq := And.intro hq (And.intro hil (hli))
    refine skipZ ?_
    refine hK7 _ ?_
    refine tr_seq fun K9 hK9 => ?_
    refine tr_block ?_
    refine tr_sR [0, 5, 25] fun K hK => ?_
    iterate 4 refine evR_p ?_
    refine evR_c (hc := (ca14 _ hli)) (k := ?_)
    refine evR_p ?_
    refine evR_z hK ?_; clear hK K
    refine tr_condB (fun ht3 => ?_) (fun ht3 => ?_)
    ·
     skip
     refine tr_sR [4] fun K hK => ?_
     refine evR_p ?_
     refine evR_z hK ?_; clear hK K
     refine retZ ?_; try exact ⟨⟩
     all_goals (first | (rw [validR_no hil ht3]; done) | (rw [validR_bad ht1]; done) | (rw [validR_good ht1 hpi]; done))
    ·
     skip
     refine skipZ ?_
     refine hK9 _ ?_
     refine tr_region [0, 5] rfl rfl fun K hK => ?_
     iterate 3 refine evR_p ?_
     refine evR_e hK ?_; clear hK K
     refine hKL1 _ ?_
     exact ⟨m - 1, _, by omega, Wk.refl _, i + 1, by omega, (fun j hj => by by_cases e : j = i; (subst e; exact ht3); exact hpi j (by omega)), by rw [w64 (x := (i : Int) + 1) (by omega)]; rfl⟩
   ·
    skip
    have hil : i = l.length := by omega
    subst hil
    refine tr_exit ?_
    simp only [thenE, inBlkE, Nat.reduceEqDiff, ↓reduceIte]
    refine hK5 _ ?_
    refine tr_sR [4] fun K hK => ?_
    refine evR_p ?_
    refine evR_z hK ?_; clear hK K
    refine retZ ?_; try exact ⟨⟩
    all_goals (first | (rw [validR_no hil ht3]; done) | (rw [validR_bad ht1]; done) | (rw [validR_good ht1 hpi]; done))
end

section
attribute [local go_sem] encA_length encA_getD
theorem z20 (l : List (List Int)) (hl : okAs l) (hl12 : l.length ≤ 12) (set : Int) (hv : validR l zeros16 = true) (h0 : 0 ≤ set) (h1 : set < ((2 ^ l.length : Nat) : Int)) : CallsA Tryz.prog 20 [.sl 16 (encA l), .int .i64 set] (.tup [.agg (cellsI (reachT l set l.length)), .int .i64 0]) := by
 have hlm := hl.1
 unfold maxLen at hlm
 have hsh : shlW .i64 1 (l.length : Nat) = ((2 ^ l.length : Nat) : Int) := shl1 (by omega)
 have h16 : (zeros16 : List Int).length = 16 := rfl
 have hcc : 0 < 2 ^ l.length := Nat.pos_of_ne_zero (by simp)
 clear hcc
 have hrl0 := fun n h => reachT_len hl set n h
 have hrl := hrl0 l.length (Nat.le_refl _)
 have hrf := cellsI_full (reachT l set l.length) (cellsI (List.replicate 16 0)) (by rw [cellsI_length, hrl]; rfl)
 have hrk : List.take 16 (cellsI (reachT l set l.length)) = cellsI (reachT l set l.length) := List.take_of_length_le (by rw [cellsI_length, hrl]; decide)
 have hq := And.intro hv (And.intro hsh (And.intro hrf (And.intro hrk (hrl))))
 refine callsA_of_tr Tryz.func20 rfl (Nat.le_of_ble_eq_true rfl) ?_
 simp only [Tryz.results20, envOf, Nat.reduceAdd]
 refine tr_sR [0, 1, 4] fun K hK => ?_
 iterate 2 refine evR_p ?_
 refine evR_z hK ?_; clear hK K
 refine tr_sR [0, 1, 4, 6] fun K hK => ?_
 refine evR_p ?_
 refine evR_z hK ?_; clear hK K
 refine tr_seq fun K3 hK3 => ?_
 refine tr_sR [0, 1, 4, 6, 22] fun K hK => ?_
 iterate 2 refine evR_p ?_
 refine evR_c (hc := (z15 l hl zeros16 rfl)) (k := ?_)
 iterate 2 refine evR_p ?_
 iterate 2 refine evR_g ?_
 iterate 2 refine evR_p ?_
 iterate 5 refine evR_g ?_
 refine evR_p ?_
 refine evR_z hK ?_; clear hK K
 refine tr_condB (fun ht1 => ?_) (fun ht1 => ?_)
 ·
  skip
  (first | (exfalso; omega) | (exfalso; simp_all; done) | skip)
  all_goals
   refine tr_sR [4, 5] fun K hK => ?_
   iterate 3 refine evR_p ?_
   refine evR_z hK ?_; clear hK K
   refine retZ ?_; try exact ⟨⟩
   all_goals (first | exact ⟨cellsI_cl _, rfl⟩ | exact ⟨Nat.le_refl _, cellsI_cl _, rfl⟩ | exact ⟨by rw [cellsI_length, hrl]; decide, cellsI_cl _, rfl⟩ | rfl)
 ·
  skip
  (first | (exfalso; omega) | (exfalso; simp_all; done) | skip)
  all_goals
   refine skipZ ?_
   refine hK3 _ ?_
   refine tr_seq fun K6 hK6 => ?_
   refine tr_sR [0, 1, 4, 6, 7] fun K hK => ?_
   refine evR_p ?_
   refine evR_z hK ?_; clear hK K
   refine tr_block ?_
   -- loop 1: live [0, 1, 4, 6, 7]
   refine tr_loopW (fun m σ => ∃ i : Nat, i + m = l.length ∧ σ = ⟨[(0, .sl 16 (encA l)), (1, .int .i64 set), (4, .ptr 0 0), (6, .ptr 1 0), (7, .int .i64 (i : Nat))], [(1, .cells (cellsI (reachT l set i))), (0, .cells (cellsI zeros16))], 2⟩) (l.length) ?_ ?_
   ·
    exact ⟨_, Wk.refl _, 0, by omega, rfl⟩
   ·
    rintro m σ ⟨i, hi, rfl⟩ KL1 hKL1
    refine tr_seq fun K8 hK8 => ?_
    refine tr_sR [0, 1, 4, 6, 7, 27] fun K hK => ?_
    iterate 4 refine evR_p ?_
    refine evR_z hK ?_; clear hK K
    refine tr_condB (fun ht2 => ?_) (fun ht2 => ?_)
    ·
     skip
     (first | (exfalso; omega) | (exfalso; simp_all; done) | skip)
     all_goals
      have hil : i < l.length := by omega
      have hli := hl.at hil
      have hri := hrl0 i (by omega)
      have hru := unionA_len hri hli
      have huf := cellsI_full (unionA (reachT l set i) (l.getD i [])) (cellsI (reachT l set i)) (by rw [cellsI_length, hru, hri])
      have huk : List.take 16 (cellsI (reachT l set i)) = cellsI (reachT l set i) := List.take_of_length_le (by rw [cellsI_length, hri]; decide)
      replace hq := And.intro hq (And.intro hil (And.intro hli (And.intro hri (And.intro huf (huk)))))
      refine skipZ ?_
      refine hK8 _ ?_
      refine tr_seq fun K10 hK10 => ?_
      refine tr_block ?_
      refine tr_sR [0, 1, 4, 6, 7, 34] fun K hK => ?_
      iterate 5 refine evR_p ?_
      refine evR_z hK ?_; clear hK K
      refine tr_condB (fun ht3 => ?_) (fun ht3 => ?_)
      ·
       skip
       (first | (exfalso; omega) | (exfalso; simp_all; done) | skip)
       all_goals
        refine tr_draw [] [0, 1, 4, 6, 7] mixed rfl (by kernel_rfl) rfl fun K hK => ?_
        iterate 5 refine evD_p ?_
        refine evD_c (hc := (ca18u _ _ hri hli)) (k := ?_)
        refine evD_p ?_
        refine evD_e hK ?_; clear hK K
        refine hK10 _ ?_
        refine tr_region [0, 1, 4, 6, 7] rfl rfl fun K hK => ?_
        iterate 3 refine evR_p ?_
        refine evR_e hK ?_; clear hK K
        refine hKL1 _ ?_
        first
         | exact ⟨m - 1, _, by omega, Wk.refl _, i + 1, by omega, by rw [w64 (x := (i : Int) + 1) (by omega), reachT_t (by first | exact ht3 | simpa using ht3)]; rfl⟩
         | exact ⟨m - 1, _, by omega, Wk.refl _, i + 1, by omega, by rw [w64 (x := (i : Int) + 1) (by omega), reachT_f (by first | exact ht3 | simpa using ht3)]; rfl⟩
      ·
       skip
       (first | (exfalso; omega) | (exfalso; simp_all; done) | skip)
       all_goals
        refine skipZ ?_
        refine hK10 _ ?_
        refine tr_region [0, 1, 4, 6, 7] rfl rfl fun K hK => ?_
        iterate 3 refine evR_p ?_
        refine evR_e hK ?_; clear hK K
        refine hKL1 _ ?_
        first
         | exact ⟨m - 1, _, by omega, Wk.refl _, i + 1, by omega, by rw [w64 (x := (i : Int) + 1) (by omega), reachT_t (by first | exact ht3 | simpa using ht3)]; rfl⟩
         | exact ⟨m - 1, _, by omega, Wk.refl _, i + 1, by omega, by rw [w64 (x := (i : Int) + 1) (by omega), reachT_f (by first | exact ht3 | simpa using ht3)]; rfl⟩
    ·
     skip
     (first | (exfalso; omega) | (exfalso; simp_all; done) | skip)
     all_goals
      have hil : i = l.length := by omega
      subst hil
      refine tr_exit ?_
      simp only [thenE, inBlkE, Nat.reduceEqDiff, ↓reduceIte]
      refine hK6 _ ?_
      refine tr_sR [4, 5] fun K hK => ?_
      iterate 3 refine evR_p ?_
      refine evR_z hK ?_; clear hK K
      refine retZ ?_; try exact ⟨⟩
      all_goals (first | exact ⟨cellsI_cl _, rfl⟩ | exact ⟨Nat.le_refl _, cellsI_cl _, rfl⟩ | exact ⟨by rw [cellsI_length, hrl]; decide, cellsI_cl _, rfl⟩ | rfl)
end

section
attribute [local go_sem] encA_length encA_getD
theorem z20n (l : List (List Int)) (hl : okAs l) (hl12 : l.length ≤ 12) (set : Int) (h1 : validR l zeros16 = false ∨ set < 0 ∨ ((2 ^ l.length : Nat) : Int) ≤ set) : CallsA Tryz.prog 20 [.sl 16 (encA l), .int .i64 set] (.tup [.agg (cellsI zeros16), .int .i64 280]) := by
 have hlm := hl.1
 unfold maxLen at hlm
 have hsh : shlW .i64 1 (l.length : Nat) = ((2 ^ l.length : Nat) : Int) := shl1 (by omega)
 have h16 : (zeros16 : List Int).length = 16 := rfl
 have hcc : 0 < 2 ^ l.length := Nat.pos_of_ne_zero (by simp)
 clear hcc
 have hq := hsh
 refine callsA_of_tr Tryz.func20 rfl (Nat.le_of_ble_eq_true rfl) ?_
 simp only [Tryz.results20, envOf, Nat.reduceAdd]
 refine tr_sR [0, 1, 4] fun K hK => ?_
 iterate 2 refine evR_p ?_
 refine evR_z hK ?_; clear hK K
 refine tr_sR [0, 1, 4, 6] fun K hK => ?_
 refine evR_p ?_
 refine evR_z hK ?_; clear hK K
 refine tr_seq fun K3 hK3 => ?_
 refine tr_sR [0, 1, 4, 6, 22] fun K hK => ?_
 iterate 2 refine evR_p ?_
 refine evR_c (hc := (z15 l hl zeros16 rfl)) (k := ?_)
 iterate 2 refine evR_p ?_
 iterate 2 refine evR_g ?_
 iterate 2 refine evR_p ?_
 iterate 5 refine evR_g ?_
 refine evR_p ?_
 refine evR_z hK ?_; clear hK K
 refine tr_condB (fun ht1 => ?_) (fun ht1 => ?_)
 ·
  skip
  (first | (exfalso; omega) | (exfalso; simp_all; done) | skip)
  all_goals
   refine tr_sR [4, 5] fun K hK => ?_
   iterate 3 refine evR_p ?_
   refine evR_z hK ?_; clear hK K
   refine retZ ?_; try exact ⟨⟩
   all_goals (rfl)
 ·
  exfalso; first | omega | (simp_all; done) | (simp_all; omega)
end

section
attribute [local go_sem] encA_length encA_getD
theorem z9 (l : List (List Int)) (hl : okAs l) (t : List Int) (ht : t.length = 16) (hv : validR l t = true) : CallsA Tryz.prog 9 [.sl 16 (encA l), .agg (cellsI t)] (.tup [.agg (cellsI (minusA t (unionL l))), .int .i64 0]) := by
 have hlm := hl.1
 unfold maxLen at hlm
 have hul : (unionL l).length = 16 := unionT_len hl _ (Nat.le_refl _)
 have hml : (minusA t (unionL l)).length = 16 := minusA_len ht hul
 have hspl := cellsI_full (minusA t (unionL l)) (cellsI (List.replicate 16 0)) (by rw [cellsI_length, hml]; rfl)
 have htk : List.take 16 (cellsI (minusA t (unionL l))) = cellsI (minusA t (unionL l)) := List.take_of_length_le (by rw [cellsI_length, hml]; decide)
 have huf := cellsI_full (unionL l) (cellsI (List.replicate 16 0)) (by rw [cellsI_length, hul]; rfl)
 have huk : List.take 16 (cellsI (unionL l)) = cellsI (unionL l) := List.take_of_length_le (by rw [cellsI_length, hul]; decide)
 have htt : List.take 16 (cellsI t) = cellsI t := List.take_of_length_le (by rw [cellsI_length, ht]; decide)
 have hl12 : l.length ≤ 12 := (validR_iff.1 hv).2.1
 have hsh : shlW .i64 1 (l.length : Nat) = ((2 ^ l.length : Nat) : Int) := shl1 (by omega)
 have hp1 : IntKind.i64.wrap (((2 ^ l.length : Nat) : Int) - 1) = ((2 ^ l.length - 1 : Nat) : Int) := by
  have h3 : 2 ^ l.length ≤ 2 ^ 12 := Nat.pow_le_pow_right (by decide) hl12
  have := Nat.two_pow_pos l.length
  rw [w64 (by omega)]; omega
 have c20 := z20 l hl hl12 ((2 ^ l.length - 1 : Nat) : Int) (valid0 hv) (by omega) (by have := Nat.two_pow_pos l.length; omega)
 rw [reachT_all l (pow_small hl12 (full_lt _)) hl12, reached_full hl12] at c20
 have hq := And.intro hv (And.intro ht (And.intro hul (And.intro hml (And.intro hspl (And.intro htk (And.intro huf (And.intro huk (And.intro htt (And.intro hsh (hp1))))))))))
 refine callsA_of_tr Tryz.func9 rfl (Nat.le_of_ble_eq_true rfl) ?_
 simp only [Tryz.results9, envOf, Nat.reduceAdd]
 refine tr_sR [0, 3, 4] fun K hK => ?_
 iterate 3 refine evR_p ?_
 refine evR_z hK ?_; clear hK K
 refine tr_seq fun K2 hK2 => ?_
 refine tr_sR [0, 3, 4, 11] fun K hK => ?_
 iterate 2 refine evR_p ?_
 refine evR_c (hc := (z15 l hl t ht)) (k := ?_)
 refine evR_p ?_
 refine evR_z hK ?_; clear hK K
 refine tr_condB (fun ht1 => ?_) (fun ht1 => ?_)
 ·
  skip
  (first | (exfalso; omega) | (exfalso; simp_all; done) | skip)
  all_goals
   refine tr_sR [4, 5] fun K hK => ?_
   iterate 3 refine evR_p ?_
   refine evR_z hK ?_; clear hK K
   refine retZ ?_; try exact ⟨⟩
   all_goals (first | exact ⟨cellsI_cl _, rfl⟩ | exact ⟨Nat.le_refl _, cellsI_cl _, rfl⟩ | exact ⟨by rw [cellsI_length, hml]; decide, cellsI_cl _, rfl⟩ | rfl)
 ·
  skip
  (first | (exfalso; omega) | (exfalso; simp_all; done) | skip)
  all_goals
   refine skipZ ?_
   refine hK2 _ ?_
   refine tr_sR [3, 4, 6] fun K hK => ?_
   iterate 5 refine evR_p ?_
   refine evR_c (hc := c20) (k := ?_)
   iterate 6 refine evR_p ?_
   refine evR_z hK ?_; clear hK K
   refine tr_sR [4, 5] fun K hK => ?_
   iterate 2 refine evR_p ?_
   refine evR_c (hc := (ca22u t (unionL l) ht hul)) (k := ?_)
   iterate 2 refine evR_p ?_
   refine evR_z hK ?_; clear hK K
   refine retZ ?_; try exact ⟨⟩
   all_goals (first | exact ⟨cellsI_cl _, rfl⟩ | exact ⟨Nat.le_refl _, cellsI_cl _, rfl⟩ | exact ⟨by rw [cellsI_length, hml]; decide, cellsI_cl _, rfl⟩ | rfl)
end

section
attribute [local go_sem] encA_length encA_getD
theorem z9n (l : List (List Int)) (hl : okAs l) (t : List Int) (ht : t.length = 16) (hv : validR l t = false) : CallsA Tryz.prog 9 [.sl 16 (encA l), .agg (cellsI t)] (.tup [.agg (cellsI zeros16), .int .i64 280]) := by
 have hlm := hl.1
 unfold maxLen at hlm
 have htt : List.take 16 (cellsI t) = cellsI t := List.take_of_length_le (by rw [cellsI_length, ht]; decide)
 have hq := And.intro hv (And.intro ht (htt))
 refine callsA_of_tr Tryz.func9 rfl (Nat.le_of_ble_eq_true rfl) ?_
 simp only [Tryz.results9, envOf, Nat.reduceAdd]
 refine tr_sR [0, 3, 4] fun K hK => ?_
 iterate 3 refine evR_p ?_
 refine evR_z hK ?_; clear hK K
 refine tr_seq fun K2 hK2 => ?_
 refine tr_sR [0, 3, 4, 11] fun K hK => ?_
 iterate 2 refine evR_p ?_
 refine evR_c (hc := (z15 l hl t ht)) (k := ?_)
 refine evR_p ?_
 refine evR_z hK ?_; clear hK K
 refine tr_condB (fun ht1 => ?_) (fun ht1 => ?_)
 ·
  skip
  (first | (exfalso; omega) | (exfalso; simp_all; done) | skip)
  all_goals
   refine tr_sR [4, 5] fun K hK => ?_
   iterate 3 refine evR_p ?_
   refine evR_z hK ?_; clear hK K
   refine retZ ?_; try exact ⟨⟩
   all_goals (rfl)
 ·
  exfalso; first | omega | (simp_all; done) | (simp_all; omega)
end

section
attribute [local go_sem] encA_length encA_getD
theorem z8n (l : List (List Int)) (hl : okAs l) (t : List Int) (ht : t.length = 16) (hv : validR l t = false) : CallsA Tryz.prog 8 [.sl 16 (encA l), .agg (cellsI t)] (.tup [.agg (cellsI zeros16), .int .i64 280]) := by
 have hlm := hl.1
 unfold maxLen at hlm
 have htt : List.take 16 (cellsI t) = cellsI t := List.take_of_length_le (by rw [cellsI_length, ht]; decide)
 have hq := And.intro hv (And.intro ht (htt))
 refine callsA_of_tr Tryz.func8 rfl (Nat.le_of_ble_eq_true rfl) ?_
 simp only [Tryz.results8, envOf, Nat.reduceAdd]
 refine tr_sR [0, 3, 4] fun K hK => ?_
 iterate 3 refine evR_p ?_
 refine evR_z hK ?_; clear hK K
 refine tr_seq fun K2 hK2 => ?_
 refine tr_sR [0, 3, 4, 9] fun K hK => ?_
 iterate 2 refine evR_p ?_
 refine evR_c (hc := (k86 l hl t ht)) (k := ?_)
 refine evR_p ?_
 refine evR_z hK ?_; clear hK K
 refine tr_condB (fun ht1 => ?_) (fun ht1 => ?_)
 ·
  skip
  (first | (exfalso; omega) | (exfalso; simp_all; done) | skip)
  all_goals
   refine tr_sR [4, 5] fun K hK => ?_
   iterate 3 refine evR_p ?_
   refine evR_z hK ?_; clear hK K
   refine retZ ?_; try exact ⟨⟩
   all_goals (rfl)
 ·
  exfalso; first | omega | (simp_all; done) | (simp_all; omega)
end

section
attribute [local go_sem] encA_length encA_getD
theorem z36 (l : List (List Int)) (hl : okAs l) (hl12 : l.length ≤ 12) (x y : Nat) : CallsA Tryz.prog 36 [.sl 16 (encA l), .int .i64 (x : Nat), .int .i64 (y : Nat)] (.int .i64 (setN l (x, y) l.length : Nat)) := by
 have hlm := hl.1
 unfold maxLen at hlm
 have hq : True := trivial
 refine callsA_of_tr Tryz.func36 rfl (Nat.le_of_ble_eq_true rfl) ?_
 simp only [Tryz.results36, envOf, Nat.reduceAdd]
 refine tr_sR [0, 1, 2] fun K hK => ?_
 refine evR_p ?_
 refine evR_z hK ?_; clear hK K
 refine tr_sR [0, 1, 2, 7] fun K hK => ?_
 refine evR_p ?_
 refine evR_z hK ?_; clear hK K
 refine tr_seq fun K3 hK3 => ?_
 refine tr_sR [0, 1, 2, 7, 8] fun K hK => ?_
 refine evR_p ?_
 refine evR_z hK ?_; clear hK K
 refine tr_block ?_
 -- loop 1: live [0, 1, 2, 7, 8]
 refine tr_loopW (fun m σ => ∃ i : Nat, i + m = l.length ∧ σ = ⟨[(0, .sl 16 (encA l)), (1, .int .i64 (x : Nat)), (2, .int .i64 (y : Nat)), (7, .int .i64 (setN l (x, y) i : Nat)), (8, .int .i64 (i : Nat))], [], 0⟩) (l.length) ?_ ?_
 ·
  exact ⟨_, Wk.refl _, 0, by omega, rfl⟩
 ·
  rintro m σ ⟨i, hi, rfl⟩ KL1 hKL1
  refine tr_seq fun K5 hK5 => ?_
  refine tr_sR [0, 1, 2, 7, 8, 12] fun K hK => ?_
  iterate 4 refine evR_p ?_
  refine evR_z hK ?_; clear hK K
  refine tr_condB (fun ht1 => ?_) (fun ht1 => ?_)
  ·
   skip
   have hil : i < l.length := by omega
   have hli := hl.at hil
   have hsa := setN_add l (x, y) (show i ≤ 12 by omega)
   replace hq := And.intro hq (And.intro hil (hli))
   refine skipZ ?_
   refine hK5 _ ?_
   refine tr_seq fun K7 hK7 => ?_
   refine tr_block ?_
   refine tr_sR [0, 1, 2, 7, 8, 21] fun K hK => ?_
   iterate 6 refine evR_p ?_
   refine evR_c (hc := (ca26 (l.getD i []) hli (x : Nat) (y : Nat))) (k := ?_)
   refine evR_z hK ?_; clear hK K
   refine tr_condB (fun ht2 => ?_) (fun ht2 => ?_)
   ·
    skip
    refine tr_region [0, 1, 2, 7, 8] rfl rfl fun K hK => ?_
    iterate 5 refine evR_p ?_
    refine evR_e hK ?_; clear hK K
    refine hK7 _ ?_
    refine tr_region [0, 1, 2, 7, 8] rfl rfl fun K hK => ?_
    iterate 3 refine evR_p ?_
    refine evR_e hK ?_; clear hK K
    refine hKL1 _ ?_
    first
     | exact ⟨m - 1, _, by omega, Wk.refl _, i + 1, by omega, by rw [w64 (x := (i : Int) + 1) (by omega), hsa, setN_t (c := (x, y)) ht2]; rfl⟩
     | exact ⟨m - 1, _, by omega, Wk.refl _, i + 1, by omega, by rw [w64 (x := (i : Int) + 1) (by omega), setN_f (c := (x, y)) ht2]; rfl⟩
   ·
    skip
    refine skipZ ?_
    refine hK7 _ ?_
    refine tr_region [0, 1, 2, 7, 8] rfl rfl fun K hK => ?_
    iterate 3 refine evR_p ?_
    refine evR_e hK ?_; clear hK K
    refine hKL1 _ ?_
    first
     | exact ⟨m - 1, _, by omega, Wk.refl _, i + 1, by omega, by rw [w64 (x := (i : Int) + 1) (by omega), hsa, setN_t (c := (x, y)) ht2]; rfl⟩
     | exact ⟨m - 1, _, by omega, Wk.refl _, i + 1, by omega, by rw [w64 (x := (i : Int) + 1) (by omega), setN_f (c := (x, y)) ht2]; rfl⟩
  ·
   skip
   have hil : i = l.length := by omega
   subst hil
   refine tr_exit ?_
   simp only [thenE, inBlkE, Nat.reduceEqDiff, ↓reduceIte]
   refine hK3 _ ?_
   refine tr_sR [6] fun K hK => ?_
   iterate 2 refine evR_p ?_
   refine evR_z hK ?_; clear hK K
   refine retZ ?_; try exact ⟨⟩
   all_goals (rfl)
end

section
attribute [local go_sem] encA_length encA_getD encR_one encI_set coefT_len List.drop_nil encI_oneS cellsB_length cellsB_sc cellsB_cl cellsB_getD cellsB_dropD seenB_length cellsB_fzA
set_option maxHeartbeats 16000000 in
theorem z11 (l : List (List Int)) (hl : okAs l) (t : List Int) (ht : t.length = 16) (hv : validR l t = true) : CallsA Tryz.prog 11 [.sl 16 (encA l), .agg (cellsI t)] (.tup [.agg (encPg (progR l t)), .int .i64 0]) := by
 have hlm := hl.1
 unfold maxLen at hlm
 have htt : List.take 16 (cellsI t) = cellsI t := List.take_of_length_le (by rw [cellsI_length, ht]; decide)
 obtain ⟨hV, hl12, hvt⟩ := validR_iff.1 hv
 have hq := And.intro hv (And.intro ht (htt))
 refine callsA_of_tr Tryz.func11 rfl (Nat.le_of_ble_eq_true rfl) ?_
 simp only [Tryz.results11, envOf, Nat.reduceAdd]
 refine tr_sR [0, 3, 4] fun K hK => ?_
 iterate 3 refine evR_p ?_
 refine evR_z hK ?_; clear hK K
 refine tr_seq fun K2 hK2 => ?_
 refine tr_sR [0, 3, 4, 17] fun K hK => ?_
 iterate 2 refine evR_p ?_
 refine evR_c (hc := (z15 l hl t ht)) (k := ?_)
 refine evR_p ?_
 refine evR_z hK ?_; clear hK K
 refine tr_condB (fun ht1 => ?_) (fun ht1 => ?_)
 ·
  skip
  (first | (exfalso; omega) | (exfalso; simp_all; done) | skip)
  all_goals
   refine tr_sR [4, 5] fun K hK => ?_
   iterate 3 refine evR_p ?_
   refine evR_z hK ?_; clear hK K
   refine retZ ?_; try exact ⟨⟩
   all_goals (rfl)
 ·
  skip
  (first | (exfalso; omega) | (exfalso; simp_all; done) | skip)
  all_goals
   refine skipZ ?_
   refine hK2 _ ?_
   refine tr_sR [0, 3, 4, 6] fun K hK => ?_
   iterate 5 refine evR_p ?_
   refine evR_z hK ?_; clear hK K
   refine tr_seq fun K6 hK6 => ?_
   refine tr_sR [0, 3, 4, 6, 7] fun K hK => ?_
   refine evR_p ?_
   refine evR_z hK ?_; clear hK K
   refine tr_block ?_
   -- loop 1: live [0, 3, 4, 6, 7]
   refine tr_loopW (fun m σ => ∃ i : Nat, i + m = l.length ∧ σ = ⟨[(0, .sl 16 (encA l)), (3, .ptr 0 0), (4, .ptr 1 0), (6, .ptr 2 0), (7, .int .i64 (i : Nat))], [(3, .row 3 1 (encI (List.replicate i (-1)))), (2, .cells [.int .i64 l.length, .nsl, .own 3]), (1, .cells [.int .i64 0, .nsl, .nsl]), (0, .cells (cellsI t))], 4⟩) (l.length) ?_ ?_
   ·
    exact ⟨_, Wk.nilown 3 1 2 2 rfl (Nat.le_of_ble_eq_true rfl) rfl, 0, by omega, rfl⟩
   ·
    rintro m σ ⟨i, hi, rfl⟩ KL1 hKL1
    refine tr_seq fun K8 hK8 => ?_
    refine tr_sR [0, 3, 4, 6, 7, 25] fun K hK => ?_
    iterate 4 refine evR_p ?_
    refine evR_z hK ?_; clear hK K
    refine tr_condB (fun ht2 => ?_) (fun ht2 => ?_)
    ·
     skip
     (first | (exfalso; omega) | (exfalso; simp_all; done) | skip)
     all_goals
      have hil : i < l.length := by omega
      replace hq := And.intro hq (hil)
      refine skipZ ?_
      refine hK8 _ ?_
      refine tr_seq fun K10 hK10 => ?_
      refine tr_block ?_
      refine tr_region [0, 3, 4, 6, 7] rfl rfl fun K hK => ?_
      iterate 2 refine evR_p ?_
      refine evR_bs ?_
      iterate 3 refine evR_p ?_
      refine evR_e hK ?_; clear hK K
      refine hK10 _ ?_
      refine tr_region [0, 3, 4, 6, 7] rfl rfl fun K hK => ?_
      iterate 3 refine evR_p ?_
      refine evR_e hK ?_; clear hK K
      refine hKL1 _ ?_
      exact ⟨m - 1, _, by omega, (Wk.trans (Wk.ren 4 3 (Nat.le_of_ble_eq_true rfl) (Nat.le_of_ble_eq_true rfl) (by simp [St.noSt, St.ren, St.cutOK, St.cut, AObj.no, AObj.upto, AObj.ren, V.no, V.upto, V.ren, V.noL, V.uptoL, V.renL, cellsI_uptoL, cellsI_noA, cellsI_renA, enC_uptoL])) (Wk.cut 4 (by simp [St.noSt, St.ren, St.cutOK, St.cut, AObj.no, AObj.upto, AObj.ren, V.no, V.upto, V.ren, V.noL, V.uptoL, V.renL, cellsI_uptoL, cellsI_noA, cellsI_renA, enC_uptoL]))), i + 1, by omega, by rw [w64 (x := (i : Int) + 1) (by omega), List.replicate_succ' (n := i)]; simp [St.noSt, St.ren, St.cutOK, St.cut, AObj.no, AObj.upto, AObj.ren, V.no, V.upto, V.ren, V.noL, V.uptoL, V.renL, cellsI_uptoL, cellsI_noA, cellsI_renA, enC_uptoL]⟩
    ·
     skip
     (first | (exfalso; omega) | (exfalso; simp_all; done) | skip)
     all_goals
      have hil : i = l.length := by omega
      subst hil
      refine tr_exit ?_
      simp only [thenE, inBlkE, Nat.reduceEqDiff, ↓reduceIte]
      refine hK6 _ ?_
      refine tr_sR [0, 3, 4, 6, 8] fun K hK => ?_
      refine evR_p ?_
      refine evR_z hK ?_; clear hK K
      refine tr_seq fun K12 hK12 => ?_
      refine tr_seq fun K13 hK13 => ?_
      refine tr_fz [.own 3] (by simp (maxSteps := 4000000) (disch := first | assumption | omega | (simp only [go_sem, *]; done) | (simp only [go_sem, *]; omega)) only [go_sem, hq, Int.reduceToNat, Nat.reduceBEq, Nat.reduceEqDiff, Nat.reduceAdd, Nat.reduceMul, Nat.reduceLeDiff, Nat.reduceLT, Nat.reduceSub, ↓reduceIte, reduceCtorEq]; (try rfl)) ?_
      refine tr_region [0, 3, 4, 6, 8, 9] rfl rfl fun K hK => ?_
      refine evR_p ?_
      refine evR_e hK ?_; clear hK K
      refine hK13 _ ?_
      refine tr_block ?_
      -- loop 2: live [0, 3, 4, 6, 8, 9]
      refine tr_loopW (fun m σ => ∃ y : Nat, y + m = 16 ∧ σ = ⟨[(0, .sl 16 (encA l)), (3, .ptr 0 0), (4, .ptr 1 0), (6, .ptr 2 0), (8, .ptr 4 0), (9, .int .i64 (y : Nat))], [(5, .row 57 6 (encR (foldR l (cellT t (16 * y))).2)), (4, .cells (cellsB (seenB (foldR l (cellT t (16 * y))).1))), (2, .cells [.int .i64 l.length, .own 5, .sl 1 (encI (List.replicate l.length (-1)))]), (1, .cells [.int .i64 0, .nsl, .nsl]), (0, .cells (cellsI t))], 6⟩) (16) ?_ ?_
      ·
       exact ⟨_, Wk.trans (Wk.drop (fun k => k != 3)) (Wk.nilown 57 6 2 1 rfl (Nat.le_of_ble_eq_true rfl) rfl), 0, by omega, by first | rfl | (rw [show foldR l (cellT t (16 * 0)) = ([], []) from rfl, seenB_nil]; rfl)⟩
      ·
       rintro m2 σ ⟨y, hy, rfl⟩ KL2 hKL2
       refine tr_seq fun K14 hK14 => ?_
       refine tr_sR [0, 3, 4, 6, 8, 9, 34] fun K hK => ?_
       iterate 2 refine evR_p ?_
       refine evR_z hK ?_; clear hK K
       refine tr_condB (fun ht3 => ?_) (fun ht3 => ?_)
       ·
        skip
        (first | (exfalso; omega) | (exfalso; simp_all; done) | skip)
        all_goals
         have hyl : y < 16 := by omega
         replace hq := And.intro hq (hyl)
         refine skipZ ?_
         refine hK14 _ ?_
         refine tr_seq fun K16 hK16 => ?_
         refine tr_block ?_
         refine tr_sR [0, 3, 4, 6, 8, 9, 10] fun K hK => ?_
         refine evR_p ?_
         refine evR_z hK ?_; clear hK K
         refine tr_block ?_
         -- loop 3: live [0, 3, 4, 6, 8, 9, 10]
         refine tr_loopW (fun m σ => ∃ x : Nat, x + m = 16 ∧ σ = ⟨[(0, .sl 16 (encA l)), (3, .ptr 0 0), (4, .ptr 1 0), (6, .ptr 2 0), (8, .ptr 4 0), (9, .int .i64 (y : Nat)), (10, .int .i64 (x : Nat))], [(5, .row 57 6 (encR (foldR l (cellT t (16 * y + x))).2)), (4, .cells (cellsB (seenB (foldR l (cellT t (16 * y + x))).1))), (2, .cells [.int .i64 l.length, .own 5, .sl 1 (encI (List.replicate l.length (-1)))]), (1, .cells [.int .i64 0, .nsl, .nsl]), (0, .cells (cellsI t))], 6⟩) (16) ?_ ?_
         ·
          exact ⟨_, Wk.refl _, 0, by omega, rfl⟩
         ·
          rintro m3 σ ⟨x, hx, rfl⟩ KL3 hKL3
          refine tr_seq fun K18 hK18 => ?_
          refine tr_sR [0, 3, 4, 6, 8, 9, 10, 38] fun K hK => ?_
          iterate 2 refine evR_p ?_
          refine evR_z hK ?_; clear hK K
          refine tr_condB (fun ht4 => ?_) (fun ht4 => ?_)
          ·
           skip
           (first | (exfalso; omega) | (exfalso; simp_all; done) | skip)
           all_goals
            have hxl : x < 16 := by omega
            have hcl := cellT_len t (16 * y + x)
            have hfl := foldR_len l (cellT t (16 * y + x))
            have hml : (foldR l (cellT t (16 * y + x))).1.length < maxLen := by unfold maxLen; omega
            have hs4 := setN_4096 l (x, y) hl12
            have hsg := seenB_get (foldR l (cellT t (16 * y + x))).1 hs4
            have hss := seen_spl (foldR l (cellT t (16 * y + x))).1 hs4
            have hcell := has_cell ht hvt hxl hyl
            have hmk : List.replicate l.length [V.int IntKind.i64 0] = encI (coefT l (x, y) 0) := by rw [coefT_0, ← encI_rep]
            replace hq := And.intro hq (And.intro hxl (And.intro hs4 (And.intro hsg (And.intro hss (hmk)))))
            refine skipZ ?_
            refine hK18 _ ?_
            refine tr_seq fun K20 hK20 => ?_
            refine tr_block ?_
            refine tr_seq fun K21 hK21 => ?_
            refine tr_sR [0, 3, 4, 6, 8, 9, 10, 45] fun K hK => ?_
            iterate 3 refine evR_p ?_
            refine evR_c (hc := (ca26 t ht (x : Nat) (y : Nat))) (k := ?_)
            refine evR_p ?_
            refine evR_z hK ?_; clear hK K
            refine tr_condB (fun ht5 => ?_) (fun ht5 => ?_)
            ·
             skip
             (first | (exfalso; omega) | (exfalso; simp_all; done) | skip)
             all_goals
              refine tr_exit ?_
              simp only [thenE, inBlkE, Nat.reduceEqDiff, ↓reduceIte]
              refine hK20 _ ?_
              refine tr_region [0, 3, 4, 6, 8, 9, 10] rfl rfl fun K hK => ?_
              iterate 3 refine evR_p ?_
              refine evR_e hK ?_; clear hK K
              refine hKL3 _ ?_
              first
               | exact ⟨m3 - 1, _, by omega, Wk.refl _, x + 1, by omega, by rw [w64 (x := (x : Int) + 1) (by omega), cellT_f hxl (by rw [← hcell]; assumption)]; rfl⟩
               | exact ⟨m3 - 1, _, by omega, Wk.refl _, x + 1, by omega, by rw [w64 (x := (x : Int) + 1) (by omega), cellT_t hxl (by rw [← hcell]; assumption), foldR_snoc, stepR_t (by assumption)]; rfl⟩
               | exact ⟨m3 - 1, _, by omega, (Wk.trans (Wk.ren 8 5 (Nat.le_of_ble_eq_true rfl) (Nat.le_of_ble_eq_true rfl) (by simp [St.noSt, St.ren, St.cutOK, St.cut, AObj.no, AObj.upto, AObj.ren, V.no, V.upto, V.ren, V.noL, V.uptoL, V.renL, cellsI_uptoL, cellsI_noA, cellsB_noA, cellsB_renA, cellsB_uptoA, cellsI_renA, enC_uptoL])) (Wk.cut 6 (by simp [St.noSt, St.ren, St.cutOK, St.cut, AObj.no, AObj.upto, AObj.ren, V.no, V.upto, V.ren, V.noL, V.uptoL, V.renL, cellsI_uptoL, cellsI_noA, cellsB_noA, cellsB_renA, cellsB_uptoA, cellsI_renA, enC_uptoL]))), x + 1, by omega, by rw [w64 (x := (x : Int) + 1) (by omega), cellT_t hxl (by rw [← hcell]; assumption), foldR_snoc, stepR_f (by assumption)]; first | rfl | (simp [St.noSt, St.ren, St.cutOK, St.cut, AObj.no, AObj.upto, AObj.ren, V.no, V.upto, V.ren, V.noL, V.uptoL, V.renL, cellsI_uptoL, cellsI_noA, cellsI_renA, enC_uptoL, cellsB_noA, cellsB_renA, cellsB_uptoA, rowR]; done) | (simp [St.noSt, St.ren, St.cutOK, St.cut, AObj.no, AObj.upto, AObj.ren, V.no, V.upto, V.ren, V.noL, V.uptoL, V.renL, cellsI_uptoL, cellsI_noA, cellsI_renA, enC_uptoL, cellsB_noA, cellsB_renA, cellsB_uptoA]; rfl)⟩
            ·
             skip
             (first | (exfalso; omega) | (exfalso; simp_all; done) | skip)
             all_goals
              refine skipZ ?_
              refine hK21 _ ?_
              refine tr_sR [0, 3, 4, 6, 8, 9, 10, 11] fun K hK => ?_
              iterate 3 refine evR_p ?_
              refine evR_c (hc := (z36 l hl hl12 x y)) (k := ?_)
              refine evR_p ?_
              refine evR_z hK ?_; clear hK K
              refine tr_seq fun K24 hK24 => ?_
              refine tr_sR [0, 3, 4, 6, 8, 9, 10, 11, 52] fun K hK => ?_
              iterate 3 refine evR_p ?_
              refine evR_z hK ?_; clear hK K
              refine tr_condB (fun ht6 => ?_) (fun ht6 => ?_)
              ·
               skip
               (first | (exfalso; omega) | (exfalso; simp_all; done) | skip)
               all_goals
                refine tr_exit ?_
                simp only [thenE, inBlkE, Nat.reduceEqDiff, ↓reduceIte]
                refine hK20 _ ?_
                refine tr_region [0, 3, 4, 6, 8, 9, 10] rfl rfl fun K hK => ?_
                iterate 3 refine evR_p ?_
                refine evR_e hK ?_; clear hK K
                refine hKL3 _ ?_
                first
                 | exact ⟨m3 - 1, _, by omega, Wk.refl _, x + 1, by omega, by rw [w64 (x := (x : Int) + 1) (by omega), cellT_f hxl (by rw [← hcell]; assumption)]; rfl⟩
                 | exact ⟨m3 - 1, _, by omega, Wk.refl _, x + 1, by omega, by rw [w64 (x := (x : Int) + 1) (by omega), cellT_t hxl (by rw [← hcell]; assumption), foldR_snoc, stepR_t (by assumption)]; rfl⟩
                 | exact ⟨m3 - 1, _, by omega, (Wk.trans (Wk.ren 8 5 (Nat.le_of_ble_eq_true rfl) (Nat.le_of_ble_eq_true rfl) (by simp [St.noSt, St.ren, St.cutOK, St.cut, AObj.no, AObj.upto, AObj.ren, V.no, V.upto, V.ren, V.noL, V.uptoL, V.renL, cellsI_uptoL, cellsI_noA, cellsB_noA, cellsB_renA, cellsB_uptoA, cellsI_renA, enC_uptoL])) (Wk.cut 6 (by simp [St.noSt, St.ren, St.cutOK, St.cut, AObj.no, AObj.upto, AObj.ren, V.no, V.upto, V.ren, V.noL, V.uptoL, V.renL, cellsI_uptoL, cellsI_noA, cellsB_noA, cellsB_renA, cellsB_uptoA, cellsI_renA, enC_uptoL]))), x + 1, by omega, by rw [w64 (x := (x : Int) + 1) (by omega), cellT_t hxl (by rw [← hcell]; assumption), foldR_snoc, stepR_f (by assumption)]; first | rfl | (simp [St.noSt, St.ren, St.cutOK, St.cut, AObj.no, AObj.upto, AObj.ren, V.no, V.upto, V.ren, V.noL, V.uptoL, V.renL, cellsI_uptoL, cellsI_noA, cellsI_renA, enC_uptoL, cellsB_noA, cellsB_renA, cellsB_uptoA, rowR]; done) | (simp [St.noSt, St.ren, St.cutOK, St.cut, AObj.no, AObj.upto, AObj.ren, V.no, V.upto, V.ren, V.noL, V.uptoL, V.renL, cellsI_uptoL, cellsI_noA, cellsI_renA, enC_uptoL, cellsB_noA, cellsB_renA, cellsB_uptoA]; rfl)⟩
              ·
               skip
               (first | (exfalso; omega) | (exfalso; simp_all; done) | skip)
               all_goals
                refine skipZ ?_
                refine hK24 _ ?_
                refine tr_sR [0, 3, 4, 6, 8, 9, 10, 11] fun K hK => ?_
                iterate 3 refine evR_p ?_
                refine evR_z hK ?_; clear hK K
                refine tr_sR [0, 3, 4, 6, 8, 9, 10, 11, 12] fun K hK => ?_
                iterate 8 refine evR_p ?_
                refine evR_z hK ?_; clear hK K
                refine tr_seq fun K28 hK28 => ?_
                refine tr_sR [0, 3, 4, 6, 8, 9, 10, 11, 12, 13] fun K hK => ?_
                refine evR_p ?_
                refine evR_z hK ?_; clear hK K
                refine tr_block ?_
                -- loop 4: live [0, 3, 4, 6, 8, 9, 10, 11, 12, 13]
                refine tr_loopW (fun m σ => ∃ i : Nat, i + m = l.length ∧ σ = ⟨[(0, .sl 16 (encA l)), (3, .ptr 0 0), (4, .ptr 1 0), (6, .ptr 2 0), (8, .ptr 4 0), (9, .int .i64 (y : Nat)), (10, .int .i64 (x : Nat)), (11, .int .i64 (setN l (x, y) l.length : Nat)), (12, .ptr 7 0), (13, .int .i64 (i : Nat))], [(7, .cells [.int .i64 1, .int .i64 (x : Nat), .int .i64 (y : Nat), .int .i64 0, .own 6, .int .i64 (-1)]), (6, .row 3 1 (encI (coefT l (x, y) i))), (5, .row 57 6 (encR (foldR l (cellT t (16 * y + x))).2)), (4, .cells (cellsB (seenB (putM (foldR l (cellT t (16 * y + x))).1 (setN l (x, y) l.length : Nat) true)))), (2, .cells [.int .i64 l.length, .own 5, .sl 1 (encI (List.replicate l.length (-1)))]), (1, .cells [.int .i64 0, .nsl, .nsl]), (0, .cells (cellsI t))], 8⟩) (l.length) ?_ ?_
                ·
                 exact ⟨_, Wk.refl _, 0, by omega, rfl⟩
                ·
                 rintro m4 σ ⟨i, hi, rfl⟩ KL4 hKL4
                 refine tr_seq fun K30 hK30 => ?_
                 refine tr_sR [0, 3, 4, 6, 8, 9, 10, 11, 12, 13, 64] fun K hK => ?_
                 iterate 4 refine evR_p ?_
                 refine evR_z hK ?_; clear hK K
                 refine tr_condB (fun ht7 => ?_) (fun ht7 => ?_)
                 ·
                  skip
                  (first | (exfalso; omega) | (exfalso; simp_all; done) | skip)
                  all_goals
                   have hil : i < l.length := by omega
                   have hsb := set_bit (x, y) hl12 hil
                   replace hq := And.intro hq (hil)
                   refine skipZ ?_
                   refine hK30 _ ?_
                   refine tr_seq fun K32 hK32 => ?_
                   refine tr_block ?_
                   refine tr_sR [0, 3, 4, 6, 8, 9, 10, 11, 12, 13, 71] fun K hK => ?_
                   iterate 5 refine evR_p ?_
                   refine evR_z hK ?_; clear hK K
                   refine tr_condB (fun ht8 => ?_) (fun ht8 => ?_)
                   ·
                    skip
                    (first | (exfalso; omega) | (exfalso; simp_all; done) | skip)
                    all_goals
                     refine tr_region [0, 3, 4, 6, 8, 9, 10, 11, 12, 13] rfl rfl fun K hK => ?_
                     iterate 5 refine evR_p ?_
                     refine evR_e hK ?_; clear hK K
                     refine hK32 _ ?_
                     refine tr_region [0, 3, 4, 6, 8, 9, 10, 11, 12, 13] rfl rfl fun K hK => ?_
                     iterate 3 refine evR_p ?_
                     refine evR_e hK ?_; clear hK K
                     refine hKL4 _ ?_
                     first
                      | exact ⟨m4 - 1, _, by omega, Wk.refl _, i + 1, by omega, by rw [w64 (x := (i : Int) + 1) (by omega), ← coefT_t hil (by rw [← hsb]; simp_all)]; rfl⟩
                      | exact ⟨m4 - 1, _, by omega, Wk.refl _, i + 1, by omega, by rw [w64 (x := (i : Int) + 1) (by omega), ← coefT_f (by rw [← hsb]; simp_all)]; rfl⟩
                   ·
                    skip
                    (first | (exfalso; omega) | (exfalso; simp_all; done) | skip)
                    all_goals
                     refine skipZ ?_
                     refine hK32 _ ?_
                     refine tr_region [0, 3, 4, 6, 8, 9, 10, 11, 12, 13] rfl rfl fun K hK => ?_
                     iterate 3 refine evR_p ?_
                     refine evR_e hK ?_; clear hK K
                     refine hKL4 _ ?_
                     first
                      | exact ⟨m4 - 1, _, by omega, Wk.refl _, i + 1, by omega, by rw [w64 (x := (i : Int) + 1) (by omega), ← coefT_t hil (by rw [← hsb]; simp_all)]; rfl⟩
                      | exact ⟨m4 - 1, _, by omega, Wk.refl _, i + 1, by omega, by rw [w64 (x := (i : Int) + 1) (by omega), ← coefT_f (by rw [← hsb]; simp_all)]; rfl⟩
                 ·
                  skip
                  (first | (exfalso; omega) | (exfalso; simp_all; done) | skip)
                  all_goals
                   have hil : i = l.length := by omega
                   subst hil
                   refine tr_exit ?_
                   simp only [thenE, inBlkE, Nat.reduceEqDiff, ↓reduceIte]
                   refine hK28 _ ?_
                   refine tr_fz [.own 6] (by simp (maxSteps := 4000000) (disch := first | assumption | omega | (simp only [go_sem, *]; done) | (simp only [go_sem, *]; omega)) only [go_sem, hq, Int.reduceToNat, Nat.reduceBEq, Nat.reduceEqDiff, Nat.reduceAdd, Nat.reduceMul, Nat.reduceLeDiff, Nat.reduceLT, Nat.reduceSub, ↓reduceIte, reduceCtorEq]; (try rfl)) ?_
                   refine tr_region [0, 3, 4, 6, 8, 9, 10] rfl rfl fun K hK => ?_
                   iterate 3 refine evR_p ?_
                   refine evR_bs ?_
                   iterate 3 refine evR_p ?_
                   refine evR_e hK ?_; clear hK K
                   refine hK20 _ ?_
                   refine tr_region [0, 3, 4, 6, 8, 9, 10] rfl rfl fun K hK => ?_
                   iterate 3 refine evR_p ?_
                   refine evR_e hK ?_; clear hK K
                   refine hKL3 _ ?_
                   first
                    | exact ⟨m3 - 1, _, by omega, Wk.refl _, x + 1, by omega, by rw [w64 (x := (x : Int) + 1) (by omega), cellT_f hxl (by rw [← hcell]; assumption)]; rfl⟩
                    | exact ⟨m3 - 1, _, by omega, Wk.refl _, x + 1, by omega, by rw [w64 (x := (x : Int) + 1) (by omega), cellT_t hxl (by rw [← hcell]; assumption), foldR_snoc, stepR_t (by assumption)]; rfl⟩
                    | exact ⟨m3 - 1, _, by omega, (Wk.trans (Wk.ren 8 5 (Nat.le_of_ble_eq_true rfl) (Nat.le_of_ble_eq_true rfl) (by simp [St.noSt, St.ren, St.cutOK, St.cut, AObj.no, AObj.upto, AObj.ren, V.no, V.upto, V.ren, V.noL, V.uptoL, V.renL, cellsI_uptoL, cellsI_noA, cellsB_noA, cellsB_renA, cellsB_uptoA, cellsI_renA, enC_uptoL])) (Wk.cut 6 (by simp [St.noSt, St.ren, St.cutOK, St.cut, AObj.no, AObj.upto, AObj.ren, V.no, V.upto, V.ren, V.noL, V.uptoL, V.renL, cellsI_uptoL, cellsI_noA, cellsB_noA, cellsB_renA, cellsB_uptoA, cellsI_renA, enC_uptoL]))), x + 1, by omega, by rw [w64 (x := (x : Int) + 1) (by omega), cellT_t hxl (by rw [← hcell]; assumption), foldR_snoc, stepR_f (by assumption)]; first | rfl | (simp [St.noSt, St.ren, St.cutOK, St.cut, AObj.no, AObj.upto, AObj.ren, V.no, V.upto, V.ren, V.noL, V.uptoL, V.renL, cellsI_uptoL, cellsI_noA, cellsI_renA, enC_uptoL, cellsB_noA, cellsB_renA, cellsB_uptoA, rowR]; done) | (simp [St.noSt, St.ren, St.cutOK, St.cut, AObj.no, AObj.upto, AObj.ren, V.no, V.upto, V.ren, V.noL, V.uptoL, V.renL, cellsI_uptoL, cellsI_noA, cellsI_renA, enC_uptoL, cellsB_noA, cellsB_renA, cellsB_uptoA]; rfl)⟩
          ·
           skip
           (first | (exfalso; omega) | (exfalso; simp_all; done) | skip)
           all_goals
            have hxl : x = 16 := by omega
            subst hxl
            refine tr_exit ?_
            simp only [thenE, inBlkE, Nat.reduceEqDiff, ↓reduceIte]
            refine hK16 _ ?_
            refine tr_region [0, 3, 4, 6, 8, 9] rfl rfl fun K hK => ?_
            iterate 3 refine evR_p ?_
            refine evR_e hK ?_; clear hK K
            refine hKL2 _ ?_
            exact ⟨m2 - 1, _, by omega, Wk.refl _, y + 1, by omega, by rw [w64 (x := (y : Int) + 1) (by omega)]; rfl⟩
       ·
        skip
        (first | (exfalso; omega) | (exfalso; simp_all; done) | skip)
        all_goals
         have hyl : y = 16 := by omega
         subst hyl
         refine tr_exit ?_
         simp only [thenE, inBlkE, Nat.reduceEqDiff, ↓reduceIte]
         refine hK12 _ ?_
         refine tr_sR [4, 5] fun K hK => ?_
         iterate 3 refine evR_p ?_
         refine evR_z hK ?_; clear hK K
         refine retZ ?_; try exact ⟨⟩
         all_goals (rfl)
end

section
attribute [local go_sem] encA_length encA_getD encSol2
theorem z13 (l : List (List Int)) (hl : okAs l) (t : List Int) (ht : t.length = 16) (hv : validR l t = true) (hvM : validB (progR l t) = true) : CallsA Tryz.prog 13 [.sl 16 (encA l), .agg (cellsI t)] (.tup [.agg (encSol2 (progR l t)), .int .i64 0]) := by
 have hlm := hl.1
 unfold maxLen at hlm
 have htt : List.take 16 (cellsI t) = cellsI t := List.take_of_length_le (by rw [cellsI_length, ht]; decide)
 have hq := And.intro hv (And.intro ht (htt))
 refine callsA_of_tr Tryz.func13 rfl (Nat.le_of_ble_eq_true rfl) ?_
 simp only [Tryz.results13, envOf, Nat.reduceAdd]
 refine tr_sR [0, 3, 4] fun K hK => ?_
 iterate 3 refine evR_p ?_
 refine evR_z hK ?_; clear hK K
 refine tr_sR [4, 6, 7] fun K hK => ?_
 iterate 2 refine evR_p ?_
 refine evR_c (hc := (z11 l hl t ht hv)) (k := ?_)
 iterate 6 refine evR_p ?_
 refine evR_z hK ?_; clear hK K
 refine tr_seq fun K3 hK3 => ?_
 refine tr_sR [4, 6, 7, 17] fun K hK => ?_
 iterate 2 refine evR_p ?_
 refine evR_z hK ?_; clear hK K
 refine tr_condB (fun ht1 => ?_) (fun ht1 => ?_)
 ·
  skip
  (first | (exfalso; omega) | (exfalso; simp_all; done) | skip)
  all_goals
   refine tr_sR [4, 5] fun K hK => ?_
   iterate 4 refine evR_p ?_
   refine evR_z hK ?_; clear hK K
   refine retZ ?_; try exact ⟨⟩
   all_goals (rfl)
 ·
  skip
  (first | (exfalso; omega) | (exfalso; simp_all; done) | skip)
  all_goals
   refine skipZ ?_
   refine hK3 _ ?_
   refine tr_sR [4, 8, 9] fun K hK => ?_
   refine evR_p ?_
   refine evR_c (hc := (s18 hvM)) (k := ?_)
   iterate 6 refine evR_p ?_
   refine evR_z hK ?_; clear hK K
   refine tr_seq fun K7 hK7 => ?_
   refine tr_sR [4, 8, 26] fun K hK => ?_
   iterate 2 refine evR_p ?_
   refine evR_z hK ?_; clear hK K
   refine tr_condB (fun ht2 => ?_) (fun ht2 => ?_)
   ·
    skip
    (first | (exfalso; omega) | (exfalso; simp_all; done) | skip)
    all_goals
     refine tr_sR [4, 5] fun K hK => ?_
     iterate 3 refine evR_p ?_
     refine evR_z hK ?_; clear hK K
     refine retZ ?_; try exact ⟨⟩
     all_goals (rfl)
   ·
    skip
    (first | (exfalso; omega) | (exfalso; simp_all; done) | skip)
    all_goals
     refine skipZ ?_
     refine hK7 _ ?_
     refine tr_sR [4, 5] fun K hK => ?_
     iterate 3 refine evR_p ?_
     refine evR_z hK ?_; clear hK K
     refine retZ ?_; try exact ⟨⟩
     all_goals (rfl)
end

section
attribute [local go_sem] encA_length encA_getD
theorem z11n (l : List (List Int)) (hl : okAs l) (t : List Int) (ht : t.length = 16) (hv : validR l t = false) : CallsA Tryz.prog 11 [.sl 16 (encA l), .agg (cellsI t)] (.tup [.agg [.int .i64 0, .nsl, .nsl], .int .i64 280]) := by
 have hlm := hl.1
 unfold maxLen at hlm
 have htt : List.take 16 (cellsI t) = cellsI t := List.take_of_length_le (by rw [cellsI_length, ht]; decide)
 have hq := And.intro hv (And.intro ht (htt))
 refine callsA_of_tr Tryz.func11 rfl (Nat.le_of_ble_eq_true rfl) ?_
 simp only [Tryz.results11, envOf, Nat.reduceAdd]
 refine tr_sR [0, 3, 4] fun K hK => ?_
 iterate 3 refine evR_p ?_
 refine evR_z hK ?_; clear hK K
 refine tr_seq fun K2 hK2 => ?_
 refine tr_sR [0, 3, 4, 17] fun K hK => ?_
 iterate 2 refine evR_p ?_
 refine evR_c (hc := (z15 l hl t ht)) (k := ?_)
 refine evR_p ?_
 refine evR_z hK ?_; clear hK K
 refine tr_condB (fun ht1 => ?_) (fun ht1 => ?_)
 ·
  skip
  (first | (exfalso; omega) | (exfalso; simp_all; done) | skip)
  all_goals
   refine tr_sR [4, 5] fun K hK => ?_
   iterate 3 refine evR_p ?_
   refine evR_z hK ?_; clear hK K
   refine retZ ?_; try exact ⟨⟩
   all_goals (rfl)
 ·
  exfalso; first | omega | (simp_all; done) | (simp_all; omega)
end

section
attribute [local go_sem] encA_length encA_getD
theorem z13n (l : List (List Int)) (hl : okAs l) (t : List Int) (ht : t.length = 16) (hv : validR l t = false) : CallsA Tryz.prog 13 [.sl 16 (encA l), .agg (cellsI t)] (.tup [.agg [.bool false, .int .i64 0, .int .i64 0, .nsl], .int .i64 280]) := by
 have hlm := hl.1
 unfold maxLen at hlm
 have htt : List.take 16 (cellsI t) = cellsI t := List.take_of_length_le (by rw [cellsI_length, ht]; decide)
 have hq := And.intro hv (And.intro ht (htt))
 refine callsA_of_tr Tryz.func13 rfl (Nat.le_of_ble_eq_true rfl) ?_
 simp only [Tryz.results13, envOf, Nat.reduceAdd]
 refine tr_sR [0, 3, 4] fun K hK => ?_
 iterate 3 refine evR_p ?_
 refine evR_z hK ?_; clear hK K
 refine tr_sR [4, 6, 7] fun K hK => ?_
 iterate 2 refine evR_p ?_
 refine evR_c (hc := (z11n l hl t ht hv)) (k := ?_)
 iterate 6 refine evR_p ?_
 refine evR_z hK ?_; clear hK K
 refine tr_seq fun K3 hK3 => ?_
 refine tr_sR [4, 6, 7, 17] fun K hK => ?_
 iterate 2 refine evR_p ?_
 refine evR_z hK ?_; clear hK K
 refine tr_condB (fun ht1 => ?_) (fun ht1 => ?_)
 ·
  skip
  (first | (exfalso; omega) | (exfalso; simp_all; done) | skip)
  all_goals
   refine tr_sR [4, 5] fun K hK => ?_
   iterate 4 refine evR_p ?_
   refine evR_z hK ?_; clear hK K
   refine retZ ?_; try exact ⟨⟩
   all_goals (rfl)
 ·
  exfalso; first | omega | (simp_all; done) | (simp_all; omega)
end

section
attribute [local go_sem] encA_length encA_getD
theorem z10n (l : List (List Int)) (hl : okAs l) (t : List Int) (ht : t.length = 16) (hv : validR l t = false) : CallsA Tryz.prog 10 [.sl 16 (encA l), .agg (cellsI t)] (.tup [.agg [.int .i64 0, .nsl, .nsl], .int .i64 280]) := by
 have hlm := hl.1
 unfold maxLen at hlm
 have htt : List.take 16 (cellsI t) = cellsI t := List.take_of_length_le (by rw [cellsI_length, ht]; decide)
 have hq := And.intro hv (And.intro ht (htt))
 refine callsA_of_tr Tryz.func10 rfl (Nat.le_of_ble_eq_true rfl) ?_
 simp only [Tryz.results10, envOf, Nat.reduceAdd]
 refine tr_sR [2, 3, 4] fun K hK => ?_
 iterate 4 refine evR_p ?_
 refine evR_z hK ?_; clear hK K
 refine tr_seq fun K2 hK2 => ?_
 refine tr_sR [2, 3, 4, 16] fun K hK => ?_
 iterate 2 refine evR_p ?_
 refine evR_c (hc := (k86 l hl t ht)) (k := ?_)
 refine evR_p ?_
 refine evR_z hK ?_; clear hK K
 refine tr_condB (fun ht1 => ?_) (fun ht1 => ?_)
 ·
  skip
  (first | (exfalso; omega) | (exfalso; simp_all; done) | skip)
  all_goals
   refine tr_sR [4, 5] fun K hK => ?_
   iterate 3 refine evR_p ?_
   refine evR_z hK ?_; clear hK K
   refine retZ ?_; try exact ⟨⟩
   all_goals (rfl)
 ·
  exfalso; first | omega | (simp_all; done) | (simp_all; omega)
end

section
attribute [local go_sem] encA_length encA_getD
theorem z12n (l : List (List Int)) (hl : okAs l) (t : List Int) (ht : t.length = 16) (hv : validR l t = false) : CallsA Tryz.prog 12 [.sl 16 (encA l), .agg (cellsI t)] (.tup [.agg [.bool false, .int .i64 0, .int .i64 0, .nsl], .int .i64 280]) := by
 have hlm := hl.1
 unfold maxLen at hlm
 have htt : List.take 16 (cellsI t) = cellsI t := List.take_of_length_le (by rw [cellsI_length, ht]; decide)
 have hq := And.intro hv (And.intro ht (htt))
 refine callsA_of_tr Tryz.func12 rfl (Nat.le_of_ble_eq_true rfl) ?_
 simp only [Tryz.results12, envOf, Nat.reduceAdd]
 refine tr_sR [0, 3, 4] fun K hK => ?_
 iterate 3 refine evR_p ?_
 refine evR_z hK ?_; clear hK K
 refine tr_sR [4, 6, 7] fun K hK => ?_
 iterate 2 refine evR_p ?_
 refine evR_c (hc := (z10n l hl t ht hv)) (k := ?_)
 iterate 6 refine evR_p ?_
 refine evR_z hK ?_; clear hK K
 refine tr_seq fun K3 hK3 => ?_
 refine tr_sR [4, 6, 7, 16] fun K hK => ?_
 iterate 2 refine evR_p ?_
 refine evR_z hK ?_; clear hK K
 refine tr_condB (fun ht1 => ?_) (fun ht1 => ?_)
 ·
  skip
  (first | (exfalso; omega) | (exfalso; simp_all; done) | skip)
  all_goals
   refine tr_sR [4, 5] fun K hK => ?_
   iterate 4 refine evR_p ?_
   refine evR_z hK ?_; clear hK K
   refine retZ ?_; try exact ⟨⟩
   all_goals (rfl)
 ·
  exfalso; first | omega | (simp_all; done) | (simp_all; omega)
end

section
attribute [local go_sem] encA_length encA_getD
theorem z22n (l : List (List Int)) (hl : okAs l) (t : List Int) (ht : t.length = 16) (hv : validR l t = false) (fd : Bool) (set gain : Int) (pf : List Sg) : CallsA Tryz.prog 22 [.sl 16 (encA l), .agg (cellsI t), .agg [.bool fd, .int .i64 set, .int .i64 gain, .sl 4 (encSgs pf)]] (.bool false) := by
 have hlm := hl.1
 unfold maxLen at hlm
 have htt : List.take 16 (cellsI t) = cellsI t := List.take_of_length_le (by rw [cellsI_length, ht]; decide)
 have hq := And.intro hv (And.intro ht (htt))
 refine callsA_of_tr Tryz.func22 rfl (Nat.le_of_ble_eq_true rfl) ?_
 simp only [Tryz.results22, envOf, Nat.reduceAdd]
 refine tr_sR [0, 4, 5] fun K hK => ?_
 iterate 3 refine evR_p ?_
 refine evR_z hK ?_; clear hK K
 refine tr_sR [0, 4, 5, 7, 8] fun K hK => ?_
 iterate 2 refine evR_p ?_
 refine evR_c (hc := (z10n l hl t ht hv)) (k := ?_)
 iterate 6 refine evR_p ?_
 refine evR_z hK ?_; clear hK K
 refine tr_seq fun K3 hK3 => ?_
 refine tr_sR [0, 4, 5, 7, 18] fun K hK => ?_
 iterate 2 refine evR_p ?_
 refine evR_z hK ?_; clear hK K
 refine tr_condB (fun ht1 => ?_) (fun ht1 => ?_)
 ·
  skip
  (first | (exfalso; omega) | (exfalso; simp_all; done) | skip)
  all_goals
   refine tr_sR [6] fun K hK => ?_
   refine evR_p ?_
   refine evR_z hK ?_; clear hK K
   refine retZ ?_; try exact ⟨⟩
   all_goals (rfl)
 ·
  exfalso; first | omega | (simp_all; done) | (simp_all; omega)
end

section
attribute [local go_sem] encA_length encA_getD
theorem z23n (l : List (List Int)) (hl : okAs l) (t : List Int) (ht : t.length = 16) (hv : validR l t = false) (fd : Bool) (set gain : Int) (pf : List Sg) : CallsA Tryz.prog 23 [.sl 16 (encA l), .agg (cellsI t), .agg [.bool fd, .int .i64 set, .int .i64 gain, .sl 4 (encSgs pf)]] (.bool false) := by
 have hlm := hl.1
 unfold maxLen at hlm
 have htt : List.take 16 (cellsI t) = cellsI t := List.take_of_length_le (by rw [cellsI_length, ht]; decide)
 have hq := And.intro hv (And.intro ht (htt))
 refine callsA_of_tr Tryz.func23 rfl (Nat.le_of_ble_eq_true rfl) ?_
 simp only [Tryz.results23, envOf, Nat.reduceAdd]
 refine tr_sR [0, 4, 5] fun K hK => ?_
 iterate 3 refine evR_p ?_
 refine evR_z hK ?_; clear hK K
 refine tr_sR [0, 4, 5, 7, 8] fun K hK => ?_
 iterate 2 refine evR_p ?_
 refine evR_c (hc := (z11n l hl t ht hv)) (k := ?_)
 iterate 6 refine evR_p ?_
 refine evR_z hK ?_; clear hK K
 refine tr_seq fun K3 hK3 => ?_
 refine tr_sR [0, 4, 5, 7, 17] fun K hK => ?_
 iterate 2 refine evR_p ?_
 refine evR_z hK ?_; clear hK K
 refine tr_condB (fun ht1 => ?_) (fun ht1 => ?_)
 ·
  skip
  (first | (exfalso; omega) | (exfalso; simp_all; done) | skip)
  all_goals
   refine tr_sR [6] fun K hK => ?_
   refine evR_p ?_
   refine evR_z hK ?_; clear hK K
   refine retZ ?_; try exact ⟨⟩
   all_goals (rfl)
 ·
  exfalso; first | omega | (simp_all; done) | (simp_all; omega)
end

section
attribute [local go_sem] encA_length encA_getD
theorem z49 (l : List (List Int)) (hl : okAs l) (t : List Int) (ht : t.length = 16) (hl12 : l.length ≤ 12) (hv0 : validR l zeros16 = true) (set : Int) (h0 : 0 ≤ set) (h1 : set < ((2 ^ l.length : Nat) : Int)) : CallsA Tryz.prog 49 [.sl 16 (encA l), .agg (cellsI t), .int .i64 set] (.bool (withinA t (reachT l set l.length))) := by
 have hlm := hl.1
 unfold maxLen at hlm
 have htt : List.take 16 (cellsI t) = cellsI t := List.take_of_length_le (by rw [cellsI_length, ht]; decide)
 have hrl := reachT_len hl set l.length (Nat.le_refl _)
 have hrf := cellsI_full (reachT l set l.length) (cellsI (List.replicate 16 0)) (by rw [cellsI_length, hrl]; rfl)
 have hrk : List.take 16 (cellsI (reachT l set l.length)) = cellsI (reachT l set l.length) := List.take_of_length_le (by rw [cellsI_length, hrl]; decide)
 have hq := And.intro ht (And.intro htt (And.intro hrl (And.intro hrf (hrk))))
 refine callsA_of_tr Tryz.func49 rfl (Nat.le_of_ble_eq_true rfl) ?_
 simp only [Tryz.results49, envOf, Nat.reduceAdd]
 refine tr_sR [0, 2, 4] fun K hK => ?_
 iterate 2 refine evR_p ?_
 refine evR_z hK ?_; clear hK K
 refine tr_sR [4, 7, 8] fun K hK => ?_
 iterate 2 refine evR_p ?_
 refine evR_c (hc := (z20 l hl hl12 set hv0 h0 h1)) (k := ?_)
 iterate 6 refine evR_p ?_
 refine evR_z hK ?_; clear hK K
 refine tr_sR [6] fun K hK => ?_
 iterate 3 refine evR_p ?_
 iterate 2 refine evR_g ?_
 refine evR_gc (hc := (ca24 t (reachT l set l.length) ht hrl)) (k := ?_)
 iterate 2 refine evR_p ?_
 refine evR_z hK ?_; clear hK K
 refine retZ ?_; try exact ⟨⟩
 all_goals (rfl)
end

section
attribute [local go_sem] encA_length encA_getD
theorem z49n (l : List (List Int)) (hl : okAs l) (t : List Int) (ht : t.length = 16) (hl12 : l.length ≤ 12) (set : Int) (h1 : validR l zeros16 = false ∨ set < 0 ∨ ((2 ^ l.length : Nat) : Int) ≤ set) : CallsA Tryz.prog 49 [.sl 16 (encA l), .agg (cellsI t), .int .i64 set] (.bool false) := by
 have hlm := hl.1
 unfold maxLen at hlm
 have htt : List.take 16 (cellsI t) = cellsI t := List.take_of_length_le (by rw [cellsI_length, ht]; decide)
 have hrl : (zeros16 : List Int).length = 16 := rfl
 have hq := And.intro ht (htt)
 refine callsA_of_tr Tryz.func49 rfl (Nat.le_of_ble_eq_true rfl) ?_
 simp only [Tryz.results49, envOf, Nat.reduceAdd]
 refine tr_sR [0, 2, 4] fun K hK => ?_
 iterate 2 refine evR_p ?_
 refine evR_z hK ?_; clear hK K
 refine tr_sR [4, 7, 8] fun K hK => ?_
 iterate 2 refine evR_p ?_
 refine evR_c (hc := (z20n l hl hl12 set h1)) (k := ?_)
 iterate 6 refine evR_p ?_
 refine evR_z hK ?_; clear hK K
 refine tr_sR [6] fun K hK => ?_
 iterate 3 refine evR_p ?_
 iterate 2 refine evR_g ?_
 refine evR_gc (hc := (ca24 t zeros16 ht hrl)) (k := ?_)
 iterate 2 refine evR_p ?_
 refine evR_z hK ?_; clear hK K
 refine retZ ?_; try exact ⟨⟩
 all_goals (rfl)
end

section
attribute [local go_sem] encA_length encA_getD
theorem z23a (l : List (List Int)) (hl : okAs l) (t : List Int) (ht : t.length = 16) (hv : validR l t = true) (fd : Bool) (set gain : Int) (pf : List Sg) (hpf : okPf pf) (hp : okPr (progR l t)) (hfd : fd = false) : CallsA Tryz.prog 23 [.sl 16 (encA l), .agg (cellsI t), .agg [.bool fd, .int .i64 set, .int .i64 gain, .sl 4 (encSgs pf)]] (.bool ((decide (set = 0) && decide (gain = 0)) && refutesW (progR l t) pf)) := by
 have hlm := hl.1
 unfold maxLen at hlm
 have htt : List.take 16 (cellsI t) = cellsI t := List.take_of_length_le (by rw [cellsI_length, ht]; decide)
 subst hfd
 have hq := And.intro hv (And.intro ht (htt))
 refine callsA_of_tr Tryz.func23 rfl (Nat.le_of_ble_eq_true rfl) ?_
 simp only [Tryz.results23, envOf, Nat.reduceAdd]
 refine tr_sR [0, 4, 5] fun K hK => ?_
 iterate 3 refine evR_p ?_
 refine evR_z hK ?_; clear hK K
 refine tr_sR [0, 4, 5, 7, 8] fun K hK => ?_
 iterate 2 refine evR_p ?_
 refine evR_c (hc := (z11 l hl t ht hv)) (k := ?_)
 iterate 6 refine evR_p ?_
 refine evR_z hK ?_; clear hK K
 refine tr_seq fun K3 hK3 => ?_
 refine tr_sR [0, 4, 5, 7, 17] fun K hK => ?_
 iterate 2 refine evR_p ?_
 refine evR_z hK ?_; clear hK K
 refine tr_condB (fun ht1 => ?_) (fun ht1 => ?_)
 ·
  skip
  (first | (exfalso; omega) | (exfalso; simp_all; done) | skip)
  all_goals
   refine tr_sR [6] fun K hK => ?_
   refine evR_p ?_
   refine evR_z hK ?_; clear hK K
   refine retZ ?_; try exact ⟨⟩
   all_goals (first | rfl | (cases hq1 : decide (set = 0) <;> cases hq2 : decide (gain = 0) <;> simp_all))
 ·
  skip
  (first | (exfalso; omega) | (exfalso; simp_all; done) | skip)
  all_goals
   refine skipZ ?_
   refine hK3 _ ?_
   refine tr_seq fun K6 hK6 => ?_
   refine tr_sR [0, 4, 5, 7, 20] fun K hK => ?_
   iterate 3 refine evR_p ?_
   refine evR_z hK ?_; clear hK K
   refine tr_condB (fun ht2 => ?_) (fun ht2 => ?_)
   ·
    skip
    (first | (exfalso; omega) | (exfalso; simp_all; done) | skip)
    all_goals
     refine tr_sR [6] fun K hK => ?_
     iterate 4 refine evR_p ?_
     iterate 3 refine evR_g ?_
     iterate 2 refine evR_p ?_
     iterate 3 refine evR_g ?_
     refine evR_gc (hc := (k25 _ hp pf hpf)) (k := ?_)
     iterate 2 refine evR_p ?_
     refine evR_z hK ?_; clear hK K
     refine retZ ?_; try exact ⟨⟩
     all_goals (first | rfl | (cases hq1 : decide (set = 0) <;> cases hq2 : decide (gain = 0) <;> simp_all))
   ·
    exfalso; first | omega | (simp_all; done) | (simp_all; omega)
end

section
attribute [local go_sem] encA_length encA_getD
theorem z23b (l : List (List Int)) (hl : okAs l) (t : List Int) (ht : t.length = 16) (hv : validR l t = true) (fd : Bool) (set gain : Int) (pf : List Sg) (hpf : okPf pf) (hp : okPr (progR l t)) (hfd : fd = true) (cv : Bool) (c49 : CallsA Tryz.prog 49 [.sl 16 (encA l), .agg (cellsI t), .int .i64 set] (.bool cv)) : CallsA Tryz.prog 23 [.sl 16 (encA l), .agg (cellsI t), .agg [.bool fd, .int .i64 set, .int .i64 gain, .sl 4 (encSgs pf)]] (.bool ((cv && decide (gain = -manyR set 12)) && boundsW (progR l t) pf gain)) := by
 have hlm := hl.1
 unfold maxLen at hlm
 have htt : List.take 16 (cellsI t) = cellsI t := List.take_of_length_le (by rw [cellsI_length, ht]; decide)
 subst hfd
 have hneg : IntKind.i64.wrap (0 - manyR set 12) = -manyR set 12 := by have := manyR_le set 12; rw [w64 (by omega)]; omega
 have hq := And.intro hv (And.intro ht (And.intro htt (hneg)))
 refine callsA_of_tr Tryz.func23 rfl (Nat.le_of_ble_eq_true rfl) ?_
 simp only [Tryz.results23, envOf, Nat.reduceAdd]
 refine tr_sR [0, 4, 5] fun K hK => ?_
 iterate 3 refine evR_p ?_
 refine evR_z hK ?_; clear hK K
 refine tr_sR [0, 4, 5, 7, 8] fun K hK => ?_
 iterate 2 refine evR_p ?_
 refine evR_c (hc := (z11 l hl t ht hv)) (k := ?_)
 iterate 6 refine evR_p ?_
 refine evR_z hK ?_; clear hK K
 refine tr_seq fun K3 hK3 => ?_
 refine tr_sR [0, 4, 5, 7, 17] fun K hK => ?_
 iterate 2 refine evR_p ?_
 refine evR_z hK ?_; clear hK K
 refine tr_condB (fun ht1 => ?_) (fun ht1 => ?_)
 ·
  skip
  (first | (exfalso; omega) | (exfalso; simp_all; done) | skip)
  all_goals
   refine tr_sR [6] fun K hK => ?_
   refine evR_p ?_
   refine evR_z hK ?_; clear hK K
   refine retZ ?_; try exact ⟨⟩
   all_goals (first | rfl | simp_all)
 ·
  skip
  (first | (exfalso; omega) | (exfalso; simp_all; done) | skip)
  all_goals
   refine skipZ ?_
   refine hK3 _ ?_
   refine tr_seq fun K6 hK6 => ?_
   refine tr_sR [0, 4, 5, 7, 20] fun K hK => ?_
   iterate 3 refine evR_p ?_
   refine evR_z hK ?_; clear hK K
   refine tr_condB (fun ht2 => ?_) (fun ht2 => ?_)
   ·
    exfalso; first | omega | (simp_all; done) | (simp_all; omega)
   ·
    skip
    (first | (exfalso; omega) | (exfalso; simp_all; done) | skip)
    all_goals
     refine skipZ ?_
     refine hK6 _ ?_
     refine tr_sR [5, 7, 9] fun K hK => ?_
     iterate 4 refine evR_p ?_
     refine evR_c (hc := c49) (k := ?_)
     refine evR_p ?_
     refine evR_z hK ?_; clear hK K
     refine tr_sD [] [6] fun K hK => ?_
     iterate 2 refine evD_p ?_
     iterate 4 refine evD_g ?_
     refine evD_gc (hc := (k91 set)) (k := ?_)
     iterate 2 refine evD_g ?_
     iterate 2 refine evD_p ?_
     iterate 5 refine evD_g ?_
     refine evD_gc (hc := (k33 _ hp pf hpf _)) (k := ?_)
     iterate 2 refine evD_p ?_
     refine evD_z hK ?_; clear hK K
     refine retZ ?_; try exact ⟨⟩
     all_goals (first | rfl | simp_all)
end

section
attribute [local go_sem] encSgs_length encSgs_getD encSg agEq_self V.isI encW encWs_length encWs_getD
set_option maxHeartbeats 4000000 in
theorem z41 (l : List Sg) (hl : l.length ≤ maxLen) (hw : ∀ s ∈ l, s.ws.length ≤ maxLen) : CallsA Tryz.prog 41 [.sl 4 (encSgs l), .sl 4 (encSgs l)] (.bool true) := by
 unfold maxLen at hl hw
 have hq : True := trivial
 refine callsA_of_tr Tryz.func41 rfl (Nat.le_of_ble_eq_true rfl) ?_
 simp only [Tryz.results41, envOf, Nat.reduceAdd]
 refine tr_sR [0, 1] fun K hK => ?_
 refine evR_p ?_
 refine evR_z hK ?_; clear hK K
 refine tr_seq fun K2 hK2 => ?_
 refine tr_sR [0, 1, 11] fun K hK => ?_
 iterate 5 refine evR_p ?_
 refine evR_z hK ?_; clear hK K
 refine tr_condB (fun ht1 => ?_) (fun ht1 => ?_)
 ·
  skip
  (first | (exfalso; omega) | (exfalso; simp_all; done) | skip)
  all_goals
   refine tr_sR [4] fun K hK => ?_
   refine evR_p ?_
   refine evR_z hK ?_; clear hK K
   refine retZ ?_; try exact ⟨⟩
   all_goals (rfl)
 ·
  skip
  (first | (exfalso; omega) | (exfalso; simp_all; done) | skip)
  all_goals
   refine skipZ ?_
   refine hK2 _ ?_
   refine tr_seq fun K5 hK5 => ?_
   refine tr_sR [0, 1, 5] fun K hK => ?_
   refine evR_p ?_
   refine evR_z hK ?_; clear hK K
   refine tr_block ?_
   -- loop 1: live [0, 1, 5]
   refine tr_loopW (fun m σ => ∃ i : Nat, i + m = l.length ∧ σ = ⟨[(0, .sl 4 (encSgs l)), (1, .sl 4 (encSgs l)), (5, .int .i64 (i : Nat))], [], 0⟩) (l.length) ?_ ?_
   ·
    exact ⟨_, Wk.refl _, 0, by omega, rfl⟩
   ·
    rintro m σ ⟨i, hi, rfl⟩ KL1 hKL1
    refine tr_seq fun K7 hK7 => ?_
    refine tr_sR [0, 1, 5, 15] fun K hK => ?_
    iterate 4 refine evR_p ?_
    refine evR_z hK ?_; clear hK K
    refine tr_condB (fun ht2 => ?_) (fun ht2 => ?_)
    ·
     skip
     (first | (exfalso; omega) | (exfalso; simp_all; done) | skip)
     all_goals
      have hil : i < l.length := by omega
      have hwi := hw _ (getD_mem (d := sg0) hil)
      replace hq := And.intro hq (hil)
      refine skipZ ?_
      refine hK7 _ ?_
      refine tr_seq fun K9 hK9 => ?_
      refine tr_block ?_
      refine tr_seq fun K10 hK10 => ?_
      refine tr_sD [] [0, 1, 5, 69] fun K hK => ?_
      iterate 12 refine evD_p ?_
      iterate 11 refine evD_g ?_
      iterate 2 refine evD_p ?_
      iterate 11 refine evD_g ?_
      iterate 2 refine evD_p ?_
      iterate 13 refine evD_g ?_
      refine evD_p ?_
      refine evD_z hK ?_; clear hK K
      refine tr_condB (fun ht3 => ?_) (fun ht3 => ?_)
      ·
       skip
       (first | (exfalso; omega) | (exfalso; simp_all; done) | skip)
       all_goals
        refine tr_sR [4] fun K hK => ?_
        refine evR_p ?_
        refine evR_z hK ?_; clear hK K
        refine retZ ?_; try exact ⟨⟩
        all_goals (rfl)
      ·
       skip
       (first | (exfalso; omega) | (exfalso; simp_all; done) | skip)
       all_goals
        refine skipZ ?_
        refine hK10 _ ?_
        refine tr_sR [0, 1, 5, 6] fun K hK => ?_
        refine evR_p ?_
        refine evR_z hK ?_; clear hK K
        refine tr_block ?_
        -- loop 2: live [0, 1, 5, 6]
        refine tr_loopW (fun m σ => ∃ k : Nat, k + m = (l.getD i sg0).ws.length ∧ σ = ⟨[(0, .sl 4 (encSgs l)), (1, .sl 4 (encSgs l)), (5, .int .i64 (i : Nat)), (6, .int .i64 (k : Nat))], [], 0⟩) ((l.getD i sg0).ws.length) ?_ ?_
        ·
         exact ⟨_, Wk.refl _, 0, by omega, rfl⟩
        ·
         rintro m2 σ ⟨k, hk, rfl⟩ KL2 hKL2
         refine tr_seq fun K14 hK14 => ?_
         refine tr_sR [0, 1, 5, 6, 77] fun K hK => ?_
         iterate 8 refine evR_p ?_
         refine evR_z hK ?_; clear hK K
         refine tr_condB (fun ht4 => ?_) (fun ht4 => ?_)
         ·
          skip
          (first | (exfalso; omega) | (exfalso; simp_all; done) | skip)
          all_goals
           have hkl : k < (l.getD i sg0).ws.length := by omega
           replace hq := And.intro hq (hkl)
           refine skipZ ?_
           refine hK14 _ ?_
           refine tr_seq fun K16 hK16 => ?_
           refine tr_block ?_
           refine tr_sD [] [0, 1, 5, 6, 96] fun K hK => ?_
           iterate 17 refine evD_p ?_
           refine evD_z hK ?_; clear hK K
           refine tr_condB (fun ht5 => ?_) (fun ht5 => ?_)
           ·
            skip
            (first | (exfalso; omega) | (exfalso; simp_all; done) | skip)
            all_goals
             refine tr_sR [4] fun K hK => ?_
             refine evR_p ?_
             refine evR_z hK ?_; clear hK K
             refine retZ ?_; try exact ⟨⟩
             all_goals (rfl)
           ·
            skip
            (first | (exfalso; omega) | (exfalso; simp_all; done) | skip)
            all_goals
             refine skipZ ?_
             refine hK16 _ ?_
             refine tr_region [0, 1, 5, 6] rfl rfl fun K hK => ?_
             iterate 3 refine evR_p ?_
             refine evR_e hK ?_; clear hK K
             refine hKL2 _ ?_
             exact ⟨m2 - 1, _, by omega, Wk.refl _, k + 1, by omega, by rw [w64 (x := (k : Int) + 1) (by omega)]; rfl⟩
         ·
          skip
          (first | (exfalso; omega) | (exfalso; simp_all; done) | skip)
          all_goals
           have hkl : k = (l.getD i sg0).ws.length := by omega
           subst hkl
           refine tr_exit ?_
           simp only [thenE, inBlkE, Nat.reduceEqDiff, ↓reduceIte]
           refine hK9 _ ?_
           refine tr_region [0, 1, 5] rfl rfl fun K hK => ?_
           iterate 3 refine evR_p ?_
           refine evR_e hK ?_; clear hK K
           refine hKL1 _ ?_
           exact ⟨m - 1, _, by omega, Wk.refl _, i + 1, by omega, by rw [w64 (x := (i : Int) + 1) (by omega)]; rfl⟩
    ·
     skip
     (first | (exfalso; omega) | (exfalso; simp_all; done) | skip)
     all_goals
      have hil : i = l.length := by omega
      subst hil
      refine tr_exit ?_
      simp only [thenE, inBlkE, Nat.reduceEqDiff, ↓reduceIte]
      refine hK5 _ ?_
      refine tr_sR [4] fun K hK => ?_
      refine evR_p ?_
      refine evR_z hK ?_; clear hK K
      refine retZ ?_; try exact ⟨⟩
      all_goals (rfl)
end

theorem ones4096 : ((List.range 4096).all fun w => decide (onesW (IntKind.u64.wrap (w : Nat)) = manyR (w : Nat) 12)) = true := by decide +kernel
theorem ones_many {w : Nat} (h : w < 4096) : onesW (IntKind.u64.wrap (w : Nat)) = manyR (w : Nat) 12 := by
 have := List.all_eq_true.1 ones4096 w (List.mem_range.2 h)
 exact of_decide_eq_true this
theorem pow_4096 {v u : Nat} (hv : v ≤ 12) (hu : u < 2 ^ v) : u < 4096 := by
 have : 2 ^ v ≤ 2 ^ 12 := Nat.pow_le_pow_right (by decide) hv
 omega
section
variable {l : List (List Int)} (hl : okAs l) {t : List Int} (ht : t.length = 16) (hR : validR l t = true)
include hl ht hR
end
structure So where
 fd : Bool
 set : Int
 gain : Int
 pf : List Sg
def so0 : So := ⟨false, 0, 0, []⟩
def encSo (s : So) : List V := [.bool s.fd, .int .i64 s.set, .int .i64 s.gain, .sl 4 (encSgs s.pf)]
def encSl (l : List So) : List (List V) := l.map encSo
theorem encSl_length (l : List So) : (encSl l).length = l.length := by simp [encSl]
theorem encSl_getD (l : List So) (k : Nat) (h : k < l.length) : (encSl l).getD k [] = encSo (l.getD k so0) := by simp [encSl, List.getD, h]
def coversB (l : List (List Int)) (t : List Int) (set : Int) : Bool := decide (0 ≤ set ∧ set < ((2 ^ l.length : Nat) : Int)) && withinA t (reachedL l set)
section
variable {l : List (List Int)} (hl : okAs l) {t : List Int} (ht : t.length = 16) (hR : validR l t = true)
include hl ht hR
/-- What the law meets at a solution. -/
def caseD (l : List (List Int)) (t : List Int) (F : Bool) (S : Int) (SL : List So) (i : Nat) : Prop :=
 (3 ≤ i ∧ True ∧ True ∧ True ∧ True ∧ True) ∨
 (i < 3 ∧ CallsA Tryz.prog 22 [.sl 16 (encA l), .agg (cellsI t), .agg (encSo (SL.getD i so0))] (.bool false) ∧ True ∧ True ∧ True ∧ True) ∨
 (i < 3 ∧ CallsA Tryz.prog 22 [.sl 16 (encA l), .agg (cellsI t), .agg (encSo (SL.getD i so0))] (.bool true) ∧ (SL.getD i so0).fd = false ∧ F = false ∧ True ∧ True) ∨
 (i < 3 ∧ CallsA Tryz.prog 22 [.sl 16 (encA l), .agg (cellsI t), .agg (encSo (SL.getD i so0))] (.bool true) ∧ (SL.getD i so0).fd = true ∧ F = true ∧ manyR (SL.getD i so0).set 12 = manyR S 12 ∧ coversB l t (SL.getD i so0).set = true)
omit hl ht hR in
end
theorem okPf_take {l : List Sg} (hw : ∀ s ∈ l, s.ws.length ≤ maxLen) : okPf (l.take 8) := ⟨by simp [maxLen]; omega, fun s hs => hw s (List.mem_of_mem_take hs)⟩
open Go.ChangeShapes Go.WideShapes Go.ChangeAt Go.RowKit
section
variable {H : Type} {enc : TypeId × Value → H} {w : World}
theorem decSo : Dec enc Tryz.prog w 29 encSo fun s => s.pf.length ≤ maxLen ∧ ∀ x ∈ s.pf, x.ws.length ≤ maxLen :=
 (dec_struct (n := 4) Tryz.underlying29 (by kernel_rfl)
  (decFs_cons (m := 1) rfl (by kernel_rfl) (dec_bool Tryz.underlying4) (decFs_cons (m := 1) rfl (by kernel_rfl) (dec_int Tryz.underlying3) (decFs_cons (m := 1) rfl (by kernel_rfl) (dec_int Tryz.underlying3)
   (decFs_cons (m := 1) rfl (by kernel_rfl) (dec_slice (sz := 4) Tryz.underlying27 (by kernel_rfl) (by decide) decSg) decFs_nil))))).turn
  (fun x => ⟨x.1, x.2.1, x.2.2.1, x.2.2.2.1⟩) fun x h => ⟨rfl, h.2.2.2.1.1, h.2.2.2.1.2⟩
end
section
variable {H : Type} {enc : TypeId × Value → H} {w : World}
theorem dec16 : Dec enc Tryz.prog w 26 (fun a : List Int => cellsI a) (okG 16) := decG Tryz.underlying26 (by kernel_rfl) (by kernel_rfl)
end
theorem zCheck {l : List (List Int)} (hl : okAs l) (h12 : l.length ≤ 12) {t : List Int} (ht : t.length = 16) (hR : validR l t = true) (fd : Bool) (set gain : Int) (pf : List Sg) (hpf : okPf pf) :
  CallsA Tryz.prog 23 [.sl 16 (encA l), .agg (cellsI t), .agg [.bool fd, .int .i64 set, .int .i64 gain, .sl 4 (encSgs pf)]] (.bool (checkC l t fd set gain pf)) := by
 obtain ⟨hV, -, hvt⟩ := validR_iff.1 hR
 have hp := okPr_valid (progR_valid h12 t)
 cases fd with
 | false => exact z23a l hl t ht hR false set gain pf hpf hp rfl
 | true =>
  by_cases h : 0 ≤ set ∧ set < ((2 ^ l.length : Nat) : Int)
  ·
   obtain ⟨u, hu⟩ := Int.eq_ofNat_of_zero_le h.1
   have hu2 : u < 2 ^ l.length := by omega
   have c49 := z49 l hl t ht h12 (valid0 hR) set h.1 h.2
   have := z23b l hl t ht hR true set gain pf hpf hp rfl _ c49
   rw [hu, reachT_all l (pow_small h12 hu2) h12] at this
   rw [hu]
   have e : checkC l t true (u : Nat) gain pf = ((withinA t (reachedL l (u : Nat)) && decide (gain = -manyR (u : Nat) 12)) && boundsW (progR l t) pf gain) := by
    unfold checkC
    rw [if_pos rfl, decide_eq_true (show 0 ≤ ((u : Nat) : Int) ∧ ((u : Nat) : Int) < ((2 ^ l.length : Nat) : Int) by omega), ones_many (pow_4096 h12 hu2), Bool.true_and, Bool.and_assoc]
    congr 1
    rw [Bool.eq_iff_iff, decide_eq_true_eq, minus_zero ht (reached_len hl _) hvt (reached_V hl hV _)]
   rw [e]; exact this
  ·
   have c49 := z49n l hl t ht h12 set (by right; omega)
   have := z23b l hl t ht hR true set gain pf hpf hp rfl _ c49
   have e : checkC l t true set gain pf = false := by
    unfold checkC; rw [if_pos rfl, decide_eq_false h, Bool.false_and]
   rw [e]; simpa using this
structure AlikeR (l : List (List Int)) (t : List Int) : Prop where
 miss : ∃ (M : List Int) (e : Int), M.length = 16 ∧ CallsA Tryz.prog 8 [.sl 16 (encA l), .agg (cellsI t)] (.tup [.agg (cellsI M), .int .i64 e]) ∧ CallsA Tryz.prog 9 [.sl 16 (encA l), .agg (cellsI t)] (.tup [.agg (cellsI M), .int .i64 e])
 prog : ∃ (p : Pg) (e : Int), okPr p ∧ CallsA Tryz.prog 10 [.sl 16 (encA l), .agg (cellsI t)] (.tup [.agg (encPg p), .int .i64 e]) ∧ CallsA Tryz.prog 11 [.sl 16 (encA l), .agg (cellsI t)] (.tup [.agg (encPg p), .int .i64 e])
 least : ∃ (s : So) (e : Int), (s.pf.length ≤ 8191 ∧ ∀ x ∈ s.pf, x.ws.length ≤ 1000) ∧ CallsA Tryz.prog 12 [.sl 16 (encA l), .agg (cellsI t)] (.tup [.agg (encSo s), .int .i64 e]) ∧ CallsA Tryz.prog 13 [.sl 16 (encA l), .agg (cellsI t)] (.tup [.agg (encSo s), .int .i64 e])
 valid : ∃ b : Bool, CallsA Tryz.prog 14 [.sl 16 (encA l), .agg (cellsI t)] (.bool b) ∧ CallsA Tryz.prog 15 [.sl 16 (encA l), .agg (cellsI t)] (.bool b)
 reach : ∀ set : Int, ∃ (M : List Int) (e : Int), M.length = 16 ∧ CallsA Tryz.prog 19 [.sl 16 (encA l), .int .i64 set] (.tup [.agg (cellsI M), .int .i64 e]) ∧ CallsA Tryz.prog 20 [.sl 16 (encA l), .int .i64 set] (.tup [.agg (cellsI M), .int .i64 e])
 check : ∀ s : So, okPf s.pf → ∃ b : Bool, CallsA Tryz.prog 22 [.sl 16 (encA l), .agg (cellsI t), .agg (encSo s)] (.bool b) ∧ CallsA Tryz.prog 23 [.sl 16 (encA l), .agg (cellsI t), .agg (encSo s)] (.bool b)
theorem pgN_le : V.Le (.tup [.agg [.int .i64 0, .nsl, .nsl], .int .i64 280]) (.tup [.agg (encPg ⟨0, [], []⟩), .int .i64 280]) := .tup (.cons (.agg (.cons (.refl _) (.cons (.nsl 6) (.cons (.nsl 1) .nil)))) (.cons (.refl _) .nil))
theorem soN_le : V.Le (.tup [.agg [.bool false, .int .i64 0, .int .i64 0, .nsl], .int .i64 280]) (.tup [.agg (encSo so0), .int .i64 280]) := .tup (.cons (.agg (.cons (.refl _) (.cons (.refl _) (.cons (.refl _) (.cons (.nsl 4) .nil))))) (.cons (.refl _) .nil))
theorem alike {l : List (List Int)} (hl : okAs l) (h7 : l.length ≤ 7) {t : List Int} (ht : t.length = 16) : AlikeR l t := by
 have h12 : l.length ≤ 12 := by omega
 have hreach : ∀ set : Int, ∃ (M : List Int) (e : Int), M.length = 16 ∧ CallsA Tryz.prog 19 [.sl 16 (encA l), .int .i64 set] (.tup [.agg (cellsI M), .int .i64 e]) ∧ CallsA Tryz.prog 20 [.sl 16 (encA l), .int .i64 set] (.tup [.agg (cellsI M), .int .i64 e]) := fun set => by
  by_cases h : validR l zeros16 = true ∧ 0 ≤ set ∧ set < ((2 ^ l.length : Nat) : Int)
  ·
   obtain ⟨u, hu⟩ := Int.eq_ofNat_of_zero_le h.2.1
   have hu2 : u < 2 ^ l.length := by omega
   refine ⟨reachedL l set, 0, reached_len hl _, k53 l hl h12 set h.1 h.2.1 h.2.2, ?_⟩
   have := z20 l hl h12 set h.1 h.2.1 h.2.2
   rw [hu, reachT_all l (pow_small h12 hu2) h12, ← hu] at this; exact this
  ·
   have h1 : validR l zeros16 = false ∨ set < 0 ∨ ((2 ^ l.length : Nat) : Int) ≤ set := by
    by_cases hv : validR l zeros16 = true
    ·
     right
     have h2 : ¬ (0 ≤ set ∧ set < ((2 ^ l.length : Nat) : Int)) := fun x => h ⟨hv, x⟩
     omega
    ·
     left; simpa using hv
   exact ⟨zeros16, 280, rfl, k53n l hl h12 set h1, z20n l hl h12 set h1⟩
 cases hR : validR l t with
 | true =>
  have hvM := progR_valid h12 t
  obtain ⟨hV, -, hvt⟩ := validR_iff.1 hR
  have hp := okPr_valid hvM
  refine ⟨⟨_, 0, minusA_len ht (union_len hl), k52 l hl t ht hR, z9 l hl t ht hR⟩, ⟨_, 0, hp, k49 l hl t ht hR, z11 l hl t ht hR⟩, ⟨⟨_, _, _, prfS (progR l t)⟩, 0, ⟨(prf_len hvM).2, prf_ws _⟩, kLeast hl ht hR, z13 l hl t ht hR hvM⟩, ⟨true, ?_, ?_⟩, hreach, fun s hs => ⟨checkC l t s.fd s.set s.gain s.pf, kCheck hl ht hR s.fd s.set s.gain s.pf hs, ?_⟩⟩
  ·
   have := k86 l hl t ht; rw [hR] at this; exact this
  ·
   have := z15 l hl t ht; rw [hR] at this; exact this
  ·
   exact zCheck hl h12 ht hR s.fd s.set s.gain s.pf hs
 | false =>
  refine ⟨⟨zeros16, 280, rfl, z8n l hl t ht hR, z9n l hl t ht hR⟩, ⟨⟨0, [], []⟩, 280, ⟨by simp, by simp, by simp⟩, (z10n l hl t ht hR).le pgN_le, (z11n l hl t ht hR).le pgN_le⟩, ⟨so0, 280, ⟨by simp [so0], by simp [so0]⟩, (z12n l hl t ht hR).le soN_le, (z13n l hl t ht hR).le soN_le⟩, ⟨false, ?_, ?_⟩, hreach, fun s hs => ⟨false, z22n l hl t ht hR s.fd s.set s.gain s.pf, z23n l hl t ht hR s.fd s.set s.gain s.pf⟩⟩
  ·
   have := k86 l hl t ht; rw [hR] at this; exact this
  ·
   have := z15 l hl t ht; rw [hR] at this; exact this
end Go.Proofs.YtfamkbofdamkkaaGreat
namespace Go.Proofs.YtfamkbofdamkkaaGreat
open Go.RowKit
set_option linter.unusedVariables false
set_option linter.unusedSimpArgs false
set_option maxRecDepth 100000
attribute [local go_sem] Nat.zero_add Nat.add_zero Nat.mul_one eq_self ne_eq not_true_eq_false not_false_eq_true decide_true decide_false decide_not Bool.false_eq_true List.filter_cons List.filter_nil true_and and_true beq_false beq_true Bool.not_true Bool.not_false Bool.and_true Bool.true_and Option.getD_some Option.getD_none imp_self implies_true Int.toNat_natCast List.cons_append List.nil_append List.map_cons List.map_nil List.length_cons List.length_nil List.getD_cons_zero List.getD_cons_succ List.drop_zero List.drop_succ_cons List.take_succ_cons List.take_zero
attribute [local go_sem] Option.isNone_none Option.isNone_some Option.isSome_none List.lookup Option.isSome_some Bool.or_true Bool.true_or Bool.or_false Bool.false_or and_false false_and or_false false_or List.length_append forall_const imp_self
attribute [local go_sem] cellsI_fzL cellsI_uptoL List.getElem?_cons_zero List.getElem?_cons_succ List.zip_cons_cons List.zip_nil_left List.zip_nil_right Bool.false_and Bool.and_false cellsG_length polyA_length discA_length agEq_cells cellsI_isI cellsI_length cellsI_sc cellsI_cl cellsI_rows cellsI_take cellsI_dropD cellsI_set cellsI_full List.length_set List.length_replicate List.all_cons List.all_nil outA_length eachA_length outM_length getD_set_same List.set_set spl_nil0 spl_cons0 spl_succ encP_length encP_getD
attribute [local simp] encP_length padP_length encI_length
attribute [local go_sem] encR_length encR_getD encRw encPg lookV
attribute [local simp] encA_length encR_length cellsI_length
section
attribute [local go_sem] encSo
theorem z17 (s : So) (hl : s.pf.length ≤ maxLen) (hw : ∀ x ∈ s.pf, x.ws.length ≤ maxLen) : CallsA Tryz.prog 17 [.agg (encSo s), .agg (encSo s)] (.bool true) := by
 have hq : True := trivial
 refine callsA_of_tr Tryz.func17 rfl (Nat.le_of_ble_eq_true rfl) ?_
 simp only [Tryz.results17, envOf, Nat.reduceAdd]
 refine tr_sR [2, 3] fun K hK => ?_
 iterate 3 refine evR_p ?_
 refine evR_z hK ?_; clear hK K
 refine tr_sR [4] fun K hK => ?_
 iterate 6 refine evR_p ?_
 iterate 5 refine evR_g ?_
 iterate 2 refine evR_p ?_
 iterate 5 refine evR_g ?_
 iterate 2 refine evR_p ?_
 iterate 4 refine evR_g ?_
 refine evR_gc (hc := (z41 s.pf hl hw)) (k := ?_)
 iterate 2 refine evR_p ?_
 refine evR_z hK ?_; clear hK K
 refine retZ ?_; try exact ⟨⟩
 all_goals (first | rfl | simp)
end

section
attribute [local go_sem] encA_length encA_take
theorem z7 (l : List (List Int)) (hm : l.length ≤ maxLen) : CallsA Tryz.prog 7 [.sl 16 (encA l)] (.sl 16 (encA (l.take 4))) := by
 unfold maxLen at hm
 have hmc := minV_range l.length 4 (by omega)
 have htc : l.take (minV (l.length : Int) 4).toNat = l.take 4 := take_min l 4
 have hq := And.intro hmc (htc)
 refine callsA_of_tr Tryz.func7 rfl (Nat.le_of_ble_eq_true rfl) ?_
 simp only [Tryz.results7, envOf, Nat.reduceAdd]
 refine tr_sR [0] fun K hK => ?_
 refine evR_p ?_
 refine evR_z hK ?_; clear hK K
 refine tr_sR [2] fun K hK => ?_
 iterate 6 refine evR_p ?_
 refine evR_z hK ?_; clear hK K
 refine retZ ?_; try exact ⟨⟩
 all_goals (rfl)
end

section
attribute [local go_sem] encA_length encA_getD encSgs_take encSgs_length encSl_length encSl_getD encSo sameB_self List.replicate_succ List.replicate_zero List.set_cons_zero List.set_cons_succ
set_option maxHeartbeats 32000000 in
theorem z3 (x : List T3) (y : List Pl) (hx : x.length ≤ maxLen) (hy : y.length ≤ maxLen) (raw : List (List Int)) (hraw : okAs raw) (odd : List Int) (hodd : odd.length = 16) (set : Int) (fd : Bool) (sset gain : Int) (pf : List Sg) (hpl : pf.length ≤ maxLen) (hpw : ∀ s ∈ pf, s.ws.length ≤ maxLen) (z : List Int) (hz4 : z.length = 4) (hz : ∀ c ∈ z, okI c) : CallsA Tryz.prog 3 [.sl 3 (encT x), .sl 2 (encP y), .sl 16 (encA raw), .agg (cellsI odd), .int .i64 set, .agg [.bool fd, .int .i64 sset, .int .i64 gain, .sl 4 (encSgs pf)], .agg (cellsI z)] (.bool true) := by
 have hrm := hraw.1
 have hpm := hpl
 unfold maxLen at hpm hrm
 have hmc := minV_range pf.length 8 (by omega)
 have hmc2 : minV (pf.length : Int) 8 ≤ ((encSgs pf).length : Int) := by rw [encSgs_length]; exact hmc.2
 have htc : List.take (minV (pf.length : Int) 8).toNat pf = List.take 8 pf := take_min pf 8
 have hok : List.take 16 (cellsI odd) = cellsI odd := List.take_of_length_le (by rw [cellsI_length, hodd]; decide)
 have htl := targetL_len y
 have htf := cellsI_full (targetL y) (cellsI (List.replicate 16 0)) (by rw [cellsI_length, htl]; rfl)
 replace htl := And.intro htl htf
 have hr4 : okAs (raw.take 4) := ⟨by simp [maxLen]; omega, fun a ha => hraw.2 a (List.mem_of_mem_take ha)⟩
 have hq := And.intro hodd (And.intro hok (And.intro hz4 (And.intro hmc (And.intro hmc2 (htc)))))
 refine callsA_of_tr Tryz.func3 rfl (Nat.le_of_ble_eq_true rfl) ?_
 simp only [Tryz.results3, envOf, Nat.reduceAdd]
 refine tr_sR [0, 1, 2, 4, 10, 12, 13] fun K hK => ?_
 iterate 4 refine evR_p ?_
 refine evR_z hK ?_; clear hK K
 refine tr_sR [0, 1, 2, 4, 10, 12, 13, 15] fun K hK => ?_
 refine evR_c (hc := k39) (k := ?_)
 refine evR_p ?_
 refine evR_z hK ?_; clear hK K
 refine tr_sR [1, 2, 4, 10, 12, 13, 15, 16] fun K hK => ?_
 refine evR_p ?_
 refine evR_c (hc := (k40 x hx)) (k := ?_)
 refine evR_p ?_
 refine evR_z hK ?_; clear hK K
 refine tr_sR [2, 4, 10, 12, 13, 15, 16, 17] fun K hK => ?_
 refine evR_p ?_
 refine evR_c (hc := (k41 y hy)) (k := ?_)
 iterate 2 refine evR_p ?_
 refine evR_z hK ?_; clear hK K
 refine tr_sR [2, 4, 10, 12, 13, 15, 16, 17] fun K hK => ?_
 iterate 9 refine evR_p ?_
 refine evR_z hK ?_; clear hK K
 refine tr_seq fun K6 hK6 => ?_
 refine tr_sR [2, 4, 10, 12, 13, 15, 16, 17, 18] fun K hK => ?_
 refine evR_p ?_
 refine evR_z hK ?_; clear hK K
 refine tr_block ?_
 -- loop 1: live [2, 4, 10, 12, 13, 15, 16, 17, 18]
 refine tr_loopW (fun m σ => ∃ (i : Nat) (l : List (List Int)) (t : List Int), i + m = 2 ∧ okAs l ∧ l.length ≤ 7 ∧ t.length = 16 ∧ σ = ⟨[(2, .sl 16 (encA raw)), (4, .int .i64 set), (10, .ptr 0 0), (12, .ptr 1 0), (13, .ptr 2 0), (15, .bool true), (16, .sl 16 (encA l)), (17, .ptr 3 0), (18, .int .i64 (i : Nat))], [(3, .cells (cellsI t)), (2, .cells (cellsI z)), (1, .cells (encSo ⟨fd, sset, gain, pf.take 8⟩)), (0, .cells (cellsI odd))], 4⟩) (2) ?_ ?_
 ·
  exact ⟨_, Wk.refl _, 0, discsL x, targetL y, by omega, discsL_ok x, discsL_len x, targetL_len y, by first | rfl | (rw [htl.2]; rfl)⟩
 ·
  rintro m σ ⟨i, l, t, hi, hl, h7, ht, rfl⟩ KL1 hKL1
  refine tr_seq fun K8 hK8 => ?_
  refine tr_sR [2, 4, 10, 12, 13, 15, 16, 17, 18, 55] fun K hK => ?_
  iterate 2 refine evR_p ?_
  refine evR_z hK ?_; clear hK K
  refine tr_condB (fun ht1 => ?_) (fun ht1 => ?_)
  ·
   skip
   (first | (exfalso; omega) | (exfalso; simp_all [sameB_self]; done) | skip)
   all_goals
    have hil : i < 2 := by omega
    have htk : List.take 16 (cellsI t) = cellsI t := List.take_of_length_le (by rw [cellsI_length, ht]; decide)
    have hnf := cellsI_full odd (cellsI t) (by rw [cellsI_length, hodd, ht])
    replace hq := And.intro hq (And.intro hil (And.intro ht (And.intro htk (hnf))))
    refine skipZ ?_
    refine hK8 _ ?_
    refine tr_seq fun K10 hK10 => ?_
    refine tr_block ?_
    refine tr_seq fun K11 hK11 => ?_
    refine tr_sR [2, 4, 10, 12, 13, 15, 16, 17, 18, 59] fun K hK => ?_
    iterate 2 refine evR_p ?_
    refine evR_z hK ?_; clear hK K
    refine tr_cut (fun σ => ∃ (l : List (List Int)) (t : List Int), okAs l ∧ l.length ≤ 7 ∧ t.length = 16 ∧ σ = ⟨[(2, .sl 16 (encA raw)), (4, .int .i64 set), (10, .ptr 0 0), (12, .ptr 1 0), (13, .ptr 2 0), (15, .bool true), (16, .sl 16 (encA l)), (17, .ptr 3 0), (18, .int .i64 (i : Nat))], [(3, .cells (cellsI t)), (2, .cells (cellsI z)), (1, .cells (encSo ⟨fd, sset, gain, pf.take 8⟩)), (0, .cells (cellsI odd))], 4⟩) (fun KJ2 hKJ2 => ?_) ?_
    ·
     skip
     refine tr_condB (fun ht2 => ?_) (fun ht2 => ?_)
     ·
      skip
      (first | (exfalso; omega) | (exfalso; simp_all [sameB_self]; done) | skip)
      all_goals
       refine tr_sR [2, 4, 10, 12, 13, 15, 16, 17, 18] fun K hK => ?_
       refine evR_p ?_
       refine evR_c (hc := (z7 raw hraw.1)) (k := ?_)
       refine evR_p ?_
       refine evR_z hK ?_; clear hK K
       refine tr_region [2, 4, 10, 12, 13, 15, 16, 17, 18] rfl rfl fun K hK => ?_
       iterate 2 refine evR_p ?_
       refine evR_e hK ?_; clear hK K
       refine hKJ2 _ ?_
       first | exact ⟨l, t, hl, h7, ht, rfl⟩ | exact ⟨raw.take 4, odd, hr4, by simp; omega, hodd, by first | rfl | (rw [hnf]; rfl)⟩
     ·
      skip
      (first | (exfalso; omega) | (exfalso; simp_all [sameB_self]; done) | skip)
      all_goals
       refine tr_wk (Wk.norm _ [2, 4, 10, 12, 13, 15, 16, 17, 18]) ?_
       refine skipZ ?_
       refine hKJ2 _ ?_
       first | exact ⟨l, t, hl, h7, ht, rfl⟩ | exact ⟨raw.take 4, odd, hr4, by simp; omega, hodd, by first | rfl | (rw [hnf]; rfl)⟩
    ·
     rintro σ ⟨l2, t2, hl2, h72, ht2, rfl⟩
     have hA := alike hl2 h72 ht2
     obtain ⟨M, e1, hM, c8, c9⟩ := hA.miss
     obtain ⟨P, e2, hP, c10, c11⟩ := hA.prog
     obtain ⟨D, e3, ⟨hD5, hD6⟩, c12, c13⟩ := hA.least
     obtain ⟨B, c14, c15⟩ := hA.valid
     simp only [encSo] at c12 c13
     have hD1 : D.pf.length ≤ maxLen := by unfold maxLen; omega
     have hD2 : ∀ x ∈ D.pf, x.ws.length ≤ maxLen := fun x hx => by have := hD6 x hx; unfold maxLen; omega
     have hD3 : D.pf.length ≤ 100000 := by omega
     have hD4 : ∀ x ∈ D.pf, x.ws.length ≤ 100000 := fun x hx => by have := hD6 x hx; omega
     have hMf := cellsI_full M (cellsI (List.replicate 16 0)) (by rw [cellsI_length, hM]; rfl)
     have hMk : List.take 16 (cellsI M) = cellsI M := List.take_of_length_le (by rw [cellsI_length, hM]; decide)
     have ht2k : List.take 16 (cellsI t2) = cellsI t2 := List.take_of_length_le (by rw [cellsI_length, ht2]; decide)
     have hsh : shlW .i64 1 (l2.length : Nat) = ((2 ^ l2.length : Nat) : Int) := shl1 (by omega)
     have hpp : (0 : Int) < ((2 ^ l2.length : Nat) : Int) := by have := Nat.two_pow_pos l2.length; omega
     obtain ⟨SL, hSL⟩ : ∃ SL, [set, pickW set ((2 ^ l2.length : Nat) : Int)] = SL := ⟨_, rfl⟩
     have hSLe : encI [set, pickW set ((2 ^ l2.length : Nat) : Int)] = encI SL := by rw [hSL]
     have hSLn : SL.length = 2 := by rw [← hSL]; rfl
     have hbl := bentW_len (l := D.pf) (z := z)
     have hbw := bentW_ws (z := z) hD6
     have hQ0 : ∀ QL, QL = [D, (⟨fd, sset, gain, pf.take 8⟩ : So), ⟨D.fd, D.set, D.gain, bentW D.pf z⟩, ⟨D.fd, set, D.gain, D.pf⟩] → ∀ i, i < 4 → okPf (QL.getD i so0).pf := fun QL hQL i hi => by
      subst hQL
      match i, hi with
      | 0, _ => exact ⟨hD1, hD2⟩
      | 1, _ => exact okPf_take hpw
      | 2, _ => exact okPf_bent (by show (bentW D.pf z).length ≤ 8192; omega) (fun s hs => by have := hbw s hs; omega)
      | 3, _ => exact ⟨hD1, hD2⟩
     obtain ⟨QL, hQLd⟩ : ∃ QL, QL = [D, (⟨fd, sset, gain, pf.take 8⟩ : So), ⟨D.fd, D.set, D.gain, bentW D.pf z⟩, ⟨D.fd, set, D.gain, D.pf⟩] := ⟨_, rfl⟩
     have hQLe : [[V.bool D.fd, V.int .i64 D.set, V.int .i64 D.gain, V.sl 4 (encSgs D.pf)], [V.bool fd, V.int .i64 sset, V.int .i64 gain, V.sl 4 (encSgs (pf.take 8))], [V.bool D.fd, V.int .i64 D.set, V.int .i64 D.gain, V.sl 4 (encSgs (bentW D.pf z))], [V.bool D.fd, V.int .i64 set, V.int .i64 D.gain, V.sl 4 (encSgs D.pf)]] = encSl QL := by rw [hQLd]; rfl
     have hQLn : QL.length = 4 := by rw [hQLd]; rfl
     have hQL := hQ0 QL hQLd
     clear hQ0
     replace hq := And.intro hq (And.intro hM (And.intro hMf (And.intro hMk (And.intro ht2k (And.intro hsh ht2)))))
     refine hK11 _ ?_
     refine tr_sR [2, 4, 10, 12, 13, 15, 16, 17, 18, 19, 20] fun K hK => ?_
     iterate 2 refine evR_p ?_
     refine evR_c (hc := c8) (k := ?_)
     iterate 6 refine evR_p ?_
     refine evR_z hK ?_; clear hK K
     refine tr_sR [2, 4, 10, 12, 13, 15, 16, 17, 18, 19, 20, 21, 22] fun K hK => ?_
     iterate 2 refine evR_p ?_
     refine evR_c (hc := c9) (k := ?_)
     iterate 6 refine evR_p ?_
     refine evR_z hK ?_; clear hK K
     refine tr_sR [2, 4, 10, 12, 13, 15, 16, 17, 18, 19, 20, 21, 22, 23, 24] fun K hK => ?_
     iterate 2 refine evR_p ?_
     refine evR_c (hc := c10) (k := ?_)
     iterate 6 refine evR_p ?_
     refine evR_z hK ?_; clear hK K
     refine tr_sR [2, 4, 10, 12, 13, 15, 16, 17, 18, 19, 20, 21, 22, 23, 24, 25, 26] fun K hK => ?_
     iterate 2 refine evR_p ?_
     refine evR_c (hc := c11) (k := ?_)
     iterate 6 refine evR_p ?_
     refine evR_z hK ?_; clear hK K
     refine tr_sR [2, 4, 10, 12, 13, 15, 16, 17, 18, 19, 20, 21, 22, 23, 24, 25, 26, 27, 28] fun K hK => ?_
     iterate 2 refine evR_p ?_
     refine evR_c (hc := c12) (k := ?_)
     iterate 6 refine evR_p ?_
     refine evR_z hK ?_; clear hK K
     refine tr_sR [2, 4, 10, 12, 13, 15, 16, 17, 18, 19, 20, 21, 22, 23, 24, 25, 26, 27, 28, 29, 30] fun K hK => ?_
     iterate 2 refine evR_p ?_
     refine evR_c (hc := c13) (k := ?_)
     iterate 6 refine evR_p ?_
     refine evR_z hK ?_; clear hK K
     refine tr_seq fun K20 hK20 => ?_
     refine tr_sD [] [2, 4, 10, 12, 13, 15, 16, 17, 18, 29, 137] fun K hK => ?_
     iterate 2 refine evD_p ?_
     refine evD_c (hc := c14) (k := ?_)
     iterate 2 refine evD_p ?_
     refine evD_c (hc := c15) (k := ?_)
     iterate 2 refine evD_p ?_
     iterate 3 refine evD_g ?_
     iterate 2 refine evD_p ?_
     iterate 3 refine evD_g ?_
     iterate 2 refine evD_p ?_
     iterate 3 refine evD_g ?_
     iterate 2 refine evD_p ?_
     iterate 3 refine evD_g ?_
     iterate 2 refine evD_p ?_
     iterate 2 refine evD_g ?_
     refine evD_gc (hc := (c32 P P hP.r hP.r hP.g hP.g hP.c hP.c)) (k := ?_)
     refine evD_g ?_
     iterate 2 refine evD_p ?_
     iterate 2 refine evD_g ?_
     refine evD_gc (hc := (z17 D hD1 hD2)) (k := ?_)
     refine evD_g ?_
     refine evD_p ?_
     refine evD_z hK ?_; clear hK K
     refine tr_condB (fun ht3 => ?_) (fun ht3 => ?_)
     ·
      skip
      (first | (exfalso; omega) | (exfalso; simp_all [sameB_self]; done) | skip)
      all_goals
       refine tr_sR [14] fun K hK => ?_
       refine evR_p ?_
       refine evR_z hK ?_; clear hK K
       refine retZ ?_; try exact ⟨⟩
       all_goals (rfl)
     ·
      skip
      (first | (exfalso; omega) | (exfalso; simp_all [sameB_self]; done) | skip)
      all_goals
       refine skipZ ?_
       refine hK20 _ ?_
       refine tr_seq fun K23 hK23 => ?_
       refine tr_sR [2, 4, 10, 12, 13, 15, 16, 17, 18, 29, 144, 145, 146] fun K hK => ?_
       iterate 5 refine evR_p ?_
       refine evR_c (hc := (k44 set _ hpp)) (k := ?_)
       refine evR_bs ?_
       iterate 2 refine evR_p ?_
       refine evR_z hK ?_; clear hK K
       refine tr_block ?_
       -- loop 2: live [2, 4, 10, 12, 13, 15, 16, 17, 18, 29, 144, 145, 146]
       refine tr_loopW (fun m σ => ∃ k : Nat, k + m = 2 ∧ σ = ⟨[(2, .sl 16 (encA raw)), (4, .int .i64 set), (10, .ptr 0 0), (12, .ptr 1 0), (13, .ptr 2 0), (15, .bool true), (16, .sl 16 (encA l2)), (17, .ptr 3 0), (18, .int .i64 (i : Nat)), (29, .ptr 9 0), (144, .sl 1 (encI SL)), (145, .int .i64 2), (146, .int .i64 (k : Nat))], [(9, .cells (encSo D)), (3, .cells (cellsI t2)), (2, .cells (cellsI z)), (1, .cells (encSo ⟨fd, sset, gain, pf.take 8⟩)), (0, .cells (cellsI odd))], 10⟩) (2) ?_ ?_
       ·
        exact ⟨_, Wk.trans (Wk.drop (fun k => k == 0 || k == 1 || k == 2 || k == 3 || k == 9)) (Wk.cut 10 (by simp [St.cutOK, AObj.upto, V.upto, V.uptoL, cellsI_uptoL, enC_uptoL, List.all_cons, List.all_nil, List.filter_cons, List.filter_nil, Nat.blt_eq, Nat.reduceLT, Nat.lt_irrefl, decide_true, decide_false, Bool.and_self, Bool.and_true, Bool.true_and, if_true, if_false, ↓reduceIte, Bool.false_eq_true, cellsI_uptoL, encSo, V.upto, V.uptoL])), 0, by omega, by first | rfl | (rw [← hSLe]; rfl)⟩
       ·
        rintro m2 σ ⟨k, hk, rfl⟩ KL2 hKL2
        refine tr_sR [2, 4, 10, 12, 13, 15, 16, 17, 18, 29, 144, 145, 146, 147] fun K hK => ?_
        refine evR_p ?_
        refine evR_z hK ?_; clear hK K
        refine tr_seq fun K26 hK26 => ?_
        refine tr_condB (fun ht4 => ?_) (fun ht4 => ?_)
        ·
         skip
         (first | (exfalso; omega) | (exfalso; simp_all [sameB_self]; done) | skip)
         all_goals
          have hkl : k < SL.length := by omega
          obtain ⟨Q, v, hQ, c19, c20⟩ := hA.reach (SL.getD k 0)
          have hqf := cellsI_full Q (cellsI (List.replicate 16 0)) (by rw [cellsI_length, hQ]; rfl)
          have hqk : List.take 16 (cellsI Q) = cellsI Q := List.take_of_length_le (by rw [cellsI_length, hQ]; decide)
          replace hq := And.intro hq (And.intro hkl (And.intro hQ (And.intro hqf (hqk))))
          refine skipZ ?_
          refine hK26 _ ?_
          refine tr_seq fun K27 hK27 => ?_
          refine tr_block ?_
          refine tr_sR [2, 4, 10, 12, 13, 15, 16, 17, 18, 29, 32, 144, 145, 146] fun K hK => ?_
          iterate 3 refine evR_p ?_
          refine evR_z hK ?_; clear hK K
          refine tr_sR [2, 4, 10, 12, 13, 15, 16, 17, 18, 29, 32, 33, 34, 144, 145, 146] fun K hK => ?_
          iterate 2 refine evR_p ?_
          refine evR_c (hc := c19) (k := ?_)
          iterate 6 refine evR_p ?_
          refine evR_z hK ?_; clear hK K
          refine tr_sR [2, 4, 10, 12, 13, 15, 16, 17, 18, 29, 33, 34, 35, 36, 144, 145, 146] fun K hK => ?_
          iterate 2 refine evR_p ?_
          refine evR_c (hc := c20) (k := ?_)
          iterate 6 refine evR_p ?_
          refine evR_z hK ?_; clear hK K
          refine tr_sR [2, 4, 10, 12, 13, 15, 16, 17, 18, 29, 144, 145, 146, 169] fun K hK => ?_
          iterate 4 refine evR_p ?_
          iterate 3 refine evR_g ?_
          refine evR_p ?_
          refine evR_z hK ?_; clear hK K
          refine tr_condB (fun ht5 => ?_) (fun ht5 => ?_)
          ·
           skip
           (first | (exfalso; omega) | (exfalso; simp_all [sameB_self]; done) | skip)
           all_goals
            refine tr_sR [14] fun K hK => ?_
            refine evR_p ?_
            refine evR_z hK ?_; clear hK K
            refine retZ ?_; try exact ⟨⟩
            all_goals (rfl)
          ·
           skip
           (first | (exfalso; omega) | (exfalso; simp_all [sameB_self]; done) | skip)
           all_goals
            refine skipZ ?_
            refine hK27 _ ?_
            refine tr_region [2, 4, 10, 12, 13, 15, 16, 17, 18, 29, 144, 145, 146] rfl rfl fun K hK => ?_
            iterate 2 refine evR_p ?_
            refine evR_e hK ?_; clear hK K
            refine hKL2 _ ?_
            exact ⟨m2 - 1, _, by omega, Wk.cut 10 (by simp [St.cutOK, AObj.upto, V.upto, V.uptoL, cellsI_uptoL, enC_uptoL, List.all_cons, List.all_nil, List.filter_cons, List.filter_nil, Nat.blt_eq, Nat.reduceLT, Nat.lt_irrefl, decide_true, decide_false, Bool.and_self, Bool.and_true, Bool.true_and, if_true, if_false, ↓reduceIte, Bool.false_eq_true, cellsI_uptoL, encSo, V.upto, V.uptoL]), k + 1, by omega, by rw [w64 (x := (k : Int) + 1) (by omega)]; rfl⟩
        ·
         skip
         (first | (exfalso; omega) | (exfalso; simp_all [sameB_self]; done) | skip)
         all_goals
          have hkl : k = 2 := by omega
          refine tr_exit ?_
          simp only [thenE, inBlkE, Nat.reduceEqDiff, ↓reduceIte]
          refine hK23 _ ?_
          refine tr_sR [2, 4, 10, 12, 13, 15, 16, 17, 18, 29, 37] fun K hK => ?_
          iterate 3 refine evR_p ?_
          refine evR_z hK ?_; clear hK K
          refine tr_sR [2, 4, 10, 12, 13, 15, 16, 17, 18, 29, 37] fun K hK => ?_
          iterate 3 refine evR_p ?_
          refine evR_c (hc := (k19 D.pf hD3 hD4 z hz4 hz)) (k := ?_)
          iterate 2 refine evR_p ?_
          refine evR_z hK ?_; clear hK K
          refine tr_sR [2, 4, 10, 12, 13, 15, 16, 17, 18, 29, 37, 38] fun K hK => ?_
          iterate 3 refine evR_p ?_
          refine evR_z hK ?_; clear hK K
          refine tr_sR [2, 4, 10, 12, 13, 15, 16, 17, 18, 29, 37, 38] fun K hK => ?_
          iterate 3 refine evR_p ?_
          refine evR_z hK ?_; clear hK K
          refine tr_sR [2, 4, 10, 12, 13, 15, 16, 17, 18, 184, 185, 186] fun K hK => ?_
          iterate 4 refine evR_p ?_
          refine evR_bs ?_
          iterate 2 refine evR_p ?_
          refine evR_z hK ?_; clear hK K
          refine tr_block ?_
          -- loop 3: live [2, 4, 10, 12, 13, 15, 16, 17, 18, 184, 185, 186]
          refine tr_loopW (fun m σ => ∃ k : Nat, k + m = 4 ∧ σ = ⟨[(2, .sl 16 (encA raw)), (4, .int .i64 set), (10, .ptr 0 0), (12, .ptr 1 0), (13, .ptr 2 0), (15, .bool true), (16, .sl 16 (encA l2)), (17, .ptr 3 0), (18, .int .i64 (i : Nat)), (184, .sl 4 (encSl QL)), (185, .int .i64 4), (186, .int .i64 (k : Nat))], [(3, .cells (cellsI t2)), (2, .cells (cellsI z)), (1, .cells (encSo ⟨fd, sset, gain, pf.take 8⟩)), (0, .cells (cellsI odd))], 4⟩) (4) ?_ ?_
          ·
           exact ⟨_, Wk.trans (Wk.drop (fun k => k == 0 || k == 1 || k == 2 || k == 3)) (Wk.cut 4 (by simp [St.cutOK, AObj.upto, V.upto, V.uptoL, cellsI_uptoL, enC_uptoL, List.all_cons, List.all_nil, List.filter_cons, List.filter_nil, Nat.blt_eq, Nat.reduceLT, Nat.lt_irrefl, decide_true, decide_false, Bool.and_self, Bool.and_true, Bool.true_and, if_true, if_false, ↓reduceIte, Bool.false_eq_true, cellsI_uptoL, encSo, V.upto, V.uptoL])), 0, by omega, by first | rfl | (rw [hQLn, ← hQLe]; rfl) | (rw [← hQLe]; rfl)⟩
          ·
           rintro m3 σ ⟨k, hk, rfl⟩ KL3 hKL3
           refine tr_sR [2, 4, 10, 12, 13, 15, 16, 17, 18, 184, 185, 186, 187] fun K hK => ?_
           refine evR_p ?_
           refine evR_z hK ?_; clear hK K
           refine tr_seq fun K39 hK39 => ?_
           refine tr_condB (fun ht6 => ?_) (fun ht6 => ?_)
           ·
            skip
            (first | (exfalso; omega) | (exfalso; simp_all [sameB_self]; done) | skip)
            all_goals
             have hkl : k < QL.length := by omega
             obtain ⟨bb, c22, c23⟩ := hA.check (QL.getD k so0) (hQL k (by omega))
             simp only [encSo] at c22 c23
             replace hq := And.intro hq (hkl)
             refine skipZ ?_
             refine hK39 _ ?_
             refine tr_seq fun K40 hK40 => ?_
             refine tr_block ?_
             refine tr_sR [2, 4, 10, 12, 13, 15, 16, 17, 18, 40, 184, 185, 186] fun K hK => ?_
             iterate 4 refine evR_p ?_
             refine evR_z hK ?_; clear hK K
             refine tr_sD [] [2, 4, 10, 12, 13, 15, 16, 17, 18, 184, 185, 186, 198] fun K hK => ?_
             iterate 3 refine evD_p ?_
             refine evD_c (hc := c22) (k := ?_)
             iterate 3 refine evD_p ?_
             refine evD_c (hc := c23) (k := ?_)
             refine evD_p ?_
             refine evD_z hK ?_; clear hK K
             refine tr_condB (fun ht7 => ?_) (fun ht7 => ?_)
             ·
              skip
              (first | (exfalso; omega) | (exfalso; simp_all [sameB_self]; done) | skip)
              all_goals
               refine tr_sR [14] fun K hK => ?_
               refine evR_p ?_
               refine evR_z hK ?_; clear hK K
               refine retZ ?_; try exact ⟨⟩
               all_goals (rfl)
             ·
              skip
              (first | (exfalso; omega) | (exfalso; simp_all [sameB_self]; done) | skip)
              all_goals
               refine skipZ ?_
               refine hK40 _ ?_
               refine tr_region [2, 4, 10, 12, 13, 15, 16, 17, 18, 184, 185, 186] rfl rfl fun K hK => ?_
               iterate 2 refine evR_p ?_
               refine evR_e hK ?_; clear hK K
               refine hKL3 _ ?_
               exact ⟨m3 - 1, _, by omega, Wk.cut 4 (by simp [St.cutOK, AObj.upto, V.upto, V.uptoL, cellsI_uptoL, enC_uptoL, List.all_cons, List.all_nil, List.filter_cons, List.filter_nil, Nat.blt_eq, Nat.reduceLT, Nat.lt_irrefl, decide_true, decide_false, Bool.and_self, Bool.and_true, Bool.true_and, if_true, if_false, ↓reduceIte, Bool.false_eq_true, cellsI_uptoL, encSo, V.upto, V.uptoL]), k + 1, by omega, by rw [w64 (x := (k : Int) + 1) (by omega)]; rfl⟩
           ·
            skip
            (first | (exfalso; omega) | (exfalso; simp_all [sameB_self]; done) | skip)
            all_goals
             have hkl : k = 4 := by omega
             refine tr_exit ?_
             simp only [thenE, inBlkE, Nat.reduceEqDiff, ↓reduceIte]
             refine hK10 _ ?_
             refine tr_region [2, 4, 10, 12, 13, 15, 16, 17, 18] rfl rfl fun K hK => ?_
             iterate 3 refine evR_p ?_
             refine evR_e hK ?_; clear hK K
             refine hKL1 _ ?_
             exact ⟨m - 1, _, by omega, Wk.trans (Wk.drop (fun k => k == 0 || k == 1 || k == 2 || k == 3)) (Wk.cut 4 (by simp [St.cutOK, AObj.upto, V.upto, V.uptoL, cellsI_uptoL, enC_uptoL, List.all_cons, List.all_nil, List.filter_cons, List.filter_nil, Nat.blt_eq, Nat.reduceLT, Nat.lt_irrefl, decide_true, decide_false, Bool.and_self, Bool.and_true, Bool.true_and, if_true, if_false, ↓reduceIte, Bool.false_eq_true, cellsI_uptoL, encSo, V.upto, V.uptoL])), i + 1, l2, t2, by omega, hl2, h72, ht2, by rw [w64 (x := (i : Int) + 1) (by omega)]; rfl⟩
  ·
   skip
   (first | (exfalso; omega) | (exfalso; simp_all [sameB_self]; done) | skip)
   all_goals
    have hil : i = 2 := by omega
    refine tr_exit ?_
    simp only [thenE, inBlkE, Nat.reduceEqDiff, ↓reduceIte]
    refine hK6 _ ?_
    refine tr_sR [14] fun K hK => ?_
    iterate 2 refine evR_p ?_
    refine evR_z hK ?_; clear hK K
    refine retZ ?_; try exact ⟨⟩
    all_goals (rfl)
end

end Go.Proofs.YtfamkbofdamkkaaGreat
