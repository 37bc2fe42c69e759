/- Texts of this proof, put together. -/
import Derived.Test.YtfamkbofdamkkaaKTb
import Derived.Test.YtfamkbofdamkkaaKTc
import Derived.Test.YtfamkbofdamkkaaKTd
import Derived.Test.YtfamkbofdamkkaaChecked
namespace Go.Proofs.Ytfamkbofdamkkaa
open Go.RowKit
set_option linter.unusedVariables false
set_option linter.unusedSimpArgs false
set_option maxRecDepth 100000
attribute [local go_sem] Nat.zero_add Nat.add_zero Nat.mul_one eq_self ne_eq not_true_eq_false not_false_eq_true decide_true decide_false decide_not Bool.false_eq_true List.filter_cons List.filter_nil true_and and_true beq_false beq_true Bool.not_true Bool.not_false Bool.and_true Bool.true_and Option.getD_some Option.getD_none imp_self implies_true Int.toNat_natCast List.cons_append List.nil_append List.map_cons List.map_nil List.length_cons List.length_nil List.getD_cons_zero List.getD_cons_succ List.drop_zero List.drop_succ_cons List.take_succ_cons List.take_zero
attribute [local go_sem] shL isSh Option.isNone_none Option.isNone_some Option.isSome_none lowN lowQ lowM isAl appOwn unw appF isE isO stpO notIn St.bare evO evDO isEff stp St.get St.slot St.put List.lookup un unL ofVal gof nth pickV pkB_false pkB_true binV unV loadV idxV fldV partV buildV fillV lenV sliV appV appR rowsV winV V.parts V.okp V.sc Mem.look_cons Mem.look_nil V.cl V.clL AObj.clo fzAll exps St.fz Mem.fz V.fz V.fzL AObj.fz Option.isSome_some Option.isSome_none Bool.or_true Bool.true_or Bool.or_false Bool.false_or false_and and_false false_or or_false arT_22 arT_23 arT_25 arT_24 arT_40 arT_30  arT_65 arT_28 arT_90  arT_52 boolT_25 boolT_3 boolT_35 boolT_4  flatT_25 flatT_3 flatT_35 flatT_4  intT_3 intT_133 lay_23 lay_25 lay_67 lay_24 lay_27 lay_3 lay_49 lay_30 lay_34 lay_4 lay_65 lay_52 lay_54 lay_56 lay_141 lay_164  okF_17 okF_31  okF_36 okF_18 okF_34 okF_63  okF_28 okF_50 okF_69 okF_51  okF_35       okF_37   okF_71  okF_65  okF_62 okF_77 okF_79  okF_80 okF_81 okF_64 okF_66 okF_76 okF_113 okF_96 okF_97 okF_98 okF_82  okF_99 okF_119 okF_120 okF_78 okF_100 okF_101 okF_83 okF_84 okF_125 okF_126  okF_127 okF_128 okF_129 okF_130 okF_114 okF_124 okF_140 okF_141 okF_142 okF_143  okF_131 okF_132 okF_144 okF_158 okF_155 okF_159   plT_67 plT_27 plT_34 plT_54 plT_56 slT_22 slT_23 slT_25 slT_24 slT_40 slT_30  slT_65 slT_28 slT_90  slT_52  stT_67_1   stT_67_4 stT_67_5 stT_27_0 stT_27_1 stT_27_2 stT_34_0 stT_34_1 stT_34_2 stT_34_3 stT_54_0 stT_54_1 stT_54_2 stT_54_3 stT_56_0 stT_56_1  zeroT_67 zeroT_27 zeroT_3 zeroT_49 zeroT_30 zeroT_34 zeroT_65  zeroT_54 zeroT_56
attribute [local go_sem] List.getElem?_cons_zero List.getElem?_cons_succ List.zip_cons_cons List.zip_nil_left List.zip_nil_right Bool.false_and Bool.and_false List.length_append List.length_set List.length_replicate List.all_cons List.all_nil encI_length encI_getD encR_length encR_getD encRw encPg spl shp AObj.shp rowM isSt isRpS isRd csh AObj.csh forall_const imp_self
attribute [local simp] encI_length encR_length
section
attribute [local go_sem] encS_one encS_leaf encS_length
theorem c60s (rows : List Rw) (hr : rows.length ≤ maxLen) (hm : ∀ r ∈ rows, r.coef.length ≤ maxLen) (n d : Nat) (set : Int) (out : List Stp) (hc : ∀ r ∈ rows, r.coef.length = d + n) (hd : d + n ≤ 12) (hinf : infN rows n d set) (ho : out.length + 2 ^ (n + 1) ≤ 100000)
  (ih : ∀ (m : Nat), m + 1 = n → ∀ (set : Int) (out : List Stp), infN rows m (d + 1) set → out.length + 2 ^ (m + 1) ≤ 100000 → CallsM Try.prog 127 [.int .i64 ((d + 1 : Nat) : Int), .int .i64 set, .ptr 1 0, .ptr 0 0, .ptr 2 0] [(3, .row 54 4 (encS out)), (2, .cells [.fn 127 [.ptr 1 0, .ptr 0 0, .ptr 2 0]]), (1, .cells [.own 3]), (0, .cells [.sl 6 (encR rows)])] 4 (.int .i64 ((out).length : Nat)) [(4, .row 54 4 (encS (growN rows m (d + 1) set out))), (2, .cells [.fn 127 [.ptr 1 0, .ptr 0 0, .ptr 2 0]]), (1, .cells [.own 4]), (0, .cells [.sl 6 (encR rows)])] 5) : CallsM Try.prog 127 [.int .i64 (d : Nat), .int .i64 set, .ptr 1 0, .ptr 0 0, .ptr 2 0] ([(3, .row 54 4 (encS out)), (2, .cells [.fn 127 [.ptr 1 0, .ptr 0 0, .ptr 2 0]]), (1, .cells [.own 3]), (0, .cells [.sl 6 (encR rows)])]) (4) (.int .i64 (out.length : Nat)) ([(4, .row 54 4 (encS (growN rows n d set out))), (2, .cells [.fn 127 [.ptr 1 0, .ptr 0 0, .ptr 2 0]]), (1, .cells [.own 4]), (0, .cells [.sl 6 (encR rows)])]) (5) := by
 have hw1 : IntKind.i64.wrap ((d : Int) + 1) = ((d + 1 : Nat) : Int) := w64 (by omega)
 have hp2 : 2 ≤ 2 ^ (n + 1) := (by have := Nat.one_le_two_pow (n := n); rw [Nat.pow_succ]; omega)
 have hq := hw1
 refine callsM_of_tr Try.func127 rfl (Nat.le_of_ble_eq_true rfl) (Nat.le_of_ble_eq_true rfl) (Nat.le_of_ble_eq_true rfl) ?_
 simp only [Try.results127, envOf, gh, gv, List.cons_append, List.nil_append, Nat.reduceAdd]
 refine tr_seq fun K1 hK1 => ?_
 refine tr_region [2, 3, 4, 5, 6, 1000000, 1000001, 1000002, 1000003] rfl rfl fun K hK => ?_
 iterate 3 refine evR_p ?_
 refine evR_e hK ?_; clear hK K
 refine hK1 _ ?_
 refine tr_seq fun K2 hK2 => ?_
 refine tr_region [2, 3, 4, 5, 6, 8, 1000000, 1000001, 1000002, 1000003] rfl rfl fun K hK => ?_
 iterate 3 refine evR_p ?_
 refine evR_e hK ?_; clear hK K
 refine hK2 _ ?_
 refine tr_seq fun K3 hK3 => ?_
 refine tr_region [2, 4, 5, 6, 8, 9, 1000000, 1000001, 1000002, 1000003] rfl rfl fun K hK => ?_
 iterate 2 refine evR_p ?_
 refine evR_c (hc := (c61 rows 129 [.ep [.int .i64 d], .ep [.int .i64 set]] (overB d set) okF_129 rfl (fun r h => c62 r (hm r h) d set (by rw [hc r h]; omega)) hr)) (k := ?_)
 refine evR_p ?_
 refine evR_e hK ?_; clear hK K
 refine hK3 _ ?_
 refine tr_seq fun K4 hK4 => ?_
 refine tr_seq fun K5 hK5 => ?_
 refine tr_region [2, 4, 5, 6, 8, 9, 18, 1000000, 1000001, 1000002, 1000003] rfl rfl fun K hK => ?_
 iterate 2 refine evR_p ?_
 refine evR_e hK ?_; clear hK K
 refine hK5 _ ?_
 refine tr_condB (fun ht1 => ?_) (fun ht1 => ?_)
 ·
  skip
  (first | (have hneg : ¬ (0 ≤ idxOf (overB d set) rows) := ht1; obtain ⟨m, hnm, hi1, hi2⟩ := infN_step hinf hneg; have hg1 := growN_length rows m (d + 1) set (out ++ [⟨d, 0, 0, none⟩]); have hg2 := growN_length rows m (d + 1) (setBit set d) (growN rows m (d + 1) set (out ++ [⟨d, 0, 0, none⟩])); simp only [List.length_append, List.length_cons, List.length_nil] at hg1) | skip)
  refine tr_seq fun K6 hK6 => ?_
  refine tr_region [8, 1000000, 1000001, 1000002, 1000003] rfl rfl fun K hK => ?_
  iterate 3 refine evR_p ?_
  refine evR_bs ?_
  refine evR_p ?_
  refine evR_bs ?_
  iterate 2 refine evR_p ?_
  refine evR_e hK ?_; clear hK K
  refine hK6 _ ?_
  refine tr_seq fun K7 hK7 => ?_
  refine tr_region [7, 1000000, 1000001, 1000002, 1000003] rfl rfl fun K hK => ?_
  iterate 2 refine evR_p ?_
  refine evR_e hK ?_; clear hK K
  refine hK7 _ ?_
  refine tr_ret ?_
  (try simp only [thenE, inBlkE])
  all_goals first | refine ⟨_, (Wk.trans (Wk.ren 6 4 (Nat.le_of_ble_eq_true rfl) (Nat.le_of_ble_eq_true rfl) rfl) (Wk.cut 5 rfl)), ?_⟩ | refine ⟨_, (Wk.trans (Wk.ren 8 4 (Nat.le_of_ble_eq_true rfl) (Nat.le_of_ble_eq_true rfl) rfl) (Wk.cut 5 rfl)), ?_⟩
  simp (maxSteps := 4000000) (disch := first | assumption | omega | (simp only [go_sem, *]; done) | (simp only [go_sem, *]; omega)) only [postM, ghOK, gv, St.ren, St.cut, V.ren, V.renL, AObj.ren, Nat.blt_eq, resV1, go_sem, hq, Int.reduceToNat, Nat.reduceBEq, Nat.reduceEqDiff, Nat.reduceAdd, Nat.reduceMul, Nat.reduceLeDiff, Nat.reduceLT, Nat.reduceSub, ↓reduceIte, reduceCtorEq]
  all_goals ((first | (rw [growN_leaf ht1]; done) | (subst hnm; rw [grow_fin (by omega) growN_at]; simp only [growN, if_neg hneg]; rfl)))
 ·
  skip
  (first | (have hneg : ¬ (0 ≤ idxOf (overB d set) rows) := ht1; obtain ⟨m, hnm, hi1, hi2⟩ := infN_step hinf hneg; have hg1 := growN_length rows m (d + 1) set (out ++ [⟨d, 0, 0, none⟩]); have hg2 := growN_length rows m (d + 1) (setBit set d) (growN rows m (d + 1) set (out ++ [⟨d, 0, 0, none⟩])); simp only [List.length_append, List.length_cons, List.length_nil] at hg1) | skip)
  refine tr_skip ?_
  (try simp only [thenE, inBlkE])
  refine hK4 _ ?_
  refine tr_seq fun K8 hK8 => ?_
  refine tr_region [2, 4, 5, 6, 8, 1000000, 1000001, 1000002, 1000003] rfl rfl fun K hK => ?_
  iterate 3 refine evR_p ?_
  refine evR_bs ?_
  iterate 2 refine evR_p ?_
  refine evR_e hK ?_; clear hK K
  refine hK8 _ ?_
  refine tr_seq fun K9 hK9 => ?_
  refine tr_region [2, 4, 5, 6, 8, 10, 1000000, 1000001, 1000002, 1000003] rfl rfl fun K hK => ?_
  iterate 4 refine evR_p ?_
  refine evR_stepX fun Kq hKq => Or.inr ?_
  simp (maxSteps := 4000000) (disch := first | assumption | omega | (simp only [go_sem, *]; done) | (simp only [go_sem, *]; omega)) only [stpM, go_sem, hq, Int.reduceToNat, Nat.reduceBEq, Nat.reduceEqDiff, Nat.reduceAdd, Nat.reduceMul, Nat.reduceLeDiff, Nat.reduceLT, Nat.reduceSub, ↓reduceIte, reduceCtorEq]
  refine ⟨[0, 1, 2, 6], ?_⟩
  simp (maxSteps := 4000000) (disch := first | assumption | omega | (simp only [go_sem, *]; done) | (simp only [go_sem, *]; omega)) only [V.mapL, V.map, gJ, footJ, inJ, AObj.map, ndJ, ltJ, V.domL, V.dom, AObj.dom, kC, kR, AObj.isC, hJ, backJ, List.any_cons, List.any_nil, Nat.ble_eq, Nat.blt_eq, Nat.reduceLT, Nat.reduceLeDiff, Bool.or_true, Bool.true_or, Bool.or_false, Bool.false_or, Bool.and_self, go_sem, hq, Int.reduceToNat, Nat.reduceBEq, Nat.reduceEqDiff, Nat.reduceAdd, Nat.reduceMul, Nat.reduceLeDiff, Nat.reduceLT, Nat.reduceSub, ↓reduceIte, reduceCtorEq]
  refine ⟨_, _, _, (ih m hnm set _ hi1 (by subst hnm; rw [Nat.pow_succ] at ho; simp only [List.length_append, List.length_cons, List.length_nil]; omega)), ?_⟩
  simp (maxSteps := 4000000) (disch := first | assumption | omega | (simp only [go_sem, *]; done) | (simp only [go_sem, *]; omega)) only [V.mapL, V.map, gJ, footJ, inJ, AObj.map, ndJ, ltJ, V.domL, V.dom, AObj.dom, kC, kR, AObj.isC, hJ, backJ, List.any_cons, List.any_nil, Nat.ble_eq, Nat.blt_eq, Nat.reduceLT, Nat.reduceLeDiff, Bool.or_true, Bool.true_or, Bool.or_false, Bool.false_or, Bool.and_self, go_sem, hq, Int.reduceToNat, Nat.reduceBEq, Nat.reduceEqDiff, Nat.reduceAdd, Nat.reduceMul, Nat.reduceLeDiff, Nat.reduceLT, Nat.reduceSub, ↓reduceIte, reduceCtorEq]
  (repeat (refine And.intro (by first | assumption | omega | decide | (simp; done) | (simp; omega) | (have hq := hvv hgt; omega) | (simp_all; done)) ?_))
  refine hKq _ ?_; clear hKq Kq
  refine evR_p ?_
  refine evR_e hK ?_; clear hK K
  refine hK9 _ ?_
  refine tr_seq fun K10 hK10 => ?_
  refine tr_draw [44] [2, 8, 10, 11, 1000000, 1000001, 1000002, 1000003] mixed rfl (by kernel_rfl) rfl fun K hK => ?_
  iterate 7 refine evD_p ?_
  refine evD_step fun Kq hKq => ?_
  simp (maxSteps := 4000000) (disch := first | assumption | omega | (simp only [go_sem, *]; done) | (simp only [go_sem, *]; omega)) only [go_sem, hq, Int.reduceToNat, Nat.reduceBEq, Nat.reduceEqDiff, Nat.reduceAdd, Nat.reduceMul, Nat.reduceLeDiff, Nat.reduceLT, Nat.reduceSub, ↓reduceIte, reduceCtorEq]
  refine Or.inr ?_
  simp (maxSteps := 4000000) (disch := first | assumption | omega | (simp only [go_sem, *]; done) | (simp only [go_sem, *]; omega)) only [stpM, go_sem, hq, Int.reduceToNat, Nat.reduceBEq, Nat.reduceEqDiff, Nat.reduceAdd, Nat.reduceMul, Nat.reduceLeDiff, Nat.reduceLT, Nat.reduceSub, ↓reduceIte, reduceCtorEq]
  refine ⟨[0, 1, 2, 7], ?_⟩
  simp (maxSteps := 4000000) (disch := first | assumption | omega | (simp only [go_sem, *]; done) | (simp only [go_sem, *]; omega)) only [V.mapL, V.map, gJ, footJ, inJ, AObj.map, ndJ, ltJ, V.domL, V.dom, AObj.dom, kC, kR, AObj.isC, hJ, backJ, List.any_cons, List.any_nil, Nat.ble_eq, Nat.blt_eq, Nat.reduceLT, Nat.reduceLeDiff, Bool.or_true, Bool.true_or, Bool.or_false, Bool.false_or, Bool.and_self, go_sem, hq, Int.reduceToNat, Nat.reduceBEq, Nat.reduceEqDiff, Nat.reduceAdd, Nat.reduceMul, Nat.reduceLeDiff, Nat.reduceLT, Nat.reduceSub, ↓reduceIte, reduceCtorEq]
  refine ⟨_, _, _, (ih m hnm (setBit set d) _ hi2 (by subst hnm; rw [Nat.pow_succ] at ho; omega)), ?_⟩
  simp (maxSteps := 4000000) (disch := first | assumption | omega | (simp only [go_sem, *]; done) | (simp only [go_sem, *]; omega)) only [V.mapL, V.map, gJ, footJ, inJ, AObj.map, ndJ, ltJ, V.domL, V.dom, AObj.dom, kC, kR, AObj.isC, hJ, backJ, List.any_cons, List.any_nil, Nat.ble_eq, Nat.blt_eq, Nat.reduceLT, Nat.reduceLeDiff, Bool.or_true, Bool.true_or, Bool.or_false, Bool.false_or, Bool.and_self, go_sem, hq, Int.reduceToNat, Nat.reduceBEq, Nat.reduceEqDiff, Nat.reduceAdd, Nat.reduceMul, Nat.reduceLeDiff, Nat.reduceLT, Nat.reduceSub, ↓reduceIte, reduceCtorEq]
  (repeat (refine And.intro (by first | assumption | omega | decide | (simp; done) | (simp; omega) | (have hq := hvv hgt; omega) | (simp_all; done)) ?_))
  refine hKq _ ?_; clear hKq Kq
  refine evD_p ?_
  refine evD_e hK ?_; clear hK K
  refine hK10 _ ?_
  refine tr_seq fun K11 hK11 => ?_
  refine tr_draw [999999] [8, 1000000, 1000001, 1000002, 1000003] mixed rfl (by kernel_rfl) rfl fun K hK => ?_
  iterate 12 refine evD_p ?_
  refine evD_e hK ?_; clear hK K
  refine hK11 _ ?_
  refine tr_seq fun K12 hK12 => ?_
  refine tr_region [7, 1000000, 1000001, 1000002, 1000003] rfl rfl fun K hK => ?_
  iterate 2 refine evR_p ?_
  refine evR_e hK ?_; clear hK K
  refine hK12 _ ?_
  refine tr_ret ?_
  (try simp only [thenE, inBlkE])
  all_goals first | refine ⟨_, (Wk.trans (Wk.ren 6 4 (Nat.le_of_ble_eq_true rfl) (Nat.le_of_ble_eq_true rfl) rfl) (Wk.cut 5 rfl)), ?_⟩ | refine ⟨_, (Wk.trans (Wk.ren 8 4 (Nat.le_of_ble_eq_true rfl) (Nat.le_of_ble_eq_true rfl) rfl) (Wk.cut 5 rfl)), ?_⟩
  simp (maxSteps := 4000000) (disch := first | assumption | omega | (simp only [go_sem, *]; done) | (simp only [go_sem, *]; omega)) only [postM, ghOK, gv, St.ren, St.cut, V.ren, V.renL, AObj.ren, Nat.blt_eq, resV1, go_sem, hq, Int.reduceToNat, Nat.reduceBEq, Nat.reduceEqDiff, Nat.reduceAdd, Nat.reduceMul, Nat.reduceLeDiff, Nat.reduceLT, Nat.reduceSub, ↓reduceIte, reduceCtorEq]
  all_goals ((first | (rw [growN_leaf ht1]; done) | (subst hnm; rw [grow_fin (by omega) growN_at]; simp only [growN, if_neg hneg]; rfl)))
end

theorem c60 (rows : List Rw) (hr : rows.length ≤ maxLen) : ∀ (n d : Nat) (set : Int) (out : List Stp), (∀ r ∈ rows, r.coef.length = d + n) → d + n ≤ 12 → infN rows n d set → out.length + 2 ^ (n + 1) ≤ 100000 → CallsM Try.prog 127 [.int .i64 (d : Nat), .int .i64 set, .ptr 1 0, .ptr 0 0, .ptr 2 0] [(3, .row 54 4 (encS out)), (2, .cells [.fn 127 [.ptr 1 0, .ptr 0 0, .ptr 2 0]]), (1, .cells [.own 3]), (0, .cells [.sl 6 (encR rows)])] 4 (.int .i64 ((out).length : Nat)) [(4, .row 54 4 (encS (growN rows n d set out))), (2, .cells [.fn 127 [.ptr 1 0, .ptr 0 0, .ptr 2 0]]), (1, .cells [.own 4]), (0, .cells [.sl 6 (encR rows)])] 5
 | 0, d, set, out, hc, hd, hi, ho => c60s rows hr (fun r h => by have := hc r h; unfold maxLen; omega) 0 d set out hc hd hi ho fun m hm => by omega
 | n + 1, d, set, out, hc, hd, hi, ho => c60s rows hr (fun r h => by have := hc r h; unfold maxLen; omega) (n + 1) d set out hc hd hi ho fun m hm set out h1 h2 => by
  have : m = n := by omega
  subst this
  exact c60 rows hr m (d + 1) set out (fun r h => by have := hc r h; omega) (by omega) h1 h2
theorem c41 (rows : List Rw) (hr : rows.length ≤ maxLen) (n : Nat) (hn : n ≤ 12) (hc : ∀ r ∈ rows, r.coef.length = n) (hinf : infN rows n 0 0) : CallsA Try.prog 81 [.sl 6 (encR rows)] (.sl 4 (encS (growN rows n 0 0 []))) := by
 have hp : 2 ^ (n + 1) ≤ 2 ^ 13 := Nat.pow_le_pow_right (by omega) (by omega)
 have hq : True := trivial
 refine callsA_of_tr Try.func81 rfl (Nat.le_of_ble_eq_true rfl) ?_
 simp only [Try.results81, envOf, Nat.reduceAdd]
 refine tr_seq fun K1 hK1 => ?_
 refine tr_region [1] rfl rfl fun K hK => ?_
 iterate 2 refine evR_p ?_
 refine evR_e hK ?_; clear hK K
 refine hK1 _ ?_
 refine tr_seq fun K2 hK2 => ?_
 refine tr_region [1, 3] rfl rfl fun K hK => ?_
 refine evR_p ?_
 refine evR_e hK ?_; clear hK K
 refine hK2 _ ?_
 refine tr_seq fun K3 hK3 => ?_
 refine tr_region [1, 3, 4] rfl rfl fun K hK => ?_
 refine evR_p ?_
 refine evR_e hK ?_; clear hK K
 refine hK3 _ ?_
 refine tr_seq fun K4 hK4 => ?_
 refine tr_region [3, 4] rfl rfl fun K hK => ?_
 iterate 2 refine evR_p ?_
 refine evR_e hK ?_; clear hK K
 refine hK4 _ ?_
 refine tr_seq fun K5 hK5 => ?_
 refine tr_wk (Wk.nilown 54 4 1 0 rfl (by decide) rfl) ?_
 try simp only [List.map_cons, List.map_nil, Nat.reduceEqDiff, ↓reduceIte, List.set_cons_zero, List.set_cons_succ, Nat.reduceAdd]
 refine tr_region [3] rfl rfl fun K hK => ?_
 refine evR_p ?_
 refine evR_stepX fun Kq hKq => Or.inr ?_
 simp (maxSteps := 4000000) (disch := first | assumption | omega | (simp only [go_sem, *]; done) | (simp only [go_sem, *]; omega)) only [stpM, go_sem, hq, Int.reduceToNat, Nat.reduceBEq, Nat.reduceEqDiff, Nat.reduceAdd, Nat.reduceMul, Nat.reduceLeDiff, Nat.reduceLT, Nat.reduceSub, ↓reduceIte, reduceCtorEq]
 refine ⟨[0, 1, 2, 3], ?_⟩
 simp (maxSteps := 4000000) (disch := first | assumption | omega | (simp only [go_sem, *]; done) | (simp only [go_sem, *]; omega)) only [V.mapL, V.map, gJ, footJ, inJ, AObj.map, ndJ, ltJ, V.domL, V.dom, AObj.dom, kC, kR, AObj.isC, hJ, backJ, List.any_cons, List.any_nil, Nat.ble_eq, Nat.blt_eq, Nat.reduceLT, Nat.reduceLeDiff, Bool.or_true, Bool.true_or, Bool.or_false, Bool.false_or, Bool.and_self, go_sem, hq, Int.reduceToNat, Nat.reduceBEq, Nat.reduceEqDiff, Nat.reduceAdd, Nat.reduceMul, Nat.reduceLeDiff, Nat.reduceLT, Nat.reduceSub, ↓reduceIte, reduceCtorEq]
 refine ⟨_, _, _, (c60 rows hr n 0 0 [] (fun r h => by rw [hc r h]; omega) (by omega) hinf (by simp only [List.length_nil]; omega)), ?_⟩
 simp (maxSteps := 4000000) (disch := first | assumption | omega | (simp only [go_sem, *]; done) | (simp only [go_sem, *]; omega)) only [V.mapL, V.map, gJ, footJ, inJ, AObj.map, ndJ, ltJ, V.domL, V.dom, AObj.dom, kC, kR, AObj.isC, hJ, backJ, List.any_cons, List.any_nil, Nat.ble_eq, Nat.blt_eq, Nat.reduceLT, Nat.reduceLeDiff, Bool.or_true, Bool.true_or, Bool.or_false, Bool.false_or, Bool.and_self, go_sem, hq, Int.reduceToNat, Nat.reduceBEq, Nat.reduceEqDiff, Nat.reduceAdd, Nat.reduceMul, Nat.reduceLeDiff, Nat.reduceLT, Nat.reduceSub, ↓reduceIte, reduceCtorEq]
 (repeat (refine And.intro (by first | assumption | omega | decide | (simp; done) | (simp; omega) | (have hq := hvv hgt; omega) | (simp_all; done)) ?_))
 refine hKq _ ?_; clear hKq Kq
 refine evR_e hK ?_; clear hK K
 refine hK5 _ ?_
 refine tr_seq fun K6 hK6 => ?_
 refine tr_region [2] rfl rfl fun K hK => ?_
 iterate 2 refine evR_p ?_
 refine evR_e hK ?_; clear hK K
 refine hK6 _ ?_
 refine tr_ret ?_
 (try simp only [thenE, inBlkE])
 simp (maxSteps := 4000000) (disch := first | assumption | omega | (simp only [go_sem, *]; done) | (simp only [go_sem, *]; omega)) only [postA, postO, resV1, fzAll, go_sem, hq, Int.reduceToNat, Nat.reduceBEq, Nat.reduceEqDiff, Nat.reduceAdd, Nat.reduceMul, Nat.reduceLeDiff, Nat.reduceLT, Nat.reduceSub, ↓reduceIte, reduceCtorEq]
 all_goals (skip)

theorem c38 (p : Pg) : CallsA Try.prog 77 [.agg (encPg p)] (.fn 125 [.ep (encPg p)]) := by
 have hq : True := trivial
 refine callsA_of_tr Try.func77 rfl (Nat.le_of_ble_eq_true rfl) ?_
 simp only [Try.results77, envOf, Nat.reduceAdd]
 refine tr_seq fun K1 hK1 => ?_
 refine tr_region [1] rfl rfl fun K hK => ?_
 iterate 2 refine evR_p ?_
 refine evR_e hK ?_; clear hK K
 refine hK1 _ ?_
 refine tr_seq fun K2 hK2 => ?_
 refine tr_fz [.ptr 0 0] (by simp (maxSteps := 4000000) (disch := first | assumption | omega | (simp only [go_sem, *]; done) | (simp only [go_sem, *]; omega)) only [go_sem, hq, Int.reduceToNat, Nat.reduceBEq, Nat.reduceEqDiff, Nat.reduceAdd, Nat.reduceMul, Nat.reduceLeDiff, Nat.reduceLT, Nat.reduceSub, ↓reduceIte, reduceCtorEq]; (try rfl)) ?_
 refine tr_region [2] rfl rfl fun K hK => ?_
 iterate 2 refine evR_p ?_
 refine evR_e hK ?_; clear hK K
 refine hK2 _ ?_
 refine tr_ret ?_
 (try simp only [thenE, inBlkE])
 simp (maxSteps := 4000000) (disch := first | assumption | omega | (simp only [go_sem, *]; done) | (simp only [go_sem, *]; omega)) only [postA, postO, resV1, fzAll, go_sem, hq, Int.reduceToNat, Nat.reduceBEq, Nat.reduceEqDiff, Nat.reduceAdd, Nat.reduceMul, Nat.reduceLeDiff, Nat.reduceLT, Nat.reduceSub, ↓reduceIte, reduceCtorEq]
 all_goals (rfl)

theorem c59 (r : Rw) (hm : r.coef.length ≤ maxLen) (set : Int) : CallsA Try.prog 126 [.agg (encRw r), .ep [.int .i64 set]] (.bool (keptB r set)) := by
 have hq : True := trivial
 refine callsA_of_tr Try.func126 rfl (Nat.le_of_ble_eq_true rfl) ?_
 simp only [Try.results126, envOf, Nat.reduceAdd]
 refine tr_seq fun K1 hK1 => ?_
 refine tr_region [1, 2] rfl rfl fun K hK => ?_
 iterate 2 refine evR_p ?_
 refine evR_e hK ?_; clear hK K
 refine hK1 _ ?_
 refine tr_seq fun K2 hK2 => ?_
 refine tr_region [3] rfl rfl fun K hK => ?_
 iterate 2 refine evR_p ?_
 refine evR_c (hc := (c55 r hm set)) (k := ?_)
 refine evR_p ?_
 refine evR_e hK ?_; clear hK K
 refine hK2 _ ?_
 refine tr_ret ?_
 (try simp only [thenE, inBlkE])
 simp (maxSteps := 4000000) (disch := first | assumption | omega | (simp only [go_sem, *]; done) | (simp only [go_sem, *]; omega)) only [postA, postO, resV1, fzAll, go_sem, hq, Int.reduceToNat, Nat.reduceBEq, Nat.reduceEqDiff, Nat.reduceAdd, Nat.reduceMul, Nat.reduceLeDiff, Nat.reduceLT, Nat.reduceSub, ↓reduceIte, reduceCtorEq]
 all_goals (skip)

section
attribute [local go_sem] fzL_mapI
theorem c58 (p : Pg) (hr : p.rows.length ≤ maxLen) (hg : p.gain.length ≤ maxLen) (hc : ∀ r ∈ p.rows, r.coef.length ≤ maxLen) (hv : validB p = true) : SeqA Try.prog (Value.int .i64) 125 [.ep (encPg p)] (fun xs => xs = choiceL p) 4096 := by
 obtain ⟨v, hv1, hv2, hv3, hv4⟩ := vars_pow hv
 have hq := And.intro hv1 (hv3)
 refine seqA_of_tr Try.func125 rfl (by rw [Try.results125]) enok_int (Nat.le_of_ble_eq_true rfl) (Nat.le_of_ble_eq_true rfl) fun l ys C hys hCY => ?_
 obtain ⟨y0, rfl⟩ : ∃ y0, ys = [y0] := by match ys, hys with | [y0], _ => exact ⟨y0, rfl⟩
 simp only [List.zipWith_cons_cons, List.zipWith_nil_left, List.zip_cons_cons, List.zip_nil_left, envOf, List.cons_append, List.nil_append, Nat.reduceAdd] at hCY ⊢
 refine tr_seq fun K1 hK1 => ?_
 refine tr_region [0, 1, 6, 7, 1000000, 1000001] rfl rfl fun K hK => ?_
 iterate 4 refine evR_p ?_
 refine evR_e hK ?_; clear hK K
 refine hK1 _ ?_
 refine tr_block ?_
 -- loop 1: live [0, 1, 6, 7]
 refine tr_loopW (fun m σ => ∃ i : Nat, i + m = 2 ^ v ∧ σ = ⟨[(0, .yl l), (1, .eq y0 (.ep [.int .i64 (v : Nat), .sl 6 (encR p.rows), .sl 1 (encI p.gain)])), (6, .int .i64 ((2 ^ v : Nat) : Int)), (7, .int .i64 (i : Nat)), (1000000, .tup ((chL p.rows i).map (V.int .i64))), (1000001, .bool false)], [], 0⟩) (2 ^ v) ?_ ?_
 ·
  exact ⟨_, Wk.refl _, 0, by omega, rfl⟩
 ·
  rintro m σ ⟨i, hi, rfl⟩ KL1 hKL1
  refine tr_seq fun K2 hK2 => ?_
  refine tr_region [0, 1, 6, 7, 8, 1000000, 1000001] rfl rfl fun K hK => ?_
  refine evR_p ?_
  refine evR_e hK ?_; clear hK K
  refine hK2 _ ?_
  refine tr_seq fun K3 hK3 => ?_
  refine tr_condB (fun ht1 => ?_) (fun ht1 => ?_)
  ·
   skip
   (first | (exfalso; simp_all; done) | skip)
   all_goals
    have hil : i < 2 ^ v := by omega
    have hcl := chL_length p.rows i
    replace hq := And.intro hq (hil)
    refine tr_skip ?_
    (try simp only [thenE, inBlkE])
    refine hK3 _ ?_
    refine tr_seq fun K4 hK4 => ?_
    refine tr_block ?_
    refine tr_seq fun K5 hK5 => ?_
    refine tr_region [0, 1, 3, 6, 7, 1000000, 1000001] rfl rfl fun K hK => ?_
    iterate 3 refine evR_p ?_
    refine evR_e hK ?_; clear hK K
    refine hK5 _ ?_
    refine tr_seq fun K6 hK6 => ?_
    refine tr_region [0, 1, 6, 7, 19, 1000000, 1000001] rfl rfl fun K hK => ?_
    iterate 3 refine evR_p ?_
    refine evR_c (hc := (c46 p.rows 126 [.ep [.int .i64 (i : Nat)]] (fun r => keptB r (i : Nat)) okF_126 rfl (fun r h => c59 r (hc r h) (i : Nat)) hr)) (k := ?_)
    refine evR_p ?_
    iterate 2 refine evR_g ?_
    refine evR_stepY rfl rfl fun Kq hKq => ⟨fun hyt => hCY _ _ _ ?_, fun hyt => ⟨.bool false, hKq _ ?_⟩⟩
    (try simp only [decide_eq_true_eq, decide_eq_false_iff_not, Bool.not_eq_true', Bool.not_eq_false', Bool.and_eq_true, Bool.or_eq_true, Bool.and_eq_false_iff, Bool.or_eq_false_iff, beq_true, beq_false] at hyt)
    simp (maxSteps := 4000000) (disch := first | assumption | omega | (simp only [go_sem, *]; done) | (simp only [go_sem, *]; omega)) only [YI, go_sem, hq, Int.reduceToNat, Nat.reduceBEq, Nat.reduceEqDiff, Nat.reduceAdd, Nat.reduceMul, Nat.reduceLeDiff, Nat.reduceLT, Nat.reduceSub, ↓reduceIte, reduceCtorEq]
    (repeat (refine And.intro (by first | assumption | omega | decide | (simp; done) | (simp; omega) | (have hq := hvv hgt; omega) | (simp_all; done)) ?_))
    refine ⟨((i : Nat) : Int), chL p.rows i, [1], ?_⟩
    (repeat (refine And.intro (by first | rfl | exact (show (chL p.rows i).length < 4096 by omega) | (intro t ht; rw [List.mem_singleton] at ht; subst ht; exact ⟨_, List.mem_singleton.2 rfl, rfl⟩) | (rfl)) ?_))
    refine ⟨hKq _ ?_, hKq _ ?_⟩
    all_goals try simp only [goY, stY, keepE, simE, V.simpl, V.simp, List.cons_append, List.nil_append, St.put, St.slot, List.lookup, Option.getD_some, Nat.reduceBEq]
    all_goals (try clear hKq Kq)
    all_goals (try simp only [decide_eq_true_eq, decide_eq_false_iff_not, Bool.not_eq_true', Bool.not_eq_false', Bool.and_eq_true, Bool.or_eq_true, Bool.and_eq_false_iff, Bool.or_eq_false_iff, beq_true, beq_false] at hyt)
    all_goals
     refine evR_g ?_
     refine evR_p ?_
     refine evR_e hK ?_; clear hK K
     refine hK6 _ ?_
     refine tr_condB (fun ht2 => ?_) (fun ht2 => ?_)
     ·
      skip
      (first | (exfalso; simp_all; done) | skip)
      all_goals
       refine tr_ret ?_
       (try simp only [thenE, inBlkE])
       simp (maxSteps := 4000000) (disch := first | assumption | omega | (simp only [go_sem, *]; done) | (simp only [go_sem, *]; omega)) only [postI, go_sem, hq, Int.reduceToNat, Nat.reduceBEq, Nat.reduceEqDiff, Nat.reduceAdd, Nat.reduceMul, Nat.reduceLeDiff, Nat.reduceLT, Nat.reduceSub, ↓reduceIte, reduceCtorEq]
       all_goals (first | exact Or.inl trivial | exact Or.inl rfl | exact Or.inr ⟨_, by unfold choiceL; rw [hv1]; rfl, rfl⟩)
     ·
      skip
      (first | (exfalso; simp_all; done) | skip)
      all_goals
       refine tr_skip ?_
       (try simp only [thenE, inBlkE])
       refine hK4 _ ?_
       refine tr_region [0, 1, 6, 7, 1000000, 1000001] rfl rfl fun K hK => ?_
       iterate 2 refine evR_p ?_
       refine evR_e hK ?_; clear hK K
       refine hKL1 _ ?_
       first
        | exact ⟨m - 1, _, by omega, Wk.cut 0 (by simp only [St.cutOK, List.all_cons, List.all_nil, V.upto, uptoL_mapI, Bool.and_self, List.filter_nil]), i + 1, by omega, by rw [w64 (x := (i : Int) + 1) (by omega), chL_t hyt]; rfl⟩
        | exact ⟨m - 1, _, by omega, Wk.cut 0 (by simp only [St.cutOK, List.all_cons, List.all_nil, V.upto, uptoL_mapI, Bool.and_self, List.filter_nil]), i + 1, by omega, by rw [w64 (x := (i : Int) + 1) (by omega), chL_f hyt]; rfl⟩
  ·
   skip
   (first | (exfalso; simp_all; done) | skip)
   all_goals
    have hil : i = 2 ^ v := by omega
    subst hil
    refine tr_exit ?_
    simp only [thenE, inBlkE, Nat.reduceEqDiff, ↓reduceIte]
    simp (maxSteps := 4000000) (disch := first | assumption | omega | (simp only [go_sem, *]; done) | (simp only [go_sem, *]; omega)) only [postI, go_sem, hq, Int.reduceToNat, Nat.reduceBEq, Nat.reduceEqDiff, Nat.reduceAdd, Nat.reduceMul, Nat.reduceLeDiff, Nat.reduceLT, Nat.reduceSub, ↓reduceIte, reduceCtorEq]
    all_goals (first | exact Or.inl trivial | exact Or.inl rfl | exact Or.inr ⟨_, by unfold choiceL; rw [hv1]; rfl, rfl⟩)
end

theorem c65 (f : FuncId) (caps : List V) (xs : List Int) (hit : SeqA Try.prog (Value.int .i64) f caps (fun ys => ys = xs) 4096) (hcl : V.clL caps = true) (hok : okF Try.prog f = true) : CallsA Try.prog 124 [.nsl, .fn f caps] (.sl 1 (encI xs)) := by
 have hq : True := trivial
 refine callsA_of_tr Try.func124 rfl (Nat.le_of_ble_eq_true rfl) ?_
 simp only [Try.results124, envOf, Nat.reduceAdd]
 refine tr_seq fun K1 hK1 => ?_
 refine tr_region [1, 2] rfl rfl fun K hK => ?_
 iterate 2 refine evR_p ?_
 refine evR_e hK ?_; clear hK K
 refine hK1 _ ?_
 refine tr_seq fun K2 hK2 => ?_
 refine tr_seq fun K3 hK3 => ?_
 refine tr_region [2, 6] rfl rfl fun K hK => ?_
 refine evR_p ?_
 refine evR_e hK ?_; clear hK K
 refine hK3 _ ?_
 refine tr_block ?_
 -- loop over a function 1: live [2]
 refine tr_wk (Wk.nilown 3 1 0 0 rfl (Nat.le_of_ble_eq_true rfl) rfl) ?_
 try simp only [List.map_cons, List.map_nil, Nat.reduceEqDiff, ↓reduceIte, List.set_cons_zero, List.set_cons_succ, Nat.reduceAdd]
 refine tr_rangeFunc (en := V.int .i64) hit enok_int.rel rfl hcl hok rfl (fun pre σ => σ = ⟨[(2, .ptr 0 0)], [(1, .row 3 1 (encI pre)), (0, .cells [.own 1])], 2⟩) [2] ?_ ?_ ?_
 ·
  rfl
 ·
  rintro pre x σ rfl hpre KL1 hKL1 KA1 hKA1
  simp only [St.rd, List.filter_cons, List.filter_nil, List.map_cons, List.map_nil, Nat.blt_eq, Nat.reduceLT, ↓reduceIte, List.cons_append, List.nil_append, Nat.reduceAdd]
  refine tr_region [2, 5, 2000002] rfl rfl fun K hK => ?_
  refine evR_p ?_
  refine evR_e hK ?_; clear hK K
  refine hKA1 _ ?_
  refine tr_block ?_
  refine tr_region [2000002] rfl rfl fun K hK => ?_
  iterate 2 refine evR_p ?_
  refine evR_bs ?_
  iterate 2 refine evR_p ?_
  refine evR_e hK ?_; clear hK K
  refine hKL1 _ ?_
  simp only [St.bk, List.filterMap_cons, List.filterMap_nil, Nat.ble_eq, Nat.reduceLeDiff, ↓reduceIte, Nat.reduceSub]
  exact ⟨_, Wk.trans (Wk.ren 2 1 (Nat.le_of_ble_eq_true rfl) (Nat.le_of_ble_eq_true rfl) rfl) (Wk.cut 2 rfl), by rw [encI_snoc]; rfl⟩
 ·
  rintro pre σ hS rfl
  subst hS
  refine hK2 _ ?_
  refine tr_seq fun K4 hK4 => ?_
  refine tr_region [4] rfl rfl fun K hK => ?_
  iterate 2 refine evR_p ?_
  refine evR_e hK ?_; clear hK K
  refine hK4 _ ?_
  refine tr_ret ?_
  (try simp only [thenE, inBlkE])
  simp (maxSteps := 4000000) (disch := first | assumption | omega | (simp only [go_sem, *]; done) | (simp only [go_sem, *]; omega)) only [postA, postO, resV1, fzAll, go_sem, hq, Int.reduceToNat, Nat.reduceBEq, Nat.reduceEqDiff, Nat.reduceAdd, Nat.reduceMul, Nat.reduceLeDiff, Nat.reduceLT, Nat.reduceSub, ↓reduceIte, reduceCtorEq]
  all_goals (rfl)

theorem c44 (f : FuncId) (caps : List V) (xs : List Int) (hit : SeqA Try.prog (Value.int .i64) f caps (fun ys => ys = xs) 4096) (hcl : V.clL caps = true) (hok : okF Try.prog f = true) : CallsA Try.prog 76 [.fn f caps] (.sl 1 (encI xs)) := by
 have hq := hcl
 refine callsA_of_tr Try.func76 rfl (Nat.le_of_ble_eq_true rfl) ?_
 simp only [Try.results76, envOf, Nat.reduceAdd]
 refine tr_seq fun K1 hK1 => ?_
 refine tr_region [0] rfl rfl fun K hK => ?_
 refine evR_p ?_
 refine evR_e hK ?_; clear hK K
 refine hK1 _ ?_
 refine tr_seq fun K2 hK2 => ?_
 refine tr_region [2] rfl rfl fun K hK => ?_
 refine evR_p ?_
 refine evR_c (hc := (c65 f caps xs hit hcl hok)) (k := ?_)
 refine evR_p ?_
 refine evR_e hK ?_; clear hK K
 refine hK2 _ ?_
 refine tr_ret ?_
 (try simp only [thenE, inBlkE])
 simp (maxSteps := 4000000) (disch := first | assumption | omega | (simp only [go_sem, *]; done) | (simp only [go_sem, *]; omega)) only [postA, postO, resV1, fzAll, go_sem, hq, Int.reduceToNat, Nat.reduceBEq, Nat.reduceEqDiff, Nat.reduceAdd, Nat.reduceMul, Nat.reduceLeDiff, Nat.reduceLT, Nat.reduceSub, ↓reduceIte, reduceCtorEq]
 all_goals (rfl)

theorem c16 (p : Pg) (hr : p.rows.length ≤ maxLen) (hg : p.gain.length ≤ maxLen) (hc : ∀ r ∈ p.rows, r.coef.length ≤ maxLen) (hv : validB p = true) : CallsA Try.prog 34 [.agg (encPg p)] (.tup [.sl 1 (encI (choiceL p)), .int .i64 0]) := by
 have hq := hv
 refine callsA_of_tr Try.func34 rfl (Nat.le_of_ble_eq_true rfl) ?_
 simp only [Try.results34, envOf, Nat.reduceAdd]
 refine tr_seq fun K1 hK1 => ?_
 refine tr_region [1] rfl rfl fun K hK => ?_
 iterate 3 refine evR_p ?_
 refine evR_e hK ?_; clear hK K
 refine hK1 _ ?_
 refine tr_seq fun K2 hK2 => ?_
 refine tr_seq fun K3 hK3 => ?_
 refine tr_region [1, 6] rfl rfl fun K hK => ?_
 refine evR_p ?_
 refine evR_c (hc := (c20 p hr hg hc)) (k := ?_)
 refine evR_p ?_
 refine evR_e hK ?_; clear hK K
 refine hK3 _ ?_
 refine tr_condB (fun ht1 => ?_) (fun ht1 => ?_)
 ·
  skip
  (first | (exfalso; simp_all; done) | skip)
  all_goals
   refine tr_seq fun K4 hK4 => ?_
   refine tr_region [2, 3] rfl rfl fun K hK => ?_
   iterate 2 refine evR_p ?_
   refine evR_e hK ?_; clear hK K
   refine hK4 _ ?_
   refine tr_ret ?_
   (try simp only [thenE, inBlkE])
   simp (maxSteps := 4000000) (disch := first | assumption | omega | (simp only [go_sem, *]; done) | (simp only [go_sem, *]; omega)) only [postA, postO, resV1, fzAll, go_sem, hq, Int.reduceToNat, Nat.reduceBEq, Nat.reduceEqDiff, Nat.reduceAdd, Nat.reduceMul, Nat.reduceLeDiff, Nat.reduceLT, Nat.reduceSub, ↓reduceIte, reduceCtorEq]
   all_goals (rfl)
 ·
  skip
  (first | (exfalso; simp_all; done) | skip)
  all_goals
   refine tr_skip ?_
   (try simp only [thenE, inBlkE])
   refine hK2 _ ?_
   refine tr_seq fun K5 hK5 => ?_
   refine tr_region [2, 3] rfl rfl fun K hK => ?_
   refine evR_p ?_
   refine evR_c (hc := (c38 p)) (k := ?_)
   refine evR_c (hc := (c44 125 [.ep (encPg p)] (choiceL p) (c58 p hr hg hc hv) rfl okF_125)) (k := ?_)
   iterate 2 refine evR_p ?_
   refine evR_e hK ?_; clear hK K
   refine hK5 _ ?_
   refine tr_ret ?_
   (try simp only [thenE, inBlkE])
   simp (maxSteps := 4000000) (disch := first | assumption | omega | (simp only [go_sem, *]; done) | (simp only [go_sem, *]; omega)) only [postA, postO, resV1, fzAll, go_sem, hq, Int.reduceToNat, Nat.reduceBEq, Nat.reduceEqDiff, Nat.reduceAdd, Nat.reduceMul, Nat.reduceLeDiff, Nat.reduceLT, Nat.reduceSub, ↓reduceIte, reduceCtorEq]
   all_goals (rfl)

section
attribute [local go_sem] encR_takeA encR_one
set_option maxHeartbeats 2000000 in
theorem c14 (p : Pg) (hr : p.rows.length ≤ maxLen) (hg : p.gain.length ≤ maxLen) (hc : ∀ r ∈ p.rows, r.coef.length ≤ maxLen) (hv : validB p = true) : CallsA Try.prog 36 [.agg (encPg p)] (.tup [.agg (encSol (solveW p)), .int .i64 0]) := by
 obtain ⟨q0, q1, q2, q3, q4, q5⟩ := validB_all hv
 have hq := hv
 refine callsA_of_tr Try.func36 rfl (Nat.le_of_ble_eq_true rfl) ?_
 simp only [Try.results36, envOf, Nat.reduceAdd]
 refine tr_seq fun K1 hK1 => ?_
 refine tr_region [1, 2] rfl rfl fun K hK => ?_
 iterate 3 refine evR_p ?_
 refine evR_e hK ?_; clear hK K
 refine hK1 _ ?_
 refine tr_seq fun K2 hK2 => ?_
 refine tr_seq fun K3 hK3 => ?_
 refine tr_region [1, 2, 10] rfl rfl fun K hK => ?_
 refine evR_p ?_
 refine evR_c (hc := (c20 p hr hg hc)) (k := ?_)
 refine evR_p ?_
 refine evR_e hK ?_; clear hK K
 refine hK3 _ ?_
 refine tr_condB (fun ht1 => ?_) (fun ht1 => ?_)
 ·
  skip
  (first | (exfalso; simp_all; done) | skip)
  all_goals
   refine tr_seq fun K4 hK4 => ?_
   refine tr_region [2, 3] rfl rfl fun K hK => ?_
   iterate 3 refine evR_p ?_
   refine evR_e hK ?_; clear hK K
   refine hK4 _ ?_
   refine tr_ret ?_
   (try simp only [thenE, inBlkE])
   simp (maxSteps := 4000000) (disch := first | assumption | omega | (simp only [go_sem, *]; done) | (simp only [go_sem, *]; omega)) only [postA, postO, resV1, fzAll, go_sem, hq, Int.reduceToNat, Nat.reduceBEq, Nat.reduceEqDiff, Nat.reduceAdd, Nat.reduceMul, Nat.reduceLeDiff, Nat.reduceLT, Nat.reduceSub, ↓reduceIte, reduceCtorEq]
   all_goals (simp only [encSol, solveW]; first | (rw [solRows_t (by assumption)]; done) | (rw [solRows_f (by assumption)]; done) | (rw [solRows_t (by assumption)]; rfl) | (rw [solRows_f (by assumption)]; rfl))
 ·
  skip
  (first | (exfalso; simp_all; done) | skip)
  all_goals
   refine tr_skip ?_
   (try simp only [thenE, inBlkE])
   refine hK2 _ ?_
   refine tr_seq fun K5 hK5 => ?_
   refine tr_region [1, 2, 4] rfl rfl fun K hK => ?_
   refine evR_p ?_
   refine evR_e hK ?_; clear hK K
   refine hK5 _ ?_
   refine tr_seq fun K6 hK6 => ?_
   refine tr_seq fun K7 hK7 => ?_
   refine tr_region [1, 2, 4, 13] rfl rfl fun K hK => ?_
   refine evR_p ?_
   refine evR_c (hc := (c38 p)) (k := ?_)
   refine evR_e hK ?_; clear hK K
   refine hK7 _ ?_
   refine tr_block ?_
   -- loop over a function 1: live [1, 2, 4]
   refine tr_rangeFunc (en := V.int .i64) (c58 p hr hg hc hv) enok_int.rel rfl rfl okF_125 rfl (fun pre σ => σ = ⟨[(1, .ptr 0 0), (2, .ptr 1 0), (4, .ptr 2 0)], [(2, .cells [.bool (bestW p.gain pre).1, .int .i64 (bestW p.gain pre).2.1, .int .i64 (bestW p.gain pre).2.2, .nsl]), (1, .cells [.bool false, .int .i64 0, .int .i64 0, .nsl]), (0, .cells (encPg p))], 3⟩) [1, 2, 4] ?_ ?_ ?_
   ·
    rfl
   ·
    rintro pre x σ rfl hpre KL1 hKL1 KA1 hKA1
    simp only [St.rd, List.filter_cons, List.filter_nil, List.map_cons, List.map_nil, Nat.blt_eq, Nat.reduceLT, ↓reduceIte, List.cons_append, List.nil_append, Nat.reduceAdd]
    refine tr_region [1, 4, 5, 2000001, 2000002, 2000004] rfl rfl fun K hK => ?_
    refine evR_p ?_
    refine evR_e hK ?_; clear hK K
    refine hKA1 _ ?_
    refine tr_block ?_
    refine tr_seq fun K8 hK8 => ?_
    refine tr_region [4, 5, 6, 2000001, 2000002, 2000004] rfl rfl fun K hK => ?_
    iterate 3 refine evR_p ?_
    refine evR_c (hc := (c39 _ _ hg)) (k := ?_)
    refine evR_p ?_
    refine evR_e hK ?_; clear hK K
    refine hK8 _ ?_
    refine tr_seq fun K9 hK9 => ?_
    refine tr_region [4, 5, 6, 27, 2000001, 2000002, 2000004] rfl rfl fun K hK => ?_
    iterate 4 refine evR_p ?_
    iterate 4 refine evR_g ?_
    refine evR_p ?_
    refine evR_e hK ?_; clear hK K
    refine hK9 _ ?_
    refine tr_condB (fun ht2 => ?_) (fun ht2 => ?_)
    ·
     skip
     (first | (exfalso; simp_all; done) | skip)
     all_goals
      refine tr_region [2000001, 2000002, 2000004] rfl rfl fun K hK => ?_
      iterate 4 refine evR_p ?_
      refine evR_e hK ?_; clear hK K
      refine hKL1 _ ?_
      simp only [St.bk, List.filterMap_cons, List.filterMap_nil, Nat.ble_eq, Nat.reduceLeDiff, ↓reduceIte, Nat.reduceSub]
      first
       | exact ⟨_, Wk.refl _, by rw [bestW_snoc, bestS_t (by first | (rcases ht2 with h | h <;> simp [h]; done) | (simp_all; done))]; rfl⟩
       | exact ⟨_, Wk.refl _, by rw [bestW_snoc, bestS_f (by first | (simp only [ht2, Bool.not_true, Bool.false_or]; done) | (simp_all; done))]; rfl⟩
    ·
     skip
     (first | (exfalso; simp_all; done) | skip)
     all_goals
      refine tr_skip ?_
      (try simp only [thenE, inBlkE])
      refine hKL1 _ ?_
      simp only [St.bk, List.filterMap_cons, List.filterMap_nil, Nat.ble_eq, Nat.reduceLeDiff, ↓reduceIte, Nat.reduceSub]
      first
       | exact ⟨_, Wk.refl _, by rw [bestW_snoc, bestS_t (by first | (rcases ht2 with h | h <;> simp [h]; done) | (simp_all; done))]; rfl⟩
       | exact ⟨_, Wk.refl _, by rw [bestW_snoc, bestS_f (by first | (simp only [ht2, Bool.not_true, Bool.false_or]; done) | (simp_all; done))]; rfl⟩
   ·
    rintro pre σ hS rfl
    subst hS
    have eb : bestW p.gain (choiceL p) = solveB p := rfl
    rw [eb]
    obtain ⟨vn, hvn⟩ := Int.eq_ofNat_of_zero_le q0
    refine hK6 _ ?_
    refine tr_seq fun K10 hK10 => ?_
    refine tr_region [1, 2, 4, 7] rfl rfl fun K hK => ?_
    iterate 3 refine evR_p ?_
    refine evR_e hK ?_; clear hK K
    refine hK10 _ ?_
    refine tr_seq fun K11 hK11 => ?_
    refine tr_seq fun K12 hK12 => ?_
    refine tr_region [1, 2, 4, 7, 34] rfl rfl fun K hK => ?_
    iterate 2 refine evR_p ?_
    refine evR_e hK ?_; clear hK K
    refine hK12 _ ?_
    refine tr_condB (fun ht3 => ?_) (fun ht3 => ?_)
    ·
     skip
     (first | (exfalso; simp_all; done) | skip)
     all_goals
      refine tr_draw [45] [2, 4, 7] mixed rfl (by kernel_rfl) rfl fun K hK => ?_
      iterate 9 refine evD_p ?_
      refine evD_c (hc := (c40 p (by omega) _)) (k := ?_)
      refine evD_bs ?_
      iterate 2 refine evD_p ?_
      refine evD_e hK ?_; clear hK K
      refine hK11 _ ?_
      refine tr_seq fun K13 hK13 => ?_
      refine tr_region [2, 4] rfl rfl fun K hK => ?_
      refine evR_p ?_
      refine evR_c (hc := (solRows_t (p := p) (b := solveB p) (by assumption) ▸ (c41 (solRows p (solveB p)) (by rw [solRows_t (by assumption)]; simp only [List.length_append, List.length_cons, List.length_nil, maxLen]; omega) p.vars.toNat (by omega) (solRows_coef hv _) (solve_inf hv)))) (k := ?_)
      iterate 2 refine evR_p ?_
      refine evR_e hK ?_; clear hK K
      refine hK13 _ ?_
      refine tr_seq fun K14 hK14 => ?_
      refine tr_region [2, 3] rfl rfl fun K hK => ?_
      iterate 3 refine evR_p ?_
      refine evR_e hK ?_; clear hK K
      refine hK14 _ ?_
      refine tr_ret ?_
      (try simp only [thenE, inBlkE])
      simp (maxSteps := 4000000) (disch := first | assumption | omega | (simp only [go_sem, *]; done) | (simp only [go_sem, *]; omega)) only [postA, postO, resV1, fzAll, go_sem, hq, Int.reduceToNat, Nat.reduceBEq, Nat.reduceEqDiff, Nat.reduceAdd, Nat.reduceMul, Nat.reduceLeDiff, Nat.reduceLT, Nat.reduceSub, ↓reduceIte, reduceCtorEq]
      all_goals (simp only [encSol, solveW]; first | (rw [solRows_t (by assumption)]; done) | (rw [solRows_f (by assumption)]; done) | (rw [solRows_t (by assumption)]; rfl) | (rw [solRows_f (by assumption)]; rfl))
    ·
     skip
     (first | (exfalso; simp_all; done) | skip)
     all_goals
      refine tr_skip ?_
      (try simp only [thenE, inBlkE])
      refine hK11 _ ?_
      refine tr_seq fun K15 hK15 => ?_
      refine tr_region [2, 4] rfl rfl fun K hK => ?_
      refine evR_p ?_
      refine evR_c (hc := (solRows_f (p := p) (b := solveB p) (by assumption) ▸ (c41 (solRows p (solveB p)) (by rw [solRows_f (by assumption)]; exact hr) p.vars.toNat (by omega) (solRows_coef hv _) (solve_inf hv)))) (k := ?_)
      iterate 2 refine evR_p ?_
      refine evR_e hK ?_; clear hK K
      refine hK15 _ ?_
      refine tr_seq fun K16 hK16 => ?_
      refine tr_region [2, 3] rfl rfl fun K hK => ?_
      iterate 3 refine evR_p ?_
      refine evR_e hK ?_; clear hK K
      refine hK16 _ ?_
      refine tr_ret ?_
      (try simp only [thenE, inBlkE])
      simp (maxSteps := 4000000) (disch := first | assumption | omega | (simp only [go_sem, *]; done) | (simp only [go_sem, *]; omega)) only [postA, postO, resV1, fzAll, go_sem, hq, Int.reduceToNat, Nat.reduceBEq, Nat.reduceEqDiff, Nat.reduceAdd, Nat.reduceMul, Nat.reduceLeDiff, Nat.reduceLT, Nat.reduceSub, ↓reduceIte, reduceCtorEq]
      all_goals (simp only [encSol, solveW]; first | (rw [solRows_t (by assumption)]; done) | (rw [solRows_f (by assumption)]; done) | (rw [solRows_t (by assumption)]; rfl) | (rw [solRows_f (by assumption)]; rfl))
end

section
attribute [local go_sem] encR_takeA encR_one
end

theorem c71 (x : Int) : CallsA Try.prog 132 [.int .i64 x] (.bool false) := by
 have hq : True := trivial
 refine callsA_of_tr Try.func132 rfl (Nat.le_of_ble_eq_true rfl) ?_
 simp only [Try.results132, envOf, Nat.reduceAdd]
 refine tr_seq fun K1 hK1 => ?_
 refine tr_region [0] rfl rfl fun K hK => ?_
 refine evR_p ?_
 refine evR_e hK ?_; clear hK K
 refine hK1 _ ?_
 refine tr_seq fun K2 hK2 => ?_
 refine tr_region [2] rfl rfl fun K hK => ?_
 iterate 4 refine evR_p ?_
 refine evR_e hK ?_; clear hK K
 refine hK2 _ ?_
 refine tr_ret ?_
 (try simp only [thenE, inBlkE])
 simp (maxSteps := 4000000) (disch := first | assumption | omega | (simp only [go_sem, *]; done) | (simp only [go_sem, *]; omega)) only [postA, postO, resV1, fzAll, go_sem, hq, Int.reduceToNat, Nat.reduceBEq, Nat.reduceEqDiff, Nat.reduceAdd, Nat.reduceMul, Nat.reduceLeDiff, Nat.reduceLT, Nat.reduceSub, ↓reduceIte, reduceCtorEq]
 all_goals (simp)

theorem c74 (x : Int) : CallsA Try.prog 155 [.int .i64 x] (.bool false) := by
 have hq : True := trivial
 refine callsA_of_tr Try.func155 rfl (Nat.le_of_ble_eq_true rfl) ?_
 simp only [Try.results155, envOf, Nat.reduceAdd]
 refine tr_seq fun K1 hK1 => ?_
 refine tr_region [0] rfl rfl fun K hK => ?_
 refine evR_p ?_
 refine evR_e hK ?_; clear hK K
 refine hK1 _ ?_
 refine tr_seq fun K2 hK2 => ?_
 refine tr_region [2] rfl rfl fun K hK => ?_
 iterate 4 refine evR_p ?_
 refine evR_e hK ?_; clear hK K
 refine hK2 _ ?_
 refine tr_ret ?_
 (try simp only [thenE, inBlkE])
 simp (maxSteps := 4000000) (disch := first | assumption | omega | (simp only [go_sem, *]; done) | (simp only [go_sem, *]; omega)) only [postA, postO, resV1, fzAll, go_sem, hq, Int.reduceToNat, Nat.reduceBEq, Nat.reduceEqDiff, Nat.reduceAdd, Nat.reduceMul, Nat.reduceLeDiff, Nat.reduceLT, Nat.reduceSub, ↓reduceIte, reduceCtorEq]
 all_goals (simp)

theorem c70 (x y : Int) : CallsA Try.prog 131 [.int .i64 x, .int .i64 y] (.bool (decide (x < y))) := by
 have hq : True := trivial
 refine callsA_of_tr Try.func131 rfl (Nat.le_of_ble_eq_true rfl) ?_
 simp only [Try.results131, envOf, Nat.reduceAdd]
 refine tr_seq fun K1 hK1 => ?_
 refine tr_region [0, 1] rfl rfl fun K hK => ?_
 refine evR_p ?_
 refine evR_e hK ?_; clear hK K
 refine hK1 _ ?_
 refine tr_seq fun K2 hK2 => ?_
 refine tr_region [4] rfl rfl fun K hK => ?_
 refine evR_p ?_
 refine evR_c (hc := (c74 _)) (k := ?_)
 refine evR_p ?_
 refine evR_g ?_
 refine evR_gc (hc := (c74 _)) (k := ?_)
 refine evR_g ?_
 iterate 2 refine evR_p ?_
 iterate 3 refine evR_g ?_
 iterate 2 refine evR_p ?_
 refine evR_e hK ?_; clear hK K
 refine hK2 _ ?_
 refine tr_ret ?_
 (try simp only [thenE, inBlkE])
 simp (maxSteps := 4000000) (disch := first | assumption | omega | (simp only [go_sem, *]; done) | (simp only [go_sem, *]; omega)) only [postA, postO, resV1, fzAll, go_sem, hq, Int.reduceToNat, Nat.reduceBEq, Nat.reduceEqDiff, Nat.reduceAdd, Nat.reduceMul, Nat.reduceLeDiff, Nat.reduceLT, Nat.reduceSub, ↓reduceIte, reduceCtorEq]
 all_goals (simp)

theorem c57 (l : List Int) (t : Int) (hs : srt l) (hm : l.length ≤ 1000) : CallsA Try.prog 84 [.sl 1 (encI l), .int .i64 t] (.tup [.int .i64 (cntL l t : Nat), .bool (decide (t ∈ l))]) := by
 have hq : True := trivial
 refine callsA_of_tr Try.func84 rfl (Nat.le_of_ble_eq_true rfl) ?_
 simp only [Try.results84, envOf, Nat.reduceAdd]
 refine tr_seq fun K1 hK1 => ?_
 refine tr_region [0, 1] rfl rfl fun K hK => ?_
 iterate 2 refine evR_p ?_
 refine evR_e hK ?_; clear hK K
 refine hK1 _ ?_
 refine tr_seq fun K2 hK2 => ?_
 refine tr_region [0, 1, 6] rfl rfl fun K hK => ?_
 iterate 3 refine evR_p ?_
 refine evR_e hK ?_; clear hK K
 refine hK2 _ ?_
 refine tr_seq fun K3 hK3 => ?_
 refine tr_region [0, 1, 6, 7, 8] rfl rfl fun K hK => ?_
 iterate 3 refine evR_p ?_
 refine evR_e hK ?_; clear hK K
 refine hK3 _ ?_
 refine tr_seq fun K4 hK4 => ?_
 refine tr_block ?_
 -- loop 1: live [0, 1, 6, 7, 8]
 refine tr_loopW (fun m σ => ∃ i j : Nat, j = i + m ∧ j ≤ l.length ∧ (∀ k, k < i → l.getD k 0 < t) ∧ (∀ k, j ≤ k → k < l.length → t ≤ l.getD k 0) ∧ σ = ⟨[(0, .sl 1 (encI l)), (1, .int .i64 t), (6, .int .i64 l.length), (7, .int .i64 (i : Nat)), (8, .int .i64 (j : Nat))], [], 0⟩) (l.length) ?_ ?_
 ·
  exact ⟨_, Wk.refl _, 0, l.length, by omega, Nat.le_refl _, (by intro k hk; omega), (by intro k hk hl; omega), rfl⟩
 ·
  rintro m σ ⟨i, j, hj, hjl, hlo, hhi, rfl⟩ KL1 hKL1
  refine tr_seq fun K5 hK5 => ?_
  refine tr_seq fun K6 hK6 => ?_
  refine tr_region [0, 1, 6, 7, 8, 15] rfl rfl fun K hK => ?_
  iterate 3 refine evR_p ?_
  refine evR_e hK ?_; clear hK K
  refine hK6 _ ?_
  refine tr_condB (fun ht1 => ?_) (fun ht1 => ?_)
  ·
   skip
   have hij : i < j := by omega
   obtain ⟨hw1, hw2, hw3, hw4⟩ := mid_u (i := i) (j := j) (by omega)
   have hml : (i + j) / 2 < l.length := by omega
   have hms : i ≤ (i + j) / 2 ∧ (i + j) / 2 < j := by omega
   replace hq := And.intro hq (And.intro hw1 (And.intro hw2 (And.intro hw3 (And.intro hw4 (hml)))))
   refine tr_skip ?_
   (try simp only [thenE, inBlkE])
   refine hK5 _ ?_
   refine tr_block ?_
   refine tr_seq fun K7 hK7 => ?_
   refine tr_region [0, 1, 6, 7, 8, 9] rfl rfl fun K hK => ?_
   iterate 7 refine evR_p ?_
   refine evR_e hK ?_; clear hK K
   refine hK7 _ ?_
   refine tr_seq fun K8 hK8 => ?_
   refine tr_region [0, 1, 6, 7, 8, 9, 27] rfl rfl fun K hK => ?_
   iterate 5 refine evR_p ?_
   refine evR_c (hc := (c70 _ _)) (k := ?_)
   refine evR_e hK ?_; clear hK K
   refine hK8 _ ?_
   refine tr_condB (fun ht2 => ?_) (fun ht2 => ?_)
   ·
    skip
    refine tr_region [0, 1, 6, 7, 8] rfl rfl fun K hK => ?_
    iterate 3 refine evR_p ?_
    refine evR_e hK ?_; clear hK K
    refine hKL1 _ ?_
    first
     | exact ⟨j - ((i + j) / 2 + 1), _, by omega, Wk.refl _, (i + j) / 2 + 1, j, by omega, hjl, (fun k hk => Int.lt_of_le_of_lt (srt_le hs (by omega) hml) (by assumption)), hhi, by rw [w64 (x := (((i + j) / 2 : Nat) : Int) + 1) (by omega)]; rfl⟩
     | exact ⟨(i + j) / 2 - i, _, by omega, Wk.refl _, i, (i + j) / 2, by omega, by omega, hlo, (fun k hk hkl => Int.le_trans (Int.not_lt.1 (by assumption)) (srt_le hs hk hkl)), rfl⟩
   ·
    skip
    refine tr_region [0, 1, 6, 7, 8] rfl rfl fun K hK => ?_
    iterate 2 refine evR_p ?_
    refine evR_e hK ?_; clear hK K
    refine hKL1 _ ?_
    first
     | exact ⟨j - ((i + j) / 2 + 1), _, by omega, Wk.refl _, (i + j) / 2 + 1, j, by omega, hjl, (fun k hk => Int.lt_of_le_of_lt (srt_le hs (by omega) hml) (by assumption)), hhi, by rw [w64 (x := (((i + j) / 2 : Nat) : Int) + 1) (by omega)]; rfl⟩
     | exact ⟨(i + j) / 2 - i, _, by omega, Wk.refl _, i, (i + j) / 2, by omega, by omega, hlo, (fun k hk hkl => Int.le_trans (Int.not_lt.1 (by assumption)) (srt_le hs hk hkl)), rfl⟩
  ·
   skip
   have hij : m = 0 := by omega
   subst hij
   refine tr_exit ?_
   simp only [thenE, inBlkE, Nat.reduceEqDiff, ↓reduceIte]
   refine hK4 _ ?_
   refine tr_seq fun K9 hK9 => ?_
   refine tr_region [4, 5] rfl rfl fun K hK => ?_
   iterate 5 refine evR_p ?_
   iterate 11 refine evR_g ?_
   refine evR_gc (hc := (c71 _)) (k := ?_)
   iterate 2 refine evR_g ?_
   refine evR_gc (hc := (c71 _)) (k := ?_)
   iterate 2 refine evR_g ?_
   iterate 3 refine evR_p ?_
   refine evR_e hK ?_; clear hK K
   refine hK9 _ ?_
   refine tr_ret ?_
   (try simp only [thenE, inBlkE])
   simp (maxSteps := 4000000) (disch := first | assumption | omega | (simp only [go_sem, *]; done) | (simp only [go_sem, *]; omega)) only [postA, postO, resV1, fzAll, go_sem, hq, Int.reduceToNat, Nat.reduceBEq, Nat.reduceEqDiff, Nat.reduceAdd, Nat.reduceMul, Nat.reduceLeDiff, Nat.reduceLT, Nat.reduceSub, ↓reduceIte, reduceCtorEq]
   all_goals (exact bs_res hs (by omega) (by omega) hlo hhi)

theorem c56a  : CallsA Try.prog 83 [.sl 1 []] (.sl 1 []) := by
 have hq : True := trivial
 refine callsA_of_trL Try.func83 rfl (Nat.le_of_ble_eq_true rfl) ?_
 simp only [Try.results83, envOf, Nat.reduceAdd]
 refine tr_seq fun K1 hK1 => ?_
 refine tr_region [0] rfl rfl fun K hK => ?_
 refine evR_p ?_
 refine evR_e hK ?_; clear hK K
 refine hK1 _ ?_
 refine tr_seq fun K2 hK2 => ?_
 refine tr_seq fun K3 hK3 => ?_
 refine tr_region [0, 4] rfl rfl fun K hK => ?_
 iterate 2 refine evR_p ?_
 refine evR_e hK ?_; clear hK K
 refine hK3 _ ?_
 refine tr_cond_ub rfl ?_ ?_
 ·
  skip
  refine tr_seq fun K4 hK4 => ?_
  refine tr_region [2] rfl rfl fun K hK => ?_
  refine evR_p ?_
  refine evR_e hK ?_; clear hK K
  refine hK4 _ ?_
  refine tr_ret ?_
  (try simp only [thenE, inBlkE])
  simp (maxSteps := 4000000) (disch := first | assumption | omega | (simp only [go_sem, *]; done) | (simp only [go_sem, *]; omega)) only [postA, postO, resV1, fzAll, go_sem, hq, Int.reduceToNat, Nat.reduceBEq, Nat.reduceEqDiff, Nat.reduceAdd, Nat.reduceMul, Nat.reduceLeDiff, Nat.reduceLT, Nat.reduceSub, ↓reduceIte, reduceCtorEq]
  all_goals (first | exact .nsl _ | exact .refl _)
 ·
  skip
  refine tr_skip ?_
  (try simp only [thenE, inBlkE])
  refine hK2 _ ?_
  refine tr_seq fun K5 hK5 => ?_
  refine tr_region [2] rfl rfl fun K hK => ?_
  refine evR_bo ?_
  iterate 3 refine evR_p ?_
  refine evR_e hK ?_; clear hK K
  refine hK5 _ ?_
  refine tr_ret ?_
  (try simp only [thenE, inBlkE])
  simp (maxSteps := 4000000) (disch := first | assumption | omega | (simp only [go_sem, *]; done) | (simp only [go_sem, *]; omega)) only [postA, postO, resV1, fzAll, go_sem, hq, Int.reduceToNat, Nat.reduceBEq, Nat.reduceEqDiff, Nat.reduceAdd, Nat.reduceMul, Nat.reduceLeDiff, Nat.reduceLT, Nat.reduceSub, ↓reduceIte, reduceCtorEq]
  all_goals (first | exact .nsl _ | exact .refl _)

section
attribute [local go_sem] List.replicate_zero
theorem c56b (a : Int) (l : List Int) (hm : l.length ≤ 1000) : CallsA Try.prog 83 [.sl 1 ([V.int .i64 a] :: encI l)] (.sl 1 ([V.int .i64 a] :: encI l)) := by
 have hq : True := trivial
 refine callsA_of_tr Try.func83 rfl (Nat.le_of_ble_eq_true rfl) ?_
 simp only [Try.results83, envOf, Nat.reduceAdd]
 refine tr_seq fun K1 hK1 => ?_
 refine tr_region [0] rfl rfl fun K hK => ?_
 refine evR_p ?_
 refine evR_e hK ?_; clear hK K
 refine hK1 _ ?_
 refine tr_seq fun K2 hK2 => ?_
 refine tr_seq fun K3 hK3 => ?_
 refine tr_region [0, 4] rfl rfl fun K hK => ?_
 iterate 2 refine evR_p ?_
 refine evR_e hK ?_; clear hK K
 refine hK3 _ ?_
 refine tr_condB (fun ht1 => ?_) (fun ht1 => ?_)
 ·
  skip
  refine tr_seq fun K4 hK4 => ?_
  refine tr_region [2] rfl rfl fun K hK => ?_
  refine evR_p ?_
  refine evR_e hK ?_; clear hK K
  refine hK4 _ ?_
  refine tr_ret ?_
  (try simp only [thenE, inBlkE])
  simp (maxSteps := 4000000) (disch := first | assumption | omega | (simp only [go_sem, *]; done) | (simp only [go_sem, *]; omega)) only [postA, postO, resV1, fzAll, go_sem, hq, Int.reduceToNat, Nat.reduceBEq, Nat.reduceEqDiff, Nat.reduceAdd, Nat.reduceMul, Nat.reduceLeDiff, Nat.reduceLT, Nat.reduceSub, ↓reduceIte, reduceCtorEq]
  all_goals (first | (cases ht1; done) | rfl)
 ·
  skip
  refine tr_skip ?_
  (try simp only [thenE, inBlkE])
  refine hK2 _ ?_
  refine tr_seq fun K5 hK5 => ?_
  refine tr_region [2] rfl rfl fun K hK => ?_
  refine evR_bo ?_
  iterate 3 refine evR_p ?_
  refine evR_e hK ?_; clear hK K
  refine hK5 _ ?_
  refine tr_ret ?_
  (try simp only [thenE, inBlkE])
  simp (maxSteps := 4000000) (disch := first | assumption | omega | (simp only [go_sem, *]; done) | (simp only [go_sem, *]; omega)) only [postA, postO, resV1, fzAll, go_sem, hq, Int.reduceToNat, Nat.reduceBEq, Nat.reduceEqDiff, Nat.reduceAdd, Nat.reduceMul, Nat.reduceLeDiff, Nat.reduceLT, Nat.reduceSub, ↓reduceIte, reduceCtorEq]
  all_goals (first | (cases ht1; done) | rfl)
end
theorem c56 (l : List Int) (hm : l.length ≤ 1000) : CallsA Try.prog 83 [.sl 1 (encI l)] (.sl 1 (encI l)) := by
 cases l with
 | nil => exact c56a
 | cons a l => exact c56b a l (by simp at hm; omega)

section
attribute [local go_sem] encR_one
set_option maxHeartbeats 4000000 in
theorem c30 (p : Pg) (hr : p.rows.length ≤ maxLen) (hg : p.gain.length ≤ maxLen) (hc : ∀ r ∈ p.rows, r.coef.length ≤ maxLen) (rows : List Int) (hw : rows.length ≤ maxLen) : CallsA Try.prog 37 [.agg (encPg p), .sl 1 (encI rows)] (.tup (wthV p rows)) := by
 unfold maxLen at hw
 have hr0 := hr
 unfold maxLen at hr0
 have hq : True := trivial
 refine callsA_of_tr Try.func37 rfl (Nat.le_of_ble_eq_true rfl) ?_
 simp only [Try.results37, envOf, Nat.reduceAdd]
 refine tr_seq fun K1 hK1 => ?_
 refine tr_region [1, 2, 4] rfl rfl fun K hK => ?_
 iterate 3 refine evR_p ?_
 refine evR_e hK ?_; clear hK K
 refine hK1 _ ?_
 refine tr_seq fun K2 hK2 => ?_
 refine tr_seq fun K3 hK3 => ?_
 refine tr_region [1, 2, 4, 13, 14, 15] rfl rfl fun K hK => ?_
 iterate 3 refine evR_p ?_
 refine evR_e hK ?_; clear hK K
 refine hK3 _ ?_
 refine tr_block ?_
 -- loop 1: live [1, 2, 4, 13, 14, 15]
 refine tr_loopW (fun m σ => ∃ i : Nat, i + m = rows.length ∧ okTo p rows i = true ∧ σ = ⟨[(1, .sl 1 (encI rows)), (2, .ptr 0 0), (4, .ptr 1 0), (13, .sl 1 (encI rows)), (14, .int .i64 rows.length), (15, .int .i64 (i : Nat))], [(1, .cells [.int .i64 0, .nsl, .nsl]), (0, .cells (encPg p))], 2⟩) (rows.length) ?_ ?_
 ·
  exact ⟨_, Wk.refl _, 0, by omega, rfl, rfl⟩
 ·
  rintro m σ ⟨i, hi, hk, rfl⟩ KL1 hKL1
  refine tr_seq fun K4 hK4 => ?_
  refine tr_region [1, 2, 4, 13, 14, 15, 16] rfl rfl fun K hK => ?_
  refine evR_p ?_
  refine evR_e hK ?_; clear hK K
  refine hK4 _ ?_
  refine tr_seq fun K5 hK5 => ?_
  refine tr_condB (fun ht1 => ?_) (fun ht1 => ?_)
  ·
   skip
   have hil : i < rows.length := by omega
   have hwi : 0 < (i : Int) → IntKind.i64.wrap ((i : Int) - 1) = ((i - 1 : Nat) : Int) := fun h => by rw [w64 (by omega)]; omega
   replace hq := And.intro hq (And.intro hil (hwi))
   refine tr_skip ?_
   (try simp only [thenE, inBlkE])
   refine hK5 _ ?_
   refine tr_seq fun K6 hK6 => ?_
   refine tr_block ?_
   refine tr_seq fun K7 hK7 => ?_
   refine tr_region [1, 2, 4, 6, 7, 13, 14, 15] rfl rfl fun K hK => ?_
   iterate 5 refine evR_p ?_
   refine evR_e hK ?_; clear hK K
   refine hK7 _ ?_
   refine tr_seq fun K8 hK8 => ?_
   refine tr_region [1, 2, 4, 13, 14, 15, 39] rfl rfl fun K hK => ?_
   iterate 5 refine evR_p ?_
   refine evR_c (hc := (c49 _ _ _)) (k := ?_)
   iterate 2 refine evR_p ?_
   iterate 11 refine evR_g ?_
   refine evR_p ?_
   refine evR_e hK ?_; clear hK K
   refine hK8 _ ?_
   refine tr_condB (fun ht2 => ?_) (fun ht2 => ?_)
   ·
    skip
    refine tr_seq fun K9 hK9 => ?_
    refine tr_region [4, 5] rfl rfl fun K hK => ?_
    iterate 3 refine evR_p ?_
    refine evR_e hK ?_; clear hK K
    refine hK9 _ ?_
    refine tr_ret ?_
    (try simp only [thenE, inBlkE])
    simp (maxSteps := 4000000) (disch := first | assumption | omega | (simp only [go_sem, *]; done) | (simp only [go_sem, *]; omega)) only [postA, postO, resV1, fzAll, go_sem, hq, Int.reduceToNat, Nat.reduceBEq, Nat.reduceEqDiff, Nat.reduceAdd, Nat.reduceMul, Nat.reduceLeDiff, Nat.reduceLT, Nat.reduceSub, ↓reduceIte, reduceCtorEq]
    all_goals (first | (rw [wthV_t hk (by assumption)]; rfl) | (rw [wthV_f2 (by assumption)]; done) | (rw [wthV_f1 (okTo_f hil (idx_no ht2))]; done))
   ·
    skip
    refine tr_skip ?_
    (try simp only [thenE, inBlkE])
    refine hK6 _ ?_
    refine tr_region [1, 2, 4, 13, 14, 15] rfl rfl fun K hK => ?_
    iterate 2 refine evR_p ?_
    refine evR_e hK ?_; clear hK K
    refine hKL1 _ ?_
    exact ⟨m - 1, _, by omega, Wk.cut 2 rfl, i + 1, by omega, okTo_t hk (idx_fin ht2), by rw [w64 (x := (i : Int) + 1) (by omega)]; rfl⟩
  ·
   skip
   have hil : i = rows.length := by omega
   subst hil
   refine tr_exit ?_
   simp only [thenE, inBlkE, Nat.reduceEqDiff, ↓reduceIte]
   refine hK2 _ ?_
   refine tr_seq fun K10 hK10 => ?_
   refine tr_seq fun K11 hK11 => ?_
   refine tr_region [1, 2, 4, 44] rfl rfl fun K hK => ?_
   refine evR_p ?_
   refine evR_c (hc := (c20 p hr hg hc)) (k := ?_)
   refine evR_p ?_
   refine evR_e hK ?_; clear hK K
   refine hK11 _ ?_
   refine tr_condB (fun ht3 => ?_) (fun ht3 => ?_)
   ·
    skip
    refine tr_seq fun K12 hK12 => ?_
    refine tr_region [4, 5] rfl rfl fun K hK => ?_
    iterate 3 refine evR_p ?_
    refine evR_e hK ?_; clear hK K
    refine hK12 _ ?_
    refine tr_ret ?_
    (try simp only [thenE, inBlkE])
    simp (maxSteps := 4000000) (disch := first | assumption | omega | (simp only [go_sem, *]; done) | (simp only [go_sem, *]; omega)) only [postA, postO, resV1, fzAll, go_sem, hq, Int.reduceToNat, Nat.reduceBEq, Nat.reduceEqDiff, Nat.reduceAdd, Nat.reduceMul, Nat.reduceLeDiff, Nat.reduceLT, Nat.reduceSub, ↓reduceIte, reduceCtorEq]
    all_goals (first | (rw [wthV_t hk (by assumption)]; rfl) | (rw [wthV_f2 (by assumption)]; done) | (rw [wthV_f1 (okTo_f hil (idx_no ht2))]; done))
   ·
    skip
    refine tr_skip ?_
    (try simp only [thenE, inBlkE])
    refine hK10 _ ?_
    refine tr_seq fun K13 hK13 => ?_
    refine tr_fz [.ptr 0 0] (by simp (maxSteps := 4000000) (disch := first | assumption | omega | (simp only [go_sem, *]; done) | (simp only [go_sem, *]; omega)) only [go_sem, hq, Int.reduceToNat, Nat.reduceBEq, Nat.reduceEqDiff, Nat.reduceAdd, Nat.reduceMul, Nat.reduceLeDiff, Nat.reduceLT, Nat.reduceSub, ↓reduceIte, reduceCtorEq]; (try rfl)) ?_
    refine tr_draw [47, 49] [1, 2, 4, 8] mixed rfl (by kernel_rfl) rfl fun K hK => ?_
    iterate 4 refine evD_p ?_
    refine evD_c (hc := (c56 p.gain (gain_1000 (by assumption)))) (k := ?_)
    iterate 3 refine evD_p ?_
    refine evD_e hK ?_; clear hK K
    refine hK13 _ ?_
    refine tr_seq fun K14 hK14 => ?_
    refine tr_seq fun K15 hK15 => ?_
    refine tr_region [1, 4, 8, 53, 54, 55] rfl rfl fun K hK => ?_
    iterate 4 refine evR_p ?_
    refine evR_e hK ?_; clear hK K
    refine hK15 _ ?_
    refine tr_block ?_
    -- loop 2: live [1, 4, 8, 53, 54, 55]
    refine tr_loopW (fun m σ => ∃ i : Nat, i + m = p.rows.length ∧ σ = ⟨[(1, .sl 1 (encI rows)), (4, .ptr 1 0), (8, .ptr 2 0), (53, .sl 6 (encR p.rows)), (54, .int .i64 p.rows.length), (55, .int .i64 (i : Nat))], [(3, .row 67 6 (encR (keepTo p rows i))), (2, .cells [.int .i64 p.vars, .own 3, .sl 1 (encI p.gain)]), (1, .cells [.int .i64 0, .nsl, .nsl])], 4⟩) (p.rows.length) ?_ ?_
    ·
     exact ⟨_, (Wk.nilown 67 6 2 1 rfl (Nat.le_of_ble_eq_true rfl) rfl), 0, by omega, rfl⟩
    ·
     rintro m σ ⟨i, hi, rfl⟩ KL2 hKL2
     refine tr_seq fun K16 hK16 => ?_
     refine tr_region [1, 4, 8, 53, 54, 55, 56] rfl rfl fun K hK => ?_
     refine evR_p ?_
     refine evR_e hK ?_; clear hK K
     refine hK16 _ ?_
     refine tr_seq fun K17 hK17 => ?_
     refine tr_condB (fun ht4 => ?_) (fun ht4 => ?_)
     ·
      skip
      have hil : i < p.rows.length := by omega
      have hkl := keepTo_length p rows i
      have hr3 : p.rows.length ≤ 300 := (validB_all (p := p) (by assumption)).2.2.1
      replace hq := And.intro hq (hil)
      refine tr_skip ?_
      (try simp only [thenE, inBlkE])
      refine hK17 _ ?_
      refine tr_seq fun K18 hK18 => ?_
      refine tr_block ?_
      refine tr_seq fun K19 hK19 => ?_
      refine tr_region [1, 4, 8, 9, 10, 53, 54, 55] rfl rfl fun K hK => ?_
      iterate 6 refine evR_p ?_
      refine evR_e hK ?_; clear hK K
      refine hK19 _ ?_
      refine tr_seq fun K20 hK20 => ?_
      refine tr_region [1, 4, 8, 10, 12, 53, 54, 55] rfl rfl fun K hK => ?_
      iterate 2 refine evR_p ?_
      refine evR_c (hc := (c57 rows (i : Nat) (okRows_srt (p := p) hk) (okRows_1000 (p := p) hk (by assumption)))) (k := ?_)
      iterate 5 refine evR_p ?_
      refine evR_e hK ?_; clear hK K
      refine hK20 _ ?_
      refine tr_seq fun K21 hK21 => ?_
      refine tr_region [1, 4, 8, 10, 53, 54, 55, 67] rfl rfl fun K hK => ?_
      iterate 2 refine evR_p ?_
      refine evR_e hK ?_; clear hK K
      refine hK21 _ ?_
      refine tr_condB (fun ht5 => ?_) (fun ht5 => ?_)
      ·
       skip
       refine tr_seq fun K22 hK22 => ?_
       refine tr_region [1, 4, 8, 10, 53, 54, 55] rfl rfl fun K hK => ?_
       iterate 2 refine evR_p ?_
       refine evR_c (hc := (c56 (p.rows.getD i rw0).coef (coef_1000 (p := p) (by assumption) hil))) (k := ?_)
       iterate 2 refine evR_p ?_
       refine evR_e hK ?_; clear hK K
       refine hK22 _ ?_
       refine tr_region [1, 4, 8, 53, 54, 55] rfl rfl fun K hK => ?_
       iterate 3 refine evR_p ?_
       refine evR_bs ?_
       iterate 3 refine evR_p ?_
       refine evR_e hK ?_; clear hK K
       refine hK18 _ ?_
       refine tr_region [1, 4, 8, 53, 54, 55] rfl rfl fun K hK => ?_
       iterate 2 refine evR_p ?_
       refine evR_e hK ?_; clear hK K
       refine hKL2 _ ?_
       first
        | exact ⟨m - 1, _, by omega, Wk.cut 4 rfl, i + 1, by omega, by rw [keepTo_t (by assumption), w64 (x := (i : Int) + 1) (by omega)]; rfl⟩
        | exact ⟨m - 1, _, by omega, (Wk.trans (Wk.ren 5 3 (Nat.le_of_ble_eq_true rfl) (Nat.le_of_ble_eq_true rfl) rfl) (Wk.cut 4 rfl)), i + 1, by omega, by rw [w64 (x := (i : Int) + 1) (by omega), keepTo_f (by assumption)]; rfl⟩
      ·
       skip
       refine tr_skip ?_
       (try simp only [thenE, inBlkE])
       refine hK18 _ ?_
       refine tr_region [1, 4, 8, 53, 54, 55] rfl rfl fun K hK => ?_
       iterate 2 refine evR_p ?_
       refine evR_e hK ?_; clear hK K
       refine hKL2 _ ?_
       first
        | exact ⟨m - 1, _, by omega, Wk.cut 4 rfl, i + 1, by omega, by rw [keepTo_t (by assumption), w64 (x := (i : Int) + 1) (by omega)]; rfl⟩
        | exact ⟨m - 1, _, by omega, (Wk.trans (Wk.ren 5 3 (Nat.le_of_ble_eq_true rfl) (Nat.le_of_ble_eq_true rfl) rfl) (Wk.cut 4 rfl)), i + 1, by omega, by rw [w64 (x := (i : Int) + 1) (by omega), keepTo_f (by assumption)]; rfl⟩
     ·
      skip
      have hil : i = p.rows.length := by omega
      subst hil
      refine tr_exit ?_
      simp only [thenE, inBlkE, Nat.reduceEqDiff, ↓reduceIte]
      refine hK14 _ ?_
      refine tr_seq fun K23 hK23 => ?_
      refine tr_region [4, 5] rfl rfl fun K hK => ?_
      iterate 3 refine evR_p ?_
      refine evR_e hK ?_; clear hK K
      refine hK23 _ ?_
      refine tr_ret ?_
      (try simp only [thenE, inBlkE])
      simp (maxSteps := 4000000) (disch := first | assumption | omega | (simp only [go_sem, *]; done) | (simp only [go_sem, *]; omega)) only [postA, postO, resV1, fzAll, go_sem, hq, Int.reduceToNat, Nat.reduceBEq, Nat.reduceEqDiff, Nat.reduceAdd, Nat.reduceMul, Nat.reduceLeDiff, Nat.reduceLT, Nat.reduceSub, ↓reduceIte, reduceCtorEq]
      all_goals (first | (rw [wthV_t hk (by assumption)]; rfl) | (rw [wthV_f2 (by assumption)]; done) | (rw [wthV_f1 (okTo_f hil (idx_no ht2))]; done))
end

end Go.Proofs.Ytfamkbofdamkkaa
namespace Go.Proofs.Ytfamkbofdamkkaa
open Go.RowKit
set_option linter.unusedVariables false
set_option linter.unusedSimpArgs false
def encSol2 (p : Pg) : List V := [.bool (solveW p).found, .int .i64 (solveW p).set, .int .i64 (solveW p).gain, .sl 4 (encSgs (prfS p))]
theorem sol_le (p : Pg) : V.Le (.tup [.agg (encSol (solveW p)), .int .i64 0]) (.tup [.agg (encSol2 p), .int .i64 0]) :=
  .tup (.cons (.agg (.cons (.refl _) (.cons (.refl _) (.cons (.refl _) (.cons (encS_le _) .nil))))) (.cons (.refl _) .nil))
theorem s36 {p : Pg} (hv : validB p = true) : CallsA Try.prog 36 [.agg (encPg p)] (.tup [.agg (encSol2 p), .int .i64 0]) := by
  obtain ⟨a, b, c⟩ := valid_max hv
  exact (c14 p a b c hv).le (sol_le p)
/-- A proof that is no longer than any of these is. -/
structure okPf (l : List Sg) : Prop where
  len : l.length ≤ maxLen
  ws : ∀ s ∈ l, s.ws.length ≤ maxLen
theorem okPf.at {l : List Sg} (h : okPf l) : ∀ k, k < l.length → ∀ s, l.getD k sg0 = s → s.ws.length ≤ maxLen := fun k hk s hs => by
  subst hs; exact h.ws _ (getD_mem hk)
/-- A program that is no longer than any of these is. -/
structure okPr (p : Pg) : Prop where
  rows : p.rows.length ≤ 400
  gain : p.gain.length ≤ 1000
  coef : ∀ r ∈ p.rows, r.coef.length ≤ 1000
theorem okPr_valid {p : Pg} (hv : validB p = true) : okPr p := by
  obtain ⟨q0, q1, q2, q3, q4, q5⟩ := validB_all hv
  exact ⟨by omega, by omega, fun r hr => by have := (q5 r hr).1; omega⟩
section
variable {p : Pg} (hp : okPr p) {l : List Sg} (hl : okPf l)
include hp
theorem okPr.r : p.rows.length ≤ maxLen := by have := hp.rows; unfold maxLen; omega
theorem okPr.g : p.gain.length ≤ maxLen := by have := hp.gain; unfold maxLen; omega
theorem okPr.c : ∀ r ∈ p.rows, r.coef.length ≤ maxLen := fun r hr => by have := hp.coef r hr; unfold maxLen; omega
include hl
theorem s24 : CallsA Try.prog 24 [.agg (encPg p), .sl 4 (encSgs l)] (.bool (refutesW p l)) := k24 p hp.r hp.g hp.c l hl.len hl.at
theorem s32 (n : Int) : CallsA Try.prog 32 [.agg (encPg p), .sl 4 (encSgs l), .int .i64 n] (.bool (boundsW p l n)) := k32 p hp.r hp.g hp.c l hl.len hl.at hp.gain (by have := hp.rows; omega) n
theorem s29 : CallsA Try.prog 29 [.agg (encPg p), .sl 4 (encSgs l)] (.sl 1 (encI (usedI p l))) := k29 p hp.r hp.g hp.c l hl.len hl.at
end
theorem usedI_len (p : Pg) (l : List Sg) : (usedI p l).length ≤ 300 := by
  rcases usedV_cases p p.rows l with h | ⟨es, h⟩
  · rw [usedI_nm h]; simp
  · obtain ⟨h1, h2, h3⟩ := usedI_fm h
    have := h2.len
    rw [h1, sortU, List.length_mergeSort, keyU, List.length_map]; omega
theorem usedI_max (p : Pg) (l : List Sg) : (usedI p l).length ≤ maxLen := by have := usedI_len p l; unfold maxLen; omega
theorem s28 (p q : Pg) (l m : List Sg) : CallsA Try.prog 28 [.sl 1 (encI (usedI p l)), .sl 1 (encI (usedI q m))] (.bool (decide (usedI p l = usedI q m))) := c19 _ _ (usedI_max _ _) (usedI_max _ _)
theorem okPf_prf {p : Pg} (hv : validB p = true) : okPf (prfS p) := ⟨by have := prf_len hv; unfold maxLen; omega, fun s hs => by have := prf_ws p s hs; unfold maxLen; omega⟩
end Go.Proofs.Ytfamkbofdamkkaa
namespace Go.Proofs.Ytfamkbofdamkkaa
open Go.ChangeShapes Go.WideShapes Go.ChangeAt Go.RowKit
theorem Try.own : ownKnob Try.prog.godebug = none := by kernel_rfl
theorem Try.laidOut : laidOutB Try.prog = true := by kernel_rfl
section
variable {H : Type} {enc : TypeId × Value → H} {w : World}
theorem okI_of_wf {n : Int} (h : (Lit.int .i64 n).wf = true) : okI n := by
  simp [Lit.wf, IntKind.min, IntKind.max, IntKind.signed, IntKind.bits] at h
  unfold okI; omega
theorem dec3 : Dec enc Try.prog w 65 (fun t : T3 => [V.int .i64 t.p, V.int .i64 t.q, V.int .i64 t.r]) okT :=
  (dec_array (n := 3) (sz := 1) Try.underlying65 (by kernel_rfl) (by kernel_rfl) (dec_int Try.underlying3)).turn (fun xs => ⟨xs.getD 0 0, xs.getD 1 0, xs.getD 2 0⟩) fun xs h => by
    obtain ⟨h1, h2⟩ := h
    match xs, h1 with
    | [x, y, z], _ => exact ⟨rfl, okI_of_wf (h2 x (by simp)), okI_of_wf (h2 y (by simp)), okI_of_wf (h2 z (by simp))⟩
def okG (n : Nat) (a : List Int) : Prop := a.length = n ∧ ∀ c ∈ a, okI c
theorem decG {t : TypeId} {n : Nat} (ht : Try.prog.underlying t = some (.array n 3)) (h1 : Try.prog.cellsOf 3 = 1) (h2 : Try.prog.cellsOf t = n * 1) : Dec enc Try.prog w t (fun a : List Int => cellsI a) (okG n) :=
  (dec_array (n := n) (sz := 1) ht h1 h2 (dec_int Try.underlying3)).turn (fun xs => xs) fun xs h => ⟨by show xs.map (V.int .i64) = _; exact List.map_eq_flatMap, h.1, fun c hc => okI_of_wf (h.2 c hc)⟩
theorem dec8 : Dec enc Try.prog w 23 (fun a : List Int => cellsI a) (okG 8) := decG Try.underlying23 (by kernel_rfl) (by kernel_rfl)
end
end Go.Proofs.Ytfamkbofdamkkaa
namespace Go.Proofs.Ytfamkbofdamkkaa
open Go.RowKit
set_option linter.unusedVariables false
set_option linter.unusedSimpArgs false
set_option maxRecDepth 100000
attribute [local go_sem] Nat.zero_add Nat.add_zero Nat.mul_one eq_self ne_eq not_true_eq_false not_false_eq_true decide_true decide_false decide_not Bool.false_eq_true List.filter_cons List.filter_nil true_and and_true beq_false beq_true Bool.not_true Bool.not_false Bool.and_true Bool.true_and Option.getD_some Option.getD_none imp_self implies_true Int.toNat_natCast List.cons_append List.nil_append List.map_cons List.map_nil List.length_cons List.length_nil List.getD_cons_zero List.getD_cons_succ List.drop_zero List.drop_succ_cons List.take_succ_cons List.take_zero
attribute [local go_sem] shL isSh Option.isNone_none Option.isNone_some Option.isSome_none lowN lowQ lowM isAl appOwn unw appF isE isO stpO notIn St.bare evO evDO isEff stp St.get St.slot St.put List.lookup un unL ofVal gof nth pickV pkB_false pkB_true binV unV loadV idxV fldV partV buildV fillV lenV sliV appV appR rowsV winV V.parts V.okp V.sc Mem.look_cons Mem.look_nil V.cl V.clL AObj.clo fzAll exps St.fz Mem.fz V.fz V.fzL AObj.fz Option.isSome_some Option.isSome_none Bool.or_true Bool.true_or Bool.or_false Bool.false_or false_and and_false false_or or_false arT_22 arT_23 arT_25 arT_24 arT_40 arT_30  arT_65 arT_28 arT_90  arT_52 boolT_25 boolT_3 boolT_35 boolT_4  flatT_25 flatT_3 flatT_35 flatT_4  intT_3 intT_133 lay_23 lay_25 lay_67 lay_24 lay_27 lay_3 lay_49 lay_30 lay_34 lay_4 lay_65 lay_52 lay_54 lay_56 lay_141 lay_164  okF_17 okF_31  okF_36 okF_18 okF_34 okF_63  okF_28 okF_50 okF_69 okF_51  okF_35       okF_37   okF_71  okF_65  okF_62 okF_77 okF_79  okF_80 okF_81 okF_64 okF_66 okF_76 okF_113 okF_96 okF_97 okF_98 okF_82  okF_99 okF_119 okF_120 okF_78 okF_100 okF_101 okF_83 okF_84 okF_125 okF_126  okF_127 okF_128 okF_129 okF_130 okF_114 okF_124 okF_140 okF_141 okF_142 okF_143  okF_131 okF_132 okF_144 okF_158 okF_155 okF_159   plT_67 plT_27 plT_34 plT_54 plT_56 slT_22 slT_23 slT_25 slT_24 slT_40 slT_30  slT_65 slT_28 slT_90  slT_52  stT_67_1   stT_67_4 stT_67_5 stT_27_0 stT_27_1 stT_27_2 stT_34_0 stT_34_1 stT_34_2 stT_34_3 stT_54_0 stT_54_1 stT_54_2 stT_54_3 stT_56_0 stT_56_1  zeroT_67 zeroT_27 zeroT_3 zeroT_49 zeroT_30 zeroT_34 zeroT_65  zeroT_54 zeroT_56
attribute [local go_sem] List.getElem?_cons_zero List.getElem?_cons_succ List.zip_cons_cons List.zip_nil_left List.zip_nil_right Bool.false_and Bool.and_false List.length_append List.length_set List.length_replicate List.all_cons List.all_nil encI_length encI_getD encR_length encR_getD encRw encPg spl shp AObj.shp rowM isSt isRpS isRd csh AObj.csh forall_const imp_self
attribute [local simp] encI_length encR_length
section
attribute [local go_sem] encT_length encT_getD cellsI_length cellsI_getD cellsI_sc cellsI_cl cellsI_dropD encR_one List.length_drop
set_option maxHeartbeats 8000000 in
theorem c11 (v : Int) (x : List T3) (g : List Int) (hv : okI v) (hx : x.length ≤ maxLen) (hg : g.length = 8) : CallsA Try.prog 17 [.int .i64 v, .sl 3 (encT x), .agg (cellsI g)] (.agg (encPg (madeW v x g))) := by
 have r1 := pickW_range v (n := 9) (by omega) (by omega) hv
 have hx0 := hx
 unfold maxLen at hx0
 obtain ⟨n, hn⟩ := Int.eq_ofNat_of_zero_le r1.1
 have hn9 : n < 9 := by omega
 have hq := And.intro hn (hg)
 refine callsA_of_tr Try.func17 rfl (Nat.le_of_ble_eq_true rfl) ?_
 simp only [Try.results17, envOf, Nat.reduceAdd]
 refine tr_seq fun K1 hK1 => ?_
 refine tr_region [0, 1, 5, 6] rfl rfl fun K hK => ?_
 iterate 2 refine evR_p ?_
 refine evR_e hK ?_; clear hK K
 refine hK1 _ ?_
 refine tr_seq fun K2 hK2 => ?_
 refine tr_fz [.ptr 0 0] (by simp (maxSteps := 4000000) (disch := first | assumption | omega | (simp only [go_sem, *]; done) | (simp only [go_sem, *]; omega)) only [go_sem, hq, Int.reduceToNat, Nat.reduceBEq, Nat.reduceEqDiff, Nat.reduceAdd, Nat.reduceMul, Nat.reduceLeDiff, Nat.reduceLT, Nat.reduceSub, ↓reduceIte, reduceCtorEq]; (try rfl)) ?_
 refine tr_region [1, 5, 6, 7] rfl rfl fun K hK => ?_
 refine evR_p ?_
 refine evR_c (hc := (c37 _ _ (by decide))) (k := ?_)
 iterate 3 refine evR_p ?_
 refine evR_e hK ?_; clear hK K
 refine hK2 _ ?_
 refine tr_seq fun K3 hK3 => ?_
 refine tr_seq fun K4 hK4 => ?_
 refine tr_region [1, 5, 6, 7, 8] rfl rfl fun K hK => ?_
 refine evR_p ?_
 refine evR_e hK ?_; clear hK K
 refine hK4 _ ?_
 refine tr_block ?_
 -- loop 1: live [1, 5, 6, 7, 8]
 refine tr_loopW (fun m σ => ∃ i : Nat, i + m = n ∧ σ = ⟨[(1, .sl 3 (encT x)), (5, .ep (cellsI g)), (6, .ptr 1 0), (7, .ptr 2 0), (8, .int .i64 (i : Nat))], [(4, .row 3 1 (encI (gainM g i))), (3, .row 67 6 (encR [])), (2, .cells [.int .i64 (n : Nat), .own 3, .own 4]), (1, .cells [.int .i64 0, .nsl, .nsl])], 5⟩) (n) ?_ ?_
 ·
  exact ⟨_, Wk.trans (Wk.nilown 67 6 2 1 rfl (Nat.le_of_ble_eq_true rfl) rfl) (Wk.nilown 3 1 2 2 rfl (Nat.le_of_ble_eq_true rfl) rfl), 0, by omega, rfl⟩
 ·
  rintro m σ ⟨i, hi, rfl⟩ KL1 hKL1
  refine tr_seq fun K5 hK5 => ?_
  refine tr_seq fun K6 hK6 => ?_
  refine tr_region [1, 5, 6, 7, 8, 18] rfl rfl fun K hK => ?_
  iterate 4 refine evR_p ?_
  refine evR_e hK ?_; clear hK K
  refine hK6 _ ?_
  refine tr_condB (fun ht1 => ?_) (fun ht1 => ?_)
  ·
   skip
   have hil : i < n := by omega
   have hi8 : i < 8 := by omega
   have hgl := gainM_length g i
   replace hq := And.intro hq (And.intro hil (And.intro hi8 (hgl)))
   refine tr_skip ?_
   (try simp only [thenE, inBlkE])
   refine hK5 _ ?_
   refine tr_seq fun K7 hK7 => ?_
   refine tr_block ?_
   refine tr_draw [28] [1, 5, 6, 7, 8] mixed rfl (by kernel_rfl) rfl fun K hK => ?_
   iterate 5 refine evD_p ?_
   refine evD_c (hc := (c37 _ _ (by decide))) (k := ?_)
   refine evD_p ?_
   refine evD_bs ?_
   iterate 3 refine evD_p ?_
   refine evD_e hK ?_; clear hK K
   refine hK7 _ ?_
   refine tr_region [1, 5, 6, 7, 8] rfl rfl fun K hK => ?_
   iterate 3 refine evR_p ?_
   refine evR_e hK ?_; clear hK K
   refine hKL1 _ ?_
   exact ⟨m - 1, _, by omega, (Wk.trans (Wk.ren 5 4 (Nat.le_of_ble_eq_true rfl) (Nat.le_of_ble_eq_true rfl) rfl) (Wk.cut 5 rfl)), i + 1, by omega, by rw [w64 (x := (i : Int) + 1) (by omega), gainM_succ, encI_snoc]; rfl⟩
  ·
   skip
   have hil : i = n := by omega
   subst hil
   refine tr_exit ?_
   simp only [thenE, inBlkE, Nat.reduceEqDiff, ↓reduceIte]
   refine hK3 _ ?_
   refine tr_seq fun K8 hK8 => ?_
   refine tr_seq fun K9 hK9 => ?_
   refine tr_region [1, 6, 7, 9] rfl rfl fun K hK => ?_
   refine evR_p ?_
   refine evR_e hK ?_; clear hK K
   refine hK9 _ ?_
   refine tr_block ?_
   -- loop 2: live [1, 6, 7, 9]
   refine tr_loopW (fun m σ => ∃ j : Nat, j + m = min x.length 8 ∧ σ = ⟨[(1, .sl 3 (encT x)), (6, .ptr 1 0), (7, .ptr 2 0), (9, .int .i64 (j : Nat))], [(3, .row 67 6 (encR (rowsM i x j))), (4, .row 3 1 (encI (gainM g i))), (2, .cells [.int .i64 (i : Nat), .own 3, .own 4]), (1, .cells [.int .i64 0, .nsl, .nsl])], 5⟩) (min x.length 8) ?_ ?_
   ·
    exact ⟨_, Wk.swap, 0, by omega, rfl⟩
   ·
    rintro m2 σ ⟨j, hj, rfl⟩ KL2 hKL2
    refine tr_seq fun K10 hK10 => ?_
    refine tr_seq fun K11 hK11 => ?_
    refine tr_region [1, 6, 7, 9, 38] rfl rfl fun K hK => ?_
    iterate 5 refine evR_p ?_
    iterate 2 refine evR_g ?_
    refine evR_p ?_
    refine evR_e hK ?_; clear hK K
    refine hK11 _ ?_
    refine tr_condB (fun ht2 => ?_) (fun ht2 => ?_)
    ·
     skip
     have hjl : j < x.length := by omega
     have hj8 : j < 8 := by omega
     have hrl := rowsM_length i x j
     have hw1 : IntKind.i64.wrap (1 + (j : Int)) = 1 + (j : Int) := w64 (by omega)
     replace hq := And.intro hq (And.intro hjl (And.intro hj8 (And.intro hrl (hw1))))
     refine tr_skip ?_
     (try simp only [thenE, inBlkE])
     refine hK10 _ ?_
     refine tr_seq fun K12 hK12 => ?_
     refine tr_block ?_
     refine tr_seq fun K13 hK13 => ?_
     refine tr_draw [45, 46, 47, 51, 52, 53] [1, 6, 7, 9, 10] mixed rfl (by kernel_rfl) rfl fun K hK => ?_
     iterate 7 refine evD_p ?_
     refine evD_c (hc := (c37 _ _ (by decide))) (k := ?_)
     iterate 5 refine evD_p ?_
     refine evD_c (hc := (c37 _ _ (by decide))) (k := ?_)
     iterate 4 refine evD_p ?_
     refine evD_e hK ?_; clear hK K
     refine hK13 _ ?_
     refine tr_seq fun K14 hK14 => ?_
     refine tr_seq fun K15 hK15 => ?_
     refine tr_region [1, 6, 7, 9, 10, 11] rfl rfl fun K hK => ?_
     refine evR_p ?_
     refine evR_e hK ?_; clear hK K
     refine hK15 _ ?_
     refine tr_block ?_
     -- loop 3: live [1, 6, 7, 9, 10, 11]
     refine tr_loopW (fun m σ => ∃ k : Nat, k + m = i ∧ σ = ⟨[(1, .sl 3 (encT x)), (6, .ptr 1 0), (7, .ptr 2 0), (9, .int .i64 (j : Nat)), (10, .ptr 5 0), (11, .int .i64 (k : Nat))], [(6, .row 3 1 (encI (coefM (x.getD j t30) k))), (5, .cells [.int .i64 (1 + (j : Int)), .int .i64 (pickW (x.getD j t30).p 9), .int .i64 0, .int .i64 0, .own 6, .int .i64 (IntKind.i64.wrap (pickW (x.getD j t30).r 30 - 4))]), (3, .row 67 6 (encR (rowsM i x j))), (4, .row 3 1 (encI (gainM g i))), (2, .cells [.int .i64 (i : Nat), .own 3, .own 4]), (1, .cells [.int .i64 0, .nsl, .nsl])], 7⟩) (i) ?_ ?_
     ·
      exact ⟨_, (Wk.nilown 3 1 5 4 rfl (Nat.le_of_ble_eq_true rfl) rfl), 0, by omega, rfl⟩
     ·
      rintro m3 σ ⟨k, hk, rfl⟩ KL3 hKL3
      refine tr_seq fun K16 hK16 => ?_
      refine tr_seq fun K17 hK17 => ?_
      refine tr_region [1, 6, 7, 9, 10, 11, 60] rfl rfl fun K hK => ?_
      iterate 4 refine evR_p ?_
      refine evR_e hK ?_; clear hK K
      refine hK17 _ ?_
      refine tr_condB (fun ht3 => ?_) (fun ht3 => ?_)
      ·
       skip
       have hkl : k < i := by omega
       have hcl := coefM_length (x.getD j t30) k
       have hw2 : IntKind.i64.wrap (3 * (k : Int)) = 3 * (k : Int) := w64 (by omega)
       have hw3 : IntKind.i64.wrap (1 + 3 * (k : Int)) = 1 + 3 * (k : Int) := w64 (by omega)
       have hw4 : IntKind.i64.wrap (5 * (k : Int)) = 5 * (k : Int) := w64 (by omega)
       have hw5 : IntKind.i64.wrap (1 + 5 * (k : Int)) = 1 + 5 * (k : Int) := w64 (by omega)
       replace hq := And.intro hq (And.intro hkl (And.intro hcl (And.intro hw2 (And.intro hw3 (And.intro hw4 (hw5))))))
       refine tr_skip ?_
       (try simp only [thenE, inBlkE])
       refine hK16 _ ?_
       refine tr_seq fun K18 hK18 => ?_
       refine tr_block ?_
       refine tr_draw [67, 68, 69, 77, 78, 79, 86] [1, 6, 7, 9, 10, 11] mixed rfl (by kernel_rfl) rfl fun K hK => ?_
       iterate 11 refine evD_p ?_
       refine evD_c (hc := (c37 _ _ (by decide))) (k := ?_)
       iterate 9 refine evD_p ?_
       refine evD_c (hc := (c37 _ _ (by decide))) (k := ?_)
       refine evD_p ?_
       refine evD_bs ?_
       iterate 3 refine evD_p ?_
       refine evD_e hK ?_; clear hK K
       refine hK18 _ ?_
       refine tr_region [1, 6, 7, 9, 10, 11] rfl rfl fun K hK => ?_
       iterate 3 refine evR_p ?_
       refine evR_e hK ?_; clear hK K
       refine hKL3 _ ?_
       exact ⟨m3 - 1, _, by omega, (Wk.trans (Wk.ren 7 6 (Nat.le_of_ble_eq_true rfl) (Nat.le_of_ble_eq_true rfl) rfl) (Wk.cut 7 rfl)), k + 1, by omega, by rw [w64 (x := (k : Int) + 1) (by omega), coefM_succ, encI_snoc]; rfl⟩
      ·
       skip
       have hkl : k = i := by omega
       subst hkl
       refine tr_exit ?_
       simp only [thenE, inBlkE, Nat.reduceEqDiff, ↓reduceIte]
       refine hK14 _ ?_
       refine tr_fz [.own 6] (by simp (maxSteps := 4000000) (disch := first | assumption | omega | (simp only [go_sem, *]; done) | (simp only [go_sem, *]; omega)) only [go_sem, hq, Int.reduceToNat, Nat.reduceBEq, Nat.reduceEqDiff, Nat.reduceAdd, Nat.reduceMul, Nat.reduceLeDiff, Nat.reduceLT, Nat.reduceSub, ↓reduceIte, reduceCtorEq]; (try rfl)) ?_
       refine tr_region [1, 6, 7, 9] rfl rfl fun K hK => ?_
       iterate 3 refine evR_p ?_
       refine evR_bs ?_
       iterate 3 refine evR_p ?_
       refine evR_e hK ?_; clear hK K
       refine hK12 _ ?_
       refine tr_region [1, 6, 7, 9] rfl rfl fun K hK => ?_
       iterate 3 refine evR_p ?_
       refine evR_e hK ?_; clear hK K
       refine hKL2 _ ?_
       exact ⟨m2 - 1, _, by omega, Wk.trans (Wk.drop (fun k => k != 5)) (Wk.trans (Wk.ren 7 3 (Nat.le_of_ble_eq_true rfl) (Nat.le_of_ble_eq_true rfl) rfl) (Wk.cut 5 rfl)), j + 1, by omega, by rw [w64 (x := (j : Int) + 1) (by omega), rowsM_succ]; rfl⟩
    ·
     skip
     have hjl : j = min x.length 8 := by omega
     refine tr_exit ?_
     simp only [thenE, inBlkE, Nat.reduceEqDiff, ↓reduceIte]
     refine hK8 _ ?_
     refine tr_seq fun K19 hK19 => ?_
     refine tr_region [6] rfl rfl fun K hK => ?_
     iterate 2 refine evR_p ?_
     refine evR_e hK ?_; clear hK K
     refine hK19 _ ?_
     refine tr_ret ?_
     (try simp only [thenE, inBlkE])
     simp (maxSteps := 4000000) (disch := first | assumption | omega | (simp only [go_sem, *]; done) | (simp only [go_sem, *]; omega)) only [postA, postO, resV1, fzAll, go_sem, hq, Int.reduceToNat, Nat.reduceBEq, Nat.reduceEqDiff, Nat.reduceAdd, Nat.reduceMul, Nat.reduceLeDiff, Nat.reduceLT, Nat.reduceSub, ↓reduceIte, reduceCtorEq]
     all_goals ((subst hjl; simp only [madeW, encPg, hn, Int.toNat_natCast]))
end

end Go.Proofs.Ytfamkbofdamkkaa
