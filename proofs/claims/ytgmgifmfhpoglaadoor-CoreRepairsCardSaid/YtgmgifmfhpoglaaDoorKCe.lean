/- Texts of this proof, put together. -/
import Derived.Test.YtgmgifmfhpoglaaDoorKCb
import Derived.Test.YtgmgifmfhpoglaaDoorKCc
import Derived.Test.YtgmgifmfhpoglaaDoorChecked
import Derived.Test.YtgmgifmfhpoglaaDoorRows
import Derived.ProofKit
import Derived.LaidMore
import Derived.OpenShut
import Derived.Stop.Joined
namespace Go.Proofs.YtgmgifmfhpoglaaDoor
open Go.RowKit
set_option linter.unusedVariables false
set_option linter.unusedSimpArgs false
set_option maxRecDepth 100000
attribute [local go_sem] Nat.zero_add Nat.add_zero Nat.mul_one eq_self ne_eq not_true_eq_false not_false_eq_true decide_true decide_false decide_not Bool.false_eq_true List.filter_cons List.filter_nil true_and and_true beq_false beq_true Bool.not_true Bool.not_false Bool.and_true Bool.true_and Option.getD_some Option.getD_none imp_self implies_true Int.toNat_natCast List.cons_append List.nil_append List.map_cons List.map_nil List.length_cons List.length_nil List.getD_cons_zero List.getD_cons_succ List.drop_zero List.drop_succ_cons List.take_succ_cons List.take_zero
attribute [local go_sem] isE isO stpO notIn St.bare evO evDO isEff stp St.get St.slot St.put List.lookup un unL ofVal gof nth pickV pkB_false pkB_true binV unV loadV idxV fldV partV buildV fillV lenV sliV appV appR rowsV winV V.parts V.okp V.sc Mem.look_cons Mem.look_nil V.cl V.clL AObj.clo fzAll exps St.fz Mem.fz V.fz V.fzL AObj.fz Option.isSome_some Option.isSome_none Bool.or_true Bool.true_or Bool.or_false Bool.false_or false_and and_false false_or or_false arT_26 arT_27 arT_23 arT_22 arT_31 arT_45 arT_38 arT_55     boolT_23 boolT_3 boolT_32 boolT_4  flatT_23 flatT_3 flatT_32 flatT_4  intT_3 intT_81 lay_27 lay_23 lay_54 lay_22 lay_25 lay_3 lay_37 lay_45 lay_47 lay_4     lay_88 lay_61  okF_11 okF_18  okF_28     okF_16 okF_47 okF_60     okF_26 okF_61    okF_29       okF_31 okF_48 okF_49  okF_50 okF_51 okF_79    okF_63 okF_64 okF_65 okF_52  okF_66 okF_77 okF_78 okF_45  okF_46 okF_53 okF_54 okF_67 okF_68  okF_69 okF_70 okF_71 okF_72   okF_82 okF_83 okF_84 okF_85  okF_73 okF_74 okF_87 okF_88 okF_86 okF_89   plT_54 plT_25 plT_47 plT_96 plT_93 slT_26 slT_27 slT_23 slT_22 slT_31 slT_45 slT_38 slT_55    slT_94     stT_54_4 stT_54_5 stT_25_0 stT_25_1 stT_25_2 stT_47_0  stT_47_2 stT_47_3  stT_96_1 stT_96_2    zeroT_23 zeroT_54 zeroT_25 zeroT_3 zeroT_37 zeroT_45 zeroT_47 zeroT_55  zeroT_96 zeroT_93
attribute [local go_sem] List.getElem?_cons_zero List.getElem?_cons_succ List.zip_cons_cons List.zip_nil_left List.zip_nil_right Bool.false_and Bool.and_false List.length_append List.length_set List.length_replicate List.all_cons List.all_nil encI_length encI_getD encR_length encR_getD encRw encPg spl shp AObj.shp rowM isSt isRpS isRd csh AObj.csh forall_const imp_self
attribute [local simp] encI_length encR_length
section
attribute [local go_sem] encT_length encT_getD cellsI_length cellsI_getD cellsI_sc cellsI_cl cellsI_dropD encR_one List.length_drop
set_option maxHeartbeats 8000000 in
theorem c11 (v : Int) (x : List T3) (g : List Int) (hv : okI v) (hx : x.length ≤ maxLen) (hg : g.length = 8) : CallsA Tryd.prog 11 [.int .i64 v, .sl 3 (encT x), .agg (cellsI g)] (.agg (encPg (madeW v x g))) := by
  have r1 := pickW_range v (n := 9) (by omega) (by omega) hv
  have hx0 := hx
  unfold maxLen at hx0
  obtain ⟨n, hn⟩ := Int.eq_ofNat_of_zero_le r1.1
  have hn9 : n < 9 := by omega
  have hq := And.intro hn (hg)
  refine callsA_of_tr Tryd.func11 rfl (Nat.le_of_ble_eq_true rfl) ?_
  simp only [Tryd.results11, envOf, Nat.reduceAdd]
  refine tr_seq fun K1 hK1 => ?_
  refine tr_region [0, 1, 5, 6] rfl rfl fun K hK => ?_
  iterate 2 refine evR_p ?_
  refine evR_e hK ?_; clear hK K
  refine hK1 _ ?_
  refine tr_seq fun K2 hK2 => ?_
  refine tr_fz [.ptr 0 0] (by simp (maxSteps := 4000000) (disch := first | assumption | omega | (simp only [go_sem, *]; done) | (simp only [go_sem, *]; omega)) only [go_sem, hq, Int.reduceToNat, Nat.reduceBEq, Nat.reduceEqDiff, Nat.reduceAdd, Nat.reduceMul, Nat.reduceLeDiff, Nat.reduceLT, Nat.reduceSub, ↓reduceIte, reduceCtorEq]; (try rfl)) ?_
  refine tr_region [1, 5, 6, 7] rfl rfl fun K hK => ?_
  refine evR_p ?_
  refine evR_c (hc := (c37 _ _ (by decide))) (k := ?_)
  iterate 3 refine evR_p ?_
  refine evR_e hK ?_; clear hK K
  refine hK2 _ ?_
  refine tr_seq fun K3 hK3 => ?_
  refine tr_seq fun K4 hK4 => ?_
  refine tr_region [1, 5, 6, 7, 8] rfl rfl fun K hK => ?_
  refine evR_p ?_
  refine evR_e hK ?_; clear hK K
  refine hK4 _ ?_
  refine tr_block ?_
  -- loop 1: live [1, 5, 6, 7, 8]
  refine tr_loopW (fun m σ => ∃ i : Nat, i + m = n ∧ σ = ⟨[(1, .sl 3 (encT x)), (5, .ep (cellsI g)), (6, .ptr 1 0), (7, .ptr 2 0), (8, .int .i64 (i : Nat))], [(4, .row 3 1 (encI (gainM g i))), (3, .row 54 6 (encR [])), (2, .cells [.int .i64 (n : Nat), .own 3, .own 4]), (1, .cells [.int .i64 0, .nsl, .nsl])], 5⟩) (n) ?_ ?_
  · exact ⟨_, Wk.trans (Wk.nilown 54 6 2 1 rfl (Nat.le_of_ble_eq_true rfl) rfl) (Wk.nilown 3 1 2 2 rfl (Nat.le_of_ble_eq_true rfl) rfl), 0, by omega, rfl⟩
  · rintro m σ ⟨i, hi, rfl⟩ KL1 hKL1
    refine tr_seq fun K5 hK5 => ?_
    refine tr_seq fun K6 hK6 => ?_
    refine tr_region [1, 5, 6, 7, 8, 18] rfl rfl fun K hK => ?_
    iterate 4 refine evR_p ?_
    refine evR_e hK ?_; clear hK K
    refine hK6 _ ?_
    refine tr_condB (fun ht1 => ?_) (fun ht1 => ?_)
    · skip
      have hil : i < n := by omega
      have hi8 : i < 8 := by omega
      have hgl := gainM_length g i
      replace hq := And.intro hq (And.intro hil (And.intro hi8 (hgl)))
      refine tr_skip ?_
      (try simp only [thenE, inBlkE])
      refine hK5 _ ?_
      refine tr_seq fun K7 hK7 => ?_
      refine tr_block ?_
      refine tr_draw [28] [1, 5, 6, 7, 8] mixed rfl (by kernel_rfl) rfl fun K hK => ?_
      iterate 5 refine evD_p ?_
      refine evD_c (hc := (c37 _ _ (by decide))) (k := ?_)
      refine evD_p ?_
      refine evD_bs ?_
      iterate 3 refine evD_p ?_
      refine evD_e hK ?_; clear hK K
      refine hK7 _ ?_
      refine tr_region [1, 5, 6, 7, 8] rfl rfl fun K hK => ?_
      iterate 3 refine evR_p ?_
      refine evR_e hK ?_; clear hK K
      refine hKL1 _ ?_
      exact ⟨m - 1, _, by omega, (Wk.trans (Wk.ren 5 4 (Nat.le_of_ble_eq_true rfl) (Nat.le_of_ble_eq_true rfl) rfl) (Wk.cut 5 rfl)), i + 1, by omega, by rw [w64 (x := (i : Int) + 1) (by omega), gainM_succ, encI_snoc]; rfl⟩
    · skip
      have hil : i = n := by omega
      subst hil
      refine tr_exit ?_
      simp only [thenE, inBlkE, Nat.reduceEqDiff, ↓reduceIte]
      refine hK3 _ ?_
      refine tr_seq fun K8 hK8 => ?_
      refine tr_seq fun K9 hK9 => ?_
      refine tr_region [1, 6, 7, 9] rfl rfl fun K hK => ?_
      refine evR_p ?_
      refine evR_e hK ?_; clear hK K
      refine hK9 _ ?_
      refine tr_block ?_
      -- loop 2: live [1, 6, 7, 9]
      refine tr_loopW (fun m σ => ∃ j : Nat, j + m = min x.length 8 ∧ σ = ⟨[(1, .sl 3 (encT x)), (6, .ptr 1 0), (7, .ptr 2 0), (9, .int .i64 (j : Nat))], [(3, .row 54 6 (encR (rowsM i x j))), (4, .row 3 1 (encI (gainM g i))), (2, .cells [.int .i64 (i : Nat), .own 3, .own 4]), (1, .cells [.int .i64 0, .nsl, .nsl])], 5⟩) (min x.length 8) ?_ ?_
      · exact ⟨_, Wk.swap, 0, by omega, rfl⟩
      · rintro m2 σ ⟨j, hj, rfl⟩ KL2 hKL2
        refine tr_seq fun K10 hK10 => ?_
        refine tr_seq fun K11 hK11 => ?_
        refine tr_region [1, 6, 7, 9, 38] rfl rfl fun K hK => ?_
        iterate 5 refine evR_p ?_
        iterate 2 refine evR_g ?_
        refine evR_p ?_
        refine evR_e hK ?_; clear hK K
        refine hK11 _ ?_
        refine tr_condB (fun ht2 => ?_) (fun ht2 => ?_)
        · skip
          have hjl : j < x.length := by omega
          have hj8 : j < 8 := by omega
          have hrl := rowsM_length i x j
          have hw1 : IntKind.i64.wrap (1 + (j : Int)) = 1 + (j : Int) := w64 (by omega)
          replace hq := And.intro hq (And.intro hjl (And.intro hj8 (And.intro hrl (hw1))))
          refine tr_skip ?_
          (try simp only [thenE, inBlkE])
          refine hK10 _ ?_
          refine tr_seq fun K12 hK12 => ?_
          refine tr_block ?_
          refine tr_seq fun K13 hK13 => ?_
          refine tr_draw [45, 46, 47, 51, 52, 53] [1, 6, 7, 9, 10] mixed rfl (by kernel_rfl) rfl fun K hK => ?_
          iterate 7 refine evD_p ?_
          refine evD_c (hc := (c37 _ _ (by decide))) (k := ?_)
          iterate 5 refine evD_p ?_
          refine evD_c (hc := (c37 _ _ (by decide))) (k := ?_)
          iterate 4 refine evD_p ?_
          refine evD_e hK ?_; clear hK K
          refine hK13 _ ?_
          refine tr_seq fun K14 hK14 => ?_
          refine tr_seq fun K15 hK15 => ?_
          refine tr_region [1, 6, 7, 9, 10, 11] rfl rfl fun K hK => ?_
          refine evR_p ?_
          refine evR_e hK ?_; clear hK K
          refine hK15 _ ?_
          refine tr_block ?_
          -- loop 3: live [1, 6, 7, 9, 10, 11]
          refine tr_loopW (fun m σ => ∃ k : Nat, k + m = i ∧ σ = ⟨[(1, .sl 3 (encT x)), (6, .ptr 1 0), (7, .ptr 2 0), (9, .int .i64 (j : Nat)), (10, .ptr 5 0), (11, .int .i64 (k : Nat))], [(6, .row 3 1 (encI (coefM (x.getD j t30) k))), (5, .cells [.int .i64 (1 + (j : Int)), .int .i64 (pickW (x.getD j t30).p 9), .int .i64 0, .int .i64 0, .own 6, .int .i64 (IntKind.i64.wrap (pickW (x.getD j t30).r 30 - 4))]), (3, .row 54 6 (encR (rowsM i x j))), (4, .row 3 1 (encI (gainM g i))), (2, .cells [.int .i64 (i : Nat), .own 3, .own 4]), (1, .cells [.int .i64 0, .nsl, .nsl])], 7⟩) (i) ?_ ?_
          · exact ⟨_, (Wk.nilown 3 1 5 4 rfl (Nat.le_of_ble_eq_true rfl) rfl), 0, by omega, rfl⟩
          · rintro m3 σ ⟨k, hk, rfl⟩ KL3 hKL3
            refine tr_seq fun K16 hK16 => ?_
            refine tr_seq fun K17 hK17 => ?_
            refine tr_region [1, 6, 7, 9, 10, 11, 60] rfl rfl fun K hK => ?_
            iterate 4 refine evR_p ?_
            refine evR_e hK ?_; clear hK K
            refine hK17 _ ?_
            refine tr_condB (fun ht3 => ?_) (fun ht3 => ?_)
            · skip
              have hkl : k < i := by omega
              have hcl := coefM_length (x.getD j t30) k
              have hw2 : IntKind.i64.wrap (3 * (k : Int)) = 3 * (k : Int) := w64 (by omega)
              have hw3 : IntKind.i64.wrap (1 + 3 * (k : Int)) = 1 + 3 * (k : Int) := w64 (by omega)
              have hw4 : IntKind.i64.wrap (5 * (k : Int)) = 5 * (k : Int) := w64 (by omega)
              have hw5 : IntKind.i64.wrap (1 + 5 * (k : Int)) = 1 + 5 * (k : Int) := w64 (by omega)
              replace hq := And.intro hq (And.intro hkl (And.intro hcl (And.intro hw2 (And.intro hw3 (And.intro hw4 (hw5))))))
              refine tr_skip ?_
              (try simp only [thenE, inBlkE])
              refine hK16 _ ?_
              refine tr_seq fun K18 hK18 => ?_
              refine tr_block ?_
              refine tr_draw [67, 68, 69, 77, 78, 79, 86] [1, 6, 7, 9, 10, 11] mixed rfl (by kernel_rfl) rfl fun K hK => ?_
              iterate 11 refine evD_p ?_
              refine evD_c (hc := (c37 _ _ (by decide))) (k := ?_)
              iterate 9 refine evD_p ?_
              refine evD_c (hc := (c37 _ _ (by decide))) (k := ?_)
              refine evD_p ?_
              refine evD_bs ?_
              iterate 3 refine evD_p ?_
              refine evD_e hK ?_; clear hK K
              refine hK18 _ ?_
              refine tr_region [1, 6, 7, 9, 10, 11] rfl rfl fun K hK => ?_
              iterate 3 refine evR_p ?_
              refine evR_e hK ?_; clear hK K
              refine hKL3 _ ?_
              exact ⟨m3 - 1, _, by omega, (Wk.trans (Wk.ren 7 6 (Nat.le_of_ble_eq_true rfl) (Nat.le_of_ble_eq_true rfl) rfl) (Wk.cut 7 rfl)), k + 1, by omega, by rw [w64 (x := (k : Int) + 1) (by omega), coefM_succ, encI_snoc]; rfl⟩
            · skip
              have hkl : k = i := by omega
              subst hkl
              refine tr_exit ?_
              simp only [thenE, inBlkE, Nat.reduceEqDiff, ↓reduceIte]
              refine hK14 _ ?_
              refine tr_fz [.own 6] (by simp (maxSteps := 4000000) (disch := first | assumption | omega | (simp only [go_sem, *]; done) | (simp only [go_sem, *]; omega)) only [go_sem, hq, Int.reduceToNat, Nat.reduceBEq, Nat.reduceEqDiff, Nat.reduceAdd, Nat.reduceMul, Nat.reduceLeDiff, Nat.reduceLT, Nat.reduceSub, ↓reduceIte, reduceCtorEq]; (try rfl)) ?_
              refine tr_region [1, 6, 7, 9] rfl rfl fun K hK => ?_
              iterate 3 refine evR_p ?_
              refine evR_bs ?_
              iterate 3 refine evR_p ?_
              refine evR_e hK ?_; clear hK K
              refine hK12 _ ?_
              refine tr_region [1, 6, 7, 9] rfl rfl fun K hK => ?_
              iterate 3 refine evR_p ?_
              refine evR_e hK ?_; clear hK K
              refine hKL2 _ ?_
              exact ⟨m2 - 1, _, by omega, Wk.trans (Wk.drop (fun k => k != 5)) (Wk.trans (Wk.ren 7 3 (Nat.le_of_ble_eq_true rfl) (Nat.le_of_ble_eq_true rfl) rfl) (Wk.cut 5 rfl)), j + 1, by omega, by rw [w64 (x := (j : Int) + 1) (by omega), rowsM_succ]; rfl⟩
        · skip
          have hjl : j = min x.length 8 := by omega
          refine tr_exit ?_
          simp only [thenE, inBlkE, Nat.reduceEqDiff, ↓reduceIte]
          refine hK8 _ ?_
          refine tr_seq fun K19 hK19 => ?_
          refine tr_region [6] rfl rfl fun K hK => ?_
          iterate 2 refine evR_p ?_
          refine evR_e hK ?_; clear hK K
          refine hK19 _ ?_
          refine tr_ret ?_
          (try simp only [thenE, inBlkE])
          simp (maxSteps := 4000000) (disch := first | assumption | omega | (simp only [go_sem, *]; done) | (simp only [go_sem, *]; omega)) only [postA, postO, resV1, fzAll, go_sem, hq, Int.reduceToNat, Nat.reduceBEq, Nat.reduceEqDiff, Nat.reduceAdd, Nat.reduceMul, Nat.reduceLeDiff, Nat.reduceLT, Nat.reduceSub, ↓reduceIte, reduceCtorEq]
          all_goals ((subst hjl; simp only [madeW, encPg, hn, Int.toNat_natCast]))
end

end Go.Proofs.YtgmgifmfhpoglaaDoor


namespace Go.Proofs.YtgmgifmfhpoglaaDoor
open Go.ChangeShapes Go.WideShapes Go.ChangeAt Go.RowKit
set_option linter.unusedVariables false
set_option linter.unusedSimpArgs false

section
variable {H : Type} {enc : TypeId × Value → H} {P : Program} {w : World}

/-- The fields of a struct of n cells from the cell 'off' on. -/
def DecFs (enc : TypeId × Value → H) (P : Program) (w : World) {α : Type} (n off : Nat) (fs : List Field) (ec : α → List V) (Q : α → Prop) : Prop :=
  ∀ (fuel : Nat) (cs : List Value), cs.length = n → (∀ f ∈ fs, ∃ x, DataW.trod enc P w 0 (fun _ => true) true fuel f.type ((cs.drop f.offset).take (P.cellsOf f.type)) = some x) → ∃ a, Q a ∧ Rd w (cs.drop off) (ec a)

theorem decFs_nil {n : Nat} : DecFs enc P w n n [] (fun _ : Unit => []) fun _ => True := by
  intro fuel cs hl _
  exact ⟨(), trivial, by rw [List.drop_eq_nil_of_le (by omega)]; exact Rd.nil⟩
theorem decFs_cons {α β : Type} {n off : Nat} {f : Field} {fs : List Field} {m : Nat} {ea : α → List V} {eb : β → List V} {Qa : α → Prop} {Qb : β → Prop}
    (ho : f.offset = off) (hm : P.cellsOf f.type = m) (ha : Dec enc P w f.type ea Qa) (hb : DecFs enc P w n (off + m) fs eb Qb) :
    DecFs enc P w n off (f :: fs) (fun p : α × β => ea p.1 ++ eb p.2) fun p => Qa p.1 ∧ Qb p.2 := by
  intro fuel cs hl h
  obtain ⟨x, hx⟩ := h f (by simp)
  obtain ⟨a, qa, ra⟩ := ha _ _ _ hx
  obtain ⟨b, qb, rb⟩ := hb fuel cs hl fun g hg => h g (List.mem_cons_of_mem _ hg)
  refine ⟨(a, b), ⟨qa, qb⟩, ?_⟩
  have := ra.append rb
  rw [ho, hm] at this
  have e : List.take m (List.drop off cs) ++ List.drop (off + m) cs = List.drop off cs := by
    rw [← List.drop_drop, List.take_append_drop]
  rw [e] at this
  exact this
theorem dec_struct {α : Type} {t : TypeId} {fs : Array Field} {n : Nat} {ec : α → List V} {Q : α → Prop} (ht : P.underlying t = some (.struct fs)) (hn : P.cellsOf t = n) (h : DecFs enc P w n 0 fs.toList ec Q) : Dec enc P w t ec Q := by
  intro fuel cs x hx
  obtain ⟨xs, k, rfl, rfl, hl, hxl, hi⟩ := DataW.trod_struct ht hx
  obtain ⟨a, qa, ra⟩ := h k cs (by rw [hl, hn]) fun f hf => by
    obtain ⟨i, hil, rfl⟩ := List.mem_iff_getElem.1 hf
    have hil' : i < fs.size := by simpa using hil
    have := hi i fs[i] (by simp [hil'])
    rw [List.getElem?_eq_getElem (by omega)] at this
    exact ⟨_, by simpa using this⟩
  exact ⟨a, qa, by simpa using ra⟩

theorem rel_row {α : Type} {e : TypeId} {sz n : Nat} {ec : α → List V} {Q : α → Prop} (hs : P.cellsOf e = sz) (hd : Dec enc P w e ec Q) {b off len cap : Nat} (hl : len ≤ cap) (hm : cap ≤ maxLen)
    (hel : ∀ i, i < len → ∃ cs' x, w.cells? 0 ((⟨b, off, none⟩ : Addr).add (i * P.cellsOf e)) (P.cellsOf e) = some cs' ∧ DataW.trod enc P w 0 (fun _ => true) true n e cs' = some x) :
    ∃ asx : List α, (∀ a ∈ asx, Q a) ∧ asx.length = len ∧ Rel w (fun _ => False) (fun _ => 0) (fun _ => undef) 0 true (.sl sz (asx.map ec)) (.slice (some ⟨b, off, none⟩) len cap) := by
  obtain ⟨asx, k1, k2, k3⟩ := hd.choose (fun i => ((w.cells? 0 ((⟨b, off, none⟩ : Addr).add (i * P.cellsOf e)) (P.cellsOf e)).getD [])) len fun i hi => by
    obtain ⟨cs', x, q1, q2⟩ := hel i hi
    rw [q1]; exact ⟨_, _, q2⟩
  refine ⟨asx, k2, k1, ?_⟩
  have rows : ∀ i (hi : i < asx.length), ((asx.map ec).getD i []) = ec asx[i] := fun i hi => by simp [List.getD, hi]
  have key : ∀ i (hi : i < asx.length), ∃ cs', Rd w cs' (ec asx[i]) ∧ cs'.length = sz ∧ ∀ j, j < sz → w.cell? ⟨b, off + (i * sz + j), none⟩ = some (cs'.getD j undef) := fun i hi => by
    obtain ⟨cs', x, q1, q2⟩ := hel i (by omega)
    have := k3 i hi
    simp only [q1, Option.getD_some] at this
    obtain ⟨hl', hc'⟩ := cells_get q1
    rw [hs] at hl' hc'
    refine ⟨cs', this, hl', fun j hj => ?_⟩
    rw [← hc' j hj]
    congr 1
    unfold Addr.add
    by_cases hi0 : i * sz = 0
    · by_cases hj0 : j = 0 <;> simp [hi0, hj0]
    · by_cases hj0 : j = 0 <;> simp [hi0, hj0, Nat.add_assoc]
  refine .sl true sz (asx.map ec) b off len cap (fun i j => ((w.cell? ⟨b, off + (i * sz + j), none⟩).getD undef)) (by simp [k1]) hl hm ?_ ?_ ?_ ?_
  · intro i hi
    have hi' : i < asx.length := by simpa using hi
    obtain ⟨cs', q1, q2, q3⟩ := key i hi'
    rw [rows i hi', q1.1, q2]
  · intro i j hi hj
    have hi' : i < asx.length := by simpa using hi
    obtain ⟨cs', q1, q2, q3⟩ := key i hi'
    rw [rows i hi']
    exact (q1.2 j (by rw [q1.1]; omega)).1
  · intro i j hi hj
    have hi' : i < asx.length := by simpa using hi
    obtain ⟨cs', q1, q2, q3⟩ := key i hi'
    simp only [q3 j hj, Option.getD_some]
    exact ⟨trivial, id⟩
  · intro i j hi hj
    have hi' : i < asx.length := by simpa using hi
    obtain ⟨cs', q1, q2, q3⟩ := key i hi'
    rw [rows i hi']
    simp only [q3 j hj, Option.getD_some]
    exact (q1.2 j (by rw [q1.1]; omega)).2

/-- A slice within. -/
theorem dec_slice {α : Type} {t e : TypeId} {sz : Nat} {ec : α → List V} {Q : α → Prop} (ht : P.underlying t = some (.slice e)) (hs : P.cellsOf e = sz) (hz : 0 < sz) (hd : Dec enc P w e ec Q) :
    Dec enc P w t (fun asx : List α => [.sl sz (asx.map ec)]) fun asx => asx.length ≤ maxLen ∧ ∀ a ∈ asx, Q a := by
  intro fuel cs x hf
  rcases Deep.open_slice ht hf with ⟨rfl, -⟩ | ⟨a, len, cap, m, n, D, Pl, rfl, -, hl, hm, hme, -, hel⟩
  · exact ⟨[], ⟨by simp, fun a ha => by simp at ha⟩, Rd.one rfl (.slnil _ _ _)⟩
  · simp only [if_true] at hme
    subst hme
    by_cases hc : m = 0
    · have : len = 0 := by omega
      subst hc; subst this
      exact ⟨[], ⟨by simp, fun a ha => by simp at ha⟩, Rd.one rfl (.slnil _ _ _)⟩
    · have hsp : a.spot = none := by
        obtain ⟨cs', q1, -⟩ := hel 0 (by omega)
        obtain ⟨-, hc'⟩ := cells_get q1
        have := hc' 0 (by omega)
        simp only [Nat.zero_mul, Addr.add, if_true] at this
        unfold World.cell? at this
        split at this
        · split at this
          · cases this
          · simpa using ‹¬ a.spot.isSome = true›
        · cases this
      obtain ⟨b, off, spot⟩ := a
      simp only at hsp
      subst hsp
      obtain ⟨asx, q, e1, hr⟩ := rel_row hs hd hl hm fun i hi => by
        obtain ⟨cs', q1, q2⟩ := hel i (by omega)
        exact ⟨cs', _, q1, q2⟩
      exact ⟨asx, ⟨by omega, q⟩, Rd.one rfl hr⟩
end
end Go.Proofs.YtgmgifmfhpoglaaDoor

namespace Go.Proofs.YtgmgifmfhpoglaaDoor
open Go.ChangeShapes Go.WideShapes Go.ChangeAt Go.RowKit
set_option linter.unusedVariables false
set_option maxRecDepth 100000
theorem Tryd.own : ownKnob Tryd.prog.godebug = none := by kernel_rfl
theorem Tryd.laidOut : laidOutB Tryd.prog = true := by kernel_rfl
def laid2 : List (String × DataW Unit) := [("math/bits.deBruijn32tab", Rows.laid_math_bits_deBruijn32tab), ("math/bits.deBruijn64tab", Rows.laid_math_bits_deBruijn64tab)]
theorem g64 : Tryd.prog.globalNamed "math/bits.deBruijn64tab" = some 1 := by kernel_rfl
/-- The door's own heap meets the condition. -/
theorem door_met (os : Os) (args : Array Value) : laidMetH Tryd.prog laid2 ((World.doorLaid Tryd.prog 400 os).forCall (fun _ _ => 0) ⟨#[], args, []⟩).memory :=
  laidMetH_of_parts3 (fuel := 8) (laidMet_of_run' 8 (by kernel_rfl) (by kernel_rfl)) (by kernel_rfl) (by kernel_rfl)
theorem tab_trod {H : Type} {enc : TypeId × Value → H} {P : Program} {w : World} {base : Nat} {spare : Nat → Bool} {held : Bool} {fuel n : Nat} {t e : TypeId} {cs : List Value} {m : List MemPlace} {ks : List Int} {kk : IntKind}
    (ht : P.underlying t = some (.array n e)) (he : P.underlying e = some (.int kk)) (hc : P.cellsOf e = 1) (h : DataW.trod enc P w base spare held fuel t cs = some (.agg (ks.map fun k => .lit (.int kk k)), m)) (i : Nat) (hi : i < n) : cs[i]? = some (.int kk (ks.getD i 0)) := by
  obtain ⟨xs, m1, rfl, hx, hl, hn, hel⟩ := DataW.trod_array ht h
  simp only [Prod.mk.injEq, DataW.agg.injEq] at hx
  have h1 := hel i hi
  rw [hc, Nat.mul_one, List.getElem?_eq_getElem (by omega)] at h1
  obtain ⟨k, e1, e2, -⟩ := DataW.trod_int he h1
  have h2 : (List.map (fun k => DataW.lit (H := H) (.int kk k)) ks)[i]? = some (.lit (.int kk k)) := by
    rw [hx.1, List.getElem?_map, List.getElem?_eq_getElem (by omega), e2]; rfl
  rw [List.getElem?_map] at h2
  obtain ⟨k2, h3, h4⟩ := Option.map_eq_some_iff.1 h2
  have h5 : k2 = k := by simpa using h4
  have h6 : ks.getD i 0 = k := by simp [List.getD, h3, h5]
  rw [h6]
  have h7 : ((cs.drop i).take 1)[0]? = some (.int kk k) := by rw [e1]; rfl
  simpa [List.getElem?_take, List.getElem?_drop] using h7
theorem laid64 : (Rows.laid_math_bits_deBruijn64tab : DataW Unit) = .agg (tab64.map fun k => .lit (.int .u8 k)) := by kernel_rfl
theorem gtc_of_laid {W : World} (h : laidMetH Tryd.prog laid2 W) : GTC W fun _ => False := by
  intro g hg
  have hg1 : g = 1 := by
    unfold gtab at hg
    by_cases e : g = 1
    · exact e
    · rw [if_neg e] at hg; exact (hg rfl).elim
  subst hg1
  rw [MakeChecks.laidMetH_plain _ _ _ (by kernel_rfl)] at h
  obtain ⟨ps, ⟨g0, t0, cs0, f0, p0, q0, hg0, ht0, hv0, hd0, ⟨g1, t1, cs1, f1, p1, q1, hg1, ht1, hv1, hd1, _, _⟩, _⟩, _, _⟩ := h
  obtain rfl := Option.some.inj (g64.symm.trans hg1)
  obtain rfl := Option.some.inj ((show (Tryd.prog.globals[1]?).map (·.type) = some 103 by kernel_rfl).symm.trans ht1)
  rw [laid64] at hd1
  have hc := fun i hi => tab_trod Tryd.underlying103 Tryd.underlying5 (by kernel_rfl) hd1 i hi
  have hlen : (gtab 1).length = 64 := by rw [gtab_1]; kernel_rfl
  have hget : ∀ j, j < 64 → (gtab 1).getD j .any = V.int .u8 (tab64.getD j 0) := fun j hj => by
    rw [gtab_1]
    have : j < tab64.length := hj
    simp [List.getD, this]
  refine .ep true (gtab 1) 1 0 (fun j => .int .u8 (tab64.getD j 0)) (fun j hj => ?_) (fun j hj => ?_) (fun j hj => ?_)
  · rw [hget j (by omega)]; rfl
  · rw [hlen] at hj
    rw [Nat.zero_add]
    refine ⟨?_, id⟩
    rw [World.var?_cell hg1 hv1 j]
    have := hc j hj
    simpa using this
  · rw [hget j (by omega)]; exact .int ..
section
variable {H : Type} {enc : TypeId × Value → H} {w : World}
theorem okI_of_wf {n : Int} (h : (Lit.int .i64 n).wf = true) : okI n := by
  simp [Lit.wf, IntKind.min, IntKind.max, IntKind.signed, IntKind.bits] at h
  unfold okI; omega
theorem dec3 : Dec enc Tryd.prog w 55 (fun t : T3 => [V.int .i64 t.p, V.int .i64 t.q, V.int .i64 t.r]) okT :=
  (dec_array (n := 3) (sz := 1) Tryd.underlying55 (by kernel_rfl) (by kernel_rfl) (dec_int Tryd.underlying3)).turn (fun xs => ⟨xs.getD 0 0, xs.getD 1 0, xs.getD 2 0⟩) fun xs h => by
    obtain ⟨h1, h2⟩ := h
    match xs, h1 with
    | [x, y, z], _ => exact ⟨rfl, okI_of_wf (h2 x (by simp)), okI_of_wf (h2 y (by simp)), okI_of_wf (h2 z (by simp))⟩
def okG (n : Nat) (a : List Int) : Prop := a.length = n ∧ ∀ c ∈ a, okI c
theorem decG {t : TypeId} {n : Nat} (ht : Tryd.prog.underlying t = some (.array n 3)) (h1 : Tryd.prog.cellsOf 3 = 1) (h2 : Tryd.prog.cellsOf t = n * 1) : Dec enc Tryd.prog w t (fun a : List Int => cellsI a) (okG n) :=
  (dec_array (n := n) (sz := 1) ht h1 h2 (dec_int Tryd.underlying3)).turn (fun xs => xs) fun xs h => ⟨by show xs.map (V.int .i64) = _; exact List.map_eq_flatMap, h.1, fun c hc => okI_of_wf (h.2 c hc)⟩
theorem dec8 : Dec enc Tryd.prog w 27 (fun a : List Int => cellsI a) (okG 8) := decG Tryd.underlying27 (by kernel_rfl) (by kernel_rfl)
end
end Go.Proofs.YtgmgifmfhpoglaaDoor
