/- Texts of this proof, put together. -/
import Derived.Test.YtfamkbofdamkkaaKWb
import Derived.Test.YtfamkbofdamkkaaKWc
import Derived.Test.YtfamkbofdamkkaaKWe
import Derived.Test.YtfamkbofdamkkaaChecked
namespace Go.Proofs.Ytfamkbofdamkkaa
open Go.RowKit
set_option linter.unusedVariables false
set_option linter.unusedSimpArgs false
set_option maxRecDepth 100000
attribute [local go_sem] Nat.zero_add Nat.add_zero Nat.mul_one eq_self ne_eq not_true_eq_false not_false_eq_true decide_true decide_false decide_not Bool.false_eq_true List.filter_cons List.filter_nil true_and and_true beq_false beq_true Bool.not_true Bool.not_false Bool.and_true Bool.true_and Option.getD_some Option.getD_none imp_self implies_true Int.toNat_natCast List.cons_append List.nil_append List.map_cons List.map_nil List.length_cons List.length_nil List.getD_cons_zero List.getD_cons_succ List.drop_zero List.drop_succ_cons List.take_succ_cons List.take_zero
attribute [local go_sem] lowN lowQ lowM isAl appOwn unw shL isSh Option.isNone_none Option.isNone_some Option.isSome_none appF isE isO stpO notIn St.bare evO evDO isEff stp St.get St.slot St.put List.lookup un unL ofVal gof nth pickV pkB_false pkB_true binV unV loadV idxV fldV partV buildV fillV lenV sliV appV appR rowsV winV V.parts V.okp V.sc Mem.look_cons Mem.look_nil V.cl V.clL AObj.clo fzAll exps St.fz Mem.fz V.fz V.fzL AObj.fz shp AObj.shp csh AObj.csh rowM isSt isRpS isRd Option.isSome_some Bool.or_true Bool.true_or Bool.or_false Bool.false_or and_false false_and or_false false_or List.length_append forall_const imp_self arT_104 arT_121 arT_160 arT_161 arT_22 arT_23 arT_24 arT_25 arT_28 arT_29 arT_30 arT_40 arT_42 arT_52 arT_60 arT_65 arT_72 arT_73 arT_76 arT_9 arT_90 boolT_182 boolT_25 boolT_3 boolT_35 boolT_4 boolT_76 flatT_182 flatT_25 flatT_3 flatT_35 flatT_4 flatT_76 intT_133 intT_169 intT_171 intT_188 intT_3 intT_5 lay_104 lay_112 lay_138 lay_141 lay_153 lay_160 lay_161 lay_164 lay_188 lay_23 lay_24 lay_25 lay_27 lay_28 lay_3 lay_30 lay_34 lay_4 lay_49 lay_52 lay_54 lay_56 lay_65 lay_67 lay_73 lay_76 lay_90 lay_99 mapT_112 okF_10 okF_100 okF_101 okF_102 okF_103 okF_104 okF_105 okF_106 okF_107 okF_108 okF_109 okF_11 okF_110 okF_111 okF_112 okF_113 okF_114 okF_115 okF_116 okF_117 okF_118 okF_119 okF_12 okF_120 okF_121 okF_122 okF_123 okF_124 okF_125 okF_126 okF_127 okF_128 okF_129 okF_13 okF_130 okF_131 okF_132 okF_133 okF_134 okF_135 okF_136 okF_137 okF_138 okF_139 okF_14 okF_140 okF_141 okF_142 okF_143 okF_144 okF_145 okF_146 okF_147 okF_148 okF_149 okF_15 okF_150 okF_151 okF_152 okF_153 okF_154 okF_155 okF_156 okF_157 okF_158 okF_159 okF_16 okF_160 okF_161 okF_162 okF_163 okF_164 okF_165 okF_166 okF_167 okF_168 okF_169 okF_17 okF_170 okF_171 okF_172 okF_173 okF_174 okF_175 okF_176 okF_177 okF_18 okF_19 okF_20 okF_21 okF_22 okF_23 okF_24 okF_25 okF_26 okF_27 okF_28 okF_29 okF_3 okF_30 okF_31 okF_32 okF_33 okF_34 okF_35 okF_36 okF_37 okF_38 okF_39 okF_4 okF_40 okF_41 okF_42 okF_43 okF_44 okF_45 okF_46 okF_47 okF_48 okF_49 okF_5 okF_50 okF_51 okF_52 okF_53 okF_54 okF_55 okF_56 okF_57 okF_58 okF_59 okF_6 okF_60 okF_61 okF_62 okF_63 okF_64 okF_65 okF_66 okF_67 okF_68 okF_69 okF_7 okF_70 okF_71 okF_72 okF_73 okF_74 okF_75 okF_76 okF_77 okF_78 okF_79 okF_8 okF_80 okF_81 okF_82 okF_83 okF_84 okF_85 okF_86 okF_87 okF_88 okF_89 okF_9 okF_90 okF_91 okF_92 okF_93 okF_94 okF_95 okF_96 okF_97 okF_98 okF_99 plT_138 plT_153 plT_157 plT_161 plT_27 plT_34 plT_54 plT_56 plT_67 plT_76 plT_90 plT_99 slT_104 slT_121 slT_160 slT_161 slT_22 slT_23 slT_24 slT_25 slT_28 slT_29 slT_30 slT_40 slT_42 slT_52 slT_60 slT_65 slT_72 slT_73 slT_76 slT_90 stT_138_0 stT_138_1 stT_153_0 stT_157_0 stT_157_1 stT_157_2 stT_157_3 stT_27_0 stT_27_1 stT_27_2 stT_34_0 stT_34_1 stT_34_2 stT_34_3 stT_54_0 stT_54_1 stT_54_2 stT_54_3 stT_56_0 stT_56_1 stT_67_1 stT_67_4 stT_67_5 stT_99_0 stT_99_1 strT_160 strT_76 strT_9 zeroT_112 zeroT_138 zeroT_153 zeroT_157 zeroT_160 zeroT_161 zeroT_188 zeroT_27 zeroT_3 zeroT_30 zeroT_34 zeroT_4 zeroT_49 zeroT_54 zeroT_56 zeroT_65 zeroT_67 zeroT_76 zeroT_90 zeroT_99
attribute [local go_sem] cellsI_fzL cellsI_uptoL List.getElem?_cons_zero List.getElem?_cons_succ List.zip_cons_cons List.zip_nil_left List.zip_nil_right Bool.false_and Bool.and_false cellsG_length polyA_length discA_length agEq_cells cellsI_isI cellsI_length cellsI_sc cellsI_cl cellsI_rows cellsI_take cellsI_dropD cellsI_set cellsI_full encI_length encI_getD List.length_set List.length_replicate List.all_cons List.all_nil outA_length eachA_length outM_length getD_set_same List.set_set spl_nil0 spl_cons0 spl_succ encP_length encP_getD
attribute [local simp] encP_length padP_length encI_length
attribute [local go_sem] encR_length encR_getD encRw encPg lookV encI_length encI_getD
attribute [local simp] encA_length encR_length cellsI_length
theorem k85  : CallsA Try.prog 85 [] (.sl 16 (encA exR)) := by
 have hq : True := trivial
 refine callsA_of_tr Try.func85 rfl (Nat.le_of_ble_eq_true rfl) ?_
 simp only [Try.results85, envOf, Nat.reduceAdd]
 refine tr_seq fun K1 hK1 => ?_
 refine tr_region [] rfl rfl fun K hK => ?_
 refine evR_p ?_
 refine evR_e hK ?_; clear hK K
 refine hK1 _ ?_
 refine tr_seq fun K2 hK2 => ?_
 refine tr_region [0] rfl rfl fun K hK => ?_
 iterate 3 refine evR_p ?_
 refine evR_bo ?_
 refine evR_p ?_
 refine evR_e hK ?_; clear hK K
 refine hK2 _ ?_
 refine tr_ret ?_
 (try simp only [thenE, inBlkE])
 simp (maxSteps := 4000000) (disch := first | assumption | omega | (simp only [go_sem, *]; done) | (simp only [go_sem, *]; omega)) only [postA, postO, resV1, fzAll, go_sem, hq, Int.reduceToNat, Nat.reduceBEq, Nat.reduceEqDiff, Nat.reduceAdd, Nat.reduceMul, Nat.reduceLeDiff, Nat.reduceLT, Nat.reduceSub, ↓reduceIte, reduceCtorEq]
 all_goals (rfl)

end Go.Proofs.Ytfamkbofdamkkaa
namespace Go.Proofs.Ytfamkbofdamkkaa
open Go.RowKit
set_option linter.unusedVariables false
set_option linter.unusedSimpArgs false
theorem hasV {a : List Int} (ha : a.length = 16) (hv : validA a = true) {x y : Nat} (hx : x < 16) (hy : y < 16) : hasA a x y = bitG a x y := by
  have h := has_G (bitG a) hx hy
  rw [← rep_G ha hv] at h; exact h
/-- A cell is covered by a set. -/
def covC (l : List (List Int)) (c : Nat × Nat) (s : Nat) : Bool := (List.range l.length).any fun i => s.testBit i && hasC l c i
theorem covC_iff {l : List (List Int)} {c : Nat × Nat} {s : Nat} : covC l c s = true ↔ ∃ i, i < l.length ∧ s.testBit i = true ∧ hasC l c i = true := by
  simp only [covC, List.any_eq_true, List.mem_range, Bool.and_eq_true]
theorem sumG_coef (l : List (List Int)) (c : Nat × Nat) (s : Nat) : ∀ n, n ≤ l.length → sumG (coefT l c l.length) s n ≤ 0 ∧ -(n : Int) ≤ sumG (coefT l c l.length) s n ∧ (sumG (coefT l c l.length) s n ≤ -1 ↔ ∃ i, i < n ∧ s.testBit i = true ∧ hasC l c i = true)
  | 0, _ => by simp [sumG]
  | n + 1, hn => by
    have ⟨ih1, ih2, ih3⟩ := sumG_coef l c s n (by omega)
    have e := coefT_getD (l := l) (c := c) (n := l.length) (i := n) (by omega)
    simp only [sumG, e]
    by_cases hb : s.testBit n = true
    · by_cases hc : hasC l c n = true
      · rw [if_pos hb, if_pos ⟨by omega, hc⟩]
        refine ⟨by omega, by omega, ⟨fun _ => ⟨n, by omega, hb, hc⟩, fun _ => by omega⟩⟩
      · rw [if_pos hb, if_neg (by intro h; exact hc h.2)]
        refine ⟨by omega, by omega, ?_⟩
        rw [Int.add_zero, ih3]
        constructor
        · rintro ⟨i, h1, h2⟩; exact ⟨i, by omega, h2⟩
        · rintro ⟨i, h1, h2, h3⟩
          refine ⟨i, ?_, h2, h3⟩
          rcases Nat.lt_or_ge i n with h | h
          · exact h
          · have : i = n := by omega
            subst this; exact absurd h3 hc
    · rw [if_neg hb]
      refine ⟨by omega, by omega, ?_⟩
      rw [Int.add_zero, ih3]
      constructor
      · rintro ⟨i, h1, h2⟩; exact ⟨i, by omega, h2⟩
      · rintro ⟨i, h1, h2, h3⟩
        refine ⟨i, ?_, h2, h3⟩
        rcases Nat.lt_or_ge i n with h | h
        · exact h
        · have : i = n := by omega
          subst this; exact absurd h2 hb
theorem coefB_R (l : List (List Int)) (c : Nat × Nat) (n : Nat) : coefB (coefT l c n) = true := by
  rw [coefB_iff]
  intro x hx
  obtain ⟨i, -, rfl⟩ := List.mem_map.1 hx
  split <;> omega
theorem kept_row {l : List (List Int)} (hl : l.length ≤ 12) (c : Nat × Nat) {s : Nat} (hs : s < 65536) : keptB (rowR l c) s = covC l c s := by
  have h1 := chosenW_sum (coefB_R l c l.length) hs (by rw [coefT_len]; exact hl)
  have h2 := (sumG_coef l c s l.length (Nat.le_refl _)).2.2
  have h3 : sumS (coefT l c l.length) s = sumG (coefT l c l.length) s l.length := by unfold sumS; rw [coefT_len]
  rw [Bool.eq_iff_iff, covC_iff, ← h2, ← h3, ← h1, keptB_iff]; rfl
theorem covC_key {l : List (List Int)} {c d : Nat × Nat} (h : setN l c l.length = setN l d l.length) (s : Nat) : covC l c s = covC l d s := by
  have hh : ∀ i, i < l.length → hasC l c i = hasC l d i := fun i hi => by
    have h1 := setN_bit l c l.length i
    have h2 := setN_bit l d l.length i
    rw [h, h2] at h1
    simpa [hi] using h1.symm
  rw [Bool.eq_iff_iff, covC_iff, covC_iff]
  constructor
  · rintro ⟨i, h1, h2, h3⟩; exact ⟨i, h1, h2, by rw [← hh i h1]; exact h3⟩
  · rintro ⟨i, h1, h2, h3⟩; exact ⟨i, h1, h2, by rw [hh i h1]; exact h3⟩
theorem lkM_put (k k' : Int) : ∀ es : List (Int × Bool), lkM (putM es k true) k' = true ↔ lkM es k' = true ∨ k' = k
  | [] => by
    simp only [putM, lkM]
    by_cases h : k = k'
    · rw [if_pos h]; simp [h]
    · have h4 : ¬ k' = k := fun e => h e.symm
      rw [if_neg h]; simp [h4]
  | (a, b) :: es => by
    have ih := lkM_put k k' es
    simp only [putM]
    split
    · rename_i h
      simp only [lkM]
      by_cases h2 : k = k'
      · rw [if_pos h2]; simp [h2]
      · have h3 : ¬ a = k' := fun e => h2 (h ▸ e)
        have h4 : ¬ k' = k := fun e => h2 e.symm
        rw [if_neg h2, if_neg h3]; simp [h4]
    · rename_i h
      simp only [lkM]
      by_cases h2 : a = k'
      · have h3 : ¬ k' = k := fun e => h (h2.trans e)
        rw [if_pos h2]; simp [h3, h2]
      · rw [if_neg h2, if_neg h2]; exact ih
theorem foldR_key (l : List (List Int)) (cs : List (Nat × Nat)) (k : Int) : lkM (foldR l cs).1 k = true ↔ ∃ c ∈ cs, k = (setN l c l.length : Nat) := by
  refine snoc_ind (P := fun cs => lkM (foldR l cs).1 k = true ↔ ∃ c ∈ cs, k = (setN l c l.length : Nat)) (by simp [foldR, lkM]) (fun cs c ih => ?_) cs
  rw [foldR_snoc]
  have e : (∃ d ∈ cs ++ [c], k = (setN l d l.length : Nat)) ↔ (∃ d ∈ cs, k = (setN l d l.length : Nat)) ∨ k = (setN l c l.length : Nat) := by
    constructor
    · rintro ⟨d, hd, h⟩
      rcases List.mem_append.1 hd with h1 | h1
      · exact .inl ⟨d, h1, h⟩
      · rw [List.mem_singleton] at h1; subst h1; exact .inr h
    · rintro (⟨d, hd, h⟩ | h)
      · exact ⟨d, List.mem_append.2 (.inl hd), h⟩
      · exact ⟨c, List.mem_append.2 (.inr (by simp)), h⟩
  rw [e]
  by_cases hk : lkM (foldR l cs).1 (setN l c l.length : Nat) = true
  · rw [stepR_t hk, ih]
    constructor
    · exact .inl
    · rintro (h | h)
      · exact h
      · rw [← ih, h]; exact hk
  · rw [Bool.not_eq_true] at hk
    rw [stepR_f hk, lkM_put, ih]
theorem foldR_rows {l : List (List Int)} (hl : l.length ≤ 12) (cs : List (Nat × Nat)) {s : Nat} (hs : s < 65536) : allKept (foldR l cs).2 s = cs.all fun c => covC l c s := by
  refine snoc_ind (P := fun cs => allKept (foldR l cs).2 s = cs.all fun c => covC l c s) (by simp [foldR, allKept]) (fun cs c ih => ?_) cs
  rw [foldR_snoc, List.all_append]
  by_cases hk : lkM (foldR l cs).1 (setN l c l.length : Nat) = true
  · rw [stepR_t hk, ih]
    obtain ⟨d, hd, he⟩ := (foldR_key l cs _).1 hk
    have hc := covC_key (show setN l c l.length = setN l d l.length by omega) s
    rw [Bool.eq_iff_iff]
    simp only [List.all_cons, List.all_nil, Bool.and_true, Bool.and_eq_true]
    constructor
    · intro h; exact ⟨h, by rw [hc]; exact List.all_eq_true.1 h d hd⟩
    · exact fun h => h.1
  · rw [Bool.not_eq_true] at hk
    rw [stepR_f hk]
    show allKept ((foldR l cs).2 ++ [rowR l c]) s = _
    simp only [allKept, List.all_append, List.all_cons, List.all_nil, Bool.and_true]
    rw [kept_row hl c hs, ← ih]; rfl
theorem foldR_mem {l : List (List Int)} (cs : List (Nat × Nat)) : ∀ r ∈ (foldR l cs).2, ∃ c ∈ cs, r = rowR l c := by
  refine snoc_ind (P := fun cs => ∀ r ∈ (foldR l cs).2, ∃ c ∈ cs, r = rowR l c) (by simp [foldR]) (fun cs c ih => ?_) cs
  intro r hr
  rw [foldR_snoc] at hr
  by_cases hk : lkM (foldR l cs).1 (setN l c l.length : Nat) = true
  · rw [stepR_t hk] at hr
    obtain ⟨d, h1, h2⟩ := ih r hr
    exact ⟨d, List.mem_append.2 (.inl h1), h2⟩
  · rw [Bool.not_eq_true] at hk
    rw [stepR_f hk] at hr
    rcases List.mem_append.1 hr with h | h
    · obtain ⟨d, h1, h2⟩ := ih r h
      exact ⟨d, List.mem_append.2 (.inl h1), h2⟩
    · rw [List.mem_singleton] at h
      exact ⟨c, List.mem_append.2 (.inr (by simp)), h⟩
theorem cellsL_len (t : List Int) : (cellsL t).length ≤ 256 := cellT_len t 256
theorem progR_valid {l : List (List Int)} (hl : l.length ≤ 12) (t : List Int) : validB (progR l t) = true := by
  simp only [validB, Bool.and_eq_true, isInB_spec, decide_eq_true_eq]
  have h1 := (foldR_len l (cellsL t)).1
  have h2 := cellsL_len t
  refine ⟨⟨by show (0 : Int) ≤ l.length; omega, by show (l.length : Int) ≤ 12; omega⟩, by show ((foldR l (cellsL t)).2.length : Int) ≤ 300; omega, ?_, by simp [progR], ?_⟩
  · rw [List.all_eq_true]
    intro r hr
    obtain ⟨c, -, rfl⟩ := foldR_mem (cellsL t) r hr
    simp only [rightB, Bool.and_eq_true, decide_eq_true_eq, isInB_spec]
    exact ⟨by show ((coefT l c l.length).length : Int) = l.length; rw [coefT_len], coefB_R l c _, by show (-1000000000000 : Int) ≤ -1 ∧ (-1 : Int) ≤ 1000000000000; decide⟩
  · rw [coefB_iff]
    intro x hx
    have := List.eq_of_mem_replicate hx
    omega
theorem union_has {a b : List Int} (ha : a.length = 16) (hb : b.length = 16) (va : validA a = true) (vb : validA b = true) : validA (unionA a b) = true ∧ ∀ x y : Nat, x < 16 → y < 16 → hasA (unionA a b) x y = (hasA a x y || hasA b x y) := by
  have e : unionA a b = cellsG fun x y => bitG a x y || bitG b x y := by
    have := union_G (bitG a) (bitG b); rw [← rep_G ha va, ← rep_G hb vb] at this; exact this
  exact ⟨by rw [e]; exact cellsG_valid _, fun x y hx hy => by rw [e, has_G _ hx hy, hasV ha va hx hy, hasV hb vb hx hy]⟩
theorem within_has {a b : List Int} (ha : a.length = 16) (hb : b.length = 16) (va : validA a = true) (vb : validA b = true) : withinA a b = true ↔ ∀ x y : Nat, x < 16 → y < 16 → hasA a x y = true → hasA b x y = true := by
  have := within_G (g := bitG a) (h := bitG b)
  rw [← rep_G ha va, ← rep_G hb vb] at this
  rw [this]
  constructor
  · intro h x y hx hy; rw [hasV ha va hx hy, hasV hb vb hx hy]; exact h x y hx hy
  · intro h x y hx hy; have := h x y hx hy; rw [hasV ha va hx hy, hasV hb vb hx hy] at this; exact this
theorem zeros_has : validA zeros16 = true ∧ ∀ x y : Nat, x < 16 → y < 16 → hasA zeros16 x y = false := ⟨by decide, fun x y hx hy => by rw [zeros_G, has_G _ hx hy]⟩
def allV (l : List (List Int)) : Prop := ∀ a ∈ l, validA a = true
theorem validR_iff {l : List (List Int)} {t : List Int} : validR l t = true ↔ allV l ∧ l.length ≤ 12 ∧ validA t = true := by
  simp only [validR, Bool.and_eq_true, decide_eq_true_eq, List.all_eq_true, allV]
  exact ⟨fun ⟨h1, h2, h3⟩ => ⟨h1, by omega, h3⟩, fun ⟨h1, h2, h3⟩ => ⟨h1, by omega, h3⟩⟩
theorem unionT_has {l : List (List Int)} (hl : okAs l) (hv : allV l) : ∀ n, n ≤ l.length → validA (unionT l n) = true ∧ ∀ x y : Nat, x < 16 → y < 16 → (hasA (unionT l n) x y = true ↔ ∃ i, i < n ∧ hasA (l.getD i []) x y = true)
  | 0, _ => ⟨zeros_has.1, fun x y hx hy => by
      show hasA zeros16 x y = true ↔ _
      rw [zeros_has.2 x y hx hy]; simp⟩
  | n + 1, hn => by
    have ⟨ih1, ih2⟩ := unionT_has hl hv n (by omega)
    have hu := union_has (unionT_len hl n (by omega)) (hl.at (show n < l.length by omega)) ih1 (hv _ (getD_mem (by omega)))
    refine ⟨hu.1, fun x y hx hy => ?_⟩
    show hasA (unionA (unionT l n) (l.getD n [])) x y = true ↔ _
    rw [hu.2 x y hx hy, Bool.or_eq_true, ih2 x y hx hy]
    constructor
    · rintro (⟨i, h1, h2⟩ | h)
      · exact ⟨i, by omega, h2⟩
      · exact ⟨n, by omega, h⟩
    · rintro ⟨i, h1, h2⟩
      rcases Nat.lt_or_ge i n with h | h
      · exact .inl ⟨i, h, h2⟩
      · have : i = n := by omega
        subst this; exact .inr h2
theorem union_mem {l : List (List Int)} (hl : okAs l) (hv : allV l) {x y : Nat} (hx : x < 16) (hy : y < 16) : hasA (unionL l) x y = true ↔ ∃ a ∈ l, hasA a x y = true := by
  have h := (unionT_has hl hv l.length (Nat.le_refl _)).2 x y hx hy
  show hasA (unionT l l.length) x y = true ↔ _
  rw [h]
  constructor
  · rintro ⟨i, h1, h2⟩; exact ⟨_, getD_mem h1, h2⟩
  · rintro ⟨a, ha, h2⟩
    obtain ⟨i, hi, rfl⟩ := List.getElem_of_mem ha
    exact ⟨i, hi, by simpa [List.getD, hi] using h2⟩
theorem chosen_mem {l : List (List Int)} {s : Int} {a : List Int} : ∀ {n : Nat}, a ∈ chosenT l s n ↔ ∃ i : Nat, i < n ∧ cBit s i = true ∧ a = l.getD i []
  | 0 => by simp [chosenT]
  | n + 1 => by
    have ih := chosen_mem (l := l) (s := s) (a := a) (n := n)
    by_cases h : cBit s n = true
    · rw [chosenT_t h, List.mem_append, ih, List.mem_singleton]
      constructor
      · rintro (⟨i, h1, h2⟩ | h2)
        · exact ⟨i, by omega, h2⟩
        · exact ⟨n, by omega, h, h2⟩
      · rintro ⟨i, h1, h2, h3⟩
        rcases Nat.lt_or_ge i n with h4 | h4
        · exact .inl ⟨i, h4, h2, h3⟩
        · have : i = n := by omega
          subst this; exact .inr h3
    · rw [chosenT_f (Bool.eq_false_iff.2 h), ih]
      constructor
      · rintro ⟨i, h1, h2⟩; exact ⟨i, by omega, h2⟩
      · rintro ⟨i, h1, h2, h3⟩
        rcases Nat.lt_or_ge i n with h4 | h4
        · exact ⟨i, h4, h2, h3⟩
        · have : i = n := by omega
          subst this; exact absurd h2 h
theorem chosen_V {l : List (List Int)} (hv : allV l) (s : Int) : allV (chosenL l s) := fun a ha => by
  obtain ⟨i, h1, -, rfl⟩ := chosen_mem.1 ha
  exact hv _ (getD_mem h1)
theorem reached_len {l : List (List Int)} (hl : okAs l) (s : Int) : (reachedL l s).length = 16 := unionT_len (chosenT_ok hl s l.length (Nat.le_refl _)) _ (Nat.le_refl _)
theorem reached_V {l : List (List Int)} (hl : okAs l) (hv : allV l) (s : Int) : validA (reachedL l s) = true := (unionT_has (chosenT_ok hl s l.length (Nat.le_refl _)) (chosen_V hv s) _ (Nat.le_refl _)).1
theorem reached_has {l : List (List Int)} (hl : okAs l) (hv : allV l) (h12 : l.length ≤ 12) {s : Nat} (hs : s < 65536) {x y : Nat} (hx : x < 16) (hy : y < 16) : hasA (reachedL l s) x y = covC l (x, y) s := by
  have h := union_mem (chosenT_ok hl s l.length (Nat.le_refl _)) (chosen_V hv s) hx hy
  rw [Bool.eq_iff_iff, covC_iff]
  show hasA (unionL (chosenT l s l.length)) x y = true ↔ _
  rw [h]
  constructor
  · rintro ⟨a, ha, h2⟩
    obtain ⟨i, h3, h4, rfl⟩ := chosen_mem.1 ha
    exact ⟨i, h3, by rw [← cBit_nat hs (by omega)]; exact h4, h2⟩
  · rintro ⟨i, h3, h4, h5⟩
    exact ⟨_, chosen_mem.2 ⟨i, h3, by rw [cBit_nat hs (by omega)]; exact h4, rfl⟩, h5⟩
theorem cells_mem {t : List Int} (ht : t.length = 16) (hv : validA t = true) {p : Nat × Nat} : p ∈ cellsL t ↔ p.1 < 16 ∧ p.2 < 16 ∧ hasA t p.1 p.2 = true := by
  have e : ∀ x y : Nat, x < 16 → y < 16 → hasA t x y = cellB (t.getD y 0) x := fun x y hx hy => by
    have h1 : (0 : Int) ≤ minV x y := minV_nn (by omega) (by omega)
    have h2 : maxV (x : Int) y < 16 := maxV_lt (by omega) (by omega)
    simp [hasA, hv, h1, h2]
  unfold cellsL
  rw [cellsL_mem]
  constructor
  · rintro ⟨h1, h2, h3⟩; exact ⟨h1, by omega, by rw [e _ _ h1 (by omega)]; exact h3⟩
  · rintro ⟨h1, h2, h3⟩; exact ⟨h1, by omega, by rw [← e _ _ h1 h2]; exact h3⟩
theorem covers_iff {l : List (List Int)} (hl : okAs l) {t : List Int} (ht : t.length = 16) (hR : validR l t = true) {s : Nat} (hs : s < 65536) : withinA t (reachedL l s) = (cellsL t).all fun c => covC l c s := by
  obtain ⟨hv, h12, hvt⟩ := validR_iff.1 hR
  rw [Bool.eq_iff_iff, within_has ht (reached_len hl _) hvt (reached_V hl hv _), List.all_eq_true]
  constructor
  · intro h c hc
    obtain ⟨h1, h2, h3⟩ := (cells_mem ht hvt).1 hc
    rw [← reached_has hl hv h12 hs h1 h2]; exact h _ _ h1 h2 h3
  · intro h x y hx hy hh
    rw [reached_has hl hv h12 hs hx hy]
    exact h (x, y) ((cells_mem ht hvt).2 ⟨hx, hy, hh⟩)
/-- A set covers the target exactly if it keeps all rows. -/
theorem covers_kept {l : List (List Int)} (hl : okAs l) {t : List Int} (ht : t.length = 16) (hR : validR l t = true) {s : Nat} (hs : s < 65536) : allKept (progR l t).rows s = withinA t (reachedL l s) := by
  rw [covers_iff hl ht hR hs]; exact foldR_rows (validR_iff.1 hR).2.1 _ hs
def tX (n : Int) : List Int := n :: List.replicate 15 0
theorem exR_ok : okAs exR := ⟨by simp [exR, maxLen], by intro a ha; simp [exR] at ha; rcases ha with rfl | rfl | rfl <;> rfl⟩
theorem ex_val {n : Int} (h : validA (tX n) = true) : validR exR (tX n) = true := validR_iff.2 ⟨by intro a ha; simp [exR] at ha; rcases ha with rfl | rfl | rfl <;> decide, by decide, h⟩
theorem ex255 : (solveW (progR exR (tX 255))).found = true ∧ (solveW (progR exR (tX 255))).set = 5 ∧ (solveW (progR exR (tX 255))).gain = -2 := by decide +kernel
theorem ex12 : (solveW (progR exR (tX 12))).found = true ∧ (solveW (progR exR (tX 12))).set = 1 ∧ (solveW (progR exR (tX 12))).gain = -1 := by decide +kernel
theorem ex24 : (solveW (progR exR (tX 24))).found = true ∧ (solveW (progR exR (tX 24))).set = 2 ∧ (solveW (progR exR (tX 24))).gain = -1 := by decide +kernel
theorem ex511 : (solveW (progR exR (tX 511))).found = false ∧ (solveW (progR exR (tX 511))).set = 0 ∧ (solveW (progR exR (tX 511))).gain = 0 := by decide +kernel
theorem exRows : (progR exR (tX 255)).rows = [⟨1, 0, 0, 0, [-1, 0, 0], -1⟩, ⟨1, 2, 0, 0, [-1, -1, 0], -1⟩, ⟨1, 4, 0, 0, [0, -1, -1], -1⟩, ⟨1, 6, 0, 0, [0, 0, -1], -1⟩] := by kernel_rfl
theorem exMiss : minusA (tX 511) (unionL exR) = tX 256 := by decide +kernel
theorem exReach : reachedL exR 3 = tX 63 := by decide +kernel
theorem exReach5 : minusA (tX 255) (reachedL exR 5) = zeros16 ∧ minusA (tX 255) (reachedL exR 7) = zeros16 := by decide +kernel
def checkC (l : List (List Int)) (t : List Int) (fd : Bool) (set gain : Int) (pf : List Sg) : Bool :=
 if fd then decide (0 ≤ set ∧ set < ((2 ^ l.length : Nat) : Int)) && (decide (minusA t (reachedL l set) = zeros16) && (decide (gain = -onesW (IntKind.u64.wrap set)) && boundsW (progR l t) pf gain))
 else decide (set = 0) && decide (gain = 0) && refutesW (progR l t) pf
theorem valid0 {l : List (List Int)} {t : List Int} (hR : validR l t = true) : validR l zeros16 = true := by
 obtain ⟨h1, h2, -⟩ := validR_iff.1 hR
 exact validR_iff.2 ⟨h1, h2, zeros_has.1⟩
theorem kCheck {l : List (List Int)} (hl : okAs l) {t : List Int} (ht : t.length = 16) (hR : validR l t = true) (fd : Bool) (set gain : Int) (pf : List Sg) (hpf : okPf pf) :
  CallsA Try.prog 47 [.sl 16 (encA l), .agg (cellsI t), .agg [.bool fd, .int .i64 set, .int .i64 gain, .sl 4 (encSgs pf)]] (.bool (checkC l t fd set gain pf)) := by
 have h12 := (validR_iff.1 hR).2.1
 have hvM := progR_valid h12 t
 have kR := s24 (okPr_valid hvM) hpf
 have kB := s32 (okPr_valid hvM) hpf
 cases fd with
 | false => exact k47a l hl t ht hR false set gain pf kR kB rfl
 | true =>
  by_cases h : 0 ≤ set ∧ set < ((2 ^ l.length : Nat) : Int)
  ·
   have := k47b l hl t ht h12 hR (valid0 hR) true set gain pf kR kB rfl h.1 h.2
   have e : checkC l t true set gain pf = (decide (minusA t (reachedL l set) = zeros16) && (decide (gain = -onesW (IntKind.u64.wrap set)) && boundsW (progR l t) pf gain)) := by
    unfold checkC; rw [if_pos rfl, decide_eq_true h, Bool.true_and]
   rw [e]; exact this
  ·
   have := k47c l hl t ht h12 hR true set gain pf kR kB rfl (by right; omega)
   have e : checkC l t true set gain pf = false := by
    unfold checkC; rw [if_pos rfl, decide_eq_false h, Bool.false_and]
   rw [e]; exact this
theorem kLeast {l : List (List Int)} (hl : okAs l) {t : List Int} (ht : t.length = 16) (hR : validR l t = true) :
  CallsA Try.prog 43 [.sl 16 (encA l), .agg (cellsI t)] (.tup [.agg (encSol2 (progR l t)), .int .i64 0]) := k43 l hl t ht hR (progR_valid (validR_iff.1 hR).2.1 t)
theorem solveW_f (p : Pg) : (solveB p).1 = (solveW p).found := rfl
theorem solveW_s (p : Pg) : (solveB p).2.1 = (solveW p).set := rfl
theorem solveW_g (p : Pg) : (solveB p).2.2 = (solveW p).gain := rfl
theorem vx (n : Int) (h : validA (tX n) = true := by decide) : validR exR (tX n) = true := ex_val h
theorem sx43 {n : Int} (h : validA (tX n) = true) : CallsA Try.prog 43 [.sl 16 (encA exR), .agg (cellsI (tX n))] (.tup [.agg [.bool (solveW (progR exR (tX n))).found, .int .i64 (solveW (progR exR (tX n))).set, .int .i64 (solveW (progR exR (tX n))).gain, .sl 4 (encSgs (prfS (progR exR (tX n))))], .int .i64 0]) := kLeast exR_ok (t := tX n) rfl (ex_val h)
theorem sx1 : ∃ P : List Sg, CallsA Try.prog 43 [.sl 16 (encA exR), .agg (cellsI (tX 255))] (.tup [.agg [.bool true, .int .i64 5, .int .i64 (-2), .sl 4 (encSgs P)], .int .i64 0]) ∧
  CallsA Try.prog 47 [.sl 16 (encA exR), .agg (cellsI (tX 255)), .agg [.bool true, .int .i64 5, .int .i64 (-2), .sl 4 (encSgs P)]] (.bool true) ∧
  CallsA Try.prog 47 [.sl 16 (encA exR), .agg (cellsI (tX 255)), .agg [.bool true, .int .i64 7, .int .i64 (-3), .sl 4 (encSgs P)]] (.bool false) := by
 have hv := progR_valid (l := exR) (by decide) (tX 255)
 have h := sx43 (n := 255) (by decide)
 obtain ⟨e1, e2, e3⟩ := ex255
 rw [e1, e2, e3] at h
 refine ⟨_, h, ?_, ?_⟩
 ·
  have hb := cmp_bound hv ((solveW_f _).trans e1)
  have e3' : (solveB (progR exR (tX 255))).2.2 = -2 := (solveW_g _).trans e3
  rw [e3'] at hb
  have hc := kCheck exR_ok (t := tX 255) rfl (vx 255) true 5 (-2) _ (okPf_prf hv)
  have e : checkC exR (tX 255) true 5 (-2) (prfS (progR exR (tX 255))) = true := by
   unfold checkC
   rw [if_pos rfl, hb, exReach5.1]; decide
  rw [e] at hc; exact hc
 ·
  have hc := kCheck exR_ok (t := tX 255) rfl (vx 255) true 7 (-3) _ (okPf_prf hv)
  have hb : boundsW (progR exR (tX 255)) (prfS (progR exR (tX 255))) (-3) = false := by
   cases hb : boundsW (progR exR (tX 255)) (prfS (progR exR (tX 255))) (-3) with
   | false => rfl
   | true =>
    have := bounds_true hb (v := 3) rfl (s := 5) (by decide) (by decide +kernel)
    exact absurd this (by decide)
  have e : checkC exR (tX 255) true 7 (-3) (prfS (progR exR (tX 255))) = false := by
   unfold checkC
   rw [if_pos rfl, hb, Bool.and_false, Bool.and_false, Bool.and_false]
  rw [e] at hc; exact hc
theorem sx2 : ∃ P : List Sg, CallsA Try.prog 43 [.sl 16 (encA exR), .agg (cellsI (tX 12))] (.tup [.agg [.bool true, .int .i64 1, .int .i64 (-1), .sl 4 (encSgs P)], .int .i64 0]) := by
 have h := sx43 (n := 12) (by decide)
 obtain ⟨e1, e2, e3⟩ := ex12
 rw [e1, e2, e3] at h; exact ⟨_, h⟩
theorem sx3 : ∃ P : List Sg, CallsA Try.prog 43 [.sl 16 (encA exR), .agg (cellsI (tX 24))] (.tup [.agg [.bool true, .int .i64 2, .int .i64 (-1), .sl 4 (encSgs P)], .int .i64 0]) := by
 have h := sx43 (n := 24) (by decide)
 obtain ⟨e1, e2, e3⟩ := ex24
 rw [e1, e2, e3] at h; exact ⟨_, h⟩
theorem sx4 : ∃ P : List Sg, CallsA Try.prog 43 [.sl 16 (encA exR), .agg (cellsI (tX 511))] (.tup [.agg [.bool false, .int .i64 0, .int .i64 0, .sl 4 (encSgs P)], .int .i64 0]) ∧
  CallsA Try.prog 47 [.sl 16 (encA exR), .agg (cellsI (tX 511)), .agg [.bool false, .int .i64 0, .int .i64 0, .sl 4 (encSgs P)]] (.bool true) ∧
  CallsA Try.prog 47 [.sl 16 (encA exR), .agg (cellsI (tX 255)), .agg [.bool false, .int .i64 0, .int .i64 0, .sl 4 (encSgs P)]] (.bool false) := by
 have hv := progR_valid (l := exR) (by decide) (tX 511)
 have h := sx43 (n := 511) (by decide)
 obtain ⟨e1, e2, e3⟩ := ex511
 rw [e1, e2, e3] at h
 refine ⟨_, h, ?_, ?_⟩
 ·
  have hb := prf_refutes hv ((solveW_f _).trans e1)
  have hc := kCheck exR_ok (t := tX 511) rfl (vx 511) false 0 0 _ (okPf_prf hv)
  have e : checkC exR (tX 511) false 0 0 (prfS (progR exR (tX 511))) = true := by
   unfold checkC
   rw [hb]; decide
  rw [e] at hc; exact hc
 ·
  have hc := kCheck exR_ok (t := tX 255) rfl (vx 255) false 0 0 _ (okPf_prf hv)
  have hb : refutesW (progR exR (tX 255)) (prfS (progR exR (tX 511))) = false := by
   cases hb : refutesW (progR exR (tX 255)) (prfS (progR exR (tX 511))) with
   | false => rfl
   | true =>
    have := refutes_true hb (v := 3) rfl (s := 5) (by decide)
    have h5 : allKept (progR exR (tX 255)).rows (5 : Nat) = true := by decide +kernel
    rw [h5] at this; cases this
  have e : checkC exR (tX 255) false 0 0 (prfS (progR exR (tX 511))) = false := by
   unfold checkC
   rw [hb]; decide
  rw [e] at hc; exact hc
theorem sx5 : CallsA Try.prog 49 [.sl 16 (encA exR), .agg (cellsI (tX 255))] (.tup [.agg [.int .i64 3, .sl 6 (encR [⟨1, 0, 0, 0, [-1, 0, 0], -1⟩, ⟨1, 2, 0, 0, [-1, -1, 0], -1⟩, ⟨1, 4, 0, 0, [0, -1, -1], -1⟩, ⟨1, 6, 0, 0, [0, 0, -1], -1⟩]), .sl 1 (encI [-1, -1, -1])], .int .i64 0]) := by
 have h := k49 exR exR_ok (tX 255) rfl (vx 255)
 unfold encPg at h; rw [exRows] at h; exact h
theorem sx6 : CallsA Try.prog 52 [.sl 16 (encA exR), .agg (cellsI (tX 511))] (.tup [.agg (cellsI (tX 256)), .int .i64 0]) := by
 have h := k52 exR exR_ok (tX 511) rfl (vx 511); rw [exMiss] at h; exact h
theorem sx7 : CallsA Try.prog 53 [.sl 16 (encA exR), .int .i64 3] (.tup [.agg (cellsI (tX 63)), .int .i64 0]) := by
 have h := k53 exR exR_ok (by decide) 3 (valid0 (vx 255)) (by decide) (by decide); rw [exReach] at h; exact h
theorem sx8 : CallsA Try.prog 53 [.sl 16 (encA exR), .int .i64 8] (.tup [.agg (cellsI zeros16), .int .i64 280]) := k53n exR exR_ok (by decide) 8 (by decide)
theorem sx9 : CallsA Try.prog 86 [.sl 16 (encA exR), .agg (cellsI (tX 1))] (.bool true) := by
 have h := k86 exR exR_ok (tX 1) rfl; rw [vx 1] at h; exact h
theorem sx10 : CallsA Try.prog 86 [.sl 16 (encA exR), .agg (cellsI (tX (-1)))] (.bool false) := by
 have h := k86 exR exR_ok (tX (-1)) rfl
 have e : validR exR (tX (-1)) = false := by decide
 rw [e] at h; exact h
set_option maxRecDepth 100000
attribute [local go_sem] Nat.zero_add Nat.add_zero Nat.mul_one eq_self ne_eq not_true_eq_false not_false_eq_true decide_true decide_false decide_not Bool.false_eq_true List.filter_cons List.filter_nil true_and and_true beq_false beq_true Bool.not_true Bool.not_false Bool.and_true Bool.true_and Option.getD_some Option.getD_none imp_self implies_true Int.toNat_natCast List.cons_append List.nil_append List.map_cons List.map_nil List.length_cons List.length_nil List.getD_cons_zero List.getD_cons_succ List.drop_zero List.drop_succ_cons List.take_succ_cons List.take_zero
attribute [local go_sem] lowN lowQ lowM isAl appOwn unw shL isSh Option.isNone_none Option.isNone_some Option.isSome_none appF isE isO stpO notIn St.bare evO evDO isEff stp St.get St.slot St.put List.lookup un unL ofVal gof nth pickV pkB_false pkB_true binV unV loadV idxV fldV partV buildV fillV lenV sliV appV appR rowsV winV V.parts V.okp V.sc Mem.look_cons Mem.look_nil V.cl V.clL AObj.clo fzAll exps St.fz Mem.fz V.fz V.fzL AObj.fz shp AObj.shp csh AObj.csh rowM isSt isRpS isRd Option.isSome_some Bool.or_true Bool.true_or Bool.or_false Bool.false_or and_false false_and or_false false_or List.length_append forall_const imp_self arT_104 arT_121 arT_160 arT_161 arT_22 arT_23 arT_24 arT_25 arT_28 arT_29 arT_30 arT_40 arT_42 arT_52 arT_60 arT_65 arT_72 arT_73 arT_76 arT_9 arT_90 boolT_182 boolT_25 boolT_3 boolT_35 boolT_4 boolT_76 flatT_182 flatT_25 flatT_3 flatT_35 flatT_4 flatT_76 intT_133 intT_169 intT_171 intT_188 intT_3 intT_5 lay_104 lay_112 lay_138 lay_141 lay_153 lay_160 lay_161 lay_164 lay_188 lay_23 lay_24 lay_25 lay_27 lay_28 lay_3 lay_30 lay_34 lay_4 lay_49 lay_52 lay_54 lay_56 lay_65 lay_67 lay_73 lay_76 lay_90 lay_99 mapT_112 okF_10 okF_100 okF_101 okF_102 okF_103 okF_104 okF_105 okF_106 okF_107 okF_108 okF_109 okF_11 okF_110 okF_111 okF_112 okF_113 okF_114 okF_115 okF_116 okF_117 okF_118 okF_119 okF_12 okF_120 okF_121 okF_122 okF_123 okF_124 okF_125 okF_126 okF_127 okF_128 okF_129 okF_13 okF_130 okF_131 okF_132 okF_133 okF_134 okF_135 okF_136 okF_137 okF_138 okF_139 okF_14 okF_140 okF_141 okF_142 okF_143 okF_144 okF_145 okF_146 okF_147 okF_148 okF_149 okF_15 okF_150 okF_151 okF_152 okF_153 okF_154 okF_155 okF_156 okF_157 okF_158 okF_159 okF_16 okF_160 okF_161 okF_162 okF_163 okF_164 okF_165 okF_166 okF_167 okF_168 okF_169 okF_17 okF_170 okF_171 okF_172 okF_173 okF_174 okF_175 okF_176 okF_177 okF_18 okF_19 okF_20 okF_21 okF_22 okF_23 okF_24 okF_25 okF_26 okF_27 okF_28 okF_29 okF_3 okF_30 okF_31 okF_32 okF_33 okF_34 okF_35 okF_36 okF_37 okF_38 okF_39 okF_4 okF_40 okF_41 okF_42 okF_43 okF_44 okF_45 okF_46 okF_47 okF_48 okF_49 okF_5 okF_50 okF_51 okF_52 okF_53 okF_54 okF_55 okF_56 okF_57 okF_58 okF_59 okF_6 okF_60 okF_61 okF_62 okF_63 okF_64 okF_65 okF_66 okF_67 okF_68 okF_69 okF_7 okF_70 okF_71 okF_72 okF_73 okF_74 okF_75 okF_76 okF_77 okF_78 okF_79 okF_8 okF_80 okF_81 okF_82 okF_83 okF_84 okF_85 okF_86 okF_87 okF_88 okF_89 okF_9 okF_90 okF_91 okF_92 okF_93 okF_94 okF_95 okF_96 okF_97 okF_98 okF_99 plT_138 plT_153 plT_157 plT_161 plT_27 plT_34 plT_54 plT_56 plT_67 plT_76 plT_90 plT_99 slT_104 slT_121 slT_160 slT_161 slT_22 slT_23 slT_24 slT_25 slT_28 slT_29 slT_30 slT_40 slT_42 slT_52 slT_60 slT_65 slT_72 slT_73 slT_76 slT_90 stT_138_0 stT_138_1 stT_153_0 stT_157_0 stT_157_1 stT_157_2 stT_157_3 stT_27_0 stT_27_1 stT_27_2 stT_34_0 stT_34_1 stT_34_2 stT_34_3 stT_54_0 stT_54_1 stT_54_2 stT_54_3 stT_56_0 stT_56_1 stT_67_1 stT_67_4 stT_67_5 stT_99_0 stT_99_1 strT_160 strT_76 strT_9 zeroT_112 zeroT_138 zeroT_153 zeroT_157 zeroT_160 zeroT_161 zeroT_188 zeroT_27 zeroT_3 zeroT_30 zeroT_34 zeroT_4 zeroT_49 zeroT_54 zeroT_56 zeroT_65 zeroT_67 zeroT_76 zeroT_90 zeroT_99
attribute [local go_sem] cellsI_fzL cellsI_uptoL List.getElem?_cons_zero List.getElem?_cons_succ List.zip_cons_cons List.zip_nil_left List.zip_nil_right Bool.false_and Bool.and_false cellsG_length polyA_length discA_length agEq_cells cellsI_isI cellsI_length cellsI_sc cellsI_cl cellsI_rows cellsI_take cellsI_dropD cellsI_set cellsI_full encI_length encI_getD List.length_set List.length_replicate List.all_cons List.all_nil outA_length eachA_length outM_length getD_set_same List.set_set spl_nil0 spl_cons0 spl_succ encP_length encP_getD
attribute [local simp] encP_length padP_length encI_length
attribute [local go_sem] encR_length encR_getD encRw encPg lookV encI_length encI_getD
attribute [local simp] encA_length encR_length cellsI_length
section
attribute [local go_sem] encR encRw
set_option maxHeartbeats 16000000 in
theorem k39  : CallsA Try.prog 39 [] (.bool true) := by
 obtain ⟨P1, c1, q1, q2⟩ := sx1
 obtain ⟨P2, c2⟩ := sx2
 obtain ⟨P3, c3⟩ := sx3
 obtain ⟨P4, c4, q3, q4⟩ := sx4
 have e1 : List.take 16 (spl (cellsI (List.replicate 16 0)) 0 (cellsI (tX 256))) = cellsI (tX 256) := by rw [cellsI_full (tX 256) _ rfl]; exact List.take_of_length_le (Nat.le_refl 16)
 have e2 : List.take 16 (spl (cellsI (List.replicate 16 0)) 0 (cellsI (tX 63))) = cellsI (tX 63) := by rw [cellsI_full (tX 63) _ rfl]; exact List.take_of_length_le (Nat.le_refl 16)
 have hq : True := trivial
 refine callsA_of_tr Try.func39 rfl (Nat.le_of_ble_eq_true rfl) ?_
 simp only [Try.results39, envOf, Nat.reduceAdd]
 refine tr_seq fun K1 hK1 => ?_
 refine tr_region [] rfl rfl fun K hK => ?_
 refine evR_p ?_
 refine evR_e hK ?_; clear hK K
 refine hK1 _ ?_
 refine tr_seq fun K2 hK2 => ?_
 refine tr_region [1] rfl rfl fun K hK => ?_
 refine evR_c (hc := k85) (k := ?_)
 refine evR_p ?_
 refine evR_e hK ?_; clear hK K
 refine hK2 _ ?_
 refine tr_seq fun K3 hK3 => ?_
 refine tr_region [1, 2, 3] rfl rfl fun K hK => ?_
 iterate 2 refine evR_p ?_
 refine evR_c (hc := c1) (k := ?_)
 iterate 6 refine evR_p ?_
 refine evR_e hK ?_; clear hK K
 refine hK3 _ ?_
 refine tr_seq fun K4 hK4 => ?_
 refine tr_region [1, 2, 3, 4, 5] rfl rfl fun K hK => ?_
 iterate 2 refine evR_p ?_
 refine evR_c (hc := c2) (k := ?_)
 iterate 6 refine evR_p ?_
 refine evR_e hK ?_; clear hK K
 refine hK4 _ ?_
 refine tr_seq fun K5 hK5 => ?_
 refine tr_region [1, 2, 3, 4, 5, 6, 7] rfl rfl fun K hK => ?_
 iterate 2 refine evR_p ?_
 refine evR_c (hc := c3) (k := ?_)
 iterate 6 refine evR_p ?_
 refine evR_e hK ?_; clear hK K
 refine hK5 _ ?_
 refine tr_seq fun K6 hK6 => ?_
 refine tr_region [1, 2, 3, 4, 5, 6, 7, 8, 9] rfl rfl fun K hK => ?_
 iterate 2 refine evR_p ?_
 refine evR_c (hc := sx5) (k := ?_)
 iterate 6 refine evR_p ?_
 refine evR_e hK ?_; clear hK K
 refine hK6 _ ?_
 refine tr_seq fun K7 hK7 => ?_
 refine tr_region [1, 2, 3, 4, 5, 6, 7, 8, 9, 10, 11] rfl rfl fun K hK => ?_
 iterate 2 refine evR_p ?_
 refine evR_c (hc := sx6) (k := ?_)
 iterate 6 refine evR_p ?_
 refine evR_e hK ?_; clear hK K
 refine hK7 _ ?_
 refine tr_seq fun K8 hK8 => ?_
 refine tr_region [1, 2, 3, 4, 5, 6, 7, 8, 9, 10, 11, 12, 13] rfl rfl fun K hK => ?_
 refine evR_p ?_
 refine evR_c (hc := sx7) (k := ?_)
 iterate 6 refine evR_p ?_
 refine evR_e hK ?_; clear hK K
 refine hK8 _ ?_
 refine tr_seq fun K9 hK9 => ?_
 refine tr_region [1, 2, 3, 4, 5, 6, 7, 8, 9, 10, 11, 12, 13, 14, 15] rfl rfl fun K hK => ?_
 iterate 2 refine evR_p ?_
 refine evR_c (hc := c4) (k := ?_)
 iterate 6 refine evR_p ?_
 refine evR_e hK ?_; clear hK K
 refine hK9 _ ?_
 refine tr_seq fun K10 hK10 => ?_
 refine tr_region [1, 2, 3, 4, 5, 6, 7, 8, 9, 10, 11, 12, 13, 14, 15, 17] rfl rfl fun K hK => ?_
 refine evR_p ?_
 refine evR_c (hc := sx8) (k := ?_)
 iterate 6 refine evR_p ?_
 refine evR_e hK ?_; clear hK K
 refine hK10 _ ?_
 refine tr_seq fun K11 hK11 => ?_
 refine tr_seq fun K12 hK12 => ?_
 refine tr_region [1, 2, 4, 6, 8, 10, 12, 14, 109] rfl rfl fun K hK => ?_
 iterate 3 refine evR_p ?_
 iterate 2 refine evR_g ?_
 iterate 2 refine evR_p ?_
 iterate 2 refine evR_g ?_
 iterate 2 refine evR_p ?_
 iterate 2 refine evR_g ?_
 iterate 2 refine evR_p ?_
 iterate 2 refine evR_g ?_
 iterate 2 refine evR_p ?_
 iterate 2 refine evR_g ?_
 iterate 2 refine evR_p ?_
 iterate 2 refine evR_g ?_
 iterate 2 refine evR_p ?_
 iterate 2 refine evR_g ?_
 iterate 2 refine evR_p ?_
 iterate 4 refine evR_g ?_
 iterate 2 refine evR_p ?_
 iterate 3 refine evR_g ?_
 refine evR_p ?_
 refine evR_e hK ?_; clear hK K
 refine hK12 _ ?_
 refine tr_condB (fun ht1 => ?_) (fun ht1 => ?_)
 ·
  skip
  refine tr_seq fun K13 hK13 => ?_
  refine tr_region [0] rfl rfl fun K hK => ?_
  refine evR_p ?_
  refine evR_e hK ?_; clear hK K
  refine hK13 _ ?_
  refine tr_ret ?_
  (try simp only [thenE, inBlkE])
  simp (maxSteps := 4000000) (disch := first | assumption | omega | (simp only [go_sem, *]; done) | (simp only [go_sem, *]; omega)) only [postA, postO, resV1, fzAll, go_sem, hq, Int.reduceToNat, Nat.reduceBEq, Nat.reduceEqDiff, Nat.reduceAdd, Nat.reduceMul, Nat.reduceLeDiff, Nat.reduceLT, Nat.reduceSub, ↓reduceIte, reduceCtorEq]
  all_goals (first | exact absurd rfl ht1 | (rw [e1, e2, agEq_cells, agEq_cells]; decide) | (rw [e1, e2, agEq_cells, agEq_cells]; rfl))
 ·
  skip
  refine tr_skip ?_
  (try simp only [thenE, inBlkE])
  refine hK11 _ ?_
  refine tr_seq fun K14 hK14 => ?_
  refine tr_region [1, 2, 8, 10, 12, 14, 18] rfl rfl fun K hK => ?_
  iterate 3 refine evR_p ?_
  iterate 3 refine evR_g ?_
  iterate 2 refine evR_p ?_
  iterate 3 refine evR_g ?_
  iterate 2 refine evR_p ?_
  iterate 2 refine evR_g ?_
  iterate 2 refine evR_p ?_
  iterate 3 refine evR_g ?_
  iterate 2 refine evR_p ?_
  iterate 3 refine evR_g ?_
  iterate 2 refine evR_p ?_
  iterate 2 refine evR_g ?_
  iterate 2 refine evR_p ?_
  iterate 3 refine evR_g ?_
  iterate 2 refine evR_p ?_
  iterate 3 refine evR_g ?_
  iterate 2 refine evR_p ?_
  iterate 3 refine evR_g ?_
  iterate 2 refine evR_p ?_
  refine evR_e hK ?_; clear hK K
  refine hK14 _ ?_
  refine tr_seq fun K15 hK15 => ?_
  refine tr_region [1, 2, 10, 12, 14, 18, 19] rfl rfl fun K hK => ?_
  iterate 7 refine evR_p ?_
  iterate 6 refine evR_g ?_
  refine evR_gc (hc := (c19 [-1, -1, 0] [-1, -1, 0] (by simp [maxLen]) (by simp [maxLen]))) (k := ?_)
  iterate 2 refine evR_p ?_
  iterate 6 refine evR_g ?_
  iterate 2 refine evR_p ?_
  iterate 6 refine evR_g ?_
  refine evR_gc (hc := (c19 [0, 0, -1] [0, 0, -1] (by simp [maxLen]) (by simp [maxLen]))) (k := ?_)
  iterate 2 refine evR_p ?_
  refine evR_e hK ?_; clear hK K
  refine hK15 _ ?_
  refine tr_seq fun K16 hK16 => ?_
  refine tr_region [1, 2, 10, 12, 14, 18, 19, 20] rfl rfl fun K hK => ?_
  iterate 3 refine evR_p ?_
  refine evR_e hK ?_; clear hK K
  refine hK16 _ ?_
  refine tr_seq fun K17 hK17 => ?_
  refine tr_region [1, 2, 10, 12, 14, 18, 19, 20] rfl rfl fun K hK => ?_
  iterate 2 refine evR_p ?_
  refine evR_e hK ?_; clear hK K
  refine hK17 _ ?_
  refine tr_seq fun K18 hK18 => ?_
  refine tr_region [1, 2, 10, 12, 14, 18, 19, 20] rfl rfl fun K hK => ?_
  iterate 2 refine evR_p ?_
  refine evR_e hK ?_; clear hK K
  refine hK18 _ ?_
  refine tr_seq fun K19 hK19 => ?_
  refine tr_region [1, 10, 12, 18, 19, 21] rfl rfl fun K hK => ?_
  iterate 3 refine evR_p ?_
  refine evR_c (hc := q1) (k := ?_)
  refine evR_p ?_
  iterate 3 refine evR_g ?_
  refine evR_gc (hc := q2) (k := ?_)
  refine evR_g ?_
  iterate 2 refine evR_p ?_
  iterate 3 refine evR_g ?_
  refine evR_gc (hc := q3) (k := ?_)
  iterate 2 refine evR_p ?_
  iterate 3 refine evR_g ?_
  refine evR_gc (hc := q4) (k := ?_)
  refine evR_g ?_
  iterate 2 refine evR_p ?_
  refine evR_e hK ?_; clear hK K
  refine hK19 _ ?_
  refine tr_seq fun K20 hK20 => ?_
  refine tr_region [0] rfl rfl fun K hK => ?_
  iterate 2 refine evR_p ?_
  refine evR_g ?_
  iterate 2 refine evR_p ?_
  refine evR_g ?_
  iterate 2 refine evR_p ?_
  iterate 3 refine evR_g ?_
  iterate 2 refine evR_p ?_
  iterate 3 refine evR_g ?_
  iterate 2 refine evR_p ?_
  iterate 2 refine evR_g ?_
  refine evR_gc (hc := sx9) (k := ?_)
  iterate 2 refine evR_p ?_
  iterate 2 refine evR_g ?_
  refine evR_gc (hc := sx10) (k := ?_)
  refine evR_g ?_
  iterate 2 refine evR_p ?_
  refine evR_e hK ?_; clear hK K
  refine hK20 _ ?_
  refine tr_ret ?_
  (try simp only [thenE, inBlkE])
  simp (maxSteps := 4000000) (disch := first | assumption | omega | (simp only [go_sem, *]; done) | (simp only [go_sem, *]; omega)) only [postA, postO, resV1, fzAll, go_sem, hq, Int.reduceToNat, Nat.reduceBEq, Nat.reduceEqDiff, Nat.reduceAdd, Nat.reduceMul, Nat.reduceLeDiff, Nat.reduceLT, Nat.reduceSub, ↓reduceIte, reduceCtorEq]
  all_goals (first | exact absurd rfl ht1 | (rw [e1, e2, agEq_cells, agEq_cells]; decide) | (rw [e1, e2, agEq_cells, agEq_cells]; rfl))
end

end Go.Proofs.Ytfamkbofdamkkaa
namespace Go.Proofs.Ytfamkbofdamkkaa
open Go.RowKit
set_option linter.unusedVariables false
set_option linter.unusedSimpArgs false
theorem pickW_rangeL (c : Int) {n : Int} (hn : 0 < n) (hc : okI c) : 0 ≤ pickW c n ∧ pickW c n < n := by
  unfold okI at hc
  unfold pickW
  split
  · rw [w64 (x := c + 1) (by omega), w64 (x := 0 - (c + 1)) (by omega)]
    exact ⟨Int.tmod_nonneg _ (by omega), Int.tmod_lt_of_pos _ hn⟩
  · exact ⟨Int.tmod_nonneg _ (by omega), Int.tmod_lt_of_pos _ hn⟩
/-- The step that Bent makes of a step. -/
def bentS (n : Nat) (z : List Int) (s : Sg) : Sg :=
  if pickW (z.getD 1 0) 9 = 0 then ⟨pickW (z.getD 2 0) 9 - 1, s.no, s.yes, s.ws⟩
  else if pickW (z.getD 1 0) 9 = 1 then ⟨s.var, pickW (z.getD 2 0) (n + 1), s.yes, s.ws⟩
  else if pickW (z.getD 1 0) 9 = 2 then ⟨s.var, s.no, pickW (z.getD 2 0) (n + 1), s.ws⟩
  else if pickW (z.getD 1 0) 9 = 3 then (if 0 < s.ws.length then ⟨s.var, s.no, s.yes, s.ws.set 0 ⟨pickW (z.getD 2 0) 9, (s.ws.getD 0 wt0).tm⟩⟩ else s)
  else if pickW (z.getD 1 0) 9 = 4 then (if 0 < s.ws.length then ⟨s.var, s.no, s.yes, s.ws.set 0 ⟨(s.ws.getD 0 wt0).rw, pickW (z.getD 2 0) 1003 - 1⟩⟩ else s)
  else if pickW (z.getD 1 0) 9 = 5 then ⟨s.var, s.no, s.yes, s.ws ++ [⟨pickW (z.getD 2 0) 10, 1 + pickW (z.getD 3 0) 5⟩]⟩
  else if pickW (z.getD 1 0) 9 = 7 then ⟨s.var, s.yes, s.no, s.ws⟩
  else s
def bentW (l : List Sg) (z : List Int) : List Sg :=
  if l.length = 0 then l
  else if pickW (z.getD 1 0) 9 = 6 then (l.set (pickW (z.getD 0 0) l.length).toNat (bentS l.length z (l.getD (pickW (z.getD 0 0) l.length).toNat sg0))).take (pickW (z.getD 2 0) l.length + 1).toNat
  else l.set (pickW (z.getD 0 0) l.length).toNat (bentS l.length z (l.getD (pickW (z.getD 0 0) l.length).toNat sg0))
theorem discV_valid (x : T3) : validA (discV x) = true := by
  unfold discV discA; split
  · exact cellsG_valid _
  · exact zeros_has.1
theorem targetL_valid (y : List Pl) : validA (targetL y) = true := by
  unfold targetL polyA; split
  · exact cellsG_valid _
  · exact zeros_has.1
theorem discsL_V (x : List T3) : allV (discsL x) := fun a ha => by
  obtain ⟨v, -, rfl⟩ := List.mem_map.1 ha; exact discV_valid v
theorem made_R (x : List T3) (y : List Pl) : validR (discsL x) (targetL y) = true := validR_iff.2 ⟨discsL_V x, by have := discsL_len x; omega, targetL_valid y⟩
theorem pick_pow (n : Int) (hn : okI n) (v : Nat) : ∃ u : Nat, pickW n ((2 ^ v : Nat) : Int) = u ∧ u < 2 ^ v := by
  have h := pickW_rangeL n (n := ((2 ^ v : Nat) : Int)) (by have := Nat.two_pow_pos v; omega) hn
  exact ⟨(pickW n ((2 ^ v : Nat) : Int)).toNat, by omega, by omega⟩
theorem pow_small {v u : Nat} (hv : v ≤ 12) (hu : u < 2 ^ v) : u < 65536 := by
  have : 2 ^ v ≤ 2 ^ 12 := Nat.pow_le_pow_right (by decide) hv
  omega
theorem keeps_cov {l : List (List Int)} (hl : okAs l) {t : List Int} (ht : t.length = 16) (hR : validR l t = true) {u : Nat} (hu : u < 2 ^ l.length) : keepsB (progR l t) u = withinA t (reachedL l u) := by
  have h12 := (validR_iff.1 hR).2.1
  rw [keeps_in (progR_valid h12 t) (v := l.length) rfl hu]
  exact covers_kept hl ht hR (pow_small h12 hu)
set_option maxRecDepth 100000
attribute [local go_sem] Nat.zero_add Nat.add_zero Nat.mul_one eq_self ne_eq not_true_eq_false not_false_eq_true decide_true decide_false decide_not Bool.false_eq_true List.filter_cons List.filter_nil true_and and_true beq_false beq_true Bool.not_true Bool.not_false Bool.and_true Bool.true_and Option.getD_some Option.getD_none imp_self implies_true Int.toNat_natCast List.cons_append List.nil_append List.map_cons List.map_nil List.length_cons List.length_nil List.getD_cons_zero List.getD_cons_succ List.drop_zero List.drop_succ_cons List.take_succ_cons List.take_zero
attribute [local go_sem] lowN lowQ lowM isAl appOwn unw shL isSh Option.isNone_none Option.isNone_some Option.isSome_none appF isE isO stpO notIn St.bare evO evDO isEff stp St.get St.slot St.put List.lookup un unL ofVal gof nth pickV pkB_false pkB_true binV unV loadV idxV fldV partV buildV fillV lenV sliV appV appR rowsV winV V.parts V.okp V.sc Mem.look_cons Mem.look_nil V.cl V.clL AObj.clo fzAll exps St.fz Mem.fz V.fz V.fzL AObj.fz shp AObj.shp csh AObj.csh rowM isSt isRpS isRd Option.isSome_some Bool.or_true Bool.true_or Bool.or_false Bool.false_or and_false false_and or_false false_or List.length_append forall_const imp_self arT_104 arT_121 arT_160 arT_161 arT_22 arT_23 arT_24 arT_25 arT_28 arT_29 arT_30 arT_40 arT_42 arT_52 arT_60 arT_65 arT_72 arT_73 arT_76 arT_9 arT_90 boolT_182 boolT_25 boolT_3 boolT_35 boolT_4 boolT_76 flatT_182 flatT_25 flatT_3 flatT_35 flatT_4 flatT_76 intT_133 intT_169 intT_171 intT_188 intT_3 intT_5 lay_104 lay_112 lay_138 lay_141 lay_153 lay_160 lay_161 lay_164 lay_188 lay_23 lay_24 lay_25 lay_27 lay_28 lay_3 lay_30 lay_34 lay_4 lay_49 lay_52 lay_54 lay_56 lay_65 lay_67 lay_73 lay_76 lay_90 lay_99 mapT_112 okF_10 okF_100 okF_101 okF_102 okF_103 okF_104 okF_105 okF_106 okF_107 okF_108 okF_109 okF_11 okF_110 okF_111 okF_112 okF_113 okF_114 okF_115 okF_116 okF_117 okF_118 okF_119 okF_12 okF_120 okF_121 okF_122 okF_123 okF_124 okF_125 okF_126 okF_127 okF_128 okF_129 okF_13 okF_130 okF_131 okF_132 okF_133 okF_134 okF_135 okF_136 okF_137 okF_138 okF_139 okF_14 okF_140 okF_141 okF_142 okF_143 okF_144 okF_145 okF_146 okF_147 okF_148 okF_149 okF_15 okF_150 okF_151 okF_152 okF_153 okF_154 okF_155 okF_156 okF_157 okF_158 okF_159 okF_16 okF_160 okF_161 okF_162 okF_163 okF_164 okF_165 okF_166 okF_167 okF_168 okF_169 okF_17 okF_170 okF_171 okF_172 okF_173 okF_174 okF_175 okF_176 okF_177 okF_18 okF_19 okF_20 okF_21 okF_22 okF_23 okF_24 okF_25 okF_26 okF_27 okF_28 okF_29 okF_3 okF_30 okF_31 okF_32 okF_33 okF_34 okF_35 okF_36 okF_37 okF_38 okF_39 okF_4 okF_40 okF_41 okF_42 okF_43 okF_44 okF_45 okF_46 okF_47 okF_48 okF_49 okF_5 okF_50 okF_51 okF_52 okF_53 okF_54 okF_55 okF_56 okF_57 okF_58 okF_59 okF_6 okF_60 okF_61 okF_62 okF_63 okF_64 okF_65 okF_66 okF_67 okF_68 okF_69 okF_7 okF_70 okF_71 okF_72 okF_73 okF_74 okF_75 okF_76 okF_77 okF_78 okF_79 okF_8 okF_80 okF_81 okF_82 okF_83 okF_84 okF_85 okF_86 okF_87 okF_88 okF_89 okF_9 okF_90 okF_91 okF_92 okF_93 okF_94 okF_95 okF_96 okF_97 okF_98 okF_99 plT_138 plT_153 plT_157 plT_161 plT_27 plT_34 plT_54 plT_56 plT_67 plT_76 plT_90 plT_99 slT_104 slT_121 slT_160 slT_161 slT_22 slT_23 slT_24 slT_25 slT_28 slT_29 slT_30 slT_40 slT_42 slT_52 slT_60 slT_65 slT_72 slT_73 slT_76 slT_90 stT_138_0 stT_138_1 stT_153_0 stT_157_0 stT_157_1 stT_157_2 stT_157_3 stT_27_0 stT_27_1 stT_27_2 stT_34_0 stT_34_1 stT_34_2 stT_34_3 stT_54_0 stT_54_1 stT_54_2 stT_54_3 stT_56_0 stT_56_1 stT_67_1 stT_67_4 stT_67_5 stT_99_0 stT_99_1 strT_160 strT_76 strT_9 zeroT_112 zeroT_138 zeroT_153 zeroT_157 zeroT_160 zeroT_161 zeroT_188 zeroT_27 zeroT_3 zeroT_30 zeroT_34 zeroT_4 zeroT_49 zeroT_54 zeroT_56 zeroT_65 zeroT_67 zeroT_76 zeroT_90 zeroT_99
attribute [local go_sem] cellsI_fzL cellsI_uptoL List.getElem?_cons_zero List.getElem?_cons_succ List.zip_cons_cons List.zip_nil_left List.zip_nil_right Bool.false_and Bool.and_false cellsG_length polyA_length discA_length agEq_cells cellsI_isI cellsI_length cellsI_sc cellsI_cl cellsI_rows cellsI_take cellsI_dropD cellsI_set cellsI_full encI_length encI_getD List.length_set List.length_replicate List.all_cons List.all_nil outA_length eachA_length outM_length getD_set_same List.set_set spl_nil0 spl_cons0 spl_succ encP_length encP_getD
attribute [local simp] encP_length padP_length encI_length
attribute [local go_sem] encR_length encR_getD encRw encPg lookV encI_length encI_getD
attribute [local simp] encA_length encR_length cellsI_length
theorem k44 (c n : Int) (hn : 0 < n) : CallsA Try.prog 44 [.int .i64 c, .int .i64 n] (.int .i64 (pickW c n)) := by
 have hq : True := trivial
 refine callsA_of_tr Try.func44 rfl (Nat.le_of_ble_eq_true rfl) ?_
 simp only [Try.results44, envOf, Nat.reduceAdd]
 refine tr_seq fun K1 hK1 => ?_
 refine tr_region [0, 1] rfl rfl fun K hK => ?_
 refine evR_p ?_
 refine evR_e hK ?_; clear hK K
 refine hK1 _ ?_
 refine tr_seq fun K2 hK2 => ?_
 refine tr_seq fun K3 hK3 => ?_
 refine tr_region [0, 1, 6] rfl rfl fun K hK => ?_
 iterate 2 refine evR_p ?_
 refine evR_e hK ?_; clear hK K
 refine hK3 _ ?_
 refine tr_condB (fun ht1 => ?_) (fun ht1 => ?_)
 ·
  skip
  refine tr_region [0, 1] rfl rfl fun K hK => ?_
  iterate 4 refine evR_p ?_
  refine evR_e hK ?_; clear hK K
  refine hK2 _ ?_
  refine tr_seq fun K4 hK4 => ?_
  refine tr_region [4] rfl rfl fun K hK => ?_
  iterate 4 refine evR_p ?_
  refine evR_e hK ?_; clear hK K
  refine hK4 _ ?_
  refine tr_ret ?_
  (try simp only [thenE, inBlkE])
  simp (maxSteps := 4000000) (disch := first | assumption | omega | (simp only [go_sem, *]; done) | (simp only [go_sem, *]; omega)) only [postA, postO, resV1, fzAll, go_sem, hq, Int.reduceToNat, Nat.reduceBEq, Nat.reduceEqDiff, Nat.reduceAdd, Nat.reduceMul, Nat.reduceLeDiff, Nat.reduceLT, Nat.reduceSub, ↓reduceIte, reduceCtorEq]
  all_goals (simp [pickW, *])
 ·
  skip
  refine tr_skip ?_
  (try simp only [thenE, inBlkE])
  refine hK2 _ ?_
  refine tr_seq fun K5 hK5 => ?_
  refine tr_region [4] rfl rfl fun K hK => ?_
  iterate 4 refine evR_p ?_
  refine evR_e hK ?_; clear hK K
  refine hK5 _ ?_
  refine tr_ret ?_
  (try simp only [thenE, inBlkE])
  simp (maxSteps := 4000000) (disch := first | assumption | omega | (simp only [go_sem, *]; done) | (simp only [go_sem, *]; omega)) only [postA, postO, resV1, fzAll, go_sem, hq, Int.reduceToNat, Nat.reduceBEq, Nat.reduceEqDiff, Nat.reduceAdd, Nat.reduceMul, Nat.reduceLeDiff, Nat.reduceLT, Nat.reduceSub, ↓reduceIte, reduceCtorEq]
  all_goals (simp [pickW, *])

section
attribute [local go_sem] encA_length encA_getD
theorem k45 (l : List (List Int)) (hl : okAs l) (t : List Int) (ht : t.length = 16) (hl12 : l.length ≤ 12) (hv0 : validR l zeros16 = true) (set : Int) (h0 : 0 ≤ set) (h1 : set < ((2 ^ l.length : Nat) : Int)) : CallsA Try.prog 45 [.sl 16 (encA l), .agg (cellsI t), .int .i64 set] (.bool (withinA t (reachedL l set))) := by
 have hlm := hl.1
 unfold maxLen at hlm
 have hrl : (reachedL l set).length = 16 := unionT_len (chosenT_ok hl set l.length (Nat.le_refl _)) _ (Nat.le_refl _)
 have hml : (minusA t (reachedL l set)).length = 16 := minusA_len ht hrl
 have hrf := cellsI_full (reachedL l set) (cellsI (List.replicate 16 0)) (by rw [cellsI_length, hrl]; rfl)
 have hrk : List.take 16 (cellsI (reachedL l set)) = cellsI (reachedL l set) := List.take_of_length_le (by rw [cellsI_length, hrl]; decide)
 have hq := And.intro ht (And.intro hrl (And.intro hrf (hrk)))
 refine callsA_of_tr Try.func45 rfl (Nat.le_of_ble_eq_true rfl) ?_
 simp only [Try.results45, envOf, Nat.reduceAdd]
 refine tr_seq fun K1 hK1 => ?_
 refine tr_region [0, 2, 4] rfl rfl fun K hK => ?_
 iterate 2 refine evR_p ?_
 refine evR_e hK ?_; clear hK K
 refine hK1 _ ?_
 refine tr_seq fun K2 hK2 => ?_
 refine tr_region [4, 7, 8] rfl rfl fun K hK => ?_
 iterate 2 refine evR_p ?_
 refine evR_c (hc := (k53 l hl hl12 set hv0 h0 h1)) (k := ?_)
 iterate 6 refine evR_p ?_
 refine evR_e hK ?_; clear hK K
 refine hK2 _ ?_
 refine tr_seq fun K3 hK3 => ?_
 refine tr_region [6] rfl rfl fun K hK => ?_
 iterate 3 refine evR_p ?_
 iterate 2 refine evR_g ?_
 refine evR_gc (hc := (ca23 t (reachedL l set) ht hrl)) (k := ?_)
 iterate 2 refine evR_p ?_
 refine evR_e hK ?_; clear hK K
 refine hK3 _ ?_
 refine tr_ret ?_
 (try simp only [thenE, inBlkE])
 simp (maxSteps := 4000000) (disch := first | assumption | omega | (simp only [go_sem, *]; done) | (simp only [go_sem, *]; omega)) only [postA, postO, resV1, fzAll, go_sem, hq, Int.reduceToNat, Nat.reduceBEq, Nat.reduceEqDiff, Nat.reduceAdd, Nat.reduceMul, Nat.reduceLeDiff, Nat.reduceLT, Nat.reduceSub, ↓reduceIte, reduceCtorEq]
 all_goals (rfl)
end

section
attribute [local go_sem] encA_length encA_getD encPg
set_option maxHeartbeats 8000000 in
theorem k13 (x : List T3) (y : List Pl) (hx : x.length ≤ maxLen) (hy : y.length ≤ maxLen) (n : Int) (hn : okI n) : CallsA Try.prog 13 [.sl 3 (encT x), .sl 2 (encP y), .int .i64 n] (.bool true) := by
 obtain ⟨l, hL⟩ : ∃ l, discsL x = l := ⟨_, rfl⟩
 obtain ⟨t, hT⟩ : ∃ t, targetL y = t := ⟨_, rfl⟩
 have hl : okAs l := hL ▸ discsL_ok x
 have h7 : l.length ≤ 7 := hL ▸ discsL_len x
 have ht : t.length = 16 := hT ▸ targetL_len y
 have hR : validR l t = true := hL ▸ hT ▸ made_R x y
 have hR0 := valid0 hR
 have hvM := progR_valid (show l.length ≤ 12 by omega) t
 have c40 : CallsA Try.prog 40 [.sl 3 (encT x)] (.sl 16 (encA l)) := hL ▸ k40 x hx
 have c41 : CallsA Try.prog 41 [.sl 2 (encP y)] (.agg (cellsI t)) := hT ▸ k41 y hy
 have hsh : shlW .i64 1 (l.length : Nat) = ((2 ^ l.length : Nat) : Int) := shl1 (by omega)
 have htf := cellsI_full t (cellsI (List.replicate 16 0)) (by rw [cellsI_length, ht]; rfl)
 have htk : List.take 16 (cellsI t) = cellsI t := List.take_of_length_le (by rw [cellsI_length, ht]; decide)
 obtain ⟨u, hu1, hu2⟩ := pick_pow n hn l.length
 have hpp : (0 : Int) < ((2 ^ l.length : Nat) : Int) := by have := Nat.two_pow_pos l.length; omega
 have c44 : CallsA Try.prog 44 [.int .i64 n, .int .i64 ((2 ^ l.length : Nat) : Int)] (.int .i64 (u : Nat)) := hu1 ▸ k44 n _ hpp
 have k45u := k45 l hl t ht (by omega) hR0 (u : Nat) (by omega) (by omega)
 have kc := keeps_cov hl ht hR hu2
 have c50 := c20 (progR l t) (okPr_valid hvM).r (okPr_valid hvM).g (okPr_valid hvM).c
 rw [hvM] at c50
 have c51 := c22 (progR l t) (okPr_valid hvM).r (okPr_valid hvM).g (okPr_valid hvM).c (u : Nat)
 rw [kc] at c51
 have hq := And.intro ht (And.intro hsh (And.intro htf (htk)))
 refine callsA_of_tr Try.func13 rfl (Nat.le_of_ble_eq_true rfl) ?_
 simp only [Try.results13, envOf, Nat.reduceAdd]
 refine tr_seq fun K1 hK1 => ?_
 refine tr_region [0, 1, 2] rfl rfl fun K hK => ?_
 refine evR_p ?_
 refine evR_e hK ?_; clear hK K
 refine hK1 _ ?_
 refine tr_seq fun K2 hK2 => ?_
 refine tr_seq fun K3 hK3 => ?_
 refine tr_region [0, 1, 2, 13] rfl rfl fun K hK => ?_
 refine evR_c (hc := k39) (k := ?_)
 refine evR_p ?_
 refine evR_e hK ?_; clear hK K
 refine hK3 _ ?_
 refine tr_condB (fun ht1 => ?_) (fun ht1 => ?_)
 ·
  skip
  (first | (exfalso; omega) | (exfalso; simp_all; done) | skip)
  all_goals
   refine tr_seq fun K4 hK4 => ?_
   refine tr_region [6] rfl rfl fun K hK => ?_
   refine evR_p ?_
   refine evR_e hK ?_; clear hK K
   refine hK4 _ ?_
   refine tr_ret ?_
   (try simp only [thenE, inBlkE])
   simp (maxSteps := 4000000) (disch := first | assumption | omega | (simp only [go_sem, *]; done) | (simp only [go_sem, *]; omega)) only [postA, postO, resV1, fzAll, go_sem, hq, Int.reduceToNat, Nat.reduceBEq, Nat.reduceEqDiff, Nat.reduceAdd, Nat.reduceMul, Nat.reduceLeDiff, Nat.reduceLT, Nat.reduceSub, ↓reduceIte, reduceCtorEq]
   all_goals (first | rfl | simp)
 ·
  skip
  (first | (exfalso; omega) | (exfalso; simp_all; done) | skip)
  all_goals
   refine tr_skip ?_
   (try simp only [thenE, inBlkE])
   refine hK2 _ ?_
   refine tr_seq fun K5 hK5 => ?_
   refine tr_region [1, 2, 7] rfl rfl fun K hK => ?_
   refine evR_p ?_
   refine evR_c (hc := c40) (k := ?_)
   refine evR_p ?_
   refine evR_e hK ?_; clear hK K
   refine hK5 _ ?_
   refine tr_seq fun K6 hK6 => ?_
   refine tr_region [2, 7, 8] rfl rfl fun K hK => ?_
   refine evR_p ?_
   refine evR_c (hc := c41) (k := ?_)
   iterate 2 refine evR_p ?_
   refine evR_e hK ?_; clear hK K
   refine hK6 _ ?_
   refine tr_seq fun K7 hK7 => ?_
   refine tr_region [7, 8, 9] rfl rfl fun K hK => ?_
   iterate 4 refine evR_p ?_
   refine evR_c (hc := c44) (k := ?_)
   refine evR_p ?_
   refine evR_e hK ?_; clear hK K
   refine hK7 _ ?_
   refine tr_seq fun K8 hK8 => ?_
   refine tr_region [7, 8, 9, 10, 11] rfl rfl fun K hK => ?_
   iterate 2 refine evR_p ?_
   refine evR_c (hc := (k49 l hl t ht hR)) (k := ?_)
   iterate 6 refine evR_p ?_
   refine evR_e hK ?_; clear hK K
   refine hK8 _ ?_
   refine tr_seq fun K9 hK9 => ?_
   refine tr_draw [] [6] mixed rfl (by kernel_rfl) rfl fun K hK => ?_
   iterate 3 refine evD_p ?_
   refine evD_g ?_
   refine evD_gc (hc := c50) (k := ?_)
   iterate 2 refine evD_p ?_
   iterate 2 refine evD_g ?_
   refine evD_gc (hc := c51) (k := ?_)
   iterate 3 refine evD_g ?_
   refine evD_gc (hc := k45u) (k := ?_)
   refine evD_g ?_
   iterate 2 refine evD_p ?_
   refine evD_e hK ?_; clear hK K
   refine hK9 _ ?_
   refine tr_ret ?_
   (try simp only [thenE, inBlkE])
   simp (maxSteps := 4000000) (disch := first | assumption | omega | (simp only [go_sem, *]; done) | (simp only [go_sem, *]; omega)) only [postA, postO, resV1, fzAll, go_sem, hq, Int.reduceToNat, Nat.reduceBEq, Nat.reduceEqDiff, Nat.reduceAdd, Nat.reduceMul, Nat.reduceLeDiff, Nat.reduceLT, Nat.reduceSub, ↓reduceIte, reduceCtorEq]
   all_goals (first | rfl | simp)
end

end Go.Proofs.Ytfamkbofdamkkaa
namespace Go.Proofs.Ytfamkbofdamkkaa
open Go.RowKit
set_option linter.unusedVariables false
set_option linter.unusedSimpArgs false
theorem many_sum {v : Nat} {s : Nat} : ∀ n, n ≤ v → n < 64 → sumG (List.replicate v (-1)) s n = -manyR s n
  | 0, _, _ => by simp [sumG, manyR]
  | n + 1, h, h2 => by
    have ih := many_sum (v := v) (s := s) n (by omega) (by omega)
    have e : (List.replicate v (-1 : Int)).getD n 0 = -1 := by simp [List.getD, List.getElem?_replicate, show n < v by omega]
    simp only [sumG, manyR, e, ih, rem_bit (s := s) (n := n) (by omega)]
    split <;> omega
theorem many_top {s v : Nat} (hs : s < 2 ^ v) : ∀ n, v ≤ n → n < 64 → manyR s n = manyR s v
  | 0, h, _ => by have : v = 0 := by omega
                  subst this; rfl
  | n + 1, h, h2 => by
    by_cases e : v = n + 1
    · subst e; rfl
    · have ih := many_top hs n (by omega) (by omega)
      have hb : s.testBit n = false := Nat.testBit_lt_two_pow (Nat.lt_of_lt_of_le hs (Nat.pow_le_pow_right (by decide) (by omega)))
      simp only [manyR, ih, rem_bit (s := s) (n := n) (by omega), hb]; simp
theorem gain_many {l : List (List Int)} (h12 : l.length ≤ 12) (t : List Int) {s : Nat} (hs : s < 2 ^ l.length) : sumG (progR l t).gain s l.length = -manyR s 12 := by
  rw [show (progR l t).gain = List.replicate l.length (-1) from rfl, many_sum l.length (Nat.le_refl _) (by omega), many_top hs 12 h12 (by omega)]
theorem least_no {l : List (List Int)} (hl : okAs l) {t : List Int} (ht : t.length = 16) (hR : validR l t = true) (hf : (solveB (progR l t)).1 = false) {u : Nat} (hu : u < 2 ^ l.length) : withinA t (reachedL l u) = false := by
  have h12 := (validR_iff.1 hR).2.1
  cases h : withinA t (reachedL l u) with
  | false => rfl
  | true =>
    rw [← covers_kept hl ht hR (pow_small h12 hu)] at h
    have := (solve_kept (progR_valid h12 t) (v := l.length) rfl hu h).1
    rw [hf] at this; cases this
theorem least_yes {l : List (List Int)} (hl : okAs l) {t : List Int} (ht : t.length = 16) (hR : validR l t = true) (hf : (solveB (progR l t)).1 = true) :
    ∃ w : Nat, (solveB (progR l t)).2.1 = w ∧ w < 2 ^ l.length ∧ withinA t (reachedL l w) = true ∧ (solveB (progR l t)).2.2 = -manyR w 12 ∧
      ∀ u : Nat, u < 2 ^ l.length → withinA t (reachedL l u) = true → manyR w 12 < manyR u 12 ∨ manyR u 12 = manyR w 12 ∧ w ≤ u := by
  have h12 := (validR_iff.1 hR).2.1
  have hv := progR_valid h12 t
  obtain ⟨w, h1, h2, h3⟩ := solveB_mem hf
  have h2' : w < 2 ^ l.length := by
    have e : (progR l t).vars.toNat = l.length := Int.toNat_natCast _
    rw [e] at h2; exact h2
  have hk := solve_kept hv (v := l.length) rfl h2' h3
  have hg := gain_many h12 t h2'
  refine ⟨w, h1, h2', by rw [← covers_kept hl ht hR (pow_small h12 h2')]; exact h3, by rw [← hk.2.2.2 h1.symm]; exact hg, fun u hu hc => ?_⟩
  rw [← covers_kept hl ht hR (pow_small h12 hu)] at hc
  have hku := solve_kept hv (v := l.length) rfl hu hc
  have hgu := gain_many h12 t hu
  have e := hk.2.2.2 h1.symm
  by_cases he : manyR u 12 = manyR w 12
  · right
    refine ⟨he, ?_⟩
    have := hku.2.2.1 (by omega)
    omega
  · left
    have := hku.2.1
    omega
set_option maxRecDepth 100000
attribute [local go_sem] Nat.zero_add Nat.add_zero Nat.mul_one eq_self ne_eq not_true_eq_false not_false_eq_true decide_true decide_false decide_not Bool.false_eq_true List.filter_cons List.filter_nil true_and and_true beq_false beq_true Bool.not_true Bool.not_false Bool.and_true Bool.true_and Option.getD_some Option.getD_none imp_self implies_true Int.toNat_natCast List.cons_append List.nil_append List.map_cons List.map_nil List.length_cons List.length_nil List.getD_cons_zero List.getD_cons_succ List.drop_zero List.drop_succ_cons List.take_succ_cons List.take_zero
attribute [local go_sem] lowN lowQ lowM isAl appOwn unw shL isSh Option.isNone_none Option.isNone_some Option.isSome_none appF isE isO stpO notIn St.bare evO evDO isEff stp St.get St.slot St.put List.lookup un unL ofVal gof nth pickV pkB_false pkB_true binV unV loadV idxV fldV partV buildV fillV lenV sliV appV appR rowsV winV V.parts V.okp V.sc Mem.look_cons Mem.look_nil V.cl V.clL AObj.clo fzAll exps St.fz Mem.fz V.fz V.fzL AObj.fz shp AObj.shp csh AObj.csh rowM isSt isRpS isRd Option.isSome_some Bool.or_true Bool.true_or Bool.or_false Bool.false_or and_false false_and or_false false_or List.length_append forall_const imp_self arT_104 arT_121 arT_160 arT_161 arT_22 arT_23 arT_24 arT_25 arT_28 arT_29 arT_30 arT_40 arT_42 arT_52 arT_60 arT_65 arT_72 arT_73 arT_76 arT_9 arT_90 boolT_182 boolT_25 boolT_3 boolT_35 boolT_4 boolT_76 flatT_182 flatT_25 flatT_3 flatT_35 flatT_4 flatT_76 intT_133 intT_169 intT_171 intT_188 intT_3 intT_5 lay_104 lay_112 lay_138 lay_141 lay_153 lay_160 lay_161 lay_164 lay_188 lay_23 lay_24 lay_25 lay_27 lay_28 lay_3 lay_30 lay_34 lay_4 lay_49 lay_52 lay_54 lay_56 lay_65 lay_67 lay_73 lay_76 lay_90 lay_99 mapT_112 okF_10 okF_100 okF_101 okF_102 okF_103 okF_104 okF_105 okF_106 okF_107 okF_108 okF_109 okF_11 okF_110 okF_111 okF_112 okF_113 okF_114 okF_115 okF_116 okF_117 okF_118 okF_119 okF_12 okF_120 okF_121 okF_122 okF_123 okF_124 okF_125 okF_126 okF_127 okF_128 okF_129 okF_13 okF_130 okF_131 okF_132 okF_133 okF_134 okF_135 okF_136 okF_137 okF_138 okF_139 okF_14 okF_140 okF_141 okF_142 okF_143 okF_144 okF_145 okF_146 okF_147 okF_148 okF_149 okF_15 okF_150 okF_151 okF_152 okF_153 okF_154 okF_155 okF_156 okF_157 okF_158 okF_159 okF_16 okF_160 okF_161 okF_162 okF_163 okF_164 okF_165 okF_166 okF_167 okF_168 okF_169 okF_17 okF_170 okF_171 okF_172 okF_173 okF_174 okF_175 okF_176 okF_177 okF_18 okF_19 okF_20 okF_21 okF_22 okF_23 okF_24 okF_25 okF_26 okF_27 okF_28 okF_29 okF_3 okF_30 okF_31 okF_32 okF_33 okF_34 okF_35 okF_36 okF_37 okF_38 okF_39 okF_4 okF_40 okF_41 okF_42 okF_43 okF_44 okF_45 okF_46 okF_47 okF_48 okF_49 okF_5 okF_50 okF_51 okF_52 okF_53 okF_54 okF_55 okF_56 okF_57 okF_58 okF_59 okF_6 okF_60 okF_61 okF_62 okF_63 okF_64 okF_65 okF_66 okF_67 okF_68 okF_69 okF_7 okF_70 okF_71 okF_72 okF_73 okF_74 okF_75 okF_76 okF_77 okF_78 okF_79 okF_8 okF_80 okF_81 okF_82 okF_83 okF_84 okF_85 okF_86 okF_87 okF_88 okF_89 okF_9 okF_90 okF_91 okF_92 okF_93 okF_94 okF_95 okF_96 okF_97 okF_98 okF_99 plT_138 plT_153 plT_157 plT_161 plT_27 plT_34 plT_54 plT_56 plT_67 plT_76 plT_90 plT_99 slT_104 slT_121 slT_160 slT_161 slT_22 slT_23 slT_24 slT_25 slT_28 slT_29 slT_30 slT_40 slT_42 slT_52 slT_60 slT_65 slT_72 slT_73 slT_76 slT_90 stT_138_0 stT_138_1 stT_153_0 stT_157_0 stT_157_1 stT_157_2 stT_157_3 stT_27_0 stT_27_1 stT_27_2 stT_34_0 stT_34_1 stT_34_2 stT_34_3 stT_54_0 stT_54_1 stT_54_2 stT_54_3 stT_56_0 stT_56_1 stT_67_1 stT_67_4 stT_67_5 stT_99_0 stT_99_1 strT_160 strT_76 strT_9 zeroT_112 zeroT_138 zeroT_153 zeroT_157 zeroT_160 zeroT_161 zeroT_188 zeroT_27 zeroT_3 zeroT_30 zeroT_34 zeroT_4 zeroT_49 zeroT_54 zeroT_56 zeroT_65 zeroT_67 zeroT_76 zeroT_90 zeroT_99
attribute [local go_sem] cellsI_fzL cellsI_uptoL List.getElem?_cons_zero List.getElem?_cons_succ List.zip_cons_cons List.zip_nil_left List.zip_nil_right Bool.false_and Bool.and_false cellsG_length polyA_length discA_length agEq_cells cellsI_isI cellsI_length cellsI_sc cellsI_cl cellsI_rows cellsI_take cellsI_dropD cellsI_set cellsI_full encI_length encI_getD List.length_set List.length_replicate List.all_cons List.all_nil outA_length eachA_length outM_length getD_set_same List.set_set spl_nil0 spl_cons0 spl_succ encP_length encP_getD
attribute [local simp] encP_length padP_length encI_length
attribute [local go_sem] encR_length encR_getD encRw encPg lookV encI_length encI_getD
attribute [local simp] encA_length encR_length cellsI_length
section
attribute [local go_sem] encA_length encA_getD
set_option maxHeartbeats 8000000 in
theorem k10n (x : List T3) (y : List Pl) (hx : x.length ≤ maxLen) (hy : y.length ≤ maxLen) (n : Int) (hn : okI n) (hf : (solveB (progR (discsL x) (targetL y))).1 = false) : CallsA Try.prog 10 [.sl 3 (encT x), .sl 2 (encP y), .int .i64 n] (.bool true) := by
 obtain ⟨l, hL⟩ : ∃ l, discsL x = l := ⟨_, rfl⟩
 obtain ⟨t, hT⟩ : ∃ t, targetL y = t := ⟨_, rfl⟩
 have hl : okAs l := hL ▸ discsL_ok x
 have h7 : l.length ≤ 7 := hL ▸ discsL_len x
 have ht : t.length = 16 := hT ▸ targetL_len y
 have hR : validR l t = true := hL ▸ hT ▸ made_R x y
 have hR0 := valid0 hR
 have hvM := progR_valid (show l.length ≤ 12 by omega) t
 have c40 : CallsA Try.prog 40 [.sl 3 (encT x)] (.sl 16 (encA l)) := hL ▸ k40 x hx
 have c41 : CallsA Try.prog 41 [.sl 2 (encP y)] (.agg (cellsI t)) := hT ▸ k41 y hy
 have hsh : shlW .i64 1 (l.length : Nat) = ((2 ^ l.length : Nat) : Int) := shl1 (by omega)
 have htf := cellsI_full t (cellsI (List.replicate 16 0)) (by rw [cellsI_length, ht]; rfl)
 have htk : List.take 16 (cellsI t) = cellsI t := List.take_of_length_le (by rw [cellsI_length, ht]; decide)
 obtain ⟨u, hu1, hu2⟩ := pick_pow n hn l.length
 have hpp : (0 : Int) < ((2 ^ l.length : Nat) : Int) := by have := Nat.two_pow_pos l.length; omega
 have c44 : CallsA Try.prog 44 [.int .i64 n, .int .i64 ((2 ^ l.length : Nat) : Int)] (.int .i64 (u : Nat)) := hu1 ▸ k44 n _ hpp
 have k45u := k45 l hl t ht (by omega) hR0 (u : Nat) (by omega) (by omega)
 have hp1 : IntKind.i64.wrap (((2 ^ l.length : Nat) : Int) - 1) = ((2 ^ l.length : Nat) : Int) - 1 := w64 (by have : 2 ^ l.length ≤ 2 ^ 12 := Nat.pow_le_pow_right (by decide) (by omega); omega)
 have hpn : ((2 ^ l.length : Nat) : Int) - 1 = ((2 ^ l.length - 1 : Nat) : Int) := by have := Nat.two_pow_pos l.length; omega
 have hpl : 2 ^ l.length - 1 < 2 ^ l.length := by have := Nat.two_pow_pos l.length; omega
 rw [hL, hT] at hf
 have c43 := kLeast hl ht hR
 obtain ⟨e1, e2⟩ := (solve_set hvM (v := l.length) rfl).2 hf
 unfold encSol2 at c43
 rw [← solveW_f, ← solveW_s, ← solveW_g, hf, e1, e2] at c43
 obtain ⟨P, hP⟩ : ∃ P, prfS (progR l t) = P := ⟨_, rfl⟩
 rw [hP] at c43
 rw [least_no hl ht hR hf hu2] at k45u
 have k45p := k45 l hl t ht (by omega) hR0 ((2 ^ l.length - 1 : Nat) : Int) (by omega) (by omega)
 rw [least_no hl ht hR hf hpl, ← hpn] at k45p
 have hq := And.intro ht (And.intro hsh (And.intro htf (And.intro htk (hp1))))
 refine callsA_of_tr Try.func10 rfl (Nat.le_of_ble_eq_true rfl) ?_
 simp only [Try.results10, envOf, Nat.reduceAdd]
 refine tr_seq fun K1 hK1 => ?_
 refine tr_region [0, 1, 2] rfl rfl fun K hK => ?_
 refine evR_p ?_
 refine evR_e hK ?_; clear hK K
 refine hK1 _ ?_
 refine tr_seq fun K2 hK2 => ?_
 refine tr_seq fun K3 hK3 => ?_
 refine tr_region [0, 1, 2, 13] rfl rfl fun K hK => ?_
 refine evR_c (hc := k39) (k := ?_)
 refine evR_p ?_
 refine evR_e hK ?_; clear hK K
 refine hK3 _ ?_
 refine tr_condB (fun ht1 => ?_) (fun ht1 => ?_)
 ·
  skip
  (first | (exfalso; omega) | (exfalso; simp_all; done) | skip)
  all_goals
   refine tr_seq fun K4 hK4 => ?_
   refine tr_region [6] rfl rfl fun K hK => ?_
   refine evR_p ?_
   refine evR_e hK ?_; clear hK K
   refine hK4 _ ?_
   refine tr_ret ?_
   (try simp only [thenE, inBlkE])
   simp (maxSteps := 4000000) (disch := first | assumption | omega | (simp only [go_sem, *]; done) | (simp only [go_sem, *]; omega)) only [postA, postO, resV1, fzAll, go_sem, hq, Int.reduceToNat, Nat.reduceBEq, Nat.reduceEqDiff, Nat.reduceAdd, Nat.reduceMul, Nat.reduceLeDiff, Nat.reduceLT, Nat.reduceSub, ↓reduceIte, reduceCtorEq]
   all_goals (rfl)
 ·
  skip
  (first | (exfalso; omega) | (exfalso; simp_all; done) | skip)
  all_goals
   refine tr_skip ?_
   (try simp only [thenE, inBlkE])
   refine hK2 _ ?_
   refine tr_seq fun K5 hK5 => ?_
   refine tr_region [1, 2, 7] rfl rfl fun K hK => ?_
   refine evR_p ?_
   refine evR_c (hc := c40) (k := ?_)
   refine evR_p ?_
   refine evR_e hK ?_; clear hK K
   refine hK5 _ ?_
   refine tr_seq fun K6 hK6 => ?_
   refine tr_region [2, 7, 8] rfl rfl fun K hK => ?_
   refine evR_p ?_
   refine evR_c (hc := c41) (k := ?_)
   iterate 2 refine evR_p ?_
   refine evR_e hK ?_; clear hK K
   refine hK6 _ ?_
   refine tr_seq fun K7 hK7 => ?_
   refine tr_region [2, 7, 8, 9, 10] rfl rfl fun K hK => ?_
   iterate 2 refine evR_p ?_
   refine evR_c (hc := c43) (k := ?_)
   iterate 6 refine evR_p ?_
   refine evR_e hK ?_; clear hK K
   refine hK7 _ ?_
   refine tr_seq fun K8 hK8 => ?_
   refine tr_region [7, 8, 9, 10, 11] rfl rfl fun K hK => ?_
   iterate 4 refine evR_p ?_
   refine evR_c (hc := c44) (k := ?_)
   refine evR_p ?_
   refine evR_e hK ?_; clear hK K
   refine hK8 _ ?_
   refine tr_seq fun K9 hK9 => ?_
   refine tr_seq fun K10 hK10 => ?_
   refine tr_region [7, 8, 9, 11, 30] rfl rfl fun K hK => ?_
   iterate 2 refine evR_p ?_
   refine evR_e hK ?_; clear hK K
   refine hK10 _ ?_
   refine tr_condB (fun ht2 => ?_) (fun ht2 => ?_)
   ·
    skip
    (first | (exfalso; omega) | (exfalso; simp_all; done) | skip)
    all_goals
     refine tr_seq fun K11 hK11 => ?_
     refine tr_region [6] rfl rfl fun K hK => ?_
     refine evR_p ?_
     refine evR_e hK ?_; clear hK K
     refine hK11 _ ?_
     refine tr_ret ?_
     (try simp only [thenE, inBlkE])
     simp (maxSteps := 4000000) (disch := first | assumption | omega | (simp only [go_sem, *]; done) | (simp only [go_sem, *]; omega)) only [postA, postO, resV1, fzAll, go_sem, hq, Int.reduceToNat, Nat.reduceBEq, Nat.reduceEqDiff, Nat.reduceAdd, Nat.reduceMul, Nat.reduceLeDiff, Nat.reduceLT, Nat.reduceSub, ↓reduceIte, reduceCtorEq]
     all_goals (rfl)
   ·
    skip
    (first | (exfalso; omega) | (exfalso; simp_all; done) | skip)
    all_goals
     refine tr_skip ?_
     (try simp only [thenE, inBlkE])
     refine hK9 _ ?_
     refine tr_seq fun K12 hK12 => ?_
     refine tr_seq fun K13 hK13 => ?_
     refine tr_region [7, 8, 9, 11, 33] rfl rfl fun K hK => ?_
     iterate 3 refine evR_p ?_
     refine evR_e hK ?_; clear hK K
     refine hK13 _ ?_
     refine tr_condB (fun ht3 => ?_) (fun ht3 => ?_)
     ·
      skip
      (first | (exfalso; omega) | (exfalso; simp_all; done) | skip)
      all_goals
       refine tr_seq fun K14 hK14 => ?_
       refine tr_draw [] [6] mixed rfl (by kernel_rfl) rfl fun K hK => ?_
       iterate 3 refine evD_p ?_
       refine evD_c (hc := k45u) (k := ?_)
       iterate 2 refine evD_p ?_
       iterate 6 refine evD_g ?_
       refine evD_gc (hc := k45p) (k := ?_)
       refine evD_g ?_
       iterate 2 refine evD_p ?_
       refine evD_e hK ?_; clear hK K
       refine hK14 _ ?_
       refine tr_ret ?_
       (try simp only [thenE, inBlkE])
       simp (maxSteps := 4000000) (disch := first | assumption | omega | (simp only [go_sem, *]; done) | (simp only [go_sem, *]; omega)) only [postA, postO, resV1, fzAll, go_sem, hq, Int.reduceToNat, Nat.reduceBEq, Nat.reduceEqDiff, Nat.reduceAdd, Nat.reduceMul, Nat.reduceLeDiff, Nat.reduceLT, Nat.reduceSub, ↓reduceIte, reduceCtorEq]
       all_goals (rfl)
     ·
      skip
      (first | (exfalso; omega) | (exfalso; simp_all; done) | skip)
      all_goals
       refine tr_skip ?_
       (try simp only [thenE, inBlkE])
       refine hK12 _ ?_
       refine tr_seq fun K15 hK15 => ?_
       refine tr_seq fun K16 hK16 => ?_
       refine tr_draw [] [7, 8, 9, 11, 63] mixed rfl (by kernel_rfl) rfl fun K hK => ?_
       iterate 4 refine evD_p ?_
       refine evD_c (hc := k45u) (k := ?_)
       iterate 2 refine evD_p ?_
       iterate 4 refine evD_g ?_
       refine evD_gc (hc := c46) (k := ?_)
       iterate 2 refine evD_g ?_
       refine evD_p ?_
       refine evD_e hK ?_; clear hK K
       refine hK16 _ ?_
       refine tr_condB (fun ht4 => ?_) (fun ht4 => ?_)
       ·
        skip
        (first | (exfalso; omega) | (exfalso; simp_all; done) | skip)
        all_goals
         refine tr_seq fun K17 hK17 => ?_
         refine tr_region [6] rfl rfl fun K hK => ?_
         refine evR_p ?_
         refine evR_e hK ?_; clear hK K
         refine hK17 _ ?_
         refine tr_ret ?_
         (try simp only [thenE, inBlkE])
         simp (maxSteps := 4000000) (disch := first | assumption | omega | (simp only [go_sem, *]; done) | (simp only [go_sem, *]; omega)) only [postA, postO, resV1, fzAll, go_sem, hq, Int.reduceToNat, Nat.reduceBEq, Nat.reduceEqDiff, Nat.reduceAdd, Nat.reduceMul, Nat.reduceLeDiff, Nat.reduceLT, Nat.reduceSub, ↓reduceIte, reduceCtorEq]
         all_goals (rfl)
       ·
        skip
        (first | (exfalso; omega) | (exfalso; simp_all; done) | skip)
        all_goals
         refine tr_skip ?_
         (try simp only [thenE, inBlkE])
         refine hK15 _ ?_
         refine tr_seq fun K18 hK18 => ?_
         refine tr_draw [] [6] mixed rfl (by kernel_rfl) rfl fun K hK => ?_
         iterate 3 refine evD_p ?_
         refine evD_c (hc := k45p) (k := ?_)
         iterate 2 refine evD_p ?_
         refine evD_g ?_
         refine evD_gc (hc := c46) (k := ?_)
         iterate 2 refine evD_g ?_
         refine evD_gc (hc := c46) (k := ?_)
         refine evD_g ?_
         iterate 2 refine evD_p ?_
         refine evD_g ?_
         refine evD_gc (hc := c46) (k := ?_)
         iterate 2 refine evD_g ?_
         refine evD_gc (hc := c46) (k := ?_)
         iterate 7 refine evD_g ?_
         iterate 2 refine evD_p ?_
         refine evD_e hK ?_; clear hK K
         refine hK18 _ ?_
         refine tr_ret ?_
         (try simp only [thenE, inBlkE])
         simp (maxSteps := 4000000) (disch := first | assumption | omega | (simp only [go_sem, *]; done) | (simp only [go_sem, *]; omega)) only [postA, postO, resV1, fzAll, go_sem, hq, Int.reduceToNat, Nat.reduceBEq, Nat.reduceEqDiff, Nat.reduceAdd, Nat.reduceMul, Nat.reduceLeDiff, Nat.reduceLT, Nat.reduceSub, ↓reduceIte, reduceCtorEq]
         all_goals (rfl)
end

section
attribute [local go_sem] encA_length encA_getD
set_option maxHeartbeats 8000000 in
theorem k10a (x : List T3) (y : List Pl) (hx : x.length ≤ maxLen) (hy : y.length ≤ maxLen) (n : Int) (hn : okI n) (hf : (solveB (progR (discsL x) (targetL y))).1 = true) (hc : ∀ u : Nat, pickW n ((2 ^ (discsL x).length : Nat) : Int) = u → withinA (targetL y) (reachedL (discsL x) u) = false) : CallsA Try.prog 10 [.sl 3 (encT x), .sl 2 (encP y), .int .i64 n] (.bool true) := by
 obtain ⟨l, hL⟩ : ∃ l, discsL x = l := ⟨_, rfl⟩
 obtain ⟨t, hT⟩ : ∃ t, targetL y = t := ⟨_, rfl⟩
 have hl : okAs l := hL ▸ discsL_ok x
 have h7 : l.length ≤ 7 := hL ▸ discsL_len x
 have ht : t.length = 16 := hT ▸ targetL_len y
 have hR : validR l t = true := hL ▸ hT ▸ made_R x y
 have hR0 := valid0 hR
 have hvM := progR_valid (show l.length ≤ 12 by omega) t
 have c40 : CallsA Try.prog 40 [.sl 3 (encT x)] (.sl 16 (encA l)) := hL ▸ k40 x hx
 have c41 : CallsA Try.prog 41 [.sl 2 (encP y)] (.agg (cellsI t)) := hT ▸ k41 y hy
 have hsh : shlW .i64 1 (l.length : Nat) = ((2 ^ l.length : Nat) : Int) := shl1 (by omega)
 have htf := cellsI_full t (cellsI (List.replicate 16 0)) (by rw [cellsI_length, ht]; rfl)
 have htk : List.take 16 (cellsI t) = cellsI t := List.take_of_length_le (by rw [cellsI_length, ht]; decide)
 obtain ⟨u, hu1, hu2⟩ := pick_pow n hn l.length
 have hpp : (0 : Int) < ((2 ^ l.length : Nat) : Int) := by have := Nat.two_pow_pos l.length; omega
 have c44 : CallsA Try.prog 44 [.int .i64 n, .int .i64 ((2 ^ l.length : Nat) : Int)] (.int .i64 (u : Nat)) := hu1 ▸ k44 n _ hpp
 have k45u := k45 l hl t ht (by omega) hR0 (u : Nat) (by omega) (by omega)
 have hp1 : IntKind.i64.wrap (((2 ^ l.length : Nat) : Int) - 1) = ((2 ^ l.length : Nat) : Int) - 1 := w64 (by have : 2 ^ l.length ≤ 2 ^ 12 := Nat.pow_le_pow_right (by decide) (by omega); omega)
 have hpn : ((2 ^ l.length : Nat) : Int) - 1 = ((2 ^ l.length - 1 : Nat) : Int) := by have := Nat.two_pow_pos l.length; omega
 have hpl : 2 ^ l.length - 1 < 2 ^ l.length := by have := Nat.two_pow_pos l.length; omega
 rw [hL, hT] at hf
 have c43 := kLeast hl ht hR
 obtain ⟨w, e1, hw, hcw, e2, hbest⟩ := least_yes hl ht hR hf
 unfold encSol2 at c43
 rw [← solveW_f, ← solveW_s, ← solveW_g, hf, e1, e2] at c43
 obtain ⟨P, hP⟩ : ∃ P, prfS (progR l t) = P := ⟨_, rfl⟩
 rw [hP] at c43
 have k45w := k45 l hl t ht (by omega) hR0 (w : Nat) (by omega) (by omega)
 rw [hcw] at k45w
 have mw := manyR_le (w : Nat) 12
 have hneg : IntKind.i64.wrap (0 - manyR (w : Nat) 12) = -manyR (w : Nat) 12 := by rw [w64 (by omega)]; omega
 rw [hL, hT] at hc
 rw [hc u hu1] at k45u
 have hq := And.intro ht (And.intro hsh (And.intro htf (And.intro htk (hneg))))
 refine callsA_of_tr Try.func10 rfl (Nat.le_of_ble_eq_true rfl) ?_
 simp only [Try.results10, envOf, Nat.reduceAdd]
 refine tr_seq fun K1 hK1 => ?_
 refine tr_region [0, 1, 2] rfl rfl fun K hK => ?_
 refine evR_p ?_
 refine evR_e hK ?_; clear hK K
 refine hK1 _ ?_
 refine tr_seq fun K2 hK2 => ?_
 refine tr_seq fun K3 hK3 => ?_
 refine tr_region [0, 1, 2, 13] rfl rfl fun K hK => ?_
 refine evR_c (hc := k39) (k := ?_)
 refine evR_p ?_
 refine evR_e hK ?_; clear hK K
 refine hK3 _ ?_
 refine tr_condB (fun ht1 => ?_) (fun ht1 => ?_)
 ·
  skip
  (first | (exfalso; omega) | (exfalso; simp_all; done) | skip)
  all_goals
   refine tr_seq fun K4 hK4 => ?_
   refine tr_region [6] rfl rfl fun K hK => ?_
   refine evR_p ?_
   refine evR_e hK ?_; clear hK K
   refine hK4 _ ?_
   refine tr_ret ?_
   (try simp only [thenE, inBlkE])
   simp (maxSteps := 4000000) (disch := first | assumption | omega | (simp only [go_sem, *]; done) | (simp only [go_sem, *]; omega)) only [postA, postO, resV1, fzAll, go_sem, hq, Int.reduceToNat, Nat.reduceBEq, Nat.reduceEqDiff, Nat.reduceAdd, Nat.reduceMul, Nat.reduceLeDiff, Nat.reduceLT, Nat.reduceSub, ↓reduceIte, reduceCtorEq]
   all_goals (rfl)
 ·
  skip
  (first | (exfalso; omega) | (exfalso; simp_all; done) | skip)
  all_goals
   refine tr_skip ?_
   (try simp only [thenE, inBlkE])
   refine hK2 _ ?_
   refine tr_seq fun K5 hK5 => ?_
   refine tr_region [1, 2, 7] rfl rfl fun K hK => ?_
   refine evR_p ?_
   refine evR_c (hc := c40) (k := ?_)
   refine evR_p ?_
   refine evR_e hK ?_; clear hK K
   refine hK5 _ ?_
   refine tr_seq fun K6 hK6 => ?_
   refine tr_region [2, 7, 8] rfl rfl fun K hK => ?_
   refine evR_p ?_
   refine evR_c (hc := c41) (k := ?_)
   iterate 2 refine evR_p ?_
   refine evR_e hK ?_; clear hK K
   refine hK6 _ ?_
   refine tr_seq fun K7 hK7 => ?_
   refine tr_region [2, 7, 8, 9, 10] rfl rfl fun K hK => ?_
   iterate 2 refine evR_p ?_
   refine evR_c (hc := c43) (k := ?_)
   iterate 6 refine evR_p ?_
   refine evR_e hK ?_; clear hK K
   refine hK7 _ ?_
   refine tr_seq fun K8 hK8 => ?_
   refine tr_region [7, 8, 9, 10, 11] rfl rfl fun K hK => ?_
   iterate 4 refine evR_p ?_
   refine evR_c (hc := c44) (k := ?_)
   refine evR_p ?_
   refine evR_e hK ?_; clear hK K
   refine hK8 _ ?_
   refine tr_seq fun K9 hK9 => ?_
   refine tr_seq fun K10 hK10 => ?_
   refine tr_region [7, 8, 9, 11, 30] rfl rfl fun K hK => ?_
   iterate 2 refine evR_p ?_
   refine evR_e hK ?_; clear hK K
   refine hK10 _ ?_
   refine tr_condB (fun ht2 => ?_) (fun ht2 => ?_)
   ·
    skip
    (first | (exfalso; omega) | (exfalso; simp_all; done) | skip)
    all_goals
     refine tr_seq fun K11 hK11 => ?_
     refine tr_region [6] rfl rfl fun K hK => ?_
     refine evR_p ?_
     refine evR_e hK ?_; clear hK K
     refine hK11 _ ?_
     refine tr_ret ?_
     (try simp only [thenE, inBlkE])
     simp (maxSteps := 4000000) (disch := first | assumption | omega | (simp only [go_sem, *]; done) | (simp only [go_sem, *]; omega)) only [postA, postO, resV1, fzAll, go_sem, hq, Int.reduceToNat, Nat.reduceBEq, Nat.reduceEqDiff, Nat.reduceAdd, Nat.reduceMul, Nat.reduceLeDiff, Nat.reduceLT, Nat.reduceSub, ↓reduceIte, reduceCtorEq]
     all_goals (rfl)
   ·
    skip
    (first | (exfalso; omega) | (exfalso; simp_all; done) | skip)
    all_goals
     refine tr_skip ?_
     (try simp only [thenE, inBlkE])
     refine hK9 _ ?_
     refine tr_seq fun K12 hK12 => ?_
     refine tr_seq fun K13 hK13 => ?_
     refine tr_region [7, 8, 9, 11, 33] rfl rfl fun K hK => ?_
     iterate 3 refine evR_p ?_
     refine evR_e hK ?_; clear hK K
     refine hK13 _ ?_
     refine tr_condB (fun ht3 => ?_) (fun ht3 => ?_)
     ·
      skip
      (first | (exfalso; omega) | (exfalso; simp_all; done) | skip)
      all_goals
       refine tr_seq fun K14 hK14 => ?_
       refine tr_draw [] [6] mixed rfl (by kernel_rfl) rfl fun K hK => ?_
       iterate 3 refine evD_p ?_
       refine evD_c (hc := k45w) (k := ?_)
       iterate 2 refine evD_p ?_
       iterate 6 refine evD_g ?_
       refine evD_gc (hc := k45u) (k := ?_)
       refine evD_g ?_
       iterate 2 refine evD_p ?_
       refine evD_e hK ?_; clear hK K
       refine hK14 _ ?_
       refine tr_ret ?_
       (try simp only [thenE, inBlkE])
       simp (maxSteps := 4000000) (disch := first | assumption | omega | (simp only [go_sem, *]; done) | (simp only [go_sem, *]; omega)) only [postA, postO, resV1, fzAll, go_sem, hq, Int.reduceToNat, Nat.reduceBEq, Nat.reduceEqDiff, Nat.reduceAdd, Nat.reduceMul, Nat.reduceLeDiff, Nat.reduceLT, Nat.reduceSub, ↓reduceIte, reduceCtorEq]
       all_goals (rfl)
     ·
      skip
      (first | (exfalso; omega) | (exfalso; simp_all; done) | skip)
      all_goals
       refine tr_skip ?_
       (try simp only [thenE, inBlkE])
       refine hK12 _ ?_
       refine tr_seq fun K15 hK15 => ?_
       refine tr_seq fun K16 hK16 => ?_
       refine tr_draw [] [7, 8, 9, 11, 63] mixed rfl (by kernel_rfl) rfl fun K hK => ?_
       iterate 4 refine evD_p ?_
       refine evD_c (hc := k45w) (k := ?_)
       iterate 2 refine evD_p ?_
       iterate 4 refine evD_g ?_
       refine evD_gc (hc := (k46 (w : Nat))) (k := ?_)
       iterate 2 refine evD_g ?_
       refine evD_p ?_
       refine evD_e hK ?_; clear hK K
       refine hK16 _ ?_
       refine tr_condB (fun ht4 => ?_) (fun ht4 => ?_)
       ·
        skip
        (first | (exfalso; omega) | (exfalso; simp_all; done) | skip)
        all_goals
         refine tr_seq fun K17 hK17 => ?_
         refine tr_region [6] rfl rfl fun K hK => ?_
         refine evR_p ?_
         refine evR_e hK ?_; clear hK K
         refine hK17 _ ?_
         refine tr_ret ?_
         (try simp only [thenE, inBlkE])
         simp (maxSteps := 4000000) (disch := first | assumption | omega | (simp only [go_sem, *]; done) | (simp only [go_sem, *]; omega)) only [postA, postO, resV1, fzAll, go_sem, hq, Int.reduceToNat, Nat.reduceBEq, Nat.reduceEqDiff, Nat.reduceAdd, Nat.reduceMul, Nat.reduceLeDiff, Nat.reduceLT, Nat.reduceSub, ↓reduceIte, reduceCtorEq]
         all_goals (rfl)
       ·
        skip
        (first | (exfalso; omega) | (exfalso; simp_all; done) | skip)
        all_goals
         refine tr_skip ?_
         (try simp only [thenE, inBlkE])
         refine hK15 _ ?_
         refine tr_seq fun K18 hK18 => ?_
         refine tr_draw [] [6] mixed rfl (by kernel_rfl) rfl fun K hK => ?_
         iterate 3 refine evD_p ?_
         refine evD_c (hc := k45u) (k := ?_)
         iterate 2 refine evD_p ?_
         refine evD_g ?_
         refine evD_gc (hc := (k46 (u : Nat))) (k := ?_)
         iterate 2 refine evD_g ?_
         refine evD_gc (hc := (k46 (w : Nat))) (k := ?_)
         refine evD_g ?_
         iterate 2 refine evD_p ?_
         refine evD_g ?_
         refine evD_gc (hc := (k46 (u : Nat))) (k := ?_)
         iterate 2 refine evD_g ?_
         refine evD_gc (hc := (k46 (w : Nat))) (k := ?_)
         iterate 7 refine evD_g ?_
         iterate 2 refine evD_p ?_
         refine evD_e hK ?_; clear hK K
         refine hK18 _ ?_
         refine tr_ret ?_
         (try simp only [thenE, inBlkE])
         simp (maxSteps := 4000000) (disch := first | assumption | omega | (simp only [go_sem, *]; done) | (simp only [go_sem, *]; omega)) only [postA, postO, resV1, fzAll, go_sem, hq, Int.reduceToNat, Nat.reduceBEq, Nat.reduceEqDiff, Nat.reduceAdd, Nat.reduceMul, Nat.reduceLeDiff, Nat.reduceLT, Nat.reduceSub, ↓reduceIte, reduceCtorEq]
         all_goals (rfl)
end

section
attribute [local go_sem] encA_length encA_getD
set_option maxHeartbeats 8000000 in
theorem k10b (x : List T3) (y : List Pl) (hx : x.length ≤ maxLen) (hy : y.length ≤ maxLen) (n : Int) (hn : okI n) (hf : (solveB (progR (discsL x) (targetL y))).1 = true) (hc : ∀ u : Nat, pickW n ((2 ^ (discsL x).length : Nat) : Int) = u → withinA (targetL y) (reachedL (discsL x) u) = true) (hd : ∀ u w : Nat, pickW n ((2 ^ (discsL x).length : Nat) : Int) = u → (solveB (progR (discsL x) (targetL y))).2.1 = w → manyR (w : Nat) 12 < manyR (u : Nat) 12) : CallsA Try.prog 10 [.sl 3 (encT x), .sl 2 (encP y), .int .i64 n] (.bool true) := by
 obtain ⟨l, hL⟩ : ∃ l, discsL x = l := ⟨_, rfl⟩
 obtain ⟨t, hT⟩ : ∃ t, targetL y = t := ⟨_, rfl⟩
 have hl : okAs l := hL ▸ discsL_ok x
 have h7 : l.length ≤ 7 := hL ▸ discsL_len x
 have ht : t.length = 16 := hT ▸ targetL_len y
 have hR : validR l t = true := hL ▸ hT ▸ made_R x y
 have hR0 := valid0 hR
 have hvM := progR_valid (show l.length ≤ 12 by omega) t
 have c40 : CallsA Try.prog 40 [.sl 3 (encT x)] (.sl 16 (encA l)) := hL ▸ k40 x hx
 have c41 : CallsA Try.prog 41 [.sl 2 (encP y)] (.agg (cellsI t)) := hT ▸ k41 y hy
 have hsh : shlW .i64 1 (l.length : Nat) = ((2 ^ l.length : Nat) : Int) := shl1 (by omega)
 have htf := cellsI_full t (cellsI (List.replicate 16 0)) (by rw [cellsI_length, ht]; rfl)
 have htk : List.take 16 (cellsI t) = cellsI t := List.take_of_length_le (by rw [cellsI_length, ht]; decide)
 obtain ⟨u, hu1, hu2⟩ := pick_pow n hn l.length
 have hpp : (0 : Int) < ((2 ^ l.length : Nat) : Int) := by have := Nat.two_pow_pos l.length; omega
 have c44 : CallsA Try.prog 44 [.int .i64 n, .int .i64 ((2 ^ l.length : Nat) : Int)] (.int .i64 (u : Nat)) := hu1 ▸ k44 n _ hpp
 have k45u := k45 l hl t ht (by omega) hR0 (u : Nat) (by omega) (by omega)
 have hp1 : IntKind.i64.wrap (((2 ^ l.length : Nat) : Int) - 1) = ((2 ^ l.length : Nat) : Int) - 1 := w64 (by have : 2 ^ l.length ≤ 2 ^ 12 := Nat.pow_le_pow_right (by decide) (by omega); omega)
 have hpn : ((2 ^ l.length : Nat) : Int) - 1 = ((2 ^ l.length - 1 : Nat) : Int) := by have := Nat.two_pow_pos l.length; omega
 have hpl : 2 ^ l.length - 1 < 2 ^ l.length := by have := Nat.two_pow_pos l.length; omega
 rw [hL, hT] at hf
 have c43 := kLeast hl ht hR
 obtain ⟨w, e1, hw, hcw, e2, hbest⟩ := least_yes hl ht hR hf
 unfold encSol2 at c43
 rw [← solveW_f, ← solveW_s, ← solveW_g, hf, e1, e2] at c43
 obtain ⟨P, hP⟩ : ∃ P, prfS (progR l t) = P := ⟨_, rfl⟩
 rw [hP] at c43
 have k45w := k45 l hl t ht (by omega) hR0 (w : Nat) (by omega) (by omega)
 rw [hcw] at k45w
 have mw := manyR_le (w : Nat) 12
 have hneg : IntKind.i64.wrap (0 - manyR (w : Nat) 12) = -manyR (w : Nat) 12 := by rw [w64 (by omega)]; omega
 rw [hL, hT] at hc
 have hcu := hc u hu1
 rw [hcu] at k45u
 rw [hL, hT] at hd
 have hlt := hd u w hu1 e1
 have hq := And.intro ht (And.intro hsh (And.intro htf (And.intro htk (And.intro hneg (hlt)))))
 refine callsA_of_tr Try.func10 rfl (Nat.le_of_ble_eq_true rfl) ?_
 simp only [Try.results10, envOf, Nat.reduceAdd]
 refine tr_seq fun K1 hK1 => ?_
 refine tr_region [0, 1, 2] rfl rfl fun K hK => ?_
 refine evR_p ?_
 refine evR_e hK ?_; clear hK K
 refine hK1 _ ?_
 refine tr_seq fun K2 hK2 => ?_
 refine tr_seq fun K3 hK3 => ?_
 refine tr_region [0, 1, 2, 13] rfl rfl fun K hK => ?_
 refine evR_c (hc := k39) (k := ?_)
 refine evR_p ?_
 refine evR_e hK ?_; clear hK K
 refine hK3 _ ?_
 refine tr_condB (fun ht1 => ?_) (fun ht1 => ?_)
 ·
  skip
  (first | (exfalso; omega) | (exfalso; simp_all; done) | skip)
  all_goals
   refine tr_seq fun K4 hK4 => ?_
   refine tr_region [6] rfl rfl fun K hK => ?_
   refine evR_p ?_
   refine evR_e hK ?_; clear hK K
   refine hK4 _ ?_
   refine tr_ret ?_
   (try simp only [thenE, inBlkE])
   simp (maxSteps := 4000000) (disch := first | assumption | omega | (simp only [go_sem, *]; done) | (simp only [go_sem, *]; omega)) only [postA, postO, resV1, fzAll, go_sem, hq, Int.reduceToNat, Nat.reduceBEq, Nat.reduceEqDiff, Nat.reduceAdd, Nat.reduceMul, Nat.reduceLeDiff, Nat.reduceLT, Nat.reduceSub, ↓reduceIte, reduceCtorEq]
   all_goals (rfl)
 ·
  skip
  (first | (exfalso; omega) | (exfalso; simp_all; done) | skip)
  all_goals
   refine tr_skip ?_
   (try simp only [thenE, inBlkE])
   refine hK2 _ ?_
   refine tr_seq fun K5 hK5 => ?_
   refine tr_region [1, 2, 7] rfl rfl fun K hK => ?_
   refine evR_p ?_
   refine evR_c (hc := c40) (k := ?_)
   refine evR_p ?_
   refine evR_e hK ?_; clear hK K
   refine hK5 _ ?_
   refine tr_seq fun K6 hK6 => ?_
   refine tr_region [2, 7, 8] rfl rfl fun K hK => ?_
   refine evR_p ?_
   refine evR_c (hc := c41) (k := ?_)
   iterate 2 refine evR_p ?_
   refine evR_e hK ?_; clear hK K
   refine hK6 _ ?_
   refine tr_seq fun K7 hK7 => ?_
   refine tr_region [2, 7, 8, 9, 10] rfl rfl fun K hK => ?_
   iterate 2 refine evR_p ?_
   refine evR_c (hc := c43) (k := ?_)
   iterate 6 refine evR_p ?_
   refine evR_e hK ?_; clear hK K
   refine hK7 _ ?_
   refine tr_seq fun K8 hK8 => ?_
   refine tr_region [7, 8, 9, 10, 11] rfl rfl fun K hK => ?_
   iterate 4 refine evR_p ?_
   refine evR_c (hc := c44) (k := ?_)
   refine evR_p ?_
   refine evR_e hK ?_; clear hK K
   refine hK8 _ ?_
   refine tr_seq fun K9 hK9 => ?_
   refine tr_seq fun K10 hK10 => ?_
   refine tr_region [7, 8, 9, 11, 30] rfl rfl fun K hK => ?_
   iterate 2 refine evR_p ?_
   refine evR_e hK ?_; clear hK K
   refine hK10 _ ?_
   refine tr_condB (fun ht2 => ?_) (fun ht2 => ?_)
   ·
    skip
    (first | (exfalso; omega) | (exfalso; simp_all; done) | skip)
    all_goals
     refine tr_seq fun K11 hK11 => ?_
     refine tr_region [6] rfl rfl fun K hK => ?_
     refine evR_p ?_
     refine evR_e hK ?_; clear hK K
     refine hK11 _ ?_
     refine tr_ret ?_
     (try simp only [thenE, inBlkE])
     simp (maxSteps := 4000000) (disch := first | assumption | omega | (simp only [go_sem, *]; done) | (simp only [go_sem, *]; omega)) only [postA, postO, resV1, fzAll, go_sem, hq, Int.reduceToNat, Nat.reduceBEq, Nat.reduceEqDiff, Nat.reduceAdd, Nat.reduceMul, Nat.reduceLeDiff, Nat.reduceLT, Nat.reduceSub, ↓reduceIte, reduceCtorEq]
     all_goals (rfl)
   ·
    skip
    (first | (exfalso; omega) | (exfalso; simp_all; done) | skip)
    all_goals
     refine tr_skip ?_
     (try simp only [thenE, inBlkE])
     refine hK9 _ ?_
     refine tr_seq fun K12 hK12 => ?_
     refine tr_seq fun K13 hK13 => ?_
     refine tr_region [7, 8, 9, 11, 33] rfl rfl fun K hK => ?_
     iterate 3 refine evR_p ?_
     refine evR_e hK ?_; clear hK K
     refine hK13 _ ?_
     refine tr_condB (fun ht3 => ?_) (fun ht3 => ?_)
     ·
      skip
      (first | (exfalso; omega) | (exfalso; simp_all; done) | skip)
      all_goals
       refine tr_seq fun K14 hK14 => ?_
       refine tr_draw [] [6] mixed rfl (by kernel_rfl) rfl fun K hK => ?_
       iterate 3 refine evD_p ?_
       refine evD_c (hc := k45w) (k := ?_)
       iterate 2 refine evD_p ?_
       iterate 6 refine evD_g ?_
       refine evD_gc (hc := k45u) (k := ?_)
       refine evD_g ?_
       iterate 2 refine evD_p ?_
       refine evD_e hK ?_; clear hK K
       refine hK14 _ ?_
       refine tr_ret ?_
       (try simp only [thenE, inBlkE])
       simp (maxSteps := 4000000) (disch := first | assumption | omega | (simp only [go_sem, *]; done) | (simp only [go_sem, *]; omega)) only [postA, postO, resV1, fzAll, go_sem, hq, Int.reduceToNat, Nat.reduceBEq, Nat.reduceEqDiff, Nat.reduceAdd, Nat.reduceMul, Nat.reduceLeDiff, Nat.reduceLT, Nat.reduceSub, ↓reduceIte, reduceCtorEq]
       all_goals (rfl)
     ·
      skip
      (first | (exfalso; omega) | (exfalso; simp_all; done) | skip)
      all_goals
       refine tr_skip ?_
       (try simp only [thenE, inBlkE])
       refine hK12 _ ?_
       refine tr_seq fun K15 hK15 => ?_
       refine tr_seq fun K16 hK16 => ?_
       refine tr_draw [] [7, 8, 9, 11, 63] mixed rfl (by kernel_rfl) rfl fun K hK => ?_
       iterate 4 refine evD_p ?_
       refine evD_c (hc := k45w) (k := ?_)
       iterate 2 refine evD_p ?_
       iterate 4 refine evD_g ?_
       refine evD_gc (hc := (k46 (w : Nat))) (k := ?_)
       iterate 2 refine evD_g ?_
       refine evD_p ?_
       refine evD_e hK ?_; clear hK K
       refine hK16 _ ?_
       refine tr_condB (fun ht4 => ?_) (fun ht4 => ?_)
       ·
        skip
        (first | (exfalso; omega) | (exfalso; simp_all; done) | skip)
        all_goals
         refine tr_seq fun K17 hK17 => ?_
         refine tr_region [6] rfl rfl fun K hK => ?_
         refine evR_p ?_
         refine evR_e hK ?_; clear hK K
         refine hK17 _ ?_
         refine tr_ret ?_
         (try simp only [thenE, inBlkE])
         simp (maxSteps := 4000000) (disch := first | assumption | omega | (simp only [go_sem, *]; done) | (simp only [go_sem, *]; omega)) only [postA, postO, resV1, fzAll, go_sem, hq, Int.reduceToNat, Nat.reduceBEq, Nat.reduceEqDiff, Nat.reduceAdd, Nat.reduceMul, Nat.reduceLeDiff, Nat.reduceLT, Nat.reduceSub, ↓reduceIte, reduceCtorEq]
         all_goals (rfl)
       ·
        skip
        (first | (exfalso; omega) | (exfalso; simp_all; done) | skip)
        all_goals
         refine tr_skip ?_
         (try simp only [thenE, inBlkE])
         refine hK15 _ ?_
         refine tr_seq fun K18 hK18 => ?_
         refine tr_draw [] [6] mixed rfl (by kernel_rfl) rfl fun K hK => ?_
         iterate 3 refine evD_p ?_
         refine evD_c (hc := k45u) (k := ?_)
         iterate 2 refine evD_p ?_
         refine evD_g ?_
         refine evD_gc (hc := (k46 (u : Nat))) (k := ?_)
         iterate 2 refine evD_g ?_
         refine evD_gc (hc := (k46 (w : Nat))) (k := ?_)
         refine evD_g ?_
         iterate 2 refine evD_p ?_
         refine evD_g ?_
         refine evD_gc (hc := (k46 (u : Nat))) (k := ?_)
         iterate 2 refine evD_g ?_
         refine evD_gc (hc := (k46 (w : Nat))) (k := ?_)
         iterate 7 refine evD_g ?_
         iterate 2 refine evD_p ?_
         refine evD_e hK ?_; clear hK K
         refine hK18 _ ?_
         refine tr_ret ?_
         (try simp only [thenE, inBlkE])
         simp (maxSteps := 4000000) (disch := first | assumption | omega | (simp only [go_sem, *]; done) | (simp only [go_sem, *]; omega)) only [postA, postO, resV1, fzAll, go_sem, hq, Int.reduceToNat, Nat.reduceBEq, Nat.reduceEqDiff, Nat.reduceAdd, Nat.reduceMul, Nat.reduceLeDiff, Nat.reduceLT, Nat.reduceSub, ↓reduceIte, reduceCtorEq]
         all_goals (rfl)
end

section
attribute [local go_sem] encA_length encA_getD Int.lt_irrefl
set_option maxHeartbeats 8000000 in
theorem k10c (x : List T3) (y : List Pl) (hx : x.length ≤ maxLen) (hy : y.length ≤ maxLen) (n : Int) (hn : okI n) (hf : (solveB (progR (discsL x) (targetL y))).1 = true) (hc : ∀ u : Nat, pickW n ((2 ^ (discsL x).length : Nat) : Int) = u → withinA (targetL y) (reachedL (discsL x) u) = true) (hd : ∀ u w : Nat, pickW n ((2 ^ (discsL x).length : Nat) : Int) = u → (solveB (progR (discsL x) (targetL y))).2.1 = w → manyR (u : Nat) 12 = manyR (w : Nat) 12 ∧ w ≤ u) : CallsA Try.prog 10 [.sl 3 (encT x), .sl 2 (encP y), .int .i64 n] (.bool true) := by
 obtain ⟨l, hL⟩ : ∃ l, discsL x = l := ⟨_, rfl⟩
 obtain ⟨t, hT⟩ : ∃ t, targetL y = t := ⟨_, rfl⟩
 have hl : okAs l := hL ▸ discsL_ok x
 have h7 : l.length ≤ 7 := hL ▸ discsL_len x
 have ht : t.length = 16 := hT ▸ targetL_len y
 have hR : validR l t = true := hL ▸ hT ▸ made_R x y
 have hR0 := valid0 hR
 have hvM := progR_valid (show l.length ≤ 12 by omega) t
 have c40 : CallsA Try.prog 40 [.sl 3 (encT x)] (.sl 16 (encA l)) := hL ▸ k40 x hx
 have c41 : CallsA Try.prog 41 [.sl 2 (encP y)] (.agg (cellsI t)) := hT ▸ k41 y hy
 have hsh : shlW .i64 1 (l.length : Nat) = ((2 ^ l.length : Nat) : Int) := shl1 (by omega)
 have htf := cellsI_full t (cellsI (List.replicate 16 0)) (by rw [cellsI_length, ht]; rfl)
 have htk : List.take 16 (cellsI t) = cellsI t := List.take_of_length_le (by rw [cellsI_length, ht]; decide)
 obtain ⟨u, hu1, hu2⟩ := pick_pow n hn l.length
 have hpp : (0 : Int) < ((2 ^ l.length : Nat) : Int) := by have := Nat.two_pow_pos l.length; omega
 have c44 : CallsA Try.prog 44 [.int .i64 n, .int .i64 ((2 ^ l.length : Nat) : Int)] (.int .i64 (u : Nat)) := hu1 ▸ k44 n _ hpp
 have k45u := k45 l hl t ht (by omega) hR0 (u : Nat) (by omega) (by omega)
 have hp1 : IntKind.i64.wrap (((2 ^ l.length : Nat) : Int) - 1) = ((2 ^ l.length : Nat) : Int) - 1 := w64 (by have : 2 ^ l.length ≤ 2 ^ 12 := Nat.pow_le_pow_right (by decide) (by omega); omega)
 have hpn : ((2 ^ l.length : Nat) : Int) - 1 = ((2 ^ l.length - 1 : Nat) : Int) := by have := Nat.two_pow_pos l.length; omega
 have hpl : 2 ^ l.length - 1 < 2 ^ l.length := by have := Nat.two_pow_pos l.length; omega
 rw [hL, hT] at hf
 have c43 := kLeast hl ht hR
 obtain ⟨w, e1, hw, hcw, e2, hbest⟩ := least_yes hl ht hR hf
 unfold encSol2 at c43
 rw [← solveW_f, ← solveW_s, ← solveW_g, hf, e1, e2] at c43
 obtain ⟨P, hP⟩ : ∃ P, prfS (progR l t) = P := ⟨_, rfl⟩
 rw [hP] at c43
 have k45w := k45 l hl t ht (by omega) hR0 (w : Nat) (by omega) (by omega)
 rw [hcw] at k45w
 have mw := manyR_le (w : Nat) 12
 have hneg : IntKind.i64.wrap (0 - manyR (w : Nat) 12) = -manyR (w : Nat) 12 := by rw [w64 (by omega)]; omega
 rw [hL, hT] at hc
 have hcu := hc u hu1
 rw [hcu] at k45u
 rw [hL, hT] at hd
 obtain ⟨heq, hle0⟩ := hd u w hu1 e1
 have hle : (w : Int) ≤ (u : Int) := by omega
 have hq := And.intro ht (And.intro hsh (And.intro htf (And.intro htk (And.intro hneg (And.intro heq (hle))))))
 refine callsA_of_tr Try.func10 rfl (Nat.le_of_ble_eq_true rfl) ?_
 simp only [Try.results10, envOf, Nat.reduceAdd]
 refine tr_seq fun K1 hK1 => ?_
 refine tr_region [0, 1, 2] rfl rfl fun K hK => ?_
 refine evR_p ?_
 refine evR_e hK ?_; clear hK K
 refine hK1 _ ?_
 refine tr_seq fun K2 hK2 => ?_
 refine tr_seq fun K3 hK3 => ?_
 refine tr_region [0, 1, 2, 13] rfl rfl fun K hK => ?_
 refine evR_c (hc := k39) (k := ?_)
 refine evR_p ?_
 refine evR_e hK ?_; clear hK K
 refine hK3 _ ?_
 refine tr_condB (fun ht1 => ?_) (fun ht1 => ?_)
 ·
  skip
  (first | (exfalso; omega) | (exfalso; simp_all; done) | skip)
  all_goals
   refine tr_seq fun K4 hK4 => ?_
   refine tr_region [6] rfl rfl fun K hK => ?_
   refine evR_p ?_
   refine evR_e hK ?_; clear hK K
   refine hK4 _ ?_
   refine tr_ret ?_
   (try simp only [thenE, inBlkE])
   simp (maxSteps := 4000000) (disch := first | assumption | omega | (simp only [go_sem, *]; done) | (simp only [go_sem, *]; omega)) only [postA, postO, resV1, fzAll, go_sem, hq, Int.reduceToNat, Nat.reduceBEq, Nat.reduceEqDiff, Nat.reduceAdd, Nat.reduceMul, Nat.reduceLeDiff, Nat.reduceLT, Nat.reduceSub, ↓reduceIte, reduceCtorEq]
   all_goals (rfl)
 ·
  skip
  (first | (exfalso; omega) | (exfalso; simp_all; done) | skip)
  all_goals
   refine tr_skip ?_
   (try simp only [thenE, inBlkE])
   refine hK2 _ ?_
   refine tr_seq fun K5 hK5 => ?_
   refine tr_region [1, 2, 7] rfl rfl fun K hK => ?_
   refine evR_p ?_
   refine evR_c (hc := c40) (k := ?_)
   refine evR_p ?_
   refine evR_e hK ?_; clear hK K
   refine hK5 _ ?_
   refine tr_seq fun K6 hK6 => ?_
   refine tr_region [2, 7, 8] rfl rfl fun K hK => ?_
   refine evR_p ?_
   refine evR_c (hc := c41) (k := ?_)
   iterate 2 refine evR_p ?_
   refine evR_e hK ?_; clear hK K
   refine hK6 _ ?_
   refine tr_seq fun K7 hK7 => ?_
   refine tr_region [2, 7, 8, 9, 10] rfl rfl fun K hK => ?_
   iterate 2 refine evR_p ?_
   refine evR_c (hc := c43) (k := ?_)
   iterate 6 refine evR_p ?_
   refine evR_e hK ?_; clear hK K
   refine hK7 _ ?_
   refine tr_seq fun K8 hK8 => ?_
   refine tr_region [7, 8, 9, 10, 11] rfl rfl fun K hK => ?_
   iterate 4 refine evR_p ?_
   refine evR_c (hc := c44) (k := ?_)
   refine evR_p ?_
   refine evR_e hK ?_; clear hK K
   refine hK8 _ ?_
   refine tr_seq fun K9 hK9 => ?_
   refine tr_seq fun K10 hK10 => ?_
   refine tr_region [7, 8, 9, 11, 30] rfl rfl fun K hK => ?_
   iterate 2 refine evR_p ?_
   refine evR_e hK ?_; clear hK K
   refine hK10 _ ?_
   refine tr_condB (fun ht2 => ?_) (fun ht2 => ?_)
   ·
    skip
    (first | (exfalso; omega) | (exfalso; simp_all; done) | skip)
    all_goals
     refine tr_seq fun K11 hK11 => ?_
     refine tr_region [6] rfl rfl fun K hK => ?_
     refine evR_p ?_
     refine evR_e hK ?_; clear hK K
     refine hK11 _ ?_
     refine tr_ret ?_
     (try simp only [thenE, inBlkE])
     simp (maxSteps := 4000000) (disch := first | assumption | omega | (simp only [go_sem, *]; done) | (simp only [go_sem, *]; omega)) only [postA, postO, resV1, fzAll, go_sem, hq, Int.reduceToNat, Nat.reduceBEq, Nat.reduceEqDiff, Nat.reduceAdd, Nat.reduceMul, Nat.reduceLeDiff, Nat.reduceLT, Nat.reduceSub, ↓reduceIte, reduceCtorEq]
     all_goals (rfl)
   ·
    skip
    (first | (exfalso; omega) | (exfalso; simp_all; done) | skip)
    all_goals
     refine tr_skip ?_
     (try simp only [thenE, inBlkE])
     refine hK9 _ ?_
     refine tr_seq fun K12 hK12 => ?_
     refine tr_seq fun K13 hK13 => ?_
     refine tr_region [7, 8, 9, 11, 33] rfl rfl fun K hK => ?_
     iterate 3 refine evR_p ?_
     refine evR_e hK ?_; clear hK K
     refine hK13 _ ?_
     refine tr_condB (fun ht3 => ?_) (fun ht3 => ?_)
     ·
      skip
      (first | (exfalso; omega) | (exfalso; simp_all; done) | skip)
      all_goals
       refine tr_seq fun K14 hK14 => ?_
       refine tr_draw [] [6] mixed rfl (by kernel_rfl) rfl fun K hK => ?_
       iterate 3 refine evD_p ?_
       refine evD_c (hc := k45w) (k := ?_)
       iterate 2 refine evD_p ?_
       iterate 6 refine evD_g ?_
       refine evD_gc (hc := k45u) (k := ?_)
       refine evD_g ?_
       iterate 2 refine evD_p ?_
       refine evD_e hK ?_; clear hK K
       refine hK14 _ ?_
       refine tr_ret ?_
       (try simp only [thenE, inBlkE])
       simp (maxSteps := 4000000) (disch := first | assumption | omega | (simp only [go_sem, *]; done) | (simp only [go_sem, *]; omega)) only [postA, postO, resV1, fzAll, go_sem, hq, Int.reduceToNat, Nat.reduceBEq, Nat.reduceEqDiff, Nat.reduceAdd, Nat.reduceMul, Nat.reduceLeDiff, Nat.reduceLT, Nat.reduceSub, ↓reduceIte, reduceCtorEq]
       all_goals (rfl)
     ·
      skip
      (first | (exfalso; omega) | (exfalso; simp_all; done) | skip)
      all_goals
       refine tr_skip ?_
       (try simp only [thenE, inBlkE])
       refine hK12 _ ?_
       refine tr_seq fun K15 hK15 => ?_
       refine tr_seq fun K16 hK16 => ?_
       refine tr_draw [] [7, 8, 9, 11, 63] mixed rfl (by kernel_rfl) rfl fun K hK => ?_
       iterate 4 refine evD_p ?_
       refine evD_c (hc := k45w) (k := ?_)
       iterate 2 refine evD_p ?_
       iterate 4 refine evD_g ?_
       refine evD_gc (hc := (k46 (w : Nat))) (k := ?_)
       iterate 2 refine evD_g ?_
       refine evD_p ?_
       refine evD_e hK ?_; clear hK K
       refine hK16 _ ?_
       refine tr_condB (fun ht4 => ?_) (fun ht4 => ?_)
       ·
        skip
        (first | (exfalso; omega) | (exfalso; simp_all; done) | skip)
        all_goals
         refine tr_seq fun K17 hK17 => ?_
         refine tr_region [6] rfl rfl fun K hK => ?_
         refine evR_p ?_
         refine evR_e hK ?_; clear hK K
         refine hK17 _ ?_
         refine tr_ret ?_
         (try simp only [thenE, inBlkE])
         simp (maxSteps := 4000000) (disch := first | assumption | omega | (simp only [go_sem, *]; done) | (simp only [go_sem, *]; omega)) only [postA, postO, resV1, fzAll, go_sem, hq, Int.reduceToNat, Nat.reduceBEq, Nat.reduceEqDiff, Nat.reduceAdd, Nat.reduceMul, Nat.reduceLeDiff, Nat.reduceLT, Nat.reduceSub, ↓reduceIte, reduceCtorEq]
         all_goals (rfl)
       ·
        skip
        (first | (exfalso; omega) | (exfalso; simp_all; done) | skip)
        all_goals
         refine tr_skip ?_
         (try simp only [thenE, inBlkE])
         refine hK15 _ ?_
         refine tr_seq fun K18 hK18 => ?_
         refine tr_draw [] [6] mixed rfl (by kernel_rfl) rfl fun K hK => ?_
         iterate 3 refine evD_p ?_
         refine evD_c (hc := k45u) (k := ?_)
         iterate 2 refine evD_p ?_
         refine evD_g ?_
         refine evD_gc (hc := (k46 (u : Nat))) (k := ?_)
         iterate 2 refine evD_g ?_
         refine evD_gc (hc := (k46 (w : Nat))) (k := ?_)
         refine evD_g ?_
         iterate 2 refine evD_p ?_
         refine evD_g ?_
         refine evD_gc (hc := (k46 (u : Nat))) (k := ?_)
         iterate 2 refine evD_g ?_
         refine evD_gc (hc := (k46 (w : Nat))) (k := ?_)
         iterate 7 refine evD_g ?_
         iterate 2 refine evD_p ?_
         refine evD_e hK ?_; clear hK K
         refine hK18 _ ?_
         refine tr_ret ?_
         (try simp only [thenE, inBlkE])
         simp (maxSteps := 4000000) (disch := first | assumption | omega | (simp only [go_sem, *]; done) | (simp only [go_sem, *]; omega)) only [postA, postO, resV1, fzAll, go_sem, hq, Int.reduceToNat, Nat.reduceBEq, Nat.reduceEqDiff, Nat.reduceAdd, Nat.reduceMul, Nat.reduceLeDiff, Nat.reduceLT, Nat.reduceSub, ↓reduceIte, reduceCtorEq]
         all_goals (rfl)
end

end Go.Proofs.Ytfamkbofdamkkaa
namespace Go.Proofs.Ytfamkbofdamkkaa
open Go.RowKit
set_option linter.unusedVariables false
set_option linter.unusedSimpArgs false
theorem k10 (x : List T3) (y : List Pl) (hx : x.length ≤ maxLen) (hy : y.length ≤ maxLen) (n : Int) (hn : okI n) : CallsA Try.prog 10 [.sl 3 (encT x), .sl 2 (encP y), .int .i64 n] (.bool true) := by
 cases hf : (solveB (progR (discsL x) (targetL y))).1 with
 | false => exact k10n x y hx hy n hn hf
 | true =>
  obtain ⟨u, hu1, hu2⟩ := pick_pow n hn (discsL x).length
  obtain ⟨w, e1, hw, hcw, e2, hbest⟩ := least_yes (discsL_ok x) (targetL_len y) (made_R x y) hf
  have hu : ∀ u' : Nat, pickW n ((2 ^ (discsL x).length : Nat) : Int) = u' → u' = u := fun u' h => by rw [hu1] at h; omega
  have hww : ∀ w' : Nat, (solveB (progR (discsL x) (targetL y))).2.1 = w' → w' = w := fun w' h => by rw [e1] at h; omega
  cases hc : withinA (targetL y) (reachedL (discsL x) u) with
  | false => exact k10a x y hx hy n hn hf (fun u' h => by rw [hu u' h]; exact hc)
  | true =>
   rcases hbest u hu2 hc with h | h
   ·
    exact k10b x y hx hy n hn hf (fun u' h' => by rw [hu u' h']; exact hc) (fun u' w' h1 h2 => by rw [hu u' h1, hww w' h2]; exact h)
   ·
    exact k10c x y hx hy n hn hf (fun u' h' => by rw [hu u' h']; exact hc) (fun u' w' h1 h2 => by rw [hu u' h1, hww w' h2]; exact h)
end Go.Proofs.Ytfamkbofdamkkaa
namespace Go.Proofs.Ytfamkbofdamkkaa
open Go.ChangeShapes Go.WideShapes Go.ChangeAt Go.RowKit
theorem Try.own : ownKnob Try.prog.godebug = none := by kernel_rfl
theorem Try.laidOut : laidOutB Try.prog = true := by kernel_rfl
section
variable {H : Type} {enc : TypeId × Value → H} {w : World}
theorem okI_of_wf {n : Int} (h : (Lit.int .i64 n).wf = true) : okI n := by
  simp [Lit.wf, IntKind.min, IntKind.max, IntKind.signed, IntKind.bits] at h
  unfold okI; omega
theorem dec3 : Dec enc Try.prog w 65 (fun t : T3 => [V.int .i64 t.p, V.int .i64 t.q, V.int .i64 t.r]) okT :=
  (dec_array (n := 3) (sz := 1) Try.underlying65 (by kernel_rfl) (by kernel_rfl) (dec_int Try.underlying3)).turn (fun xs => ⟨xs.getD 0 0, xs.getD 1 0, xs.getD 2 0⟩) fun xs h => by
    obtain ⟨h1, h2⟩ := h
    match xs, h1 with
    | [x, y, z], _ => exact ⟨rfl, okI_of_wf (h2 x (by simp)), okI_of_wf (h2 y (by simp)), okI_of_wf (h2 z (by simp))⟩
def okG (n : Nat) (a : List Int) : Prop := a.length = n ∧ ∀ c ∈ a, okI c
end
set_option linter.unusedVariables false
set_option linter.unusedSimpArgs false
section
variable {H : Type} {enc : TypeId × Value → H} {w : World}
theorem dec2 : Dec enc Try.prog w 90 (fun p : Pl => [V.int .i64 p.x, V.int .i64 p.y]) okP :=
  (dec_array (n := 2) (sz := 1) Try.underlying90 (by kernel_rfl) (by kernel_rfl) (dec_int Try.underlying3)).turn (fun xs => ⟨xs.getD 0 0, xs.getD 1 0⟩) fun xs h => by
    obtain ⟨h1, h2⟩ := h
    match xs, h1 with
    | [x, y], _ => exact ⟨rfl, okI_of_wf (h2 x (by simp)), okI_of_wf (h2 y (by simp))⟩
end
end Go.Proofs.Ytfamkbofdamkkaa
