/- Texts of this proof, put together. -/
import Derived.Test.YtfamkbofdamkkaaKYb
import Derived.Test.YtfamkbofdamkkaaKYc
import Derived.Test.YtfamkbofdamkkaaKYe
import Derived.Test.YtfamkbofdamkkaaKYd
import Derived.Test.YtfamkbofdamkkaaChecked
namespace Go.Proofs.Ytfamkbofdamkkaa
open Go.RowKit
set_option linter.unusedVariables false
set_option linter.unusedSimpArgs false
set_option maxRecDepth 100000
attribute [local go_sem] Nat.zero_add Nat.add_zero Nat.mul_one eq_self ne_eq not_true_eq_false not_false_eq_true decide_true decide_false decide_not Bool.false_eq_true List.filter_cons List.filter_nil true_and and_true beq_false beq_true Bool.not_true Bool.not_false Bool.and_true Bool.true_and Option.getD_some Option.getD_none imp_self implies_true Int.toNat_natCast List.cons_append List.nil_append List.map_cons List.map_nil List.length_cons List.length_nil List.getD_cons_zero List.getD_cons_succ List.drop_zero List.drop_succ_cons List.take_succ_cons List.take_zero
attribute [local go_sem] lowN lowQ lowM isAl appOwn unw shL isSh Option.isNone_none Option.isNone_some Option.isSome_none appF isE isO stpO notIn St.bare evO evDO isEff stp St.get St.slot St.put List.lookup un unL ofVal gof nth pickV pkB_false pkB_true binV unV loadV idxV fldV partV buildV fillV lenV sliV appV appR rowsV winV V.parts V.okp V.sc Mem.look_cons Mem.look_nil V.cl V.clL AObj.clo fzAll exps St.fz Mem.fz V.fz V.fzL AObj.fz shp AObj.shp csh AObj.csh rowM isSt isRpS isRd Option.isSome_some Bool.or_true Bool.true_or Bool.or_false Bool.false_or and_false false_and or_false false_or List.length_append forall_const imp_self arT_104 arT_121 arT_160 arT_161 arT_22 arT_23 arT_24 arT_25 arT_28 arT_29 arT_30 arT_40 arT_42 arT_52 arT_60 arT_65 arT_72 arT_73 arT_76 arT_9 arT_90 boolT_182 boolT_25 boolT_3 boolT_35 boolT_4 boolT_76 flatT_182 flatT_25 flatT_3 flatT_35 flatT_4 flatT_76 intT_133 intT_169 intT_171 intT_188 intT_3 intT_5 lay_104 lay_112 lay_138 lay_141 lay_153 lay_160 lay_161 lay_164 lay_188 lay_23 lay_24 lay_25 lay_27 lay_28 lay_3 lay_30 lay_34 lay_4 lay_49 lay_52 lay_54 lay_56 lay_65 lay_67 lay_73 lay_76 lay_90 lay_99 mapT_112 okF_10 okF_100 okF_101 okF_102 okF_103 okF_104 okF_105 okF_106 okF_107 okF_108 okF_109 okF_11 okF_110 okF_111 okF_112 okF_113 okF_114 okF_115 okF_116 okF_117 okF_118 okF_119 okF_12 okF_120 okF_121 okF_122 okF_123 okF_124 okF_125 okF_126 okF_127 okF_128 okF_129 okF_13 okF_130 okF_131 okF_132 okF_133 okF_134 okF_135 okF_136 okF_137 okF_138 okF_139 okF_14 okF_140 okF_141 okF_142 okF_143 okF_144 okF_145 okF_146 okF_147 okF_148 okF_149 okF_15 okF_150 okF_151 okF_152 okF_153 okF_154 okF_155 okF_156 okF_157 okF_158 okF_159 okF_16 okF_160 okF_161 okF_162 okF_163 okF_164 okF_165 okF_166 okF_167 okF_168 okF_169 okF_17 okF_170 okF_171 okF_172 okF_173 okF_174 okF_175 okF_176 okF_177 okF_18 okF_19 okF_20 okF_21 okF_22 okF_23 okF_24 okF_25 okF_26 okF_27 okF_28 okF_29 okF_3 okF_30 okF_31 okF_32 okF_33 okF_34 okF_35 okF_36 okF_37 okF_38 okF_39 okF_4 okF_40 okF_41 okF_42 okF_43 okF_44 okF_45 okF_46 okF_47 okF_48 okF_49 okF_5 okF_50 okF_51 okF_52 okF_53 okF_54 okF_55 okF_56 okF_57 okF_58 okF_59 okF_6 okF_60 okF_61 okF_62 okF_63 okF_64 okF_65 okF_66 okF_67 okF_68 okF_69 okF_7 okF_70 okF_71 okF_72 okF_73 okF_74 okF_75 okF_76 okF_77 okF_78 okF_79 okF_8 okF_80 okF_81 okF_82 okF_83 okF_84 okF_85 okF_86 okF_87 okF_88 okF_89 okF_9 okF_90 okF_91 okF_92 okF_93 okF_94 okF_95 okF_96 okF_97 okF_98 okF_99 plT_138 plT_153 plT_157 plT_161 plT_27 plT_34 plT_54 plT_56 plT_67 plT_76 plT_90 plT_99 slT_104 slT_121 slT_160 slT_161 slT_22 slT_23 slT_24 slT_25 slT_28 slT_29 slT_30 slT_40 slT_42 slT_52 slT_60 slT_65 slT_72 slT_73 slT_76 slT_90 stT_138_0 stT_138_1 stT_153_0 stT_157_0 stT_157_1 stT_157_2 stT_157_3 stT_27_0 stT_27_1 stT_27_2 stT_34_0 stT_34_1 stT_34_2 stT_34_3 stT_54_0 stT_54_1 stT_54_2 stT_54_3 stT_56_0 stT_56_1 stT_67_1 stT_67_4 stT_67_5 stT_99_0 stT_99_1 strT_160 strT_76 strT_9 zeroT_112 zeroT_138 zeroT_153 zeroT_157 zeroT_160 zeroT_161 zeroT_188 zeroT_27 zeroT_3 zeroT_30 zeroT_34 zeroT_4 zeroT_49 zeroT_54 zeroT_56 zeroT_65 zeroT_67 zeroT_76 zeroT_90 zeroT_99
attribute [local go_sem] cellsI_fzL cellsI_uptoL List.getElem?_cons_zero List.getElem?_cons_succ List.zip_cons_cons List.zip_nil_left List.zip_nil_right Bool.false_and Bool.and_false cellsG_length polyA_length discA_length agEq_cells cellsI_isI cellsI_length cellsI_sc cellsI_cl cellsI_rows cellsI_take cellsI_dropD cellsI_set cellsI_full encI_length encI_getD List.length_set List.length_replicate List.all_cons List.all_nil outA_length eachA_length outM_length getD_set_same List.set_set spl_nil0 spl_cons0 spl_succ encP_length encP_getD
attribute [local simp] encP_length padP_length encI_length
attribute [local go_sem] encR_length encR_getD encRw encPg lookV encI_length encI_getD
attribute [local simp] encA_length encR_length cellsI_length
theorem k85  : CallsA Try.prog 85 [] (.sl 16 (encA exR)) := by
 have hq : True := trivial
 refine callsA_of_tr Try.func85 rfl (Nat.le_of_ble_eq_true rfl) ?_
 simp only [Try.results85, envOf, Nat.reduceAdd]
 refine tr_seq fun K1 hK1 => ?_
 refine tr_region [] rfl rfl fun K hK => ?_
 refine evR_p ?_
 refine evR_e hK ?_; clear hK K
 refine hK1 _ ?_
 refine tr_seq fun K2 hK2 => ?_
 refine tr_region [0] rfl rfl fun K hK => ?_
 iterate 3 refine evR_p ?_
 refine evR_bo ?_
 refine evR_p ?_
 refine evR_e hK ?_; clear hK K
 refine hK2 _ ?_
 refine tr_ret ?_
 (try simp only [thenE, inBlkE])
 simp (maxSteps := 4000000) (disch := first | assumption | omega | (simp only [go_sem, *]; done) | (simp only [go_sem, *]; omega)) only [postA, postO, resV1, fzAll, go_sem, hq, Int.reduceToNat, Nat.reduceBEq, Nat.reduceEqDiff, Nat.reduceAdd, Nat.reduceMul, Nat.reduceLeDiff, Nat.reduceLT, Nat.reduceSub, ↓reduceIte, reduceCtorEq]
 all_goals (rfl)

end Go.Proofs.Ytfamkbofdamkkaa
namespace Go.Proofs.Ytfamkbofdamkkaa
open Go.RowKit
set_option linter.unusedVariables false
set_option linter.unusedSimpArgs false
theorem hasV {a : List Int} (ha : a.length = 16) (hv : validA a = true) {x y : Nat} (hx : x < 16) (hy : y < 16) : hasA a x y = bitG a x y := by
  have h := has_G (bitG a) hx hy
  rw [← rep_G ha hv] at h; exact h
/-- A cell is covered by a set. -/
def covC (l : List (List Int)) (c : Nat × Nat) (s : Nat) : Bool := (List.range l.length).any fun i => s.testBit i && hasC l c i
theorem covC_iff {l : List (List Int)} {c : Nat × Nat} {s : Nat} : covC l c s = true ↔ ∃ i, i < l.length ∧ s.testBit i = true ∧ hasC l c i = true := by
  simp only [covC, List.any_eq_true, List.mem_range, Bool.and_eq_true]
theorem sumG_coef (l : List (List Int)) (c : Nat × Nat) (s : Nat) : ∀ n, n ≤ l.length → sumG (coefT l c l.length) s n ≤ 0 ∧ -(n : Int) ≤ sumG (coefT l c l.length) s n ∧ (sumG (coefT l c l.length) s n ≤ -1 ↔ ∃ i, i < n ∧ s.testBit i = true ∧ hasC l c i = true)
  | 0, _ => by simp [sumG]
  | n + 1, hn => by
    have ⟨ih1, ih2, ih3⟩ := sumG_coef l c s n (by omega)
    have e := coefT_getD (l := l) (c := c) (n := l.length) (i := n) (by omega)
    simp only [sumG, e]
    by_cases hb : s.testBit n = true
    · by_cases hc : hasC l c n = true
      · rw [if_pos hb, if_pos ⟨by omega, hc⟩]
        refine ⟨by omega, by omega, ⟨fun _ => ⟨n, by omega, hb, hc⟩, fun _ => by omega⟩⟩
      · rw [if_pos hb, if_neg (by intro h; exact hc h.2)]
        refine ⟨by omega, by omega, ?_⟩
        rw [Int.add_zero, ih3]
        constructor
        · rintro ⟨i, h1, h2⟩; exact ⟨i, by omega, h2⟩
        · rintro ⟨i, h1, h2, h3⟩
          refine ⟨i, ?_, h2, h3⟩
          rcases Nat.lt_or_ge i n with h | h
          · exact h
          · have : i = n := by omega
            subst this; exact absurd h3 hc
    · rw [if_neg hb]
      refine ⟨by omega, by omega, ?_⟩
      rw [Int.add_zero, ih3]
      constructor
      · rintro ⟨i, h1, h2⟩; exact ⟨i, by omega, h2⟩
      · rintro ⟨i, h1, h2, h3⟩
        refine ⟨i, ?_, h2, h3⟩
        rcases Nat.lt_or_ge i n with h | h
        · exact h
        · have : i = n := by omega
          subst this; exact absurd h2 hb
theorem coefB_R (l : List (List Int)) (c : Nat × Nat) (n : Nat) : coefB (coefT l c n) = true := by
  rw [coefB_iff]
  intro x hx
  obtain ⟨i, -, rfl⟩ := List.mem_map.1 hx
  split <;> omega
theorem kept_row {l : List (List Int)} (hl : l.length ≤ 12) (c : Nat × Nat) {s : Nat} (hs : s < 65536) : keptB (rowR l c) s = covC l c s := by
  have h1 := chosenW_sum (coefB_R l c l.length) hs (by rw [coefT_len]; exact hl)
  have h2 := (sumG_coef l c s l.length (Nat.le_refl _)).2.2
  have h3 : sumS (coefT l c l.length) s = sumG (coefT l c l.length) s l.length := by unfold sumS; rw [coefT_len]
  rw [Bool.eq_iff_iff, covC_iff, ← h2, ← h3, ← h1, keptB_iff]; rfl
theorem covC_key {l : List (List Int)} {c d : Nat × Nat} (h : setN l c l.length = setN l d l.length) (s : Nat) : covC l c s = covC l d s := by
  have hh : ∀ i, i < l.length → hasC l c i = hasC l d i := fun i hi => by
    have h1 := setN_bit l c l.length i
    have h2 := setN_bit l d l.length i
    rw [h, h2] at h1
    simpa [hi] using h1.symm
  rw [Bool.eq_iff_iff, covC_iff, covC_iff]
  constructor
  · rintro ⟨i, h1, h2, h3⟩; exact ⟨i, h1, h2, by rw [← hh i h1]; exact h3⟩
  · rintro ⟨i, h1, h2, h3⟩; exact ⟨i, h1, h2, by rw [hh i h1]; exact h3⟩
theorem lkM_put (k k' : Int) : ∀ es : List (Int × Bool), lkM (putM es k true) k' = true ↔ lkM es k' = true ∨ k' = k
  | [] => by
    simp only [putM, lkM]
    by_cases h : k = k'
    · rw [if_pos h]; simp [h]
    · have h4 : ¬ k' = k := fun e => h e.symm
      rw [if_neg h]; simp [h4]
  | (a, b) :: es => by
    have ih := lkM_put k k' es
    simp only [putM]
    split
    · rename_i h
      simp only [lkM]
      by_cases h2 : k = k'
      · rw [if_pos h2]; simp [h2]
      · have h3 : ¬ a = k' := fun e => h2 (h ▸ e)
        have h4 : ¬ k' = k := fun e => h2 e.symm
        rw [if_neg h2, if_neg h3]; simp [h4]
    · rename_i h
      simp only [lkM]
      by_cases h2 : a = k'
      · have h3 : ¬ k' = k := fun e => h (h2.trans e)
        rw [if_pos h2]; simp [h3, h2]
      · rw [if_neg h2, if_neg h2]; exact ih
theorem foldR_key (l : List (List Int)) (cs : List (Nat × Nat)) (k : Int) : lkM (foldR l cs).1 k = true ↔ ∃ c ∈ cs, k = (setN l c l.length : Nat) := by
  refine snoc_ind (P := fun cs => lkM (foldR l cs).1 k = true ↔ ∃ c ∈ cs, k = (setN l c l.length : Nat)) (by simp [foldR, lkM]) (fun cs c ih => ?_) cs
  rw [foldR_snoc]
  have e : (∃ d ∈ cs ++ [c], k = (setN l d l.length : Nat)) ↔ (∃ d ∈ cs, k = (setN l d l.length : Nat)) ∨ k = (setN l c l.length : Nat) := by
    constructor
    · rintro ⟨d, hd, h⟩
      rcases List.mem_append.1 hd with h1 | h1
      · exact .inl ⟨d, h1, h⟩
      · rw [List.mem_singleton] at h1; subst h1; exact .inr h
    · rintro (⟨d, hd, h⟩ | h)
      · exact ⟨d, List.mem_append.2 (.inl hd), h⟩
      · exact ⟨c, List.mem_append.2 (.inr (by simp)), h⟩
  rw [e]
  by_cases hk : lkM (foldR l cs).1 (setN l c l.length : Nat) = true
  · rw [stepR_t hk, ih]
    constructor
    · exact .inl
    · rintro (h | h)
      · exact h
      · rw [← ih, h]; exact hk
  · rw [Bool.not_eq_true] at hk
    rw [stepR_f hk, lkM_put, ih]
theorem foldR_rows {l : List (List Int)} (hl : l.length ≤ 12) (cs : List (Nat × Nat)) {s : Nat} (hs : s < 65536) : allKept (foldR l cs).2 s = cs.all fun c => covC l c s := by
  refine snoc_ind (P := fun cs => allKept (foldR l cs).2 s = cs.all fun c => covC l c s) (by simp [foldR, allKept]) (fun cs c ih => ?_) cs
  rw [foldR_snoc, List.all_append]
  by_cases hk : lkM (foldR l cs).1 (setN l c l.length : Nat) = true
  · rw [stepR_t hk, ih]
    obtain ⟨d, hd, he⟩ := (foldR_key l cs _).1 hk
    have hc := covC_key (show setN l c l.length = setN l d l.length by omega) s
    rw [Bool.eq_iff_iff]
    simp only [List.all_cons, List.all_nil, Bool.and_true, Bool.and_eq_true]
    constructor
    · intro h; exact ⟨h, by rw [hc]; exact List.all_eq_true.1 h d hd⟩
    · exact fun h => h.1
  · rw [Bool.not_eq_true] at hk
    rw [stepR_f hk]
    show allKept ((foldR l cs).2 ++ [rowR l c]) s = _
    simp only [allKept, List.all_append, List.all_cons, List.all_nil, Bool.and_true]
    rw [kept_row hl c hs, ← ih]; rfl
theorem foldR_mem {l : List (List Int)} (cs : List (Nat × Nat)) : ∀ r ∈ (foldR l cs).2, ∃ c ∈ cs, r = rowR l c := by
  refine snoc_ind (P := fun cs => ∀ r ∈ (foldR l cs).2, ∃ c ∈ cs, r = rowR l c) (by simp [foldR]) (fun cs c ih => ?_) cs
  intro r hr
  rw [foldR_snoc] at hr
  by_cases hk : lkM (foldR l cs).1 (setN l c l.length : Nat) = true
  · rw [stepR_t hk] at hr
    obtain ⟨d, h1, h2⟩ := ih r hr
    exact ⟨d, List.mem_append.2 (.inl h1), h2⟩
  · rw [Bool.not_eq_true] at hk
    rw [stepR_f hk] at hr
    rcases List.mem_append.1 hr with h | h
    · obtain ⟨d, h1, h2⟩ := ih r h
      exact ⟨d, List.mem_append.2 (.inl h1), h2⟩
    · rw [List.mem_singleton] at h
      exact ⟨c, List.mem_append.2 (.inr (by simp)), h⟩
theorem cellsL_len (t : List Int) : (cellsL t).length ≤ 256 := cellT_len t 256
theorem progR_valid {l : List (List Int)} (hl : l.length ≤ 12) (t : List Int) : validB (progR l t) = true := by
  simp only [validB, Bool.and_eq_true, isInB_spec, decide_eq_true_eq]
  have h1 := (foldR_len l (cellsL t)).1
  have h2 := cellsL_len t
  refine ⟨⟨by show (0 : Int) ≤ l.length; omega, by show (l.length : Int) ≤ 12; omega⟩, by show ((foldR l (cellsL t)).2.length : Int) ≤ 300; omega, ?_, by simp [progR], ?_⟩
  · rw [List.all_eq_true]
    intro r hr
    obtain ⟨c, -, rfl⟩ := foldR_mem (cellsL t) r hr
    simp only [rightB, Bool.and_eq_true, decide_eq_true_eq, isInB_spec]
    exact ⟨by show ((coefT l c l.length).length : Int) = l.length; rw [coefT_len], coefB_R l c _, by show (-1000000000000 : Int) ≤ -1 ∧ (-1 : Int) ≤ 1000000000000; decide⟩
  · rw [coefB_iff]
    intro x hx
    have := List.eq_of_mem_replicate hx
    omega
theorem union_has {a b : List Int} (ha : a.length = 16) (hb : b.length = 16) (va : validA a = true) (vb : validA b = true) : validA (unionA a b) = true ∧ ∀ x y : Nat, x < 16 → y < 16 → hasA (unionA a b) x y = (hasA a x y || hasA b x y) := by
  have e : unionA a b = cellsG fun x y => bitG a x y || bitG b x y := by
    have := union_G (bitG a) (bitG b); rw [← rep_G ha va, ← rep_G hb vb] at this; exact this
  exact ⟨by rw [e]; exact cellsG_valid _, fun x y hx hy => by rw [e, has_G _ hx hy, hasV ha va hx hy, hasV hb vb hx hy]⟩
theorem minus_has {a b : List Int} (ha : a.length = 16) (hb : b.length = 16) (va : validA a = true) (vb : validA b = true) : validA (minusA a b) = true ∧ ∀ x y : Nat, x < 16 → y < 16 → hasA (minusA a b) x y = (hasA a x y && !hasA b x y) := by
  have e : minusA a b = cellsG fun x y => bitG a x y && !bitG b x y := by
    have := minus_G (bitG a) (bitG b); rw [← rep_G ha va, ← rep_G hb vb] at this; exact this
  exact ⟨by rw [e]; exact cellsG_valid _, fun x y hx hy => by rw [e, has_G _ hx hy, hasV ha va hx hy, hasV hb vb hx hy]⟩
theorem within_has {a b : List Int} (ha : a.length = 16) (hb : b.length = 16) (va : validA a = true) (vb : validA b = true) : withinA a b = true ↔ ∀ x y : Nat, x < 16 → y < 16 → hasA a x y = true → hasA b x y = true := by
  have := within_G (g := bitG a) (h := bitG b)
  rw [← rep_G ha va, ← rep_G hb vb] at this
  rw [this]
  constructor
  · intro h x y hx hy; rw [hasV ha va hx hy, hasV hb vb hx hy]; exact h x y hx hy
  · intro h x y hx hy; have := h x y hx hy; rw [hasV ha va hx hy, hasV hb vb hx hy] at this; exact this
theorem zeros_has : validA zeros16 = true ∧ ∀ x y : Nat, x < 16 → y < 16 → hasA zeros16 x y = false := ⟨by decide, fun x y hx hy => by rw [zeros_G, has_G _ hx hy]⟩
theorem has_ext {a b : List Int} (ha : a.length = 16) (hb : b.length = 16) (va : validA a = true) (vb : validA b = true) (h : ∀ x y : Nat, x < 16 → y < 16 → hasA a x y = hasA b x y) : a = b := by
  rw [rep_G ha va, rep_G hb vb]
  exact cellsG_congr fun x y hx hy => by rw [← hasV ha va hx hy, ← hasV hb vb hx hy]; exact h x y hx hy
def allV (l : List (List Int)) : Prop := ∀ a ∈ l, validA a = true
theorem validR_iff {l : List (List Int)} {t : List Int} : validR l t = true ↔ allV l ∧ l.length ≤ 12 ∧ validA t = true := by
  simp only [validR, Bool.and_eq_true, decide_eq_true_eq, List.all_eq_true, allV]
  exact ⟨fun ⟨h1, h2, h3⟩ => ⟨h1, by omega, h3⟩, fun ⟨h1, h2, h3⟩ => ⟨h1, by omega, h3⟩⟩
theorem unionT_has {l : List (List Int)} (hl : okAs l) (hv : allV l) : ∀ n, n ≤ l.length → validA (unionT l n) = true ∧ ∀ x y : Nat, x < 16 → y < 16 → (hasA (unionT l n) x y = true ↔ ∃ i, i < n ∧ hasA (l.getD i []) x y = true)
  | 0, _ => ⟨zeros_has.1, fun x y hx hy => by
      show hasA zeros16 x y = true ↔ _
      rw [zeros_has.2 x y hx hy]; simp⟩
  | n + 1, hn => by
    have ⟨ih1, ih2⟩ := unionT_has hl hv n (by omega)
    have hu := union_has (unionT_len hl n (by omega)) (hl.at (show n < l.length by omega)) ih1 (hv _ (getD_mem (by omega)))
    refine ⟨hu.1, fun x y hx hy => ?_⟩
    show hasA (unionA (unionT l n) (l.getD n [])) x y = true ↔ _
    rw [hu.2 x y hx hy, Bool.or_eq_true, ih2 x y hx hy]
    constructor
    · rintro (⟨i, h1, h2⟩ | h)
      · exact ⟨i, by omega, h2⟩
      · exact ⟨n, by omega, h⟩
    · rintro ⟨i, h1, h2⟩
      rcases Nat.lt_or_ge i n with h | h
      · exact .inl ⟨i, h, h2⟩
      · have : i = n := by omega
        subst this; exact .inr h2
theorem union_mem {l : List (List Int)} (hl : okAs l) (hv : allV l) {x y : Nat} (hx : x < 16) (hy : y < 16) : hasA (unionL l) x y = true ↔ ∃ a ∈ l, hasA a x y = true := by
  have h := (unionT_has hl hv l.length (Nat.le_refl _)).2 x y hx hy
  show hasA (unionT l l.length) x y = true ↔ _
  rw [h]
  constructor
  · rintro ⟨i, h1, h2⟩; exact ⟨_, getD_mem h1, h2⟩
  · rintro ⟨a, ha, h2⟩
    obtain ⟨i, hi, rfl⟩ := List.getElem_of_mem ha
    exact ⟨i, hi, by simpa [List.getD, hi] using h2⟩
theorem chosen_mem {l : List (List Int)} {s : Int} {a : List Int} : ∀ {n : Nat}, a ∈ chosenT l s n ↔ ∃ i : Nat, i < n ∧ cBit s i = true ∧ a = l.getD i []
  | 0 => by simp [chosenT]
  | n + 1 => by
    have ih := chosen_mem (l := l) (s := s) (a := a) (n := n)
    by_cases h : cBit s n = true
    · rw [chosenT_t h, List.mem_append, ih, List.mem_singleton]
      constructor
      · rintro (⟨i, h1, h2⟩ | h2)
        · exact ⟨i, by omega, h2⟩
        · exact ⟨n, by omega, h, h2⟩
      · rintro ⟨i, h1, h2, h3⟩
        rcases Nat.lt_or_ge i n with h4 | h4
        · exact .inl ⟨i, h4, h2, h3⟩
        · have : i = n := by omega
          subst this; exact .inr h3
    · rw [chosenT_f (Bool.eq_false_iff.2 h), ih]
      constructor
      · rintro ⟨i, h1, h2⟩; exact ⟨i, by omega, h2⟩
      · rintro ⟨i, h1, h2, h3⟩
        rcases Nat.lt_or_ge i n with h4 | h4
        · exact ⟨i, h4, h2, h3⟩
        · have : i = n := by omega
          subst this; exact absurd h2 h
theorem chosen_V {l : List (List Int)} (hv : allV l) (s : Int) : allV (chosenL l s) := fun a ha => by
  obtain ⟨i, h1, -, rfl⟩ := chosen_mem.1 ha
  exact hv _ (getD_mem h1)
theorem reached_len {l : List (List Int)} (hl : okAs l) (s : Int) : (reachedL l s).length = 16 := unionT_len (chosenT_ok hl s l.length (Nat.le_refl _)) _ (Nat.le_refl _)
theorem reached_V {l : List (List Int)} (hl : okAs l) (hv : allV l) (s : Int) : validA (reachedL l s) = true := (unionT_has (chosenT_ok hl s l.length (Nat.le_refl _)) (chosen_V hv s) _ (Nat.le_refl _)).1
theorem reached_has {l : List (List Int)} (hl : okAs l) (hv : allV l) (h12 : l.length ≤ 12) {s : Nat} (hs : s < 65536) {x y : Nat} (hx : x < 16) (hy : y < 16) : hasA (reachedL l s) x y = covC l (x, y) s := by
  have h := union_mem (chosenT_ok hl s l.length (Nat.le_refl _)) (chosen_V hv s) hx hy
  rw [Bool.eq_iff_iff, covC_iff]
  show hasA (unionL (chosenT l s l.length)) x y = true ↔ _
  rw [h]
  constructor
  · rintro ⟨a, ha, h2⟩
    obtain ⟨i, h3, h4, rfl⟩ := chosen_mem.1 ha
    exact ⟨i, h3, by rw [← cBit_nat hs (by omega)]; exact h4, h2⟩
  · rintro ⟨i, h3, h4, h5⟩
    exact ⟨_, chosen_mem.2 ⟨i, h3, by rw [cBit_nat hs (by omega)]; exact h4, rfl⟩, h5⟩
theorem cells_mem {t : List Int} (ht : t.length = 16) (hv : validA t = true) {p : Nat × Nat} : p ∈ cellsL t ↔ p.1 < 16 ∧ p.2 < 16 ∧ hasA t p.1 p.2 = true := by
  have e : ∀ x y : Nat, x < 16 → y < 16 → hasA t x y = cellB (t.getD y 0) x := fun x y hx hy => by
    have h1 : (0 : Int) ≤ minV x y := minV_nn (by omega) (by omega)
    have h2 : maxV (x : Int) y < 16 := maxV_lt (by omega) (by omega)
    simp [hasA, hv, h1, h2]
  unfold cellsL
  rw [cellsL_mem]
  constructor
  · rintro ⟨h1, h2, h3⟩; exact ⟨h1, by omega, by rw [e _ _ h1 (by omega)]; exact h3⟩
  · rintro ⟨h1, h2, h3⟩; exact ⟨h1, by omega, by rw [← e _ _ h1 h2]; exact h3⟩
theorem covers_iff {l : List (List Int)} (hl : okAs l) {t : List Int} (ht : t.length = 16) (hR : validR l t = true) {s : Nat} (hs : s < 65536) : withinA t (reachedL l s) = (cellsL t).all fun c => covC l c s := by
  obtain ⟨hv, h12, hvt⟩ := validR_iff.1 hR
  rw [Bool.eq_iff_iff, within_has ht (reached_len hl _) hvt (reached_V hl hv _), List.all_eq_true]
  constructor
  · intro h c hc
    obtain ⟨h1, h2, h3⟩ := (cells_mem ht hvt).1 hc
    rw [← reached_has hl hv h12 hs h1 h2]; exact h _ _ h1 h2 h3
  · intro h x y hx hy hh
    rw [reached_has hl hv h12 hs hx hy]
    exact h (x, y) ((cells_mem ht hvt).2 ⟨hx, hy, hh⟩)
/-- A set covers the target exactly if it keeps all rows. -/
theorem covers_kept {l : List (List Int)} (hl : okAs l) {t : List Int} (ht : t.length = 16) (hR : validR l t = true) {s : Nat} (hs : s < 65536) : allKept (progR l t).rows s = withinA t (reachedL l s) := by
  rw [covers_iff hl ht hR hs]; exact foldR_rows (validR_iff.1 hR).2.1 _ hs
def tX (n : Int) : List Int := n :: List.replicate 15 0
theorem exR_ok : okAs exR := ⟨by simp [exR, maxLen], by intro a ha; simp [exR] at ha; rcases ha with rfl | rfl | rfl <;> rfl⟩
theorem ex_val {n : Int} (h : validA (tX n) = true) : validR exR (tX n) = true := validR_iff.2 ⟨by intro a ha; simp [exR] at ha; rcases ha with rfl | rfl | rfl <;> decide, by decide, h⟩
theorem ex255 : (solveW (progR exR (tX 255))).found = true ∧ (solveW (progR exR (tX 255))).set = 5 ∧ (solveW (progR exR (tX 255))).gain = -2 := by decide +kernel
theorem ex12 : (solveW (progR exR (tX 12))).found = true ∧ (solveW (progR exR (tX 12))).set = 1 ∧ (solveW (progR exR (tX 12))).gain = -1 := by decide +kernel
theorem ex24 : (solveW (progR exR (tX 24))).found = true ∧ (solveW (progR exR (tX 24))).set = 2 ∧ (solveW (progR exR (tX 24))).gain = -1 := by decide +kernel
theorem ex511 : (solveW (progR exR (tX 511))).found = false ∧ (solveW (progR exR (tX 511))).set = 0 ∧ (solveW (progR exR (tX 511))).gain = 0 := by decide +kernel
theorem exRows : (progR exR (tX 255)).rows = [⟨1, 0, 0, 0, [-1, 0, 0], -1⟩, ⟨1, 2, 0, 0, [-1, -1, 0], -1⟩, ⟨1, 4, 0, 0, [0, -1, -1], -1⟩, ⟨1, 6, 0, 0, [0, 0, -1], -1⟩] := by kernel_rfl
theorem exMiss : minusA (tX 511) (unionL exR) = tX 256 := by decide +kernel
theorem exReach : reachedL exR 3 = tX 63 := by decide +kernel
theorem exReach5 : minusA (tX 255) (reachedL exR 5) = zeros16 ∧ minusA (tX 255) (reachedL exR 7) = zeros16 := by decide +kernel
def checkC (l : List (List Int)) (t : List Int) (fd : Bool) (set gain : Int) (pf : List Sg) : Bool :=
 if fd then decide (0 ≤ set ∧ set < ((2 ^ l.length : Nat) : Int)) && (decide (minusA t (reachedL l set) = zeros16) && (decide (gain = -onesW (IntKind.u64.wrap set)) && boundsW (progR l t) pf gain))
 else decide (set = 0) && decide (gain = 0) && refutesW (progR l t) pf
theorem valid0 {l : List (List Int)} {t : List Int} (hR : validR l t = true) : validR l zeros16 = true := by
 obtain ⟨h1, h2, -⟩ := validR_iff.1 hR
 exact validR_iff.2 ⟨h1, h2, zeros_has.1⟩
theorem kCheck {l : List (List Int)} (hl : okAs l) {t : List Int} (ht : t.length = 16) (hR : validR l t = true) (fd : Bool) (set gain : Int) (pf : List Sg) (hpf : okPf pf) :
  CallsA Try.prog 47 [.sl 16 (encA l), .agg (cellsI t), .agg [.bool fd, .int .i64 set, .int .i64 gain, .sl 4 (encSgs pf)]] (.bool (checkC l t fd set gain pf)) := by
 have h12 := (validR_iff.1 hR).2.1
 have hvM := progR_valid h12 t
 have kR := s24 (okPr_valid hvM) hpf
 have kB := s32 (okPr_valid hvM) hpf
 cases fd with
 | false => exact k47a l hl t ht hR false set gain pf kR kB rfl
 | true =>
  by_cases h : 0 ≤ set ∧ set < ((2 ^ l.length : Nat) : Int)
  ·
   have := k47b l hl t ht h12 hR (valid0 hR) true set gain pf kR kB rfl h.1 h.2
   have e : checkC l t true set gain pf = (decide (minusA t (reachedL l set) = zeros16) && (decide (gain = -onesW (IntKind.u64.wrap set)) && boundsW (progR l t) pf gain)) := by
    unfold checkC; rw [if_pos rfl, decide_eq_true h, Bool.true_and]
   rw [e]; exact this
  ·
   have := k47c l hl t ht h12 hR true set gain pf kR kB rfl (by right; omega)
   have e : checkC l t true set gain pf = false := by
    unfold checkC; rw [if_pos rfl, decide_eq_false h, Bool.false_and]
   rw [e]; exact this
theorem kLeast {l : List (List Int)} (hl : okAs l) {t : List Int} (ht : t.length = 16) (hR : validR l t = true) :
  CallsA Try.prog 43 [.sl 16 (encA l), .agg (cellsI t)] (.tup [.agg (encSol2 (progR l t)), .int .i64 0]) := k43 l hl t ht hR (progR_valid (validR_iff.1 hR).2.1 t)
theorem solveW_f (p : Pg) : (solveB p).1 = (solveW p).found := rfl
theorem solveW_s (p : Pg) : (solveB p).2.1 = (solveW p).set := rfl
theorem solveW_g (p : Pg) : (solveB p).2.2 = (solveW p).gain := rfl
theorem vx (n : Int) (h : validA (tX n) = true := by decide) : validR exR (tX n) = true := ex_val h
theorem sx43 {n : Int} (h : validA (tX n) = true) : CallsA Try.prog 43 [.sl 16 (encA exR), .agg (cellsI (tX n))] (.tup [.agg [.bool (solveW (progR exR (tX n))).found, .int .i64 (solveW (progR exR (tX n))).set, .int .i64 (solveW (progR exR (tX n))).gain, .sl 4 (encSgs (prfS (progR exR (tX n))))], .int .i64 0]) := kLeast exR_ok (t := tX n) rfl (ex_val h)
theorem sx1 : ∃ P : List Sg, CallsA Try.prog 43 [.sl 16 (encA exR), .agg (cellsI (tX 255))] (.tup [.agg [.bool true, .int .i64 5, .int .i64 (-2), .sl 4 (encSgs P)], .int .i64 0]) ∧
  CallsA Try.prog 47 [.sl 16 (encA exR), .agg (cellsI (tX 255)), .agg [.bool true, .int .i64 5, .int .i64 (-2), .sl 4 (encSgs P)]] (.bool true) ∧
  CallsA Try.prog 47 [.sl 16 (encA exR), .agg (cellsI (tX 255)), .agg [.bool true, .int .i64 7, .int .i64 (-3), .sl 4 (encSgs P)]] (.bool false) := by
 have hv := progR_valid (l := exR) (by decide) (tX 255)
 have h := sx43 (n := 255) (by decide)
 obtain ⟨e1, e2, e3⟩ := ex255
 rw [e1, e2, e3] at h
 refine ⟨_, h, ?_, ?_⟩
 ·
  have hb := cmp_bound hv ((solveW_f _).trans e1)
  have e3' : (solveB (progR exR (tX 255))).2.2 = -2 := (solveW_g _).trans e3
  rw [e3'] at hb
  have hc := kCheck exR_ok (t := tX 255) rfl (vx 255) true 5 (-2) _ (okPf_prf hv)
  have e : checkC exR (tX 255) true 5 (-2) (prfS (progR exR (tX 255))) = true := by
   unfold checkC
   rw [if_pos rfl, hb, exReach5.1]; decide
  rw [e] at hc; exact hc
 ·
  have hc := kCheck exR_ok (t := tX 255) rfl (vx 255) true 7 (-3) _ (okPf_prf hv)
  have hb : boundsW (progR exR (tX 255)) (prfS (progR exR (tX 255))) (-3) = false := by
   cases hb : boundsW (progR exR (tX 255)) (prfS (progR exR (tX 255))) (-3) with
   | false => rfl
   | true =>
    have := bounds_true hb (v := 3) rfl (s := 5) (by decide) (by decide +kernel)
    exact absurd this (by decide)
  have e : checkC exR (tX 255) true 7 (-3) (prfS (progR exR (tX 255))) = false := by
   unfold checkC
   rw [if_pos rfl, hb, Bool.and_false, Bool.and_false, Bool.and_false]
  rw [e] at hc; exact hc
theorem sx2 : ∃ P : List Sg, CallsA Try.prog 43 [.sl 16 (encA exR), .agg (cellsI (tX 12))] (.tup [.agg [.bool true, .int .i64 1, .int .i64 (-1), .sl 4 (encSgs P)], .int .i64 0]) := by
 have h := sx43 (n := 12) (by decide)
 obtain ⟨e1, e2, e3⟩ := ex12
 rw [e1, e2, e3] at h; exact ⟨_, h⟩
theorem sx3 : ∃ P : List Sg, CallsA Try.prog 43 [.sl 16 (encA exR), .agg (cellsI (tX 24))] (.tup [.agg [.bool true, .int .i64 2, .int .i64 (-1), .sl 4 (encSgs P)], .int .i64 0]) := by
 have h := sx43 (n := 24) (by decide)
 obtain ⟨e1, e2, e3⟩ := ex24
 rw [e1, e2, e3] at h; exact ⟨_, h⟩
theorem sx4 : ∃ P : List Sg, CallsA Try.prog 43 [.sl 16 (encA exR), .agg (cellsI (tX 511))] (.tup [.agg [.bool false, .int .i64 0, .int .i64 0, .sl 4 (encSgs P)], .int .i64 0]) ∧
  CallsA Try.prog 47 [.sl 16 (encA exR), .agg (cellsI (tX 511)), .agg [.bool false, .int .i64 0, .int .i64 0, .sl 4 (encSgs P)]] (.bool true) ∧
  CallsA Try.prog 47 [.sl 16 (encA exR), .agg (cellsI (tX 255)), .agg [.bool false, .int .i64 0, .int .i64 0, .sl 4 (encSgs P)]] (.bool false) := by
 have hv := progR_valid (l := exR) (by decide) (tX 511)
 have h := sx43 (n := 511) (by decide)
 obtain ⟨e1, e2, e3⟩ := ex511
 rw [e1, e2, e3] at h
 refine ⟨_, h, ?_, ?_⟩
 ·
  have hb := prf_refutes hv ((solveW_f _).trans e1)
  have hc := kCheck exR_ok (t := tX 511) rfl (vx 511) false 0 0 _ (okPf_prf hv)
  have e : checkC exR (tX 511) false 0 0 (prfS (progR exR (tX 511))) = true := by
   unfold checkC
   rw [hb]; decide
  rw [e] at hc; exact hc
 ·
  have hc := kCheck exR_ok (t := tX 255) rfl (vx 255) false 0 0 _ (okPf_prf hv)
  have hb : refutesW (progR exR (tX 255)) (prfS (progR exR (tX 511))) = false := by
   cases hb : refutesW (progR exR (tX 255)) (prfS (progR exR (tX 511))) with
   | false => rfl
   | true =>
    have := refutes_true hb (v := 3) rfl (s := 5) (by decide)
    have h5 : allKept (progR exR (tX 255)).rows (5 : Nat) = true := by decide +kernel
    rw [h5] at this; cases this
  have e : checkC exR (tX 255) false 0 0 (prfS (progR exR (tX 511))) = false := by
   unfold checkC
   rw [hb]; decide
  rw [e] at hc; exact hc
theorem sx5 : CallsA Try.prog 49 [.sl 16 (encA exR), .agg (cellsI (tX 255))] (.tup [.agg [.int .i64 3, .sl 6 (encR [⟨1, 0, 0, 0, [-1, 0, 0], -1⟩, ⟨1, 2, 0, 0, [-1, -1, 0], -1⟩, ⟨1, 4, 0, 0, [0, -1, -1], -1⟩, ⟨1, 6, 0, 0, [0, 0, -1], -1⟩]), .sl 1 (encI [-1, -1, -1])], .int .i64 0]) := by
 have h := k49 exR exR_ok (tX 255) rfl (vx 255)
 unfold encPg at h; rw [exRows] at h; exact h
theorem sx6 : CallsA Try.prog 52 [.sl 16 (encA exR), .agg (cellsI (tX 511))] (.tup [.agg (cellsI (tX 256)), .int .i64 0]) := by
 have h := k52 exR exR_ok (tX 511) rfl (vx 511); rw [exMiss] at h; exact h
theorem sx7 : CallsA Try.prog 53 [.sl 16 (encA exR), .int .i64 3] (.tup [.agg (cellsI (tX 63)), .int .i64 0]) := by
 have h := k53 exR exR_ok (by decide) 3 (valid0 (vx 255)) (by decide) (by decide); rw [exReach] at h; exact h
theorem sx8 : CallsA Try.prog 53 [.sl 16 (encA exR), .int .i64 8] (.tup [.agg (cellsI zeros16), .int .i64 280]) := k53n exR exR_ok (by decide) 8 (by decide)
theorem sx9 : CallsA Try.prog 86 [.sl 16 (encA exR), .agg (cellsI (tX 1))] (.bool true) := by
 have h := k86 exR exR_ok (tX 1) rfl; rw [vx 1] at h; exact h
theorem sx10 : CallsA Try.prog 86 [.sl 16 (encA exR), .agg (cellsI (tX (-1)))] (.bool false) := by
 have h := k86 exR exR_ok (tX (-1)) rfl
 have e : validR exR (tX (-1)) = false := by decide
 rw [e] at h; exact h
set_option maxRecDepth 100000
attribute [local go_sem] Nat.zero_add Nat.add_zero Nat.mul_one eq_self ne_eq not_true_eq_false not_false_eq_true decide_true decide_false decide_not Bool.false_eq_true List.filter_cons List.filter_nil true_and and_true beq_false beq_true Bool.not_true Bool.not_false Bool.and_true Bool.true_and Option.getD_some Option.getD_none imp_self implies_true Int.toNat_natCast List.cons_append List.nil_append List.map_cons List.map_nil List.length_cons List.length_nil List.getD_cons_zero List.getD_cons_succ List.drop_zero List.drop_succ_cons List.take_succ_cons List.take_zero
attribute [local go_sem] lowN lowQ lowM isAl appOwn unw shL isSh Option.isNone_none Option.isNone_some Option.isSome_none appF isE isO stpO notIn St.bare evO evDO isEff stp St.get St.slot St.put List.lookup un unL ofVal gof nth pickV pkB_false pkB_true binV unV loadV idxV fldV partV buildV fillV lenV sliV appV appR rowsV winV V.parts V.okp V.sc Mem.look_cons Mem.look_nil V.cl V.clL AObj.clo fzAll exps St.fz Mem.fz V.fz V.fzL AObj.fz shp AObj.shp csh AObj.csh rowM isSt isRpS isRd Option.isSome_some Bool.or_true Bool.true_or Bool.or_false Bool.false_or and_false false_and or_false false_or List.length_append forall_const imp_self arT_104 arT_121 arT_160 arT_161 arT_22 arT_23 arT_24 arT_25 arT_28 arT_29 arT_30 arT_40 arT_42 arT_52 arT_60 arT_65 arT_72 arT_73 arT_76 arT_9 arT_90 boolT_182 boolT_25 boolT_3 boolT_35 boolT_4 boolT_76 flatT_182 flatT_25 flatT_3 flatT_35 flatT_4 flatT_76 intT_133 intT_169 intT_171 intT_188 intT_3 intT_5 lay_104 lay_112 lay_138 lay_141 lay_153 lay_160 lay_161 lay_164 lay_188 lay_23 lay_24 lay_25 lay_27 lay_28 lay_3 lay_30 lay_34 lay_4 lay_49 lay_52 lay_54 lay_56 lay_65 lay_67 lay_73 lay_76 lay_90 lay_99 mapT_112 okF_10 okF_100 okF_101 okF_102 okF_103 okF_104 okF_105 okF_106 okF_107 okF_108 okF_109 okF_11 okF_110 okF_111 okF_112 okF_113 okF_114 okF_115 okF_116 okF_117 okF_118 okF_119 okF_12 okF_120 okF_121 okF_122 okF_123 okF_124 okF_125 okF_126 okF_127 okF_128 okF_129 okF_13 okF_130 okF_131 okF_132 okF_133 okF_134 okF_135 okF_136 okF_137 okF_138 okF_139 okF_14 okF_140 okF_141 okF_142 okF_143 okF_144 okF_145 okF_146 okF_147 okF_148 okF_149 okF_15 okF_150 okF_151 okF_152 okF_153 okF_154 okF_155 okF_156 okF_157 okF_158 okF_159 okF_16 okF_160 okF_161 okF_162 okF_163 okF_164 okF_165 okF_166 okF_167 okF_168 okF_169 okF_17 okF_170 okF_171 okF_172 okF_173 okF_174 okF_175 okF_176 okF_177 okF_18 okF_19 okF_20 okF_21 okF_22 okF_23 okF_24 okF_25 okF_26 okF_27 okF_28 okF_29 okF_3 okF_30 okF_31 okF_32 okF_33 okF_34 okF_35 okF_36 okF_37 okF_38 okF_39 okF_4 okF_40 okF_41 okF_42 okF_43 okF_44 okF_45 okF_46 okF_47 okF_48 okF_49 okF_5 okF_50 okF_51 okF_52 okF_53 okF_54 okF_55 okF_56 okF_57 okF_58 okF_59 okF_6 okF_60 okF_61 okF_62 okF_63 okF_64 okF_65 okF_66 okF_67 okF_68 okF_69 okF_7 okF_70 okF_71 okF_72 okF_73 okF_74 okF_75 okF_76 okF_77 okF_78 okF_79 okF_8 okF_80 okF_81 okF_82 okF_83 okF_84 okF_85 okF_86 okF_87 okF_88 okF_89 okF_9 okF_90 okF_91 okF_92 okF_93 okF_94 okF_95 okF_96 okF_97 okF_98 okF_99 plT_138 plT_153 plT_157 plT_161 plT_27 plT_34 plT_54 plT_56 plT_67 plT_76 plT_90 plT_99 slT_104 slT_121 slT_160 slT_161 slT_22 slT_23 slT_24 slT_25 slT_28 slT_29 slT_30 slT_40 slT_42 slT_52 slT_60 slT_65 slT_72 slT_73 slT_76 slT_90 stT_138_0 stT_138_1 stT_153_0 stT_157_0 stT_157_1 stT_157_2 stT_157_3 stT_27_0 stT_27_1 stT_27_2 stT_34_0 stT_34_1 stT_34_2 stT_34_3 stT_54_0 stT_54_1 stT_54_2 stT_54_3 stT_56_0 stT_56_1 stT_67_1 stT_67_4 stT_67_5 stT_99_0 stT_99_1 strT_160 strT_76 strT_9 zeroT_112 zeroT_138 zeroT_153 zeroT_157 zeroT_160 zeroT_161 zeroT_188 zeroT_27 zeroT_3 zeroT_30 zeroT_34 zeroT_4 zeroT_49 zeroT_54 zeroT_56 zeroT_65 zeroT_67 zeroT_76 zeroT_90 zeroT_99
attribute [local go_sem] cellsI_fzL cellsI_uptoL List.getElem?_cons_zero List.getElem?_cons_succ List.zip_cons_cons List.zip_nil_left List.zip_nil_right Bool.false_and Bool.and_false cellsG_length polyA_length discA_length agEq_cells cellsI_isI cellsI_length cellsI_sc cellsI_cl cellsI_rows cellsI_take cellsI_dropD cellsI_set cellsI_full encI_length encI_getD List.length_set List.length_replicate List.all_cons List.all_nil outA_length eachA_length outM_length getD_set_same List.set_set spl_nil0 spl_cons0 spl_succ encP_length encP_getD
attribute [local simp] encP_length padP_length encI_length
attribute [local go_sem] encR_length encR_getD encRw encPg lookV encI_length encI_getD
attribute [local simp] encA_length encR_length cellsI_length
section
attribute [local go_sem] encR encRw
set_option maxHeartbeats 16000000 in
theorem k39  : CallsA Try.prog 39 [] (.bool true) := by
 obtain ⟨P1, c1, q1, q2⟩ := sx1
 obtain ⟨P2, c2⟩ := sx2
 obtain ⟨P3, c3⟩ := sx3
 obtain ⟨P4, c4, q3, q4⟩ := sx4
 have e1 : List.take 16 (spl (cellsI (List.replicate 16 0)) 0 (cellsI (tX 256))) = cellsI (tX 256) := by rw [cellsI_full (tX 256) _ rfl]; exact List.take_of_length_le (Nat.le_refl 16)
 have e2 : List.take 16 (spl (cellsI (List.replicate 16 0)) 0 (cellsI (tX 63))) = cellsI (tX 63) := by rw [cellsI_full (tX 63) _ rfl]; exact List.take_of_length_le (Nat.le_refl 16)
 have hq : True := trivial
 refine callsA_of_tr Try.func39 rfl (Nat.le_of_ble_eq_true rfl) ?_
 simp only [Try.results39, envOf, Nat.reduceAdd]
 refine tr_seq fun K1 hK1 => ?_
 refine tr_region [] rfl rfl fun K hK => ?_
 refine evR_p ?_
 refine evR_e hK ?_; clear hK K
 refine hK1 _ ?_
 refine tr_seq fun K2 hK2 => ?_
 refine tr_region [1] rfl rfl fun K hK => ?_
 refine evR_c (hc := k85) (k := ?_)
 refine evR_p ?_
 refine evR_e hK ?_; clear hK K
 refine hK2 _ ?_
 refine tr_seq fun K3 hK3 => ?_
 refine tr_region [1, 2, 3] rfl rfl fun K hK => ?_
 iterate 2 refine evR_p ?_
 refine evR_c (hc := c1) (k := ?_)
 iterate 6 refine evR_p ?_
 refine evR_e hK ?_; clear hK K
 refine hK3 _ ?_
 refine tr_seq fun K4 hK4 => ?_
 refine tr_region [1, 2, 3, 4, 5] rfl rfl fun K hK => ?_
 iterate 2 refine evR_p ?_
 refine evR_c (hc := c2) (k := ?_)
 iterate 6 refine evR_p ?_
 refine evR_e hK ?_; clear hK K
 refine hK4 _ ?_
 refine tr_seq fun K5 hK5 => ?_
 refine tr_region [1, 2, 3, 4, 5, 6, 7] rfl rfl fun K hK => ?_
 iterate 2 refine evR_p ?_
 refine evR_c (hc := c3) (k := ?_)
 iterate 6 refine evR_p ?_
 refine evR_e hK ?_; clear hK K
 refine hK5 _ ?_
 refine tr_seq fun K6 hK6 => ?_
 refine tr_region [1, 2, 3, 4, 5, 6, 7, 8, 9] rfl rfl fun K hK => ?_
 iterate 2 refine evR_p ?_
 refine evR_c (hc := sx5) (k := ?_)
 iterate 6 refine evR_p ?_
 refine evR_e hK ?_; clear hK K
 refine hK6 _ ?_
 refine tr_seq fun K7 hK7 => ?_
 refine tr_region [1, 2, 3, 4, 5, 6, 7, 8, 9, 10, 11] rfl rfl fun K hK => ?_
 iterate 2 refine evR_p ?_
 refine evR_c (hc := sx6) (k := ?_)
 iterate 6 refine evR_p ?_
 refine evR_e hK ?_; clear hK K
 refine hK7 _ ?_
 refine tr_seq fun K8 hK8 => ?_
 refine tr_region [1, 2, 3, 4, 5, 6, 7, 8, 9, 10, 11, 12, 13] rfl rfl fun K hK => ?_
 refine evR_p ?_
 refine evR_c (hc := sx7) (k := ?_)
 iterate 6 refine evR_p ?_
 refine evR_e hK ?_; clear hK K
 refine hK8 _ ?_
 refine tr_seq fun K9 hK9 => ?_
 refine tr_region [1, 2, 3, 4, 5, 6, 7, 8, 9, 10, 11, 12, 13, 14, 15] rfl rfl fun K hK => ?_
 iterate 2 refine evR_p ?_
 refine evR_c (hc := c4) (k := ?_)
 iterate 6 refine evR_p ?_
 refine evR_e hK ?_; clear hK K
 refine hK9 _ ?_
 refine tr_seq fun K10 hK10 => ?_
 refine tr_region [1, 2, 3, 4, 5, 6, 7, 8, 9, 10, 11, 12, 13, 14, 15, 17] rfl rfl fun K hK => ?_
 refine evR_p ?_
 refine evR_c (hc := sx8) (k := ?_)
 iterate 6 refine evR_p ?_
 refine evR_e hK ?_; clear hK K
 refine hK10 _ ?_
 refine tr_seq fun K11 hK11 => ?_
 refine tr_seq fun K12 hK12 => ?_
 refine tr_region [1, 2, 4, 6, 8, 10, 12, 14, 109] rfl rfl fun K hK => ?_
 iterate 3 refine evR_p ?_
 iterate 2 refine evR_g ?_
 iterate 2 refine evR_p ?_
 iterate 2 refine evR_g ?_
 iterate 2 refine evR_p ?_
 iterate 2 refine evR_g ?_
 iterate 2 refine evR_p ?_
 iterate 2 refine evR_g ?_
 iterate 2 refine evR_p ?_
 iterate 2 refine evR_g ?_
 iterate 2 refine evR_p ?_
 iterate 2 refine evR_g ?_
 iterate 2 refine evR_p ?_
 iterate 2 refine evR_g ?_
 iterate 2 refine evR_p ?_
 iterate 4 refine evR_g ?_
 iterate 2 refine evR_p ?_
 iterate 3 refine evR_g ?_
 refine evR_p ?_
 refine evR_e hK ?_; clear hK K
 refine hK12 _ ?_
 refine tr_condB (fun ht1 => ?_) (fun ht1 => ?_)
 ·
  skip
  refine tr_seq fun K13 hK13 => ?_
  refine tr_region [0] rfl rfl fun K hK => ?_
  refine evR_p ?_
  refine evR_e hK ?_; clear hK K
  refine hK13 _ ?_
  refine tr_ret ?_
  (try simp only [thenE, inBlkE])
  simp (maxSteps := 4000000) (disch := first | assumption | omega | (simp only [go_sem, *]; done) | (simp only [go_sem, *]; omega)) only [postA, postO, resV1, fzAll, go_sem, hq, Int.reduceToNat, Nat.reduceBEq, Nat.reduceEqDiff, Nat.reduceAdd, Nat.reduceMul, Nat.reduceLeDiff, Nat.reduceLT, Nat.reduceSub, ↓reduceIte, reduceCtorEq]
  all_goals (first | exact absurd rfl ht1 | (rw [e1, e2, agEq_cells, agEq_cells]; decide) | (rw [e1, e2, agEq_cells, agEq_cells]; rfl))
 ·
  skip
  refine tr_skip ?_
  (try simp only [thenE, inBlkE])
  refine hK11 _ ?_
  refine tr_seq fun K14 hK14 => ?_
  refine tr_region [1, 2, 8, 10, 12, 14, 18] rfl rfl fun K hK => ?_
  iterate 3 refine evR_p ?_
  iterate 3 refine evR_g ?_
  iterate 2 refine evR_p ?_
  iterate 3 refine evR_g ?_
  iterate 2 refine evR_p ?_
  iterate 2 refine evR_g ?_
  iterate 2 refine evR_p ?_
  iterate 3 refine evR_g ?_
  iterate 2 refine evR_p ?_
  iterate 3 refine evR_g ?_
  iterate 2 refine evR_p ?_
  iterate 2 refine evR_g ?_
  iterate 2 refine evR_p ?_
  iterate 3 refine evR_g ?_
  iterate 2 refine evR_p ?_
  iterate 3 refine evR_g ?_
  iterate 2 refine evR_p ?_
  iterate 3 refine evR_g ?_
  iterate 2 refine evR_p ?_
  refine evR_e hK ?_; clear hK K
  refine hK14 _ ?_
  refine tr_seq fun K15 hK15 => ?_
  refine tr_region [1, 2, 10, 12, 14, 18, 19] rfl rfl fun K hK => ?_
  iterate 7 refine evR_p ?_
  iterate 6 refine evR_g ?_
  refine evR_gc (hc := (c19 [-1, -1, 0] [-1, -1, 0] (by simp [maxLen]) (by simp [maxLen]))) (k := ?_)
  iterate 2 refine evR_p ?_
  iterate 6 refine evR_g ?_
  iterate 2 refine evR_p ?_
  iterate 6 refine evR_g ?_
  refine evR_gc (hc := (c19 [0, 0, -1] [0, 0, -1] (by simp [maxLen]) (by simp [maxLen]))) (k := ?_)
  iterate 2 refine evR_p ?_
  refine evR_e hK ?_; clear hK K
  refine hK15 _ ?_
  refine tr_seq fun K16 hK16 => ?_
  refine tr_region [1, 2, 10, 12, 14, 18, 19, 20] rfl rfl fun K hK => ?_
  iterate 3 refine evR_p ?_
  refine evR_e hK ?_; clear hK K
  refine hK16 _ ?_
  refine tr_seq fun K17 hK17 => ?_
  refine tr_region [1, 2, 10, 12, 14, 18, 19, 20] rfl rfl fun K hK => ?_
  iterate 2 refine evR_p ?_
  refine evR_e hK ?_; clear hK K
  refine hK17 _ ?_
  refine tr_seq fun K18 hK18 => ?_
  refine tr_region [1, 2, 10, 12, 14, 18, 19, 20] rfl rfl fun K hK => ?_
  iterate 2 refine evR_p ?_
  refine evR_e hK ?_; clear hK K
  refine hK18 _ ?_
  refine tr_seq fun K19 hK19 => ?_
  refine tr_region [1, 10, 12, 18, 19, 21] rfl rfl fun K hK => ?_
  iterate 3 refine evR_p ?_
  refine evR_c (hc := q1) (k := ?_)
  refine evR_p ?_
  iterate 3 refine evR_g ?_
  refine evR_gc (hc := q2) (k := ?_)
  refine evR_g ?_
  iterate 2 refine evR_p ?_
  iterate 3 refine evR_g ?_
  refine evR_gc (hc := q3) (k := ?_)
  iterate 2 refine evR_p ?_
  iterate 3 refine evR_g ?_
  refine evR_gc (hc := q4) (k := ?_)
  refine evR_g ?_
  iterate 2 refine evR_p ?_
  refine evR_e hK ?_; clear hK K
  refine hK19 _ ?_
  refine tr_seq fun K20 hK20 => ?_
  refine tr_region [0] rfl rfl fun K hK => ?_
  iterate 2 refine evR_p ?_
  refine evR_g ?_
  iterate 2 refine evR_p ?_
  refine evR_g ?_
  iterate 2 refine evR_p ?_
  iterate 3 refine evR_g ?_
  iterate 2 refine evR_p ?_
  iterate 3 refine evR_g ?_
  iterate 2 refine evR_p ?_
  iterate 2 refine evR_g ?_
  refine evR_gc (hc := sx9) (k := ?_)
  iterate 2 refine evR_p ?_
  iterate 2 refine evR_g ?_
  refine evR_gc (hc := sx10) (k := ?_)
  refine evR_g ?_
  iterate 2 refine evR_p ?_
  refine evR_e hK ?_; clear hK K
  refine hK20 _ ?_
  refine tr_ret ?_
  (try simp only [thenE, inBlkE])
  simp (maxSteps := 4000000) (disch := first | assumption | omega | (simp only [go_sem, *]; done) | (simp only [go_sem, *]; omega)) only [postA, postO, resV1, fzAll, go_sem, hq, Int.reduceToNat, Nat.reduceBEq, Nat.reduceEqDiff, Nat.reduceAdd, Nat.reduceMul, Nat.reduceLeDiff, Nat.reduceLT, Nat.reduceSub, ↓reduceIte, reduceCtorEq]
  all_goals (first | exact absurd rfl ht1 | (rw [e1, e2, agEq_cells, agEq_cells]; decide) | (rw [e1, e2, agEq_cells, agEq_cells]; rfl))
end

end Go.Proofs.Ytfamkbofdamkkaa
namespace Go.Proofs.Ytfamkbofdamkkaa
open Go.RowKit
set_option linter.unusedVariables false
set_option linter.unusedSimpArgs false
theorem pickW_rangeL (c : Int) {n : Int} (hn : 0 < n) (hc : okI c) : 0 ≤ pickW c n ∧ pickW c n < n := by
  unfold okI at hc
  unfold pickW
  split
  · rw [w64 (x := c + 1) (by omega), w64 (x := 0 - (c + 1)) (by omega)]
    exact ⟨Int.tmod_nonneg _ (by omega), Int.tmod_lt_of_pos _ hn⟩
  · exact ⟨Int.tmod_nonneg _ (by omega), Int.tmod_lt_of_pos _ hn⟩
/-- The step that Bent makes of a step. -/
def bentS (n : Nat) (z : List Int) (s : Sg) : Sg :=
  if pickW (z.getD 1 0) 9 = 0 then ⟨pickW (z.getD 2 0) 9 - 1, s.no, s.yes, s.ws⟩
  else if pickW (z.getD 1 0) 9 = 1 then ⟨s.var, pickW (z.getD 2 0) (n + 1), s.yes, s.ws⟩
  else if pickW (z.getD 1 0) 9 = 2 then ⟨s.var, s.no, pickW (z.getD 2 0) (n + 1), s.ws⟩
  else if pickW (z.getD 1 0) 9 = 3 then (if 0 < s.ws.length then ⟨s.var, s.no, s.yes, s.ws.set 0 ⟨pickW (z.getD 2 0) 9, (s.ws.getD 0 wt0).tm⟩⟩ else s)
  else if pickW (z.getD 1 0) 9 = 4 then (if 0 < s.ws.length then ⟨s.var, s.no, s.yes, s.ws.set 0 ⟨(s.ws.getD 0 wt0).rw, pickW (z.getD 2 0) 1003 - 1⟩⟩ else s)
  else if pickW (z.getD 1 0) 9 = 5 then ⟨s.var, s.no, s.yes, s.ws ++ [⟨pickW (z.getD 2 0) 10, 1 + pickW (z.getD 3 0) 5⟩]⟩
  else if pickW (z.getD 1 0) 9 = 7 then ⟨s.var, s.yes, s.no, s.ws⟩
  else s
def bentW (l : List Sg) (z : List Int) : List Sg :=
  if l.length = 0 then l
  else if pickW (z.getD 1 0) 9 = 6 then (l.set (pickW (z.getD 0 0) l.length).toNat (bentS l.length z (l.getD (pickW (z.getD 0 0) l.length).toNat sg0))).take (pickW (z.getD 2 0) l.length + 1).toNat
  else l.set (pickW (z.getD 0 0) l.length).toNat (bentS l.length z (l.getD (pickW (z.getD 0 0) l.length).toNat sg0))
theorem bentS_6 {n : Nat} {z : List Int} {s : Sg} (h : pickW (z.getD 1 0) 9 = 6) : bentS n z s = s := by unfold bentS; rw [h]; rfl
theorem set_getD {α : Type} {l : List α} {k : Nat} {d : α} : l.set k (l.getD k d) = l := by
  apply List.ext_getElem?
  intro i
  rw [List.getElem?_set]
  split
  · rename_i e; subst e
    split
    · rename_i h; simp [List.getD, h]
    · rename_i h; rw [List.getElem?_eq_none (by omega)]
  · rfl
theorem bentW_6 {l : List Sg} {z : List Int} (h : pickW (z.getD 1 0) 9 = 6) (h0 : ¬ l.length = 0) : bentW l z = l.take (pickW (z.getD 2 0) l.length + 1).toNat := by
  unfold bentW
  rw [if_neg h0, if_pos h, bentS_6 h, set_getD]
theorem bentW_n {l : List Sg} {z : List Int} (h : ¬ pickW (z.getD 1 0) 9 = 6) (h0 : ¬ l.length = 0) : bentW l z = l.set (pickW (z.getD 0 0) l.length).toNat (bentS l.length z (l.getD (pickW (z.getD 0 0) l.length).toNat sg0)) := by
  unfold bentW
  rw [if_neg h0, if_neg h]
theorem bentS_ws (n : Nat) (z : List Int) (s : Sg) : (bentS n z s).ws.length ≤ s.ws.length + 1 := by
  unfold bentS
  repeat' split
  all_goals simp
theorem bentW_ws {l : List Sg} {z : List Int} {B : Nat} (h : ∀ s ∈ l, s.ws.length ≤ B) : ∀ s ∈ bentW l z, s.ws.length ≤ B + 1 := by
  have h2 : ∀ s ∈ l.set (pickW (z.getD 0 0) l.length).toNat (bentS l.length z (l.getD (pickW (z.getD 0 0) l.length).toNat sg0)), s.ws.length ≤ B + 1 := fun s hs => by
    rcases List.mem_or_eq_of_mem_set hs with hs | hs
    · have := h s hs; omega
    · rw [hs]
      have h3 := bentS_ws l.length z (l.getD (pickW (z.getD 0 0) l.length).toNat sg0)
      have h4 : (l.getD (pickW (z.getD 0 0) l.length).toNat sg0).ws.length ≤ B := by
        by_cases hk : (pickW (z.getD 0 0) l.length).toNat < l.length
        · exact h _ (getD_mem hk)
        · rw [getD_none (by omega)]; simp [sg0]
      omega
  intro s hs
  unfold bentW at hs
  split at hs
  · have := h s hs; omega
  · split at hs
    · exact h2 s (List.mem_of_mem_take hs)
    · exact h2 s hs
theorem bentW_len {l : List Sg} {z : List Int} : (bentW l z).length ≤ l.length := by
  unfold bentW
  split
  · exact Nat.le_refl _
  · split <;> simp
    omega
theorem discV_valid (x : T3) : validA (discV x) = true := by
  unfold discV discA; split
  · exact cellsG_valid _
  · exact zeros_has.1
theorem targetL_valid (y : List Pl) : validA (targetL y) = true := by
  unfold targetL polyA; split
  · exact cellsG_valid _
  · exact zeros_has.1
theorem discsL_V (x : List T3) : allV (discsL x) := fun a ha => by
  obtain ⟨v, -, rfl⟩ := List.mem_map.1 ha; exact discV_valid v
theorem made_R (x : List T3) (y : List Pl) : validR (discsL x) (targetL y) = true := validR_iff.2 ⟨discsL_V x, by have := discsL_len x; omega, targetL_valid y⟩
theorem pick_pow (n : Int) (hn : okI n) (v : Nat) : ∃ u : Nat, pickW n ((2 ^ v : Nat) : Int) = u ∧ u < 2 ^ v := by
  have h := pickW_rangeL n (n := ((2 ^ v : Nat) : Int)) (by have := Nat.two_pow_pos v; omega) hn
  exact ⟨(pickW n ((2 ^ v : Nat) : Int)).toNat, by omega, by omega⟩
theorem pow_small {v u : Nat} (hv : v ≤ 12) (hu : u < 2 ^ v) : u < 65536 := by
  have : 2 ^ v ≤ 2 ^ 12 := Nat.pow_le_pow_right (by decide) hv
  omega
set_option maxRecDepth 100000
attribute [local go_sem] Nat.zero_add Nat.add_zero Nat.mul_one eq_self ne_eq not_true_eq_false not_false_eq_true decide_true decide_false decide_not Bool.false_eq_true List.filter_cons List.filter_nil true_and and_true beq_false beq_true Bool.not_true Bool.not_false Bool.and_true Bool.true_and Option.getD_some Option.getD_none imp_self implies_true Int.toNat_natCast List.cons_append List.nil_append List.map_cons List.map_nil List.length_cons List.length_nil List.getD_cons_zero List.getD_cons_succ List.drop_zero List.drop_succ_cons List.take_succ_cons List.take_zero
attribute [local go_sem] lowN lowQ lowM isAl appOwn unw shL isSh Option.isNone_none Option.isNone_some Option.isSome_none appF isE isO stpO notIn St.bare evO evDO isEff stp St.get St.slot St.put List.lookup un unL ofVal gof nth pickV pkB_false pkB_true binV unV loadV idxV fldV partV buildV fillV lenV sliV appV appR rowsV winV V.parts V.okp V.sc Mem.look_cons Mem.look_nil V.cl V.clL AObj.clo fzAll exps St.fz Mem.fz V.fz V.fzL AObj.fz shp AObj.shp csh AObj.csh rowM isSt isRpS isRd Option.isSome_some Bool.or_true Bool.true_or Bool.or_false Bool.false_or and_false false_and or_false false_or List.length_append forall_const imp_self arT_104 arT_121 arT_160 arT_161 arT_22 arT_23 arT_24 arT_25 arT_28 arT_29 arT_30 arT_40 arT_42 arT_52 arT_60 arT_65 arT_72 arT_73 arT_76 arT_9 arT_90 boolT_182 boolT_25 boolT_3 boolT_35 boolT_4 boolT_76 flatT_182 flatT_25 flatT_3 flatT_35 flatT_4 flatT_76 intT_133 intT_169 intT_171 intT_188 intT_3 intT_5 lay_104 lay_112 lay_138 lay_141 lay_153 lay_160 lay_161 lay_164 lay_188 lay_23 lay_24 lay_25 lay_27 lay_28 lay_3 lay_30 lay_34 lay_4 lay_49 lay_52 lay_54 lay_56 lay_65 lay_67 lay_73 lay_76 lay_90 lay_99 mapT_112 okF_10 okF_100 okF_101 okF_102 okF_103 okF_104 okF_105 okF_106 okF_107 okF_108 okF_109 okF_11 okF_110 okF_111 okF_112 okF_113 okF_114 okF_115 okF_116 okF_117 okF_118 okF_119 okF_12 okF_120 okF_121 okF_122 okF_123 okF_124 okF_125 okF_126 okF_127 okF_128 okF_129 okF_13 okF_130 okF_131 okF_132 okF_133 okF_134 okF_135 okF_136 okF_137 okF_138 okF_139 okF_14 okF_140 okF_141 okF_142 okF_143 okF_144 okF_145 okF_146 okF_147 okF_148 okF_149 okF_15 okF_150 okF_151 okF_152 okF_153 okF_154 okF_155 okF_156 okF_157 okF_158 okF_159 okF_16 okF_160 okF_161 okF_162 okF_163 okF_164 okF_165 okF_166 okF_167 okF_168 okF_169 okF_17 okF_170 okF_171 okF_172 okF_173 okF_174 okF_175 okF_176 okF_177 okF_18 okF_19 okF_20 okF_21 okF_22 okF_23 okF_24 okF_25 okF_26 okF_27 okF_28 okF_29 okF_3 okF_30 okF_31 okF_32 okF_33 okF_34 okF_35 okF_36 okF_37 okF_38 okF_39 okF_4 okF_40 okF_41 okF_42 okF_43 okF_44 okF_45 okF_46 okF_47 okF_48 okF_49 okF_5 okF_50 okF_51 okF_52 okF_53 okF_54 okF_55 okF_56 okF_57 okF_58 okF_59 okF_6 okF_60 okF_61 okF_62 okF_63 okF_64 okF_65 okF_66 okF_67 okF_68 okF_69 okF_7 okF_70 okF_71 okF_72 okF_73 okF_74 okF_75 okF_76 okF_77 okF_78 okF_79 okF_8 okF_80 okF_81 okF_82 okF_83 okF_84 okF_85 okF_86 okF_87 okF_88 okF_89 okF_9 okF_90 okF_91 okF_92 okF_93 okF_94 okF_95 okF_96 okF_97 okF_98 okF_99 plT_138 plT_153 plT_157 plT_161 plT_27 plT_34 plT_54 plT_56 plT_67 plT_76 plT_90 plT_99 slT_104 slT_121 slT_160 slT_161 slT_22 slT_23 slT_24 slT_25 slT_28 slT_29 slT_30 slT_40 slT_42 slT_52 slT_60 slT_65 slT_72 slT_73 slT_76 slT_90 stT_138_0 stT_138_1 stT_153_0 stT_157_0 stT_157_1 stT_157_2 stT_157_3 stT_27_0 stT_27_1 stT_27_2 stT_34_0 stT_34_1 stT_34_2 stT_34_3 stT_54_0 stT_54_1 stT_54_2 stT_54_3 stT_56_0 stT_56_1 stT_67_1 stT_67_4 stT_67_5 stT_99_0 stT_99_1 strT_160 strT_76 strT_9 zeroT_112 zeroT_138 zeroT_153 zeroT_157 zeroT_160 zeroT_161 zeroT_188 zeroT_27 zeroT_3 zeroT_30 zeroT_34 zeroT_4 zeroT_49 zeroT_54 zeroT_56 zeroT_65 zeroT_67 zeroT_76 zeroT_90 zeroT_99
attribute [local go_sem] cellsI_fzL cellsI_uptoL List.getElem?_cons_zero List.getElem?_cons_succ List.zip_cons_cons List.zip_nil_left List.zip_nil_right Bool.false_and Bool.and_false cellsG_length polyA_length discA_length agEq_cells cellsI_isI cellsI_length cellsI_sc cellsI_cl cellsI_rows cellsI_take cellsI_dropD cellsI_set cellsI_full encI_length encI_getD List.length_set List.length_replicate List.all_cons List.all_nil outA_length eachA_length outM_length getD_set_same List.set_set spl_nil0 spl_cons0 spl_succ encP_length encP_getD
attribute [local simp] encP_length padP_length encI_length
attribute [local go_sem] encR_length encR_getD encRw encPg lookV encI_length encI_getD
attribute [local simp] encA_length encR_length cellsI_length
theorem k44 (c n : Int) (hn : 0 < n) : CallsA Try.prog 44 [.int .i64 c, .int .i64 n] (.int .i64 (pickW c n)) := by
 have hq : True := trivial
 refine callsA_of_tr Try.func44 rfl (Nat.le_of_ble_eq_true rfl) ?_
 simp only [Try.results44, envOf, Nat.reduceAdd]
 refine tr_seq fun K1 hK1 => ?_
 refine tr_region [0, 1] rfl rfl fun K hK => ?_
 refine evR_p ?_
 refine evR_e hK ?_; clear hK K
 refine hK1 _ ?_
 refine tr_seq fun K2 hK2 => ?_
 refine tr_seq fun K3 hK3 => ?_
 refine tr_region [0, 1, 6] rfl rfl fun K hK => ?_
 iterate 2 refine evR_p ?_
 refine evR_e hK ?_; clear hK K
 refine hK3 _ ?_
 refine tr_condB (fun ht1 => ?_) (fun ht1 => ?_)
 ·
  skip
  refine tr_region [0, 1] rfl rfl fun K hK => ?_
  iterate 4 refine evR_p ?_
  refine evR_e hK ?_; clear hK K
  refine hK2 _ ?_
  refine tr_seq fun K4 hK4 => ?_
  refine tr_region [4] rfl rfl fun K hK => ?_
  iterate 4 refine evR_p ?_
  refine evR_e hK ?_; clear hK K
  refine hK4 _ ?_
  refine tr_ret ?_
  (try simp only [thenE, inBlkE])
  simp (maxSteps := 4000000) (disch := first | assumption | omega | (simp only [go_sem, *]; done) | (simp only [go_sem, *]; omega)) only [postA, postO, resV1, fzAll, go_sem, hq, Int.reduceToNat, Nat.reduceBEq, Nat.reduceEqDiff, Nat.reduceAdd, Nat.reduceMul, Nat.reduceLeDiff, Nat.reduceLT, Nat.reduceSub, ↓reduceIte, reduceCtorEq]
  all_goals (simp [pickW, *])
 ·
  skip
  refine tr_skip ?_
  (try simp only [thenE, inBlkE])
  refine hK2 _ ?_
  refine tr_seq fun K5 hK5 => ?_
  refine tr_region [4] rfl rfl fun K hK => ?_
  iterate 4 refine evR_p ?_
  refine evR_e hK ?_; clear hK K
  refine hK5 _ ?_
  refine tr_ret ?_
  (try simp only [thenE, inBlkE])
  simp (maxSteps := 4000000) (disch := first | assumption | omega | (simp only [go_sem, *]; done) | (simp only [go_sem, *]; omega)) only [postA, postO, resV1, fzAll, go_sem, hq, Int.reduceToNat, Nat.reduceBEq, Nat.reduceEqDiff, Nat.reduceAdd, Nat.reduceMul, Nat.reduceLeDiff, Nat.reduceLT, Nat.reduceSub, ↓reduceIte, reduceCtorEq]
  all_goals (simp [pickW, *])

section
attribute [local go_sem] encA_length encA_getD
theorem k45 (l : List (List Int)) (hl : okAs l) (t : List Int) (ht : t.length = 16) (hl12 : l.length ≤ 12) (hv0 : validR l zeros16 = true) (set : Int) (h0 : 0 ≤ set) (h1 : set < ((2 ^ l.length : Nat) : Int)) : CallsA Try.prog 45 [.sl 16 (encA l), .agg (cellsI t), .int .i64 set] (.bool (withinA t (reachedL l set))) := by
 have hlm := hl.1
 unfold maxLen at hlm
 have hrl : (reachedL l set).length = 16 := unionT_len (chosenT_ok hl set l.length (Nat.le_refl _)) _ (Nat.le_refl _)
 have hml : (minusA t (reachedL l set)).length = 16 := minusA_len ht hrl
 have hrf := cellsI_full (reachedL l set) (cellsI (List.replicate 16 0)) (by rw [cellsI_length, hrl]; rfl)
 have hrk : List.take 16 (cellsI (reachedL l set)) = cellsI (reachedL l set) := List.take_of_length_le (by rw [cellsI_length, hrl]; decide)
 have hq := And.intro ht (And.intro hrl (And.intro hrf (hrk)))
 refine callsA_of_tr Try.func45 rfl (Nat.le_of_ble_eq_true rfl) ?_
 simp only [Try.results45, envOf, Nat.reduceAdd]
 refine tr_seq fun K1 hK1 => ?_
 refine tr_region [0, 2, 4] rfl rfl fun K hK => ?_
 iterate 2 refine evR_p ?_
 refine evR_e hK ?_; clear hK K
 refine hK1 _ ?_
 refine tr_seq fun K2 hK2 => ?_
 refine tr_region [4, 7, 8] rfl rfl fun K hK => ?_
 iterate 2 refine evR_p ?_
 refine evR_c (hc := (k53 l hl hl12 set hv0 h0 h1)) (k := ?_)
 iterate 6 refine evR_p ?_
 refine evR_e hK ?_; clear hK K
 refine hK2 _ ?_
 refine tr_seq fun K3 hK3 => ?_
 refine tr_region [6] rfl rfl fun K hK => ?_
 iterate 3 refine evR_p ?_
 iterate 2 refine evR_g ?_
 refine evR_gc (hc := (ca23 t (reachedL l set) ht hrl)) (k := ?_)
 iterate 2 refine evR_p ?_
 refine evR_e hK ?_; clear hK K
 refine hK3 _ ?_
 refine tr_ret ?_
 (try simp only [thenE, inBlkE])
 simp (maxSteps := 4000000) (disch := first | assumption | omega | (simp only [go_sem, *]; done) | (simp only [go_sem, *]; omega)) only [postA, postO, resV1, fzAll, go_sem, hq, Int.reduceToNat, Nat.reduceBEq, Nat.reduceEqDiff, Nat.reduceAdd, Nat.reduceMul, Nat.reduceLeDiff, Nat.reduceLT, Nat.reduceSub, ↓reduceIte, reduceCtorEq]
 all_goals (rfl)
end

section
attribute [local go_sem] encA_length encA_getD encPg
end

end Go.Proofs.Ytfamkbofdamkkaa
namespace Go.Proofs.Ytfamkbofdamkkaa
open Go.RowKit
set_option linter.unusedVariables false
set_option linter.unusedSimpArgs false
theorem many_sum {v : Nat} {s : Nat} : ∀ n, n ≤ v → n < 64 → sumG (List.replicate v (-1)) s n = -manyR s n
  | 0, _, _ => by simp [sumG, manyR]
  | n + 1, h, h2 => by
    have ih := many_sum (v := v) (s := s) n (by omega) (by omega)
    have e : (List.replicate v (-1 : Int)).getD n 0 = -1 := by simp [List.getD, List.getElem?_replicate, show n < v by omega]
    simp only [sumG, manyR, e, ih, rem_bit (s := s) (n := n) (by omega)]
    split <;> omega
theorem many_top {s v : Nat} (hs : s < 2 ^ v) : ∀ n, v ≤ n → n < 64 → manyR s n = manyR s v
  | 0, h, _ => by have : v = 0 := by omega
                  subst this; rfl
  | n + 1, h, h2 => by
    by_cases e : v = n + 1
    · subst e; rfl
    · have ih := many_top hs n (by omega) (by omega)
      have hb : s.testBit n = false := Nat.testBit_lt_two_pow (Nat.lt_of_lt_of_le hs (Nat.pow_le_pow_right (by decide) (by omega)))
      simp only [manyR, ih, rem_bit (s := s) (n := n) (by omega), hb]; simp
theorem gain_many {l : List (List Int)} (h12 : l.length ≤ 12) (t : List Int) {s : Nat} (hs : s < 2 ^ l.length) : sumG (progR l t).gain s l.length = -manyR s 12 := by
  rw [show (progR l t).gain = List.replicate l.length (-1) from rfl, many_sum l.length (Nat.le_refl _) (by omega), many_top hs 12 h12 (by omega)]
theorem least_no {l : List (List Int)} (hl : okAs l) {t : List Int} (ht : t.length = 16) (hR : validR l t = true) (hf : (solveB (progR l t)).1 = false) {u : Nat} (hu : u < 2 ^ l.length) : withinA t (reachedL l u) = false := by
  have h12 := (validR_iff.1 hR).2.1
  cases h : withinA t (reachedL l u) with
  | false => rfl
  | true =>
    rw [← covers_kept hl ht hR (pow_small h12 hu)] at h
    have := (solve_kept (progR_valid h12 t) (v := l.length) rfl hu h).1
    rw [hf] at this; cases this
theorem least_yes {l : List (List Int)} (hl : okAs l) {t : List Int} (ht : t.length = 16) (hR : validR l t = true) (hf : (solveB (progR l t)).1 = true) :
    ∃ w : Nat, (solveB (progR l t)).2.1 = w ∧ w < 2 ^ l.length ∧ withinA t (reachedL l w) = true ∧ (solveB (progR l t)).2.2 = -manyR w 12 ∧
      ∀ u : Nat, u < 2 ^ l.length → withinA t (reachedL l u) = true → manyR w 12 < manyR u 12 ∨ manyR u 12 = manyR w 12 ∧ w ≤ u := by
  have h12 := (validR_iff.1 hR).2.1
  have hv := progR_valid h12 t
  obtain ⟨w, h1, h2, h3⟩ := solveB_mem hf
  have h2' : w < 2 ^ l.length := by
    have e : (progR l t).vars.toNat = l.length := Int.toNat_natCast _
    rw [e] at h2; exact h2
  have hk := solve_kept hv (v := l.length) rfl h2' h3
  have hg := gain_many h12 t h2'
  refine ⟨w, h1, h2', by rw [← covers_kept hl ht hR (pow_small h12 h2')]; exact h3, by rw [← hk.2.2.2 h1.symm]; exact hg, fun u hu hc => ?_⟩
  rw [← covers_kept hl ht hR (pow_small h12 hu)] at hc
  have hku := solve_kept hv (v := l.length) rfl hu hc
  have hgu := gain_many h12 t hu
  have e := hk.2.2.2 h1.symm
  by_cases he : manyR u 12 = manyR w 12
  · right
    refine ⟨he, ?_⟩
    have := hku.2.2.1 (by omega)
    omega
  · left
    have := hku.2.1
    omega
def hasT (l : List (List Int)) (n u v : Int) : Nat → Bool
  | 0 => false
  | i + 1 => hasT l n u v i || (decide (Int.tmod (shrW .i64 n (i : Nat)) 2 = 1) && hasA (l.getD i []) u v)
def someT (l : List (List Int)) (u v : Int) : Nat → Bool
  | 0 => false
  | i + 1 => someT l u v i || hasA (l.getD i []) u v
/-! #### sets out of predicates -/
def ofB (p : Nat → Bool) : Nat → Nat
  | 0 => 0
  | n + 1 => if p n = true then ofB p n + 2 ^ n else ofB p n
def cntB (p : Nat → Bool) : Nat → Int
  | 0 => 0
  | n + 1 => cntB p n + if p n = true then 1 else 0
/-! #### a transmitter that is spared -/
def lessL (l : List (List Int)) (i : Nat) : List (List Int) := l.take i ++ l.drop (i + 1)
/-! #### what the check accepts -/
theorem minus_zero {a b : List Int} (ha : a.length = 16) (hb : b.length = 16) (va : validA a = true) (vb : validA b = true) : minusA a b = zeros16 ↔ withinA a b = true := by
  have hm := minus_has ha hb va vb
  rw [within_has ha hb va vb]
  constructor
  · intro h x y hx hy hh
    have := hm.2 x y hx hy
    rw [h, zeros_has.2 x y hx hy, hh] at this
    simpa using this
  · intro h
    refine has_ext (minusA_len ha hb) rfl hm.1 zeros_has.1 fun x y hx hy => ?_
    rw [hm.2 x y hx hy, zeros_has.2 x y hx hy]
    cases hh : hasA a x y with
    | false => rfl
    | true => rw [h x y hx hy hh]; rfl
/-- The other transmitter's number. -/
def otherN (i k n : Nat) : Nat := if i = k then (k + 1) % n else k
theorem ones4096 : ((List.range 4096).all fun w => decide (onesW (IntKind.u64.wrap (w : Nat)) = manyR (w : Nat) 12)) = true := by decide +kernel
theorem ones_many {w : Nat} (h : w < 4096) : onesW (IntKind.u64.wrap (w : Nat)) = manyR (w : Nat) 12 := by
  have := List.all_eq_true.1 ones4096 w (List.mem_range.2 h)
  exact of_decide_eq_true this
theorem pow_4096 {v u : Nat} (hv : v ≤ 12) (hu : u < 2 ^ v) : u < 4096 := by
  have : 2 ^ v ≤ 2 ^ 12 := Nat.pow_le_pow_right (by decide) hv
  omega
section
variable {l : List (List Int)} (hl : okAs l) {t : List Int} (ht : t.length = 16) (hR : validR l t = true)
include hl ht hR
theorem check_least : checkC l t (solveB (progR l t)).1 (solveB (progR l t)).2.1 (solveB (progR l t)).2.2 (prfS (progR l t)) = true := by
  obtain ⟨hv, h12, hvt⟩ := validR_iff.1 hR
  have hvM := progR_valid h12 t
  cases hf : (solveB (progR l t)).1 with
  | false =>
    obtain ⟨e1, e2⟩ := (solve_set hvM (v := l.length) rfl).2 hf
    unfold checkC
    rw [if_neg (by simp), e1, e2, prf_refutes hvM hf]; rfl
  | true =>
    obtain ⟨w, e1, hw, hcw, e2, -⟩ := least_yes hl ht hR hf
    have hb := cmp_bound hvM hf
    unfold checkC
    rw [if_pos rfl, hb, e1, e2, ones_many (pow_4096 h12 hw), (minus_zero ht (reached_len hl _) hvt (reached_V hl hv _)).2 hcw, decide_eq_true (show (0 : Int) ≤ (w : Int) ∧ (w : Int) < ((2 ^ l.length : Nat) : Int) by omega)]
    simp
theorem check_true {fd : Bool} {set gain : Int} {pf : List Sg} (h : checkC l t fd set gain pf = true) :
    fd = (solveB (progR l t)).1 ∧ (fd = true → ∃ u w : Nat, set = u ∧ u < 2 ^ l.length ∧ withinA t (reachedL l u) = true ∧ (solveB (progR l t)).2.1 = w ∧ manyR u 12 = manyR w 12) := by
  obtain ⟨hv, h12, hvt⟩ := validR_iff.1 hR
  have hvM := progR_valid h12 t
  unfold checkC at h
  cases fd with
  | false =>
    rw [if_neg (by simp), Bool.and_eq_true] at h
    refine ⟨?_, fun e => by cases e⟩
    cases hf : (solveB (progR l t)).1 with
    | false => rfl
    | true =>
      obtain ⟨w, -, hw, hcw, -, -⟩ := least_yes hl ht hR hf
      have := refutes_true h.2 (v := l.length) rfl hw
      rw [covers_kept hl ht hR (pow_small h12 hw), hcw] at this; cases this
  | true =>
    rw [if_pos rfl, Bool.and_eq_true, Bool.and_eq_true, Bool.and_eq_true, decide_eq_true_eq, decide_eq_true_eq, decide_eq_true_eq] at h
    obtain ⟨⟨h0, h1⟩, h2, h3, h4⟩ := h
    obtain ⟨u, rfl⟩ := Int.eq_ofNat_of_zero_le h0
    have hu : u < 2 ^ l.length := by omega
    have hc : withinA t (reachedL l u) = true := (minus_zero ht (reached_len hl _) hvt (reached_V hl hv _)).1 h2
    rw [ones_many (pow_4096 h12 hu)] at h3
    cases hf : (solveB (progR l t)).1 with
    | false => rw [least_no hl ht hR hf hu] at hc; cases hc
    | true =>
      obtain ⟨w, e1, hw, hcw, e2, hbest⟩ := least_yes hl ht hR hf
      refine ⟨rfl, fun _ => ⟨u, w, rfl, hu, hc, e1, ?_⟩⟩
      have hb := bounds_true h4 (v := l.length) rfl hw (by rw [covers_kept hl ht hR (pow_small h12 hw)]; exact hcw)
      rw [gain_many h12 t hw] at hb
      rcases hbest u hu hc with h5 | h5 <;> omega
end
set_option maxRecDepth 100000
attribute [local go_sem] Nat.zero_add Nat.add_zero Nat.mul_one eq_self ne_eq not_true_eq_false not_false_eq_true decide_true decide_false decide_not Bool.false_eq_true List.filter_cons List.filter_nil true_and and_true beq_false beq_true Bool.not_true Bool.not_false Bool.and_true Bool.true_and Option.getD_some Option.getD_none imp_self implies_true Int.toNat_natCast List.cons_append List.nil_append List.map_cons List.map_nil List.length_cons List.length_nil List.getD_cons_zero List.getD_cons_succ List.drop_zero List.drop_succ_cons List.take_succ_cons List.take_zero
attribute [local go_sem] lowN lowQ lowM isAl appOwn unw shL isSh Option.isNone_none Option.isNone_some Option.isSome_none appF isE isO stpO notIn St.bare evO evDO isEff stp St.get St.slot St.put List.lookup un unL ofVal gof nth pickV pkB_false pkB_true binV unV loadV idxV fldV partV buildV fillV lenV sliV appV appR rowsV winV V.parts V.okp V.sc Mem.look_cons Mem.look_nil V.cl V.clL AObj.clo fzAll exps St.fz Mem.fz V.fz V.fzL AObj.fz shp AObj.shp csh AObj.csh rowM isSt isRpS isRd Option.isSome_some Bool.or_true Bool.true_or Bool.or_false Bool.false_or and_false false_and or_false false_or List.length_append forall_const imp_self arT_104 arT_121 arT_160 arT_161 arT_22 arT_23 arT_24 arT_25 arT_28 arT_29 arT_30 arT_40 arT_42 arT_52 arT_60 arT_65 arT_72 arT_73 arT_76 arT_9 arT_90 boolT_182 boolT_25 boolT_3 boolT_35 boolT_4 boolT_76 flatT_182 flatT_25 flatT_3 flatT_35 flatT_4 flatT_76 intT_133 intT_169 intT_171 intT_188 intT_3 intT_5 lay_104 lay_112 lay_138 lay_141 lay_153 lay_160 lay_161 lay_164 lay_188 lay_23 lay_24 lay_25 lay_27 lay_28 lay_3 lay_30 lay_34 lay_4 lay_49 lay_52 lay_54 lay_56 lay_65 lay_67 lay_73 lay_76 lay_90 lay_99 mapT_112 okF_10 okF_100 okF_101 okF_102 okF_103 okF_104 okF_105 okF_106 okF_107 okF_108 okF_109 okF_11 okF_110 okF_111 okF_112 okF_113 okF_114 okF_115 okF_116 okF_117 okF_118 okF_119 okF_12 okF_120 okF_121 okF_122 okF_123 okF_124 okF_125 okF_126 okF_127 okF_128 okF_129 okF_13 okF_130 okF_131 okF_132 okF_133 okF_134 okF_135 okF_136 okF_137 okF_138 okF_139 okF_14 okF_140 okF_141 okF_142 okF_143 okF_144 okF_145 okF_146 okF_147 okF_148 okF_149 okF_15 okF_150 okF_151 okF_152 okF_153 okF_154 okF_155 okF_156 okF_157 okF_158 okF_159 okF_16 okF_160 okF_161 okF_162 okF_163 okF_164 okF_165 okF_166 okF_167 okF_168 okF_169 okF_17 okF_170 okF_171 okF_172 okF_173 okF_174 okF_175 okF_176 okF_177 okF_18 okF_19 okF_20 okF_21 okF_22 okF_23 okF_24 okF_25 okF_26 okF_27 okF_28 okF_29 okF_3 okF_30 okF_31 okF_32 okF_33 okF_34 okF_35 okF_36 okF_37 okF_38 okF_39 okF_4 okF_40 okF_41 okF_42 okF_43 okF_44 okF_45 okF_46 okF_47 okF_48 okF_49 okF_5 okF_50 okF_51 okF_52 okF_53 okF_54 okF_55 okF_56 okF_57 okF_58 okF_59 okF_6 okF_60 okF_61 okF_62 okF_63 okF_64 okF_65 okF_66 okF_67 okF_68 okF_69 okF_7 okF_70 okF_71 okF_72 okF_73 okF_74 okF_75 okF_76 okF_77 okF_78 okF_79 okF_8 okF_80 okF_81 okF_82 okF_83 okF_84 okF_85 okF_86 okF_87 okF_88 okF_89 okF_9 okF_90 okF_91 okF_92 okF_93 okF_94 okF_95 okF_96 okF_97 okF_98 okF_99 plT_138 plT_153 plT_157 plT_161 plT_27 plT_34 plT_54 plT_56 plT_67 plT_76 plT_90 plT_99 slT_104 slT_121 slT_160 slT_161 slT_22 slT_23 slT_24 slT_25 slT_28 slT_29 slT_30 slT_40 slT_42 slT_52 slT_60 slT_65 slT_72 slT_73 slT_76 slT_90 stT_138_0 stT_138_1 stT_153_0 stT_157_0 stT_157_1 stT_157_2 stT_157_3 stT_27_0 stT_27_1 stT_27_2 stT_34_0 stT_34_1 stT_34_2 stT_34_3 stT_54_0 stT_54_1 stT_54_2 stT_54_3 stT_56_0 stT_56_1 stT_67_1 stT_67_4 stT_67_5 stT_99_0 stT_99_1 strT_160 strT_76 strT_9 zeroT_112 zeroT_138 zeroT_153 zeroT_157 zeroT_160 zeroT_161 zeroT_188 zeroT_27 zeroT_3 zeroT_30 zeroT_34 zeroT_4 zeroT_49 zeroT_54 zeroT_56 zeroT_65 zeroT_67 zeroT_76 zeroT_90 zeroT_99
attribute [local go_sem] cellsI_fzL cellsI_uptoL List.getElem?_cons_zero List.getElem?_cons_succ List.zip_cons_cons List.zip_nil_left List.zip_nil_right Bool.false_and Bool.and_false cellsG_length polyA_length discA_length agEq_cells cellsI_isI cellsI_length cellsI_sc cellsI_cl cellsI_rows cellsI_take cellsI_dropD cellsI_set cellsI_full encI_length encI_getD List.length_set List.length_replicate List.all_cons List.all_nil outA_length eachA_length outM_length getD_set_same List.set_set spl_nil0 spl_cons0 spl_succ encP_length encP_getD
attribute [local simp] encP_length padP_length encI_length
attribute [local go_sem] encR_length encR_getD encRw encPg lookV encI_length encI_getD
attribute [local simp] encA_length encR_length cellsI_length
section
attribute [local go_sem] encA_length encA_getD
theorem k45n (l : List (List Int)) (hl : okAs l) (t : List Int) (ht : t.length = 16) (hl12 : l.length ≤ 12) (set : Int) (h1 : validR l zeros16 = false ∨ set < 0 ∨ ((2 ^ l.length : Nat) : Int) ≤ set) : CallsA Try.prog 45 [.sl 16 (encA l), .agg (cellsI t), .int .i64 set] (.bool false) := by
 have hlm := hl.1
 unfold maxLen at hlm
 have hrl : (zeros16 : List Int).length = 16 := rfl
 have hq := ht
 refine callsA_of_tr Try.func45 rfl (Nat.le_of_ble_eq_true rfl) ?_
 simp only [Try.results45, envOf, Nat.reduceAdd]
 refine tr_seq fun K1 hK1 => ?_
 refine tr_region [0, 2, 4] rfl rfl fun K hK => ?_
 iterate 2 refine evR_p ?_
 refine evR_e hK ?_; clear hK K
 refine hK1 _ ?_
 refine tr_seq fun K2 hK2 => ?_
 refine tr_region [4, 7, 8] rfl rfl fun K hK => ?_
 iterate 2 refine evR_p ?_
 refine evR_c (hc := (k53n l hl hl12 set h1)) (k := ?_)
 iterate 6 refine evR_p ?_
 refine evR_e hK ?_; clear hK K
 refine hK2 _ ?_
 refine tr_seq fun K3 hK3 => ?_
 refine tr_region [6] rfl rfl fun K hK => ?_
 iterate 3 refine evR_p ?_
 iterate 2 refine evR_g ?_
 refine evR_gc (hc := (ca23 t zeros16 ht hrl)) (k := ?_)
 iterate 2 refine evR_p ?_
 refine evR_e hK ?_; clear hK K
 refine hK3 _ ?_
 refine tr_ret ?_
 (try simp only [thenE, inBlkE])
 simp (maxSteps := 4000000) (disch := first | assumption | omega | (simp only [go_sem, *]; done) | (simp only [go_sem, *]; omega)) only [postA, postO, resV1, fzAll, go_sem, hq, Int.reduceToNat, Nat.reduceBEq, Nat.reduceEqDiff, Nat.reduceAdd, Nat.reduceMul, Nat.reduceLeDiff, Nat.reduceLT, Nat.reduceSub, ↓reduceIte, reduceCtorEq]
 all_goals (rfl)
end

end Go.Proofs.Ytfamkbofdamkkaa
namespace Go.Proofs.Ytfamkbofdamkkaa
open Go.RowKit
set_option linter.unusedVariables false
set_option linter.unusedSimpArgs false
structure So where
  fd : Bool
  set : Int
  gain : Int
  pf : List Sg
def so0 : So := ⟨false, 0, 0, []⟩
def encSo (s : So) : List V := [.bool s.fd, .int .i64 s.set, .int .i64 s.gain, .sl 4 (encSgs s.pf)]
def encSl (l : List So) : List (List V) := l.map encSo
theorem encSl_length (l : List So) : (encSl l).length = l.length := by simp [encSl]
theorem encSl_getD (l : List So) (k : Nat) (h : k < l.length) : (encSl l).getD k [] = encSo (l.getD k so0) := by simp [encSl, List.getD, h]
def coversB (l : List (List Int)) (t : List Int) (set : Int) : Bool := decide (0 ≤ set ∧ set < ((2 ^ l.length : Nat) : Int)) && withinA t (reachedL l set)
section
variable {l : List (List Int)} (hl : okAs l) {t : List Int} (ht : t.length = 16) (hR : validR l t = true)
include hl ht hR
theorem kCovers (set : Int) : CallsA Try.prog 45 [.sl 16 (encA l), .agg (cellsI t), .int .i64 set] (.bool (coversB l t set)) := by
  have h12 := (validR_iff.1 hR).2.1
  by_cases h : 0 ≤ set ∧ set < ((2 ^ l.length : Nat) : Int)
  · have := k45 l hl t ht h12 (valid0 hR) set h.1 h.2
    unfold coversB; rw [decide_eq_true h, Bool.true_and]; exact this
  · have := k45n l hl t ht h12 set (by right; omega)
    unfold coversB; rw [decide_eq_false h, Bool.false_and]; exact this
/-- What the law meets at a solution. -/
def caseD (l : List (List Int)) (t : List Int) (F : Bool) (S : Int) (SL : List So) (i : Nat) : Prop :=
  (3 ≤ i ∧ True ∧ True ∧ True ∧ True ∧ True) ∨
  (i < 3 ∧ CallsA Try.prog 47 [.sl 16 (encA l), .agg (cellsI t), .agg (encSo (SL.getD i so0))] (.bool false) ∧ True ∧ True ∧ True ∧ True) ∨
  (i < 3 ∧ CallsA Try.prog 47 [.sl 16 (encA l), .agg (cellsI t), .agg (encSo (SL.getD i so0))] (.bool true) ∧ (SL.getD i so0).fd = false ∧ F = false ∧ True ∧ True) ∨
  (i < 3 ∧ CallsA Try.prog 47 [.sl 16 (encA l), .agg (cellsI t), .agg (encSo (SL.getD i so0))] (.bool true) ∧ (SL.getD i so0).fd = true ∧ F = true ∧ manyR (SL.getD i so0).set 12 = manyR S 12 ∧ coversB l t (SL.getD i so0).set = true)
omit hl ht hR in
theorem caseD_def (l : List (List Int)) (t : List Int) (F : Bool) (S : Int) (SL : List So) (i : Nat) : caseD l t F S SL i ↔ (3 ≤ i ∧ True ∧ True ∧ True ∧ True ∧ True) ∨
  (i < 3 ∧ CallsA Try.prog 47 [.sl 16 (encA l), .agg (cellsI t), .agg (encSo (SL.getD i so0))] (.bool false) ∧ True ∧ True ∧ True ∧ True) ∨
  (i < 3 ∧ CallsA Try.prog 47 [.sl 16 (encA l), .agg (cellsI t), .agg (encSo (SL.getD i so0))] (.bool true) ∧ (SL.getD i so0).fd = false ∧ F = false ∧ True ∧ True) ∨
  (i < 3 ∧ CallsA Try.prog 47 [.sl 16 (encA l), .agg (cellsI t), .agg (encSo (SL.getD i so0))] (.bool true) ∧ (SL.getD i so0).fd = true ∧ F = true ∧ manyR (SL.getD i so0).set 12 = manyR S 12 ∧ coversB l t (SL.getD i so0).set = true) := Iff.rfl
theorem caseD_all (SL : List So) (h : ∀ i, i < 3 → okPf (SL.getD i so0).pf) (i : Nat) : caseD l t (solveB (progR l t)).1 (solveB (progR l t)).2.1 SL i := by
  by_cases hi : i < 3
  · right
    obtain ⟨s, hs⟩ : ∃ s, SL.getD i so0 = s := ⟨_, rfl⟩
    have hp := h i hi
    rw [hs] at hp ⊢
    have hc := kCheck hl ht hR s.fd s.set s.gain s.pf hp
    cases hk : checkC l t s.fd s.set s.gain s.pf with
    | false => rw [hk] at hc; exact .inl ⟨hi, hc, trivial, trivial, trivial, trivial⟩
    | true =>
      rw [hk] at hc
      obtain ⟨h1, h2⟩ := check_true hl ht hR hk
      cases hf : s.fd with
      | false => exact .inr (.inl ⟨hi, hc, rfl, by rw [← h1, hf], trivial, trivial⟩)
      | true =>
        obtain ⟨u, w, e1, hu, hcv, e2, hm⟩ := h2 hf
        refine .inr (.inr ⟨hi, hc, rfl, by rw [← h1, hf], by rw [e1, e2]; exact hm, ?_⟩)
        unfold coversB; rw [e1, hcv, Bool.and_true]
        exact decide_eq_true (by omega)
  · exact .inl ⟨by omega, trivial, trivial, trivial, trivial, trivial⟩
end
theorem okPf_take {l : List Sg} (hw : ∀ s ∈ l, s.ws.length ≤ maxLen) : okPf (l.take 8) := ⟨by simp [maxLen]; omega, fun s hs => hw s (List.mem_of_mem_take hs)⟩
def greatW (l : List Sg) (k : Nat) (n : Int) : List Sg := l.set k ⟨(l.getD k sg0).var, (l.getD k sg0).no, (l.getD k sg0).yes, mulW n (l.getD k sg0).ws⟩
def timesOk (n : Int) (ws : List Wt) (i : Nat) : Prop := ∀ j, j < i → 1 ≤ (ws.getD j wt0).tm ∧ (ws.getD j wt0).tm * n ≤ 1000
def wholeB (l : List Sg) : Nat → Bool
  | 0 => true
  | i + 1 => wholeB l i && (decide ((l.getD i sg0).no < (l.length : Int)) && decide ((l.getD i sg0).yes < (l.length : Int)))
/-! #### what has been multiplied, up to a weight -/
def mulT (n : Int) (ws : List Wt) (i : Nat) : List Wt := (ws.take i).map fun w => ⟨w.rw, w.tm * n⟩
theorem encWs_set (a : List Wt) (k : Nat) (x y : Int) : (encWs a).set k [V.int .i64 x, V.int .i64 y] = encWs (a.set k ⟨x, y⟩) := by simp [encWs, List.map_set, encW]
theorem encSgs_set (a : List Sg) (k : Nat) (v no yes : Int) (ws : List Wt) : (encSgs a).set k [V.int .i64 v, V.int .i64 no, V.int .i64 yes, V.sl 2 (encWs ws)] = encSgs (a.set k ⟨v, no, yes, ws⟩) := by simp [encSgs, List.map_set, encSg]
theorem encSgs_take (a : List Sg) (n : Nat) : (encSgs a).take n = encSgs (a.take n) := by simp [encSgs, List.map_take]
/-- The weights of a step of a changed plain proof are small. -/
def smallS (s : Sg) : Prop := ∀ w ∈ s.ws, -1 ≤ w.tm ∧ w.tm ≤ 1002
set_option maxRecDepth 100000
attribute [local go_sem] Nat.zero_add Nat.add_zero Nat.mul_one eq_self ne_eq not_true_eq_false not_false_eq_true decide_true decide_false decide_not Bool.false_eq_true List.filter_cons List.filter_nil true_and and_true beq_false beq_true Bool.not_true Bool.not_false Bool.and_true Bool.true_and Option.getD_some Option.getD_none imp_self implies_true Int.toNat_natCast List.cons_append List.nil_append List.map_cons List.map_nil List.length_cons List.length_nil List.getD_cons_zero List.getD_cons_succ List.drop_zero List.drop_succ_cons List.take_succ_cons List.take_zero
attribute [local go_sem] shL isSh Option.isNone_none Option.isNone_some Option.isSome_none lowN lowQ lowM isAl appOwn unw appF isE isO stpO notIn St.bare evO evDO isEff stp St.get St.slot St.put List.lookup un unL ofVal gof nth pickV pkB_false pkB_true binV unV loadV idxV fldV partV buildV fillV lenV sliV appV appR rowsV winV V.parts V.okp V.sc Mem.look_cons Mem.look_nil V.cl V.clL AObj.clo fzAll exps St.fz Mem.fz V.fz V.fzL AObj.fz Option.isSome_some Option.isSome_none Bool.or_true Bool.true_or Bool.or_false Bool.false_or false_and and_false false_or or_false arT_22 arT_23 arT_25 arT_24 arT_40 arT_30  arT_65 arT_28 arT_90  arT_52 boolT_25 boolT_3 boolT_35 boolT_4  flatT_25 flatT_3 flatT_35 flatT_4  intT_3 intT_133 lay_23 lay_25 lay_67 lay_24 lay_27 lay_3 lay_49 lay_30 lay_34 lay_4 lay_65 lay_52 lay_54 lay_56 lay_141 lay_164  okF_17 okF_31  okF_36 okF_18 okF_34 okF_63  okF_28 okF_50 okF_69 okF_51  okF_35       okF_37   okF_71  okF_65  okF_62 okF_77 okF_79  okF_80 okF_81 okF_64 okF_66 okF_76 okF_113 okF_96 okF_97 okF_98 okF_82  okF_99 okF_119 okF_120 okF_78 okF_100 okF_101 okF_83 okF_84 okF_125 okF_126  okF_127 okF_128 okF_129 okF_130 okF_114 okF_124 okF_140 okF_141 okF_142 okF_143  okF_131 okF_132 okF_144 okF_158 okF_155 okF_159   plT_67 plT_27 plT_34 plT_54 plT_56 slT_22 slT_23 slT_25 slT_24 slT_40 slT_30  slT_65 slT_28 slT_90  slT_52  stT_67_1   stT_67_4 stT_67_5 stT_27_0 stT_27_1 stT_27_2 stT_34_0 stT_34_1 stT_34_2 stT_34_3 stT_54_0 stT_54_1 stT_54_2 stT_54_3 stT_56_0 stT_56_1  zeroT_67 zeroT_27 zeroT_3 zeroT_49 zeroT_30 zeroT_34 zeroT_65  zeroT_54 zeroT_56
attribute [local go_sem] List.getElem?_cons_zero List.getElem?_cons_succ List.zip_cons_cons List.zip_nil_left List.zip_nil_right Bool.false_and Bool.and_false List.length_append List.length_set List.length_replicate List.all_cons List.all_nil encI_length encI_getD encR_length encR_getD encRw encPg spl shp AObj.shp rowM isSt isRpS isRd csh AObj.csh forall_const imp_self
attribute [local simp] encI_length encR_length cellsI_length
section
attribute [local go_sem] encI_rep encI_set encI_getD
end

theorem c64 (r : Rw) (hm : r.coef.length ≤ maxLen) (d set : Int) : CallsA Try.prog 114 [.agg (encRw r), .int .i64 d, .int .i64 set] (.int .i64 (lrG r.coef d set r.coef.length)) := by
 have hm0 := hm
 unfold maxLen at hm0
 have hq : True := trivial
 refine callsA_of_tr Try.func114 rfl (Nat.le_of_ble_eq_true rfl) ?_
 simp only [Try.results114, envOf, Nat.reduceAdd]
 refine tr_seq fun K1 hK1 => ?_
 refine tr_region [1, 2, 3] rfl rfl fun K hK => ?_
 iterate 2 refine evR_p ?_
 refine evR_e hK ?_; clear hK K
 refine hK1 _ ?_
 refine tr_seq fun K2 hK2 => ?_
 refine tr_region [1, 2, 3, 7] rfl rfl fun K hK => ?_
 refine evR_p ?_
 refine evR_e hK ?_; clear hK K
 refine hK2 _ ?_
 refine tr_seq fun K3 hK3 => ?_
 refine tr_seq fun K4 hK4 => ?_
 refine tr_region [1, 2, 3, 7, 8] rfl rfl fun K hK => ?_
 refine evR_p ?_
 refine evR_e hK ?_; clear hK K
 refine hK4 _ ?_
 refine tr_block ?_
 -- loop 1: live [1, 2, 3, 7, 8]
 refine tr_loopW (fun m σ => ∃ i : Nat, i + m = r.coef.length ∧ σ = ⟨[(1, .int .i64 d), (2, .int .i64 set), (3, .ptr 0 0), (7, .int .i64 (lrG r.coef d set i)), (8, .int .i64 (i : Nat))], [(0, .cells (encRw r))], 1⟩) (r.coef.length) ?_ ?_
 ·
  exact ⟨_, Wk.refl _, 0, by omega, rfl⟩
 ·
  rintro m σ ⟨i, hi, rfl⟩ KL1 hKL1
  refine tr_seq fun K5 hK5 => ?_
  refine tr_seq fun K6 hK6 => ?_
  refine tr_region [1, 2, 3, 7, 8, 13] rfl rfl fun K hK => ?_
  iterate 5 refine evR_p ?_
  refine evR_e hK ?_; clear hK K
  refine hK6 _ ?_
  refine tr_condB (fun ht1 => ?_) (fun ht1 => ?_)
  ·
   skip
   have hil : i < r.coef.length := by omega
   replace hq := And.intro hq (hil)
   refine tr_skip ?_
   (try simp only [thenE, inBlkE])
   refine hK5 _ ?_
   refine tr_seq fun K7 hK7 => ?_
   refine tr_block ?_
   refine tr_seq fun K8 hK8 => ?_
   refine tr_region [1, 2, 3, 7, 8, 18] rfl rfl fun K hK => ?_
   iterate 3 refine evR_p ?_
   refine evR_e hK ?_; clear hK K
   refine hK8 _ ?_
   refine tr_condB (fun ht2 => ?_) (fun ht2 => ?_)
   ·
    skip
    refine tr_draw [] [1, 2, 3, 7, 8] mixed rfl (by kernel_rfl) rfl fun K hK => ?_
    iterate 13 refine evD_p ?_
    refine evD_e hK ?_; clear hK K
    refine hK7 _ ?_
    refine tr_region [1, 2, 3, 7, 8] rfl rfl fun K hK => ?_
    iterate 3 refine evR_p ?_
    refine evR_e hK ?_; clear hK K
    refine hKL1 _ ?_
    first
     | exact ⟨m - 1, _, by omega, Wk.refl _, i + 1, by omega, by rw [w64 (x := (i : Int) + 1) (by omega), lrG_1 ht2]; rfl⟩
     | exact ⟨m - 1, _, by omega, Wk.refl _, i + 1, by omega, by rw [w64 (x := (i : Int) + 1) (by omega), lrG_2 ht2 ht3]; rfl⟩
     | exact ⟨m - 1, _, by omega, Wk.refl _, i + 1, by omega, by rw [w64 (x := (i : Int) + 1) (by omega), lrG_3 ht2 ht3]; rfl⟩
   ·
    skip
    refine tr_seq fun K9 hK9 => ?_
    refine tr_region [1, 2, 3, 7, 8, 36] rfl rfl fun K hK => ?_
    iterate 6 refine evR_p ?_
    refine evR_e hK ?_; clear hK K
    refine hK9 _ ?_
    refine tr_condB (fun ht3 => ?_) (fun ht3 => ?_)
    ·
     skip
     refine tr_region [1, 2, 3, 7, 8] rfl rfl fun K hK => ?_
     iterate 8 refine evR_p ?_
     refine evR_e hK ?_; clear hK K
     refine hK7 _ ?_
     refine tr_region [1, 2, 3, 7, 8] rfl rfl fun K hK => ?_
     iterate 3 refine evR_p ?_
     refine evR_e hK ?_; clear hK K
     refine hKL1 _ ?_
     first
      | exact ⟨m - 1, _, by omega, Wk.refl _, i + 1, by omega, by rw [w64 (x := (i : Int) + 1) (by omega), lrG_1 ht2]; rfl⟩
      | exact ⟨m - 1, _, by omega, Wk.refl _, i + 1, by omega, by rw [w64 (x := (i : Int) + 1) (by omega), lrG_2 ht2 ht3]; rfl⟩
      | exact ⟨m - 1, _, by omega, Wk.refl _, i + 1, by omega, by rw [w64 (x := (i : Int) + 1) (by omega), lrG_3 ht2 ht3]; rfl⟩
    ·
     skip
     refine tr_skip ?_
     (try simp only [thenE, inBlkE])
     refine hK7 _ ?_
     refine tr_region [1, 2, 3, 7, 8] rfl rfl fun K hK => ?_
     iterate 3 refine evR_p ?_
     refine evR_e hK ?_; clear hK K
     refine hKL1 _ ?_
     first
      | exact ⟨m - 1, _, by omega, Wk.refl _, i + 1, by omega, by rw [w64 (x := (i : Int) + 1) (by omega), lrG_1 ht2]; rfl⟩
      | exact ⟨m - 1, _, by omega, Wk.refl _, i + 1, by omega, by rw [w64 (x := (i : Int) + 1) (by omega), lrG_2 ht2 ht3]; rfl⟩
      | exact ⟨m - 1, _, by omega, Wk.refl _, i + 1, by omega, by rw [w64 (x := (i : Int) + 1) (by omega), lrG_3 ht2 ht3]; rfl⟩
  ·
   skip
   have hil : i = r.coef.length := by omega
   subst hil
   refine tr_exit ?_
   simp only [thenE, inBlkE, Nat.reduceEqDiff, ↓reduceIte]
   refine hK3 _ ?_
   refine tr_seq fun K10 hK10 => ?_
   refine tr_region [6] rfl rfl fun K hK => ?_
   iterate 2 refine evR_p ?_
   refine evR_e hK ?_; clear hK K
   refine hK10 _ ?_
   refine tr_ret ?_
   (try simp only [thenE, inBlkE])
   simp (maxSteps := 4000000) (disch := first | assumption | omega | (simp only [go_sem, *]; done) | (simp only [go_sem, *]; omega)) only [postA, postO, resV1, fzAll, go_sem, hq, Int.reduceToNat, Nat.reduceBEq, Nat.reduceEqDiff, Nat.reduceAdd, Nat.reduceMul, Nat.reduceLeDiff, Nat.reduceLT, Nat.reduceSub, ↓reduceIte, reduceCtorEq]
   all_goals (rfl)

section
attribute [local go_sem] encS_leaf encS_two encS_length encS_getD encSt encS_set3 plO_at List.length_append
set_option maxHeartbeats 8000000 in
theorem c43s (rows : List Rw) (hrl : rows.length ≤ 1000) (hm : ∀ r ∈ rows, r.coef.length ≤ maxLen) (v : Nat) (hv : v ≤ 12) (hrow : okRws rows v) (n d s : Nat) (hd : d + n = v) (hs : s < 2 ^ d) (hinf : infN rows n d ((s : Nat) : Int)) (out : List Stp) (ho : out.length + 2 ^ (n + 1) ≤ 100000) (ih : ∀ (m : Nat), m + 1 = n → ∀ (s : Nat) (out : List Stp), s < 2 ^ (d + 1) → infN rows m (d + 1) ((s : Nat) : Int) → out.length + 2 ^ (m + 1) ≤ 100000 → CallsM Try.prog 66 [.own 0, .sl 6 (encR rows), .int .i64 ((d + 1 : Nat) : Int), .int .i64 ((s : Nat) : Int)] [(0, .row 54 4 (encS out))] 1 (.own 1) [(1, .row 54 4 (encS (growN rows m (d + 1) ((s : Nat) : Int) out)))] 2) : CallsM Try.prog 66 [.own 0, .sl 6 (encR rows), .int .i64 ((d : Nat) : Int), .int .i64 ((s : Nat) : Int)] ([(0, .row 54 4 (encS out))]) (1) (.own 1) ([(1, .row 54 4 (encS (growN rows n d ((s : Nat) : Int) out)))]) (2) := by
 have hw1 : IntKind.i64.wrap ((d : Int) + 1) = ((d + 1 : Nat) : Int) := w64 (by omega)
 have hpd : 2 ^ d ≤ 2 ^ 12 := Nat.pow_le_pow_right (by omega) (by omega)
 have hsh : shlW .i64 1 (d : Nat) = ((2 ^ d : Nat) : Int) := shl1 (by omega)
 have hw2 : IntKind.i64.wrap ((s : Int) + ((2 ^ d : Nat) : Int)) = ((s + 2 ^ d : Nat) : Int) := by rw [w64 (by omega)]; omega
 have hov := lrG_over hv hrow (d := d) (s := s) (by omega) hs
 have hp2 : 2 ≤ 2 ^ (n + 1) := (by have := Nat.one_le_two_pow (n := n); rw [Nat.pow_succ]; omega)
 have hw3 : IntKind.i64.wrap ((out.length : Int) + 1) = ((out.length + 1 : Nat) : Int) := w64 (by omega)
 have hmax : rows.length ≤ 1000 := hrl
 unfold maxLen at hm
 have hq := And.intro hw1 (And.intro hsh (And.intro hw2 (hw3)))
 refine callsM_of_tr Try.func66 rfl (Nat.le_of_ble_eq_true rfl) (Nat.le_of_ble_eq_true rfl) (Nat.le_of_ble_eq_true rfl) ?_
 simp only [Try.results66, envOf, gh, gv, List.cons_append, List.nil_append, Nat.reduceAdd]
 refine tr_seq fun K1 hK1 => ?_
 refine tr_region [0, 1, 2, 3, 1000000] rfl rfl fun K hK => ?_
 refine evR_p ?_
 refine evR_e hK ?_; clear hK K
 refine hK1 _ ?_
 refine tr_seq fun K2 hK2 => ?_
 refine tr_seq fun K3 hK3 => ?_
 refine tr_region [0, 1, 2, 3, 9, 1000000] rfl rfl fun K hK => ?_
 refine evR_p ?_
 refine evR_e hK ?_; clear hK K
 refine hK3 _ ?_
 refine tr_block ?_
 -- loop 1: live [0, 1, 2, 3, 9]
 refine tr_loopW (fun m σ => ∃ i : Nat, i + m = rows.length ∧ (∀ j, j < i → overB d s (rows.getD j rw0) = false) ∧ σ = ⟨[(0, .own 0), (1, .sl 6 (encR rows)), (2, .int .i64 (d : Nat)), (3, .int .i64 (s : Nat)), (9, .int .i64 (i : Nat)), (1000000, .own 0)], [(0, .row 54 4 (encS out))], 1⟩) (rows.length) ?_ ?_
 ·
  exact ⟨_, Wk.refl _, 0, by omega, (by intro j hj; omega), rfl⟩
 ·
  rintro m σ ⟨i, hi, hb, rfl⟩ KL1 hKL1
  refine tr_seq fun K4 hK4 => ?_
  refine tr_seq fun K5 hK5 => ?_
  refine tr_region [0, 1, 2, 3, 9, 14, 1000000] rfl rfl fun K hK => ?_
  iterate 4 refine evR_p ?_
  refine evR_e hK ?_; clear hK K
  refine hK5 _ ?_
  refine tr_condB (fun ht1 => ?_) (fun ht1 => ?_)
  ·
   skip
   have hil : i < rows.length := by omega
   have hoi := hov _ (getD_mem (d := rw0) hil)
   replace hq := And.intro hq (hil)
   refine tr_skip ?_
   (try simp only [thenE, inBlkE])
   refine hK4 _ ?_
   refine tr_seq fun K6 hK6 => ?_
   refine tr_block ?_
   refine tr_seq fun K7 hK7 => ?_
   refine tr_draw [] [0, 1, 2, 3, 9, 29, 1000000] mixed rfl (by kernel_rfl) rfl fun K hK => ?_
   iterate 6 refine evD_p ?_
   refine evD_c (hc := (c64 (rows.getD i rw0) (hm _ (getD_mem hil)) (d : Nat) (s : Nat))) (k := ?_)
   iterate 6 refine evD_p ?_
   refine evD_e hK ?_; clear hK K
   refine hK7 _ ?_
   refine tr_condB (fun ht2 => ?_) (fun ht2 => ?_)
   ·
    skip
    refine tr_seq fun K8 hK8 => ?_
    refine tr_region [8, 1000000] rfl rfl fun K hK => ?_
    iterate 3 refine evR_p ?_
    refine evR_bs ?_
    refine evR_p ?_
    refine evR_bs ?_
    iterate 2 refine evR_p ?_
    refine evR_e hK ?_; clear hK K
    refine hK8 _ ?_
    refine tr_ret ?_
    (try simp only [thenE, inBlkE])
    all_goals first | refine ⟨_, (Wk.trans (Wk.ren 3 1 (Nat.le_of_ble_eq_true rfl) (Nat.le_of_ble_eq_true rfl) rfl) (Wk.cut 2 rfl)), ?_⟩ | refine ⟨_, Wk.refl _, ?_⟩
    simp (maxSteps := 4000000) (disch := first | assumption | omega | (simp only [go_sem, *]; done) | (simp only [go_sem, *]; omega)) only [postM, ghOK, gv, St.ren, St.cut, V.ren, V.renL, AObj.ren, Nat.blt_eq, resV1, go_sem, hq, Int.reduceToNat, Nat.reduceBEq, Nat.reduceEqDiff, Nat.reduceAdd, Nat.reduceMul, Nat.reduceLeDiff, Nat.reduceLT, Nat.reduceSub, ↓reduceIte, reduceCtorEq]
    all_goals ((first | (have hix := idxOf_at (overB d s) rw0 rows i hil hb (by rw [← hoi]; exact decide_eq_true ht2); rw [growN_leaf (by rw [hix]; omega), hix]; done) | (subst hnm; rw [plO_fin hs (by omega) hneg]; done)))
   ·
    skip
    refine tr_skip ?_
    (try simp only [thenE, inBlkE])
    refine hK6 _ ?_
    refine tr_region [0, 1, 2, 3, 9, 1000000] rfl rfl fun K hK => ?_
    iterate 3 refine evR_p ?_
    refine evR_e hK ?_; clear hK K
    refine hKL1 _ ?_
    exact ⟨m - 1, _, by omega, Wk.refl _, i + 1, by omega, (fun j hj => (by rcases Nat.lt_or_ge j i with h | h; exact hb j h; (have : j = i := (by omega)); subst this; rw [← hoi]; exact decide_eq_false ht2)), by rw [w64 (x := (i : Int) + 1) (by omega)]; rfl⟩
  ·
   skip
   have hil : i = rows.length := by omega
   subst hil
   have hneg := idx_neg hb
   obtain ⟨m', hnm, hi1, hi2⟩ := infN_step hinf hneg
   rw [setBit_nat hs (by omega)] at hi2
   have hg1 := growN_length rows m' (d + 1) s (out ++ [⟨d, 0, 0, none⟩])
   have hgl := plO_length rows m' d s out
   simp only [List.length_append, List.length_cons, List.length_nil] at hg1
   have hpn : 2 ^ (n + 1) = 2 * 2 ^ (m' + 1) := by subst hnm; rw [Nat.pow_succ (n := 2) (m := m' + 1)]; omega
   have hob := plO_at rows m' d s out
   have hplo : growN rows m' (d + 1) (s : Nat) (out ++ [⟨d, (out.length + 1 : Nat), 0, none⟩]) = plO rows m' d s out := rfl
   have hpll : out.length < (plO rows m' d s out).length := by omega
   replace hq := And.intro hq (And.intro hob (And.intro hplo hpll))
   refine tr_exit ?_
   simp only [thenE, inBlkE, Nat.reduceEqDiff, ↓reduceIte]
   refine hK2 _ ?_
   refine tr_seq fun K9 hK9 => ?_
   refine tr_region [0, 1, 2, 3, 10, 1000000] rfl rfl fun K hK => ?_
   iterate 3 refine evR_p ?_
   refine evR_e hK ?_; clear hK K
   refine hK9 _ ?_
   refine tr_seq fun K10 hK10 => ?_
   refine tr_region [0, 1, 2, 3, 10, 1000000] rfl rfl fun K hK => ?_
   iterate 5 refine evR_p ?_
   refine evR_bs ?_
   iterate 2 refine evR_p ?_
   refine evR_e hK ?_; clear hK K
   refine hK10 _ ?_
   refine tr_seq fun K11 hK11 => ?_
   refine tr_region [0, 1, 2, 3, 10, 1000000] rfl rfl fun K hK => ?_
   iterate 5 refine evR_p ?_
   refine evR_stepX fun Kq hKq => Or.inr ?_
   simp (maxSteps := 4000000) (disch := first | assumption | omega | (simp only [go_sem, *]; done) | (simp only [go_sem, *]; omega)) only [stpM, go_sem, hq, Int.reduceToNat, Nat.reduceBEq, Nat.reduceEqDiff, Nat.reduceAdd, Nat.reduceMul, Nat.reduceLeDiff, Nat.reduceLT, Nat.reduceSub, ↓reduceIte, reduceCtorEq]
   refine ⟨[1], ?_⟩
   simp (maxSteps := 4000000) (disch := first | assumption | omega | (simp only [go_sem, *]; done) | (simp only [go_sem, *]; omega)) only [V.mapL, V.map, gJ, footJ, inJ, AObj.map, ndJ, ltJ, V.domL, V.dom, AObj.dom, kC, kR, AObj.isC, hJ, backJ, List.any_cons, List.any_nil, Nat.ble_eq, Nat.blt_eq, Nat.reduceLT, Nat.reduceLeDiff, Bool.or_true, Bool.true_or, Bool.or_false, Bool.false_or, Bool.and_self, go_sem, hq, Int.reduceToNat, Nat.reduceBEq, Nat.reduceEqDiff, Nat.reduceAdd, Nat.reduceMul, Nat.reduceLeDiff, Nat.reduceLT, Nat.reduceSub, ↓reduceIte, reduceCtorEq]
   refine ⟨_, _, _, (ih m' hnm s (out ++ [⟨d, (out.length + 1 : Nat), 0, none⟩]) (by rw [Nat.pow_succ]; omega) hi1 (by simp only [List.length_append, List.length_cons, List.length_nil]; omega)), ?_⟩
   simp (maxSteps := 4000000) (disch := first | assumption | omega | (simp only [go_sem, *]; done) | (simp only [go_sem, *]; omega)) only [V.mapL, V.map, gJ, footJ, inJ, AObj.map, ndJ, ltJ, V.domL, V.dom, AObj.dom, kC, kR, AObj.isC, hJ, backJ, List.any_cons, List.any_nil, Nat.ble_eq, Nat.blt_eq, Nat.reduceLT, Nat.reduceLeDiff, Bool.or_true, Bool.true_or, Bool.or_false, Bool.false_or, Bool.and_self, go_sem, hq, Int.reduceToNat, Nat.reduceBEq, Nat.reduceEqDiff, Nat.reduceAdd, Nat.reduceMul, Nat.reduceLeDiff, Nat.reduceLT, Nat.reduceSub, ↓reduceIte, reduceCtorEq]
   (repeat (refine And.intro (by first | assumption | omega | decide | (simp; done) | (simp; omega) | (have hq := hvv hgt; omega) | (have hq := hvv hgt.1; omega) | (simp_all; done)) ?_))
   refine hKq _ ?_; clear hKq Kq
   refine evR_p ?_
   refine evR_e hK ?_; clear hK K
   refine hK11 _ ?_
   refine tr_seq fun K12 hK12 => ?_
   refine tr_region [0, 1, 2, 3, 1000000] rfl rfl fun K hK => ?_
   iterate 7 refine evR_p ?_
   refine evR_e hK ?_; clear hK K
   refine hK12 _ ?_
   refine tr_seq fun K13 hK13 => ?_
   refine tr_region [8, 1000000] rfl rfl fun K hK => ?_
   iterate 8 refine evR_p ?_
   refine evR_stepX fun Kq hKq => Or.inr ?_
   simp (maxSteps := 4000000) (disch := first | assumption | omega | (simp only [go_sem, *]; done) | (simp only [go_sem, *]; omega)) only [stpM, go_sem, hq, Int.reduceToNat, Nat.reduceBEq, Nat.reduceEqDiff, Nat.reduceAdd, Nat.reduceMul, Nat.reduceLeDiff, Nat.reduceLT, Nat.reduceSub, ↓reduceIte, reduceCtorEq]
   refine ⟨[2], ?_⟩
   simp (maxSteps := 4000000) (disch := first | assumption | omega | (simp only [go_sem, *]; done) | (simp only [go_sem, *]; omega)) only [V.mapL, V.map, gJ, footJ, inJ, AObj.map, ndJ, ltJ, V.domL, V.dom, AObj.dom, kC, kR, AObj.isC, hJ, backJ, List.any_cons, List.any_nil, Nat.ble_eq, Nat.blt_eq, Nat.reduceLT, Nat.reduceLeDiff, Bool.or_true, Bool.true_or, Bool.or_false, Bool.false_or, Bool.and_self, go_sem, hq, Int.reduceToNat, Nat.reduceBEq, Nat.reduceEqDiff, Nat.reduceAdd, Nat.reduceMul, Nat.reduceLeDiff, Nat.reduceLT, Nat.reduceSub, ↓reduceIte, reduceCtorEq]
   refine ⟨_, _, _, (ih m' hnm (s + 2 ^ d) ((plO rows m' d s out).set out.length ⟨d, (out.length + 1 : Nat), ((plO rows m' d s out).length : Nat), none⟩) (by rw [Nat.pow_succ]; omega) hi2 (by rw [List.length_set]; omega)), ?_⟩
   simp (maxSteps := 4000000) (disch := first | assumption | omega | (simp only [go_sem, *]; done) | (simp only [go_sem, *]; omega)) only [V.mapL, V.map, gJ, footJ, inJ, AObj.map, ndJ, ltJ, V.domL, V.dom, AObj.dom, kC, kR, AObj.isC, hJ, backJ, List.any_cons, List.any_nil, Nat.ble_eq, Nat.blt_eq, Nat.reduceLT, Nat.reduceLeDiff, Bool.or_true, Bool.true_or, Bool.or_false, Bool.false_or, Bool.and_self, go_sem, hq, Int.reduceToNat, Nat.reduceBEq, Nat.reduceEqDiff, Nat.reduceAdd, Nat.reduceMul, Nat.reduceLeDiff, Nat.reduceLT, Nat.reduceSub, ↓reduceIte, reduceCtorEq]
   (repeat (refine And.intro (by first | assumption | omega | decide | (simp; done) | (simp; omega) | (have hq := hvv hgt; omega) | (have hq := hvv hgt.1; omega) | (simp_all; done)) ?_))
   refine hKq _ ?_; clear hKq Kq
   refine evR_p ?_
   refine evR_e hK ?_; clear hK K
   refine hK13 _ ?_
   refine tr_ret ?_
   (try simp only [thenE, inBlkE])
   all_goals first | refine ⟨_, (Wk.trans (Wk.ren 3 1 (Nat.le_of_ble_eq_true rfl) (Nat.le_of_ble_eq_true rfl) rfl) (Wk.cut 2 rfl)), ?_⟩ | refine ⟨_, Wk.refl _, ?_⟩
   simp (maxSteps := 4000000) (disch := first | assumption | omega | (simp only [go_sem, *]; done) | (simp only [go_sem, *]; omega)) only [postM, ghOK, gv, St.ren, St.cut, V.ren, V.renL, AObj.ren, Nat.blt_eq, resV1, go_sem, hq, Int.reduceToNat, Nat.reduceBEq, Nat.reduceEqDiff, Nat.reduceAdd, Nat.reduceMul, Nat.reduceLeDiff, Nat.reduceLT, Nat.reduceSub, ↓reduceIte, reduceCtorEq]
   all_goals ((first | (have hix := idxOf_at (overB d s) rw0 rows i hil hb (by rw [← hoi]; exact decide_eq_true ht2); rw [growN_leaf (by rw [hix]; omega), hix]; done) | (subst hnm; rw [plO_fin hs (by omega) hneg]; done)))
end
theorem c43 (rows : List Rw) (hrl : rows.length ≤ 1000) (hm : ∀ r ∈ rows, r.coef.length ≤ maxLen) (v : Nat) (hv : v ≤ 12) (hrow : okRws rows v) : ∀ (n d s : Nat) (out : List Stp), d + n = v → s < 2 ^ d → infN rows n d ((s : Nat) : Int) → out.length + 2 ^ (n + 1) ≤ 100000 → CallsM Try.prog 66 [.own 0, .sl 6 (encR rows), .int .i64 ((d : Nat) : Int), .int .i64 ((s : Nat) : Int)] [(0, .row 54 4 (encS out))] 1 (.own 1) [(1, .row 54 4 (encS (growN rows n d ((s : Nat) : Int) out)))] 2 := by
 intro n
 induction n with
 | zero => intro d s out hd hs hi ho; exact c43s rows hrl hm v hv hrow 0 d s hd hs hi out ho (fun m hm => by omega)
 | succ n ihn =>
  intro d s out hd hs hi ho
  refine c43s rows hrl hm v hv hrow (n + 1) d s hd hs hi out ho (fun m hm s' out' h1 h2 h3 => ?_)
  have : m = n := by omega
  subst this
  exact ihn (d + 1) s' out' (by omega) h1 h2 h3

section
attribute [local go_sem] encS_leaf0 encS_two0 encS_length encS_getD encSt encS_set3
end

section
attribute [local go_sem] encR_one List.replicate_zero List.nil_append
end

end Go.Proofs.Ytfamkbofdamkkaa
namespace Go.Proofs.Ytfamkbofdamkkaa
open Go.RowKit
set_option linter.unusedVariables false
set_option linter.unusedSimpArgs false
section
variable {cx : Cx} {mem : Mem} {nx : Nat} {ι : Nat → Nat} {ρ : Nat → Value} {w : World}
theorem ML.reobj (hm : ML cx mem nx ι ρ w) {i : Nat} {o o' : AObj} (hin0 : (i, o) ∈ mem) (hb : blk ι ρ (i, o') = blk ι ρ (i, o)) (ho : OR w (OO cx.X mem ι ρ) ι ρ nx i o → OR w (OO cx.X mem ι ρ) ι ρ nx i o') :
    ML cx (mem.map fun p => if p.1 = i then (i, o') else p) nx ι ρ w ∧ ∀ b, OO cx.X (mem.map fun p => if p.1 = i then (i, o') else p) ι ρ b → OO cx.X mem ι ρ b := by
  have hin : ∀ q, q ∈ (mem.map fun p => if p.1 = i then (i, o') else p) → ∃ p ∈ mem, q = (if p.1 = i then (i, o') else p) ∧ blk ι ρ q = blk ι ρ p ∧ q.1 = p.1 := by
    intro q hq
    obtain ⟨p, hp, rfl⟩ := List.mem_map.1 hq
    refine ⟨p, hp, rfl, ?_⟩
    by_cases hpid : p.1 = i
    · have : p = (i, o) := hm.keys p hp _ hin0 hpid
      subst this; simp [hb]
    · simp [hpid]
  have hO : ∀ b, OO cx.X (mem.map fun p => if p.1 = i then (i, o') else p) ι ρ b → OO cx.X mem ι ρ b := by
    rintro b (hx | ⟨q, hq, hqb⟩)
    · exact .inl hx
    · obtain ⟨p, hp, -, hpb, -⟩ := hin q hq
      exact .inr ⟨p, hp, by rw [← hpb]; exact hqb⟩
  have hk : ∀ c v x, Rel w (OO cx.X mem ι ρ) ι ρ nx c v x → Rel w (OO cx.X (mem.map fun p => if p.1 = i then (i, o') else p) ι ρ) ι ρ nx c v x := fun c v x hr =>
    hr.mono (fun a y hc hno => ⟨hc, fun hn => hno (hO _ hn)⟩) (fun _ _ => ⟨rfl, rfl⟩) (Nat.le_refl _)
  refine ⟨⟨hm.os, hm.tape, hm.output, hm.size, hm.old, ?_, ?_, ?_, ?_, hm.xlt, ?_⟩, hO⟩
  · intro p hp q hq e
    obtain ⟨p', hp', rfl, -, e1⟩ := hin p hp
    obtain ⟨q', hq', rfl, -, e2⟩ := hin q hq
    have : p' = q' := hm.keys p' hp' q' hq' (by rw [← e1, ← e2]; exact e)
    rw [this]
  · intro p hp; obtain ⟨p', hp', -, -, e1⟩ := hin p hp; rw [e1]; exact hm.lt p' hp'
  · intro p hp b hpb; obtain ⟨p', hp', -, e1, -⟩ := hin p hp; rw [e1] at hpb; exact hm.own p' hp' b hpb
  · intro p hp q hq b hpb hqb
    obtain ⟨p', hp', rfl, e1, -⟩ := hin p hp
    obtain ⟨q', hq', rfl, e2, -⟩ := hin q hq
    have : p' = q' := hm.inj p' hp' q' hq' b (by rw [← e1]; exact hpb) (by rw [← e2]; exact hqb)
    rw [this]
  · intro q hq
    obtain ⟨p, hp, rfl, -, -⟩ := hin q hq
    by_cases hpid : p.1 = i
    · have : p = (i, o) := hm.keys p hp _ hin0 hpid
      subst this
      simp only [if_true]
      exact OR.mono hk rfl rfl (fun _ _ => rfl) (ho (hm.obj _ hp))
    · simp only [hpid, if_false]
      exact OR.mono hk rfl rfl (fun _ _ => rfl) (hm.obj p hp)
end
theorem encWs_fzL (i : Nat) (o : AObj) (s : Sg) : V.fzL i o (encSg s) = encSg s := by simp [encSg, V.fzL, V.fz]
theorem encSgs_fz (i : Nat) (o : AObj) (l : List Sg) : (encSgs l).map (V.fzL i o) = encSgs l := by
  simp only [encSgs, List.map_map]
  exact List.map_congr_left fun s _ => encWs_fzL i o s
theorem encSgs_cl (l : List Sg) : (encSgs l).all V.clL = true := by
  rw [List.all_eq_true]
  intro r hr
  obtain ⟨s, -, rfl⟩ := List.mem_map.1 hr
  rfl
theorem encSgs_row (a : List Sg) (k : Nat) (r : List V) (h : k < a.length) : ((encSgs a).set k r).getD k [] = r := by simp [List.getD, encSgs_length, h]
theorem encWs_app1 (a : List Wt) (x y : Int) : encWs a ++ [[V.int .i64 x, V.int .i64 y]] = encWs (a ++ [⟨x, y⟩]) := by simp [encWs, encW]
set_option maxRecDepth 100000
attribute [local go_sem] Nat.zero_add Nat.add_zero Nat.mul_one eq_self ne_eq not_true_eq_false not_false_eq_true decide_true decide_false decide_not Bool.false_eq_true List.filter_cons List.filter_nil true_and and_true beq_false beq_true Bool.not_true Bool.not_false Bool.and_true Bool.true_and Option.getD_some Option.getD_none imp_self implies_true Int.toNat_natCast List.cons_append List.nil_append List.map_cons List.map_nil List.length_cons List.length_nil List.getD_cons_zero List.getD_cons_succ List.drop_zero List.drop_succ_cons List.take_succ_cons List.take_zero
attribute [local go_sem] shL isSh Option.isNone_none Option.isNone_some Option.isSome_none lowN lowQ lowM isAl appOwn unw appF isE isO stpO notIn St.bare evO evDO isEff stp St.get St.slot St.put List.lookup un unL ofVal gof nth pickV pkB_false pkB_true binV unV loadV idxV fldV partV buildV fillV lenV sliV appV appR rowsV winV V.parts V.okp V.sc Mem.look_cons Mem.look_nil V.cl V.clL AObj.clo fzAll exps St.fz Mem.fz V.fz V.fzL AObj.fz Option.isSome_some Option.isSome_none Bool.or_true Bool.true_or Bool.or_false Bool.false_or false_and and_false false_or or_false arT_104 arT_121 arT_160 arT_161 arT_22 arT_23 arT_24 arT_25 arT_28 arT_29 arT_30 arT_40 arT_42 arT_52 arT_60 arT_65 arT_72 arT_73 arT_76 arT_9 arT_90 boolT_182 boolT_25 boolT_3 boolT_35 boolT_4 boolT_76 flatT_182 flatT_25 flatT_3 flatT_35 flatT_4 flatT_76 intT_133 intT_169 intT_171 intT_188 intT_3 intT_5 lay_104 lay_112 lay_138 lay_141 lay_153 lay_160 lay_161 lay_164 lay_188 lay_23 lay_24 lay_25 lay_27 lay_28 lay_3 lay_30 lay_34 lay_4 lay_49 lay_52 lay_54 lay_56 lay_65 lay_67 lay_73 lay_76 lay_90 lay_99 mapT_112 okF_10 okF_100 okF_101 okF_102 okF_103 okF_104 okF_105 okF_106 okF_107 okF_108 okF_109 okF_11 okF_110 okF_111 okF_112 okF_113 okF_114 okF_115 okF_116 okF_117 okF_118 okF_119 okF_12 okF_120 okF_121 okF_122 okF_123 okF_124 okF_125 okF_126 okF_127 okF_128 okF_129 okF_13 okF_130 okF_131 okF_132 okF_133 okF_134 okF_135 okF_136 okF_137 okF_138 okF_139 okF_14 okF_140 okF_141 okF_142 okF_143 okF_144 okF_145 okF_146 okF_147 okF_148 okF_149 okF_15 okF_150 okF_151 okF_152 okF_153 okF_154 okF_155 okF_156 okF_157 okF_158 okF_159 okF_16 okF_160 okF_161 okF_162 okF_163 okF_164 okF_165 okF_166 okF_167 okF_168 okF_169 okF_17 okF_170 okF_171 okF_172 okF_173 okF_174 okF_175 okF_176 okF_177 okF_18 okF_19 okF_20 okF_21 okF_22 okF_23 okF_24 okF_25 okF_26 okF_27 okF_28 okF_29 okF_3 okF_30 okF_31 okF_32 okF_33 okF_34 okF_35 okF_36 okF_37 okF_38 okF_39 okF_4 okF_40 okF_41 okF_42 okF_43 okF_44 okF_45 okF_46 okF_47 okF_48 okF_49 okF_5 okF_50 okF_51 okF_52 okF_53 okF_54 okF_55 okF_56 okF_57 okF_58 okF_59 okF_6 okF_60 okF_61 okF_62 okF_63 okF_64 okF_65 okF_66 okF_67 okF_68 okF_69 okF_7 okF_70 okF_71 okF_72 okF_73 okF_74 okF_75 okF_76 okF_77 okF_78 okF_79 okF_8 okF_80 okF_81 okF_82 okF_83 okF_84 okF_85 okF_86 okF_87 okF_88 okF_89 okF_9 okF_90 okF_91 okF_92 okF_93 okF_94 okF_95 okF_96 okF_97 okF_98 okF_99 plT_138 plT_153 plT_157 plT_161 plT_27 plT_34 plT_54 plT_56 plT_67 plT_76 plT_90 plT_99 slT_104 slT_121 slT_160 slT_161 slT_22 slT_23 slT_24 slT_25 slT_28 slT_29 slT_30 slT_40 slT_42 slT_52 slT_60 slT_65 slT_72 slT_73 slT_76 slT_90 stT_138_0 stT_138_1 stT_153_0 stT_157_0 stT_157_1 stT_157_2 stT_157_3 stT_27_0 stT_27_1 stT_27_2 stT_34_0 stT_34_1 stT_34_2 stT_34_3 stT_54_0 stT_54_1 stT_54_2 stT_54_3 stT_56_0 stT_56_1 stT_67_1 stT_67_4 stT_67_5 stT_99_0 stT_99_1 strT_160 strT_76 strT_9 zeroT_112 zeroT_138 zeroT_153 zeroT_157 zeroT_160 zeroT_161 zeroT_188 zeroT_27 zeroT_3 zeroT_30 zeroT_34 zeroT_4 zeroT_49 zeroT_54 zeroT_56 zeroT_65 zeroT_67 zeroT_76 zeroT_90 zeroT_99
attribute [local go_sem] List.getElem?_cons_zero List.getElem?_cons_succ List.zip_cons_cons List.zip_nil_left List.zip_nil_right Bool.false_and Bool.and_false List.length_append List.length_set List.length_replicate List.all_cons List.all_nil encI_length encI_getD encR_length encR_getD encRw encPg spl shp AObj.shp rowM isSt isRpS isRd csh AObj.csh forall_const imp_self
attribute [local go_sem] encSg encW encSgs_length encWs_length encSgs_getD encWs_getD lookV lkM putM
attribute [local simp] encI_length encR_length cellsI_length encSgs_length encWs_length
theorem k67 (c n : Int) (hn : 0 < n) : CallsA Try.prog 67 [.int .i64 c, .int .i64 n] (.int .i64 (pickW c n)) := by
 have hq : True := trivial
 refine callsA_of_tr Try.func67 rfl (Nat.le_of_ble_eq_true rfl) ?_
 simp only [Try.results67, envOf, Nat.reduceAdd]
 refine tr_seq fun K1 hK1 => ?_
 refine tr_region [0, 1] rfl rfl fun K hK => ?_
 refine evR_p ?_
 refine evR_e hK ?_; clear hK K
 refine hK1 _ ?_
 refine tr_seq fun K2 hK2 => ?_
 refine tr_seq fun K3 hK3 => ?_
 refine tr_region [0, 1, 6] rfl rfl fun K hK => ?_
 iterate 2 refine evR_p ?_
 refine evR_e hK ?_; clear hK K
 refine hK3 _ ?_
 refine tr_condB (fun ht1 => ?_) (fun ht1 => ?_)
 ·
  skip
  refine tr_region [0, 1] rfl rfl fun K hK => ?_
  iterate 4 refine evR_p ?_
  refine evR_e hK ?_; clear hK K
  refine hK2 _ ?_
  refine tr_seq fun K4 hK4 => ?_
  refine tr_region [4] rfl rfl fun K hK => ?_
  iterate 4 refine evR_p ?_
  refine evR_e hK ?_; clear hK K
  refine hK4 _ ?_
  refine tr_ret ?_
  (try simp only [thenE, inBlkE])
  simp (maxSteps := 4000000) (disch := first | assumption | omega | (simp only [go_sem, *]; done) | (simp only [go_sem, *]; omega)) only [postA, postO, resV1, fzAll, go_sem, hq, Int.reduceToNat, Nat.reduceBEq, Nat.reduceEqDiff, Nat.reduceAdd, Nat.reduceMul, Nat.reduceLeDiff, Nat.reduceLT, Nat.reduceSub, ↓reduceIte, reduceCtorEq]
  all_goals (simp [pickW, *])
 ·
  skip
  refine tr_skip ?_
  (try simp only [thenE, inBlkE])
  refine hK2 _ ?_
  refine tr_seq fun K5 hK5 => ?_
  refine tr_region [4] rfl rfl fun K hK => ?_
  iterate 4 refine evR_p ?_
  refine evR_e hK ?_; clear hK K
  refine hK5 _ ?_
  refine tr_ret ?_
  (try simp only [thenE, inBlkE])
  simp (maxSteps := 4000000) (disch := first | assumption | omega | (simp only [go_sem, *]; done) | (simp only [go_sem, *]; omega)) only [postA, postO, resV1, fzAll, go_sem, hq, Int.reduceToNat, Nat.reduceBEq, Nat.reduceEqDiff, Nat.reduceAdd, Nat.reduceMul, Nat.reduceLeDiff, Nat.reduceLT, Nat.reduceSub, ↓reduceIte, reduceCtorEq]
  all_goals (simp [pickW, *])

section
attribute [local go_sem] List.map_set encSgs_fz encSgs_cl encSgs_row encSgs_set encSgs_take encWs_set List.set_set cellsI_length cellsI_getD cellsI_dropD cellsI_sc cellsI_cl cellsI_winT cellsI_take cellsI_fzL encWs_app1 encSg List.nil_append List.replicate_succ List.replicate_zero List.set_cons_zero List.set_cons_succ
set_option maxHeartbeats 16000000 in
theorem k19n (l : List Sg) (hl0 : 0 < l.length) (hll : l.length ≤ 100000) (hws : ∀ s ∈ l, s.ws.length ≤ 100000) (z : List Int) (hz4 : z.length = 4) (hz : ∀ x ∈ z, okI x) : CallsA Try.prog 19 [.sl 4 (encSgs l), .agg (cellsI z)] (.sl 4 (encSgs (bentW l z))) := by
 have ok : ∀ i, i < 4 → okI (z.getD i 0) := fun i hi => hz _ (getD_mem (by omega))
 obtain ⟨kn, hkn, hkl⟩ : ∃ k : Nat, pickW (z.getD 0 0) (l.length : Nat) = k ∧ k < l.length := by
  have := pickW_rangeL (z.getD 0 0) (n := (l.length : Nat)) (by omega) (ok 0 (by omega))
  exact ⟨(pickW (z.getD 0 0) (l.length : Nat)).toNat, by omega, by omega⟩
 obtain ⟨jn, hj, hjl⟩ : ∃ k : Nat, pickW (z.getD 2 0) (l.length : Nat) = k ∧ k < l.length := by
  have := pickW_rangeL (z.getD 2 0) (n := (l.length : Nat)) (by omega) (ok 2 (by omega))
  exact ⟨(pickW (z.getD 2 0) (l.length : Nat)).toNat, by omega, by omega⟩
 obtain ⟨s, hs⟩ : ∃ s, l.getD kn sg0 = s := ⟨_, rfl⟩
 obtain ⟨q1, hq1⟩ : ∃ q, pickW (z.getD 1 0) 9 = q := ⟨_, rfl⟩
 have hsw : s.ws.length ≤ 100000 := hs ▸ hws _ (getD_mem hkl)
 have r0 := pickW_rangeL (z.getD 2 0) (n := 9) (by decide) (ok 2 (by omega))
 have r1 := pickW_rangeL (z.getD 2 0) (n := 1003) (by decide) (ok 2 (by omega))
 have r2 := pickW_rangeL (z.getD 3 0) (n := 5) (by decide) (ok 3 (by omega))
 have hw0 : IntKind.i64.wrap (pickW (z.getD 2 0) 9 - 1) = pickW (z.getD 2 0) 9 - 1 := w64 (by omega)
 have hw1 : IntKind.i64.wrap ((l.length : Int) + 1) = (l.length : Int) + 1 := w64 (by omega)
 have hw3 : IntKind.i64.wrap (pickW (z.getD 2 0) 1003 - 1) = pickW (z.getD 2 0) 1003 - 1 := w64 (by omega)
 have hw4 : IntKind.i64.wrap (1 + pickW (z.getD 3 0) 5) = 1 + pickW (z.getD 3 0) 5 := w64 (by omega)
 have hwj : IntKind.i64.wrap ((jn : Int) + 1) = ((jn + 1 : Nat) : Int) := by rw [w64 (by omega)]; omega
 have hw5 : min (jn + 1) l.length = jn + 1 := by omega
 have hq := And.intro hz4 (And.intro hl0 (And.intro hkn (And.intro hkl (And.intro hs (And.intro hq1 (And.intro hj (And.intro hjl (And.intro hwj (And.intro hw0 (And.intro hw1 (And.intro hw3 (And.intro hw4 (hw5)))))))))))))
 refine callsA_of_tr Try.func19 rfl (Nat.le_of_ble_eq_true rfl) ?_
 simp only [Try.results19, envOf, Nat.reduceAdd]
 refine tr_seq fun K1 hK1 => ?_
 refine tr_region [0, 3] rfl rfl fun K hK => ?_
 iterate 2 refine evR_p ?_
 refine evR_e hK ?_; clear hK K
 refine hK1 _ ?_
 refine tr_seq fun K2 hK2 => ?_
 refine tr_region [3, 5] rfl rfl fun K hK => ?_
 refine evR_bo ?_
 iterate 3 refine evR_p ?_
 refine evR_e hK ?_; clear hK K
 refine hK2 _ ?_
 refine tr_seq fun K3 hK3 => ?_
 refine tr_seq fun K4 hK4 => ?_
 refine tr_region [3, 5, 12] rfl rfl fun K hK => ?_
 iterate 3 refine evR_p ?_
 refine evR_e hK ?_; clear hK K
 refine hK4 _ ?_
 refine tr_condB (fun ht1 => ?_) (fun ht1 => ?_)
 ·
  skip
  (first | (exfalso; omega) | (exfalso; simp_all; done) | skip)
  all_goals
   refine tr_seq fun K5 hK5 => ?_
   refine tr_region [4] rfl rfl fun K hK => ?_
   iterate 2 refine evR_p ?_
   refine evR_e hK ?_; clear hK K
   refine hK5 _ ?_
   refine tr_ret ?_
   (try simp only [thenE, inBlkE])
   simp (maxSteps := 4000000) (disch := first | assumption | omega | (simp only [go_sem, *]; done) | (simp only [go_sem, *]; omega)) only [postA, postO, resV1, fzAll, go_sem, hq, Int.reduceToNat, Nat.reduceBEq, Nat.reduceEqDiff, Nat.reduceAdd, Nat.reduceMul, Nat.reduceLeDiff, Nat.reduceLT, Nat.reduceSub, ↓reduceIte, reduceCtorEq]
   all_goals (first | (rw [bentW_6 (by rw [hq1]; assumption) (by omega), hj, show ((jn : Int) + 1).toNat = jn + 1 from by omega]; have e9 : l.set kn ⟨s.var, s.no, s.yes, s.ws⟩ = l := (by have := set_getD (l := l) (k := kn) (d := sg0); rw [hs] at this; exact this); rw [e9]; done) | (rw [bentW_n (by rw [hq1]; omega) (by omega), hkn, Int.toNat_natCast, hs, bentS, hq1]; repeat (first | rw [if_pos (by omega)] | rw [if_neg (by omega)]); try rfl))
 ·
  skip
  (first | (exfalso; omega) | (exfalso; simp_all; done) | skip)
  all_goals
   refine tr_skip ?_
   (try simp only [thenE, inBlkE])
   refine hK3 _ ?_
   refine tr_seq fun K6 hK6 => ?_
   refine tr_region [3, 5, 6] rfl rfl fun K hK => ?_
   iterate 5 refine evR_p ?_
   refine evR_c (hc := (k67 _ _ (by omega))) (k := ?_)
   iterate 2 refine evR_p ?_
   refine evR_e hK ?_; clear hK K
   refine hK6 _ ?_
   refine tr_seq fun K7 hK7 => ?_
   refine tr_wk (Wk.open (i := 2) rfl) ?_
   try simp only [List.map_cons, List.map_nil, Nat.reduceEqDiff, ↓reduceIte, List.set_cons_zero, List.set_cons_succ, Nat.reduceAdd]
   refine tr_region [3, 5, 6] rfl rfl fun K hK => ?_
   refine evR_p ?_
   refine evR_bo ?_
   iterate 8 refine evR_p ?_
   refine evR_e hK ?_; clear hK K
   refine hK7 _ ?_
   refine tr_seq fun K8 hK8 => ?_
   refine tr_seq fun K9 hK9 => ?_
   refine tr_region [3, 5, 6, 32] rfl rfl fun K hK => ?_
   iterate 2 refine evR_p ?_
   refine evR_c (hc := (k67 _ _ (by omega))) (k := ?_)
   refine evR_e hK ?_; clear hK K
   refine hK9 _ ?_
   refine tr_block ?_
   refine tr_seq fun K10 hK10 => ?_
   refine tr_region [3, 5, 6, 32, 33] rfl rfl fun K hK => ?_
   iterate 2 refine evR_p ?_
   refine evR_e hK ?_; clear hK K
   refine hK10 _ ?_
   refine tr_condB (fun ht2 => ?_) (fun ht2 => ?_)
   ·
    skip
    (first | (exfalso; omega) | (exfalso; simp_all; done) | skip)
    all_goals
     refine tr_region [5] rfl rfl fun K hK => ?_
     iterate 3 refine evR_p ?_
     refine evR_c (hc := (k67 _ _ (by omega))) (k := ?_)
     iterate 4 refine evR_p ?_
     refine evR_e hK ?_; clear hK K
     refine hK8 _ ?_
     refine tr_seq fun K11 hK11 => ?_
     refine tr_fz [.own 4, .own 5] (by simp (maxSteps := 4000000) (disch := first | assumption | omega | (simp only [go_sem, *]; done) | (simp only [go_sem, *]; omega)) only [go_sem, hq, Int.reduceToNat, Nat.reduceBEq, Nat.reduceEqDiff, Nat.reduceAdd, Nat.reduceMul, Nat.reduceLeDiff, Nat.reduceLT, Nat.reduceSub, ↓reduceIte, reduceCtorEq]; (try rfl)) ?_
     refine tr_region [4] rfl rfl fun K hK => ?_
     iterate 2 refine evR_p ?_
     refine evR_e hK ?_; clear hK K
     refine hK11 _ ?_
     refine tr_ret ?_
     (try simp only [thenE, inBlkE])
     simp (maxSteps := 4000000) (disch := first | assumption | omega | (simp only [go_sem, *]; done) | (simp only [go_sem, *]; omega)) only [postA, postO, resV1, fzAll, go_sem, hq, Int.reduceToNat, Nat.reduceBEq, Nat.reduceEqDiff, Nat.reduceAdd, Nat.reduceMul, Nat.reduceLeDiff, Nat.reduceLT, Nat.reduceSub, ↓reduceIte, reduceCtorEq]
     all_goals (first | (rw [bentW_6 (by rw [hq1]; assumption) (by omega), hj, show ((jn : Int) + 1).toNat = jn + 1 from by omega]; have e9 : l.set kn ⟨s.var, s.no, s.yes, s.ws⟩ = l := (by have := set_getD (l := l) (k := kn) (d := sg0); rw [hs] at this; exact this); rw [e9]; done) | (rw [bentW_n (by rw [hq1]; omega) (by omega), hkn, Int.toNat_natCast, hs, bentS, hq1]; repeat (first | rw [if_pos (by omega)] | rw [if_neg (by omega)]); try rfl))
   ·
    skip
    (first | (exfalso; omega) | (exfalso; simp_all; done) | skip)
    all_goals
     refine tr_seq fun K12 hK12 => ?_
     refine tr_region [3, 5, 6, 32, 42] rfl rfl fun K hK => ?_
     iterate 2 refine evR_p ?_
     refine evR_e hK ?_; clear hK K
     refine hK12 _ ?_
     refine tr_condB (fun ht3 => ?_) (fun ht3 => ?_)
     ·
      skip
      (first | (exfalso; omega) | (exfalso; simp_all; done) | skip)
      all_goals
       refine tr_region [5] rfl rfl fun K hK => ?_
       iterate 6 refine evR_p ?_
       refine evR_c (hc := (k67 _ _ (by omega))) (k := ?_)
       iterate 3 refine evR_p ?_
       refine evR_e hK ?_; clear hK K
       refine hK8 _ ?_
       refine tr_seq fun K13 hK13 => ?_
       refine tr_fz [.own 4, .own 5] (by simp (maxSteps := 4000000) (disch := first | assumption | omega | (simp only [go_sem, *]; done) | (simp only [go_sem, *]; omega)) only [go_sem, hq, Int.reduceToNat, Nat.reduceBEq, Nat.reduceEqDiff, Nat.reduceAdd, Nat.reduceMul, Nat.reduceLeDiff, Nat.reduceLT, Nat.reduceSub, ↓reduceIte, reduceCtorEq]; (try rfl)) ?_
       refine tr_region [4] rfl rfl fun K hK => ?_
       iterate 2 refine evR_p ?_
       refine evR_e hK ?_; clear hK K
       refine hK13 _ ?_
       refine tr_ret ?_
       (try simp only [thenE, inBlkE])
       simp (maxSteps := 4000000) (disch := first | assumption | omega | (simp only [go_sem, *]; done) | (simp only [go_sem, *]; omega)) only [postA, postO, resV1, fzAll, go_sem, hq, Int.reduceToNat, Nat.reduceBEq, Nat.reduceEqDiff, Nat.reduceAdd, Nat.reduceMul, Nat.reduceLeDiff, Nat.reduceLT, Nat.reduceSub, ↓reduceIte, reduceCtorEq]
       all_goals (first | (rw [bentW_6 (by rw [hq1]; assumption) (by omega), hj, show ((jn : Int) + 1).toNat = jn + 1 from by omega]; have e9 : l.set kn ⟨s.var, s.no, s.yes, s.ws⟩ = l := (by have := set_getD (l := l) (k := kn) (d := sg0); rw [hs] at this; exact this); rw [e9]; done) | (rw [bentW_n (by rw [hq1]; omega) (by omega), hkn, Int.toNat_natCast, hs, bentS, hq1]; repeat (first | rw [if_pos (by omega)] | rw [if_neg (by omega)]); try rfl))
     ·
      skip
      (first | (exfalso; omega) | (exfalso; simp_all; done) | skip)
      all_goals
       refine tr_seq fun K14 hK14 => ?_
       refine tr_region [3, 5, 6, 32, 53] rfl rfl fun K hK => ?_
       iterate 2 refine evR_p ?_
       refine evR_e hK ?_; clear hK K
       refine hK14 _ ?_
       refine tr_condB (fun ht4 => ?_) (fun ht4 => ?_)
       ·
        skip
        (first | (exfalso; omega) | (exfalso; simp_all; done) | skip)
        all_goals
         refine tr_region [5] rfl rfl fun K hK => ?_
         iterate 6 refine evR_p ?_
         refine evR_c (hc := (k67 _ _ (by omega))) (k := ?_)
         iterate 3 refine evR_p ?_
         refine evR_e hK ?_; clear hK K
         refine hK8 _ ?_
         refine tr_seq fun K15 hK15 => ?_
         refine tr_fz [.own 4, .own 5] (by simp (maxSteps := 4000000) (disch := first | assumption | omega | (simp only [go_sem, *]; done) | (simp only [go_sem, *]; omega)) only [go_sem, hq, Int.reduceToNat, Nat.reduceBEq, Nat.reduceEqDiff, Nat.reduceAdd, Nat.reduceMul, Nat.reduceLeDiff, Nat.reduceLT, Nat.reduceSub, ↓reduceIte, reduceCtorEq]; (try rfl)) ?_
         refine tr_region [4] rfl rfl fun K hK => ?_
         iterate 2 refine evR_p ?_
         refine evR_e hK ?_; clear hK K
         refine hK15 _ ?_
         refine tr_ret ?_
         (try simp only [thenE, inBlkE])
         simp (maxSteps := 4000000) (disch := first | assumption | omega | (simp only [go_sem, *]; done) | (simp only [go_sem, *]; omega)) only [postA, postO, resV1, fzAll, go_sem, hq, Int.reduceToNat, Nat.reduceBEq, Nat.reduceEqDiff, Nat.reduceAdd, Nat.reduceMul, Nat.reduceLeDiff, Nat.reduceLT, Nat.reduceSub, ↓reduceIte, reduceCtorEq]
         all_goals (first | (rw [bentW_6 (by rw [hq1]; assumption) (by omega), hj, show ((jn : Int) + 1).toNat = jn + 1 from by omega]; have e9 : l.set kn ⟨s.var, s.no, s.yes, s.ws⟩ = l := (by have := set_getD (l := l) (k := kn) (d := sg0); rw [hs] at this; exact this); rw [e9]; done) | (rw [bentW_n (by rw [hq1]; omega) (by omega), hkn, Int.toNat_natCast, hs, bentS, hq1]; repeat (first | rw [if_pos (by omega)] | rw [if_neg (by omega)]); try rfl))
       ·
        skip
        (first | (exfalso; omega) | (exfalso; simp_all; done) | skip)
        all_goals
         refine tr_seq fun K16 hK16 => ?_
         refine tr_region [3, 5, 6, 32, 64] rfl rfl fun K hK => ?_
         iterate 2 refine evR_p ?_
         refine evR_e hK ?_; clear hK K
         refine hK16 _ ?_
         refine tr_condB (fun ht5 => ?_) (fun ht5 => ?_)
         ·
          skip
          (first | (exfalso; omega) | (exfalso; simp_all; done) | skip)
          all_goals
           refine tr_seq fun K17 hK17 => ?_
           refine tr_region [3, 5, 6, 71] rfl rfl fun K hK => ?_
           iterate 6 refine evR_p ?_
           refine evR_e hK ?_; clear hK K
           refine hK17 _ ?_
           refine tr_condB (fun ht6 => ?_) (fun ht6 => ?_)
           ·
            skip
            (first | (exfalso; omega) | (exfalso; simp_all; done) | skip)
            all_goals
             refine tr_draw [] [5] mixed rfl (by kernel_rfl) rfl fun K hK => ?_
             iterate 6 refine evD_p ?_
             refine evD_c (hc := (k67 _ _ (by omega))) (k := ?_)
             iterate 3 refine evD_p ?_
             refine evD_e hK ?_; clear hK K
             refine hK8 _ ?_
             refine tr_seq fun K18 hK18 => ?_
             refine tr_fz [.own 4, .own 5] (by simp (maxSteps := 4000000) (disch := first | assumption | omega | (simp only [go_sem, *]; done) | (simp only [go_sem, *]; omega)) only [go_sem, hq, Int.reduceToNat, Nat.reduceBEq, Nat.reduceEqDiff, Nat.reduceAdd, Nat.reduceMul, Nat.reduceLeDiff, Nat.reduceLT, Nat.reduceSub, ↓reduceIte, reduceCtorEq]; (try rfl)) ?_
             refine tr_region [4] rfl rfl fun K hK => ?_
             iterate 2 refine evR_p ?_
             refine evR_e hK ?_; clear hK K
             refine hK18 _ ?_
             refine tr_ret ?_
             (try simp only [thenE, inBlkE])
             simp (maxSteps := 4000000) (disch := first | assumption | omega | (simp only [go_sem, *]; done) | (simp only [go_sem, *]; omega)) only [postA, postO, resV1, fzAll, go_sem, hq, Int.reduceToNat, Nat.reduceBEq, Nat.reduceEqDiff, Nat.reduceAdd, Nat.reduceMul, Nat.reduceLeDiff, Nat.reduceLT, Nat.reduceSub, ↓reduceIte, reduceCtorEq]
             all_goals (first | (rw [bentW_6 (by rw [hq1]; assumption) (by omega), hj, show ((jn : Int) + 1).toNat = jn + 1 from by omega]; have e9 : l.set kn ⟨s.var, s.no, s.yes, s.ws⟩ = l := (by have := set_getD (l := l) (k := kn) (d := sg0); rw [hs] at this; exact this); rw [e9]; done) | (rw [bentW_n (by rw [hq1]; omega) (by omega), hkn, Int.toNat_natCast, hs, bentS, hq1]; repeat (first | rw [if_pos (by omega)] | rw [if_neg (by omega)]); try rfl))
           ·
            skip
            (first | (exfalso; omega) | (exfalso; simp_all; done) | skip)
            all_goals
             refine tr_skip ?_
             (try simp only [thenE, inBlkE])
             refine hK8 _ ?_
             refine tr_seq fun K19 hK19 => ?_
             refine tr_fz [.own 4, .own 5] (by simp (maxSteps := 4000000) (disch := first | assumption | omega | (simp only [go_sem, *]; done) | (simp only [go_sem, *]; omega)) only [go_sem, hq, Int.reduceToNat, Nat.reduceBEq, Nat.reduceEqDiff, Nat.reduceAdd, Nat.reduceMul, Nat.reduceLeDiff, Nat.reduceLT, Nat.reduceSub, ↓reduceIte, reduceCtorEq]; (try rfl)) ?_
             refine tr_region [4] rfl rfl fun K hK => ?_
             iterate 2 refine evR_p ?_
             refine evR_e hK ?_; clear hK K
             refine hK19 _ ?_
             refine tr_ret ?_
             (try simp only [thenE, inBlkE])
             simp (maxSteps := 4000000) (disch := first | assumption | omega | (simp only [go_sem, *]; done) | (simp only [go_sem, *]; omega)) only [postA, postO, resV1, fzAll, go_sem, hq, Int.reduceToNat, Nat.reduceBEq, Nat.reduceEqDiff, Nat.reduceAdd, Nat.reduceMul, Nat.reduceLeDiff, Nat.reduceLT, Nat.reduceSub, ↓reduceIte, reduceCtorEq]
             all_goals (first | (rw [bentW_6 (by rw [hq1]; assumption) (by omega), hj, show ((jn : Int) + 1).toNat = jn + 1 from by omega]; have e9 : l.set kn ⟨s.var, s.no, s.yes, s.ws⟩ = l := (by have := set_getD (l := l) (k := kn) (d := sg0); rw [hs] at this; exact this); rw [e9]; done) | (rw [bentW_n (by rw [hq1]; omega) (by omega), hkn, Int.toNat_natCast, hs, bentS, hq1]; repeat (first | rw [if_pos (by omega)] | rw [if_neg (by omega)]); try rfl))
         ·
          skip
          (first | (exfalso; omega) | (exfalso; simp_all; done) | skip)
          all_goals
           refine tr_seq fun K20 hK20 => ?_
           refine tr_region [3, 5, 6, 32, 81] rfl rfl fun K hK => ?_
           iterate 2 refine evR_p ?_
           refine evR_e hK ?_; clear hK K
           refine hK20 _ ?_
           refine tr_condB (fun ht7 => ?_) (fun ht7 => ?_)
           ·
            skip
            (first | (exfalso; omega) | (exfalso; simp_all; done) | skip)
            all_goals
             refine tr_seq fun K21 hK21 => ?_
             refine tr_region [3, 5, 6, 88] rfl rfl fun K hK => ?_
             iterate 6 refine evR_p ?_
             refine evR_e hK ?_; clear hK K
             refine hK21 _ ?_
             refine tr_condB (fun ht8 => ?_) (fun ht8 => ?_)
             ·
              skip
              (first | (exfalso; omega) | (exfalso; simp_all; done) | skip)
              all_goals
               refine tr_draw [] [5] mixed rfl (by kernel_rfl) rfl fun K hK => ?_
               iterate 6 refine evD_p ?_
               refine evD_c (hc := (k67 _ _ (by omega))) (k := ?_)
               iterate 4 refine evD_p ?_
               refine evD_e hK ?_; clear hK K
               refine hK8 _ ?_
               refine tr_seq fun K22 hK22 => ?_
               refine tr_fz [.own 4, .own 5] (by simp (maxSteps := 4000000) (disch := first | assumption | omega | (simp only [go_sem, *]; done) | (simp only [go_sem, *]; omega)) only [go_sem, hq, Int.reduceToNat, Nat.reduceBEq, Nat.reduceEqDiff, Nat.reduceAdd, Nat.reduceMul, Nat.reduceLeDiff, Nat.reduceLT, Nat.reduceSub, ↓reduceIte, reduceCtorEq]; (try rfl)) ?_
               refine tr_region [4] rfl rfl fun K hK => ?_
               iterate 2 refine evR_p ?_
               refine evR_e hK ?_; clear hK K
               refine hK22 _ ?_
               refine tr_ret ?_
               (try simp only [thenE, inBlkE])
               simp (maxSteps := 4000000) (disch := first | assumption | omega | (simp only [go_sem, *]; done) | (simp only [go_sem, *]; omega)) only [postA, postO, resV1, fzAll, go_sem, hq, Int.reduceToNat, Nat.reduceBEq, Nat.reduceEqDiff, Nat.reduceAdd, Nat.reduceMul, Nat.reduceLeDiff, Nat.reduceLT, Nat.reduceSub, ↓reduceIte, reduceCtorEq]
               all_goals (first | (rw [bentW_6 (by rw [hq1]; assumption) (by omega), hj, show ((jn : Int) + 1).toNat = jn + 1 from by omega]; have e9 : l.set kn ⟨s.var, s.no, s.yes, s.ws⟩ = l := (by have := set_getD (l := l) (k := kn) (d := sg0); rw [hs] at this; exact this); rw [e9]; done) | (rw [bentW_n (by rw [hq1]; omega) (by omega), hkn, Int.toNat_natCast, hs, bentS, hq1]; repeat (first | rw [if_pos (by omega)] | rw [if_neg (by omega)]); try rfl))
             ·
              skip
              (first | (exfalso; omega) | (exfalso; simp_all; done) | skip)
              all_goals
               refine tr_skip ?_
               (try simp only [thenE, inBlkE])
               refine hK8 _ ?_
               refine tr_seq fun K23 hK23 => ?_
               refine tr_fz [.own 4, .own 5] (by simp (maxSteps := 4000000) (disch := first | assumption | omega | (simp only [go_sem, *]; done) | (simp only [go_sem, *]; omega)) only [go_sem, hq, Int.reduceToNat, Nat.reduceBEq, Nat.reduceEqDiff, Nat.reduceAdd, Nat.reduceMul, Nat.reduceLeDiff, Nat.reduceLT, Nat.reduceSub, ↓reduceIte, reduceCtorEq]; (try rfl)) ?_
               refine tr_region [4] rfl rfl fun K hK => ?_
               iterate 2 refine evR_p ?_
               refine evR_e hK ?_; clear hK K
               refine hK23 _ ?_
               refine tr_ret ?_
               (try simp only [thenE, inBlkE])
               simp (maxSteps := 4000000) (disch := first | assumption | omega | (simp only [go_sem, *]; done) | (simp only [go_sem, *]; omega)) only [postA, postO, resV1, fzAll, go_sem, hq, Int.reduceToNat, Nat.reduceBEq, Nat.reduceEqDiff, Nat.reduceAdd, Nat.reduceMul, Nat.reduceLeDiff, Nat.reduceLT, Nat.reduceSub, ↓reduceIte, reduceCtorEq]
               all_goals (first | (rw [bentW_6 (by rw [hq1]; assumption) (by omega), hj, show ((jn : Int) + 1).toNat = jn + 1 from by omega]; have e9 : l.set kn ⟨s.var, s.no, s.yes, s.ws⟩ = l := (by have := set_getD (l := l) (k := kn) (d := sg0); rw [hs] at this; exact this); rw [e9]; done) | (rw [bentW_n (by rw [hq1]; omega) (by omega), hkn, Int.toNat_natCast, hs, bentS, hq1]; repeat (first | rw [if_pos (by omega)] | rw [if_neg (by omega)]); try rfl))
           ·
            skip
            (first | (exfalso; omega) | (exfalso; simp_all; done) | skip)
            all_goals
             refine tr_seq fun K24 hK24 => ?_
             refine tr_region [3, 5, 6, 32, 99] rfl rfl fun K hK => ?_
             iterate 2 refine evR_p ?_
             refine evR_e hK ?_; clear hK K
             refine hK24 _ ?_
             refine tr_condB (fun ht9 => ?_) (fun ht9 => ?_)
             ·
              skip
              (first | (exfalso; omega) | (exfalso; simp_all; done) | skip)
              all_goals
               refine tr_draw [114] [5] mixed rfl (by kernel_rfl) rfl fun K hK => ?_
               iterate 7 refine evD_p ?_
               refine evD_c (hc := (k67 _ _ (by omega))) (k := ?_)
               iterate 2 refine evD_p ?_
               refine evD_c (hc := (k67 _ _ (by omega))) (k := ?_)
               iterate 2 refine evD_p ?_
               refine evD_bs ?_
               iterate 4 refine evD_p ?_
               refine evD_e hK ?_; clear hK K
               refine hK8 _ ?_
               refine tr_seq fun K25 hK25 => ?_
               refine tr_fz [.own 4, .own 5] (by simp (maxSteps := 4000000) (disch := first | assumption | omega | (simp only [go_sem, *]; done) | (simp only [go_sem, *]; omega)) only [go_sem, hq, Int.reduceToNat, Nat.reduceBEq, Nat.reduceEqDiff, Nat.reduceAdd, Nat.reduceMul, Nat.reduceLeDiff, Nat.reduceLT, Nat.reduceSub, ↓reduceIte, reduceCtorEq]; (try rfl)) ?_
               refine tr_region [4] rfl rfl fun K hK => ?_
               iterate 2 refine evR_p ?_
               refine evR_e hK ?_; clear hK K
               refine hK25 _ ?_
               refine tr_ret ?_
               (try simp only [thenE, inBlkE])
               simp (maxSteps := 4000000) (disch := first | assumption | omega | (simp only [go_sem, *]; done) | (simp only [go_sem, *]; omega)) only [postA, postO, resV1, fzAll, go_sem, hq, Int.reduceToNat, Nat.reduceBEq, Nat.reduceEqDiff, Nat.reduceAdd, Nat.reduceMul, Nat.reduceLeDiff, Nat.reduceLT, Nat.reduceSub, ↓reduceIte, reduceCtorEq]
               all_goals (first | (rw [bentW_6 (by rw [hq1]; assumption) (by omega), hj, show ((jn : Int) + 1).toNat = jn + 1 from by omega]; have e9 : l.set kn ⟨s.var, s.no, s.yes, s.ws⟩ = l := (by have := set_getD (l := l) (k := kn) (d := sg0); rw [hs] at this; exact this); rw [e9]; done) | (rw [bentW_n (by rw [hq1]; omega) (by omega), hkn, Int.toNat_natCast, hs, bentS, hq1]; repeat (first | rw [if_pos (by omega)] | rw [if_neg (by omega)]); try rfl))
             ·
              skip
              (first | (exfalso; omega) | (exfalso; simp_all; done) | skip)
              all_goals
               refine tr_seq fun K26 hK26 => ?_
               refine tr_region [3, 5, 6, 32, 118] rfl rfl fun K hK => ?_
               iterate 2 refine evR_p ?_
               refine evR_e hK ?_; clear hK K
               refine hK26 _ ?_
               refine tr_condB (fun ht10 => ?_) (fun ht10 => ?_)
               ·
                skip
                (first | (exfalso; omega) | (exfalso; simp_all; done) | skip)
                all_goals
                 refine tr_fz [.own 4, .own 2] (by simp (maxSteps := 4000000) (disch := first | assumption | omega | (simp only [go_sem, *]; done) | (simp only [go_sem, *]; omega)) only [go_sem, hq, Int.reduceToNat, Nat.reduceBEq, Nat.reduceEqDiff, Nat.reduceAdd, Nat.reduceMul, Nat.reduceLeDiff, Nat.reduceLT, Nat.reduceSub, ↓reduceIte, reduceCtorEq]; (try rfl)) ?_
                 refine tr_region [5] rfl rfl fun K hK => ?_
                 iterate 5 refine evR_p ?_
                 refine evR_c (hc := (k67 _ _ (by omega))) (k := ?_)
                 iterate 3 refine evR_p ?_
                 refine evR_e hK ?_; clear hK K
                 refine hK8 _ ?_
                 refine tr_seq fun K27 hK27 => ?_
                 refine tr_fz [.own 4, .own 5] (by simp (maxSteps := 4000000) (disch := first | assumption | omega | (simp only [go_sem, *]; done) | (simp only [go_sem, *]; omega)) only [go_sem, hq, Int.reduceToNat, Nat.reduceBEq, Nat.reduceEqDiff, Nat.reduceAdd, Nat.reduceMul, Nat.reduceLeDiff, Nat.reduceLT, Nat.reduceSub, ↓reduceIte, reduceCtorEq]; (try rfl)) ?_
                 refine tr_region [4] rfl rfl fun K hK => ?_
                 iterate 2 refine evR_p ?_
                 refine evR_e hK ?_; clear hK K
                 refine hK27 _ ?_
                 refine tr_ret ?_
                 (try simp only [thenE, inBlkE])
                 simp (maxSteps := 4000000) (disch := first | assumption | omega | (simp only [go_sem, *]; done) | (simp only [go_sem, *]; omega)) only [postA, postO, resV1, fzAll, go_sem, hq, Int.reduceToNat, Nat.reduceBEq, Nat.reduceEqDiff, Nat.reduceAdd, Nat.reduceMul, Nat.reduceLeDiff, Nat.reduceLT, Nat.reduceSub, ↓reduceIte, reduceCtorEq]
                 all_goals (first | (rw [bentW_6 (by rw [hq1]; assumption) (by omega), hj, show ((jn : Int) + 1).toNat = jn + 1 from by omega]; have e9 : l.set kn ⟨s.var, s.no, s.yes, s.ws⟩ = l := (by have := set_getD (l := l) (k := kn) (d := sg0); rw [hs] at this; exact this); rw [e9]; done) | (rw [bentW_n (by rw [hq1]; omega) (by omega), hkn, Int.toNat_natCast, hs, bentS, hq1]; repeat (first | rw [if_pos (by omega)] | rw [if_neg (by omega)]); try rfl))
               ·
                skip
                (first | (exfalso; omega) | (exfalso; simp_all; done) | skip)
                all_goals
                 refine tr_seq fun K28 hK28 => ?_
                 refine tr_region [5, 6, 128] rfl rfl fun K hK => ?_
                 iterate 2 refine evR_p ?_
                 refine evR_e hK ?_; clear hK K
                 refine hK28 _ ?_
                 refine tr_condB (fun ht11 => ?_) (fun ht11 => ?_)
                 ·
                  skip
                  (first | (exfalso; omega) | (exfalso; simp_all; done) | skip)
                  all_goals
                   refine tr_draw [] [5] mixed rfl (by kernel_rfl) rfl fun K hK => ?_
                   iterate 16 refine evD_p ?_
                   refine evD_e hK ?_; clear hK K
                   refine hK8 _ ?_
                   refine tr_seq fun K29 hK29 => ?_
                   refine tr_fz [.own 4, .own 5] (by simp (maxSteps := 4000000) (disch := first | assumption | omega | (simp only [go_sem, *]; done) | (simp only [go_sem, *]; omega)) only [go_sem, hq, Int.reduceToNat, Nat.reduceBEq, Nat.reduceEqDiff, Nat.reduceAdd, Nat.reduceMul, Nat.reduceLeDiff, Nat.reduceLT, Nat.reduceSub, ↓reduceIte, reduceCtorEq]; (try rfl)) ?_
                   refine tr_region [4] rfl rfl fun K hK => ?_
                   iterate 2 refine evR_p ?_
                   refine evR_e hK ?_; clear hK K
                   refine hK29 _ ?_
                   refine tr_ret ?_
                   (try simp only [thenE, inBlkE])
                   simp (maxSteps := 4000000) (disch := first | assumption | omega | (simp only [go_sem, *]; done) | (simp only [go_sem, *]; omega)) only [postA, postO, resV1, fzAll, go_sem, hq, Int.reduceToNat, Nat.reduceBEq, Nat.reduceEqDiff, Nat.reduceAdd, Nat.reduceMul, Nat.reduceLeDiff, Nat.reduceLT, Nat.reduceSub, ↓reduceIte, reduceCtorEq]
                   all_goals (first | (rw [bentW_6 (by rw [hq1]; assumption) (by omega), hj, show ((jn : Int) + 1).toNat = jn + 1 from by omega]; have e9 : l.set kn ⟨s.var, s.no, s.yes, s.ws⟩ = l := (by have := set_getD (l := l) (k := kn) (d := sg0); rw [hs] at this; exact this); rw [e9]; done) | (rw [bentW_n (by rw [hq1]; omega) (by omega), hkn, Int.toNat_natCast, hs, bentS, hq1]; repeat (first | rw [if_pos (by omega)] | rw [if_neg (by omega)]); try rfl))
                 ·
                  skip
                  (first | (exfalso; omega) | (exfalso; simp_all; done) | skip)
                  all_goals
                   refine tr_skip ?_
                   (try simp only [thenE, inBlkE])
                   refine hK8 _ ?_
                   refine tr_seq fun K30 hK30 => ?_
                   refine tr_fz [.own 4, .own 5] (by simp (maxSteps := 4000000) (disch := first | assumption | omega | (simp only [go_sem, *]; done) | (simp only [go_sem, *]; omega)) only [go_sem, hq, Int.reduceToNat, Nat.reduceBEq, Nat.reduceEqDiff, Nat.reduceAdd, Nat.reduceMul, Nat.reduceLeDiff, Nat.reduceLT, Nat.reduceSub, ↓reduceIte, reduceCtorEq]; (try rfl)) ?_
                   refine tr_region [4] rfl rfl fun K hK => ?_
                   iterate 2 refine evR_p ?_
                   refine evR_e hK ?_; clear hK K
                   refine hK30 _ ?_
                   refine tr_ret ?_
                   (try simp only [thenE, inBlkE])
                   simp (maxSteps := 4000000) (disch := first | assumption | omega | (simp only [go_sem, *]; done) | (simp only [go_sem, *]; omega)) only [postA, postO, resV1, fzAll, go_sem, hq, Int.reduceToNat, Nat.reduceBEq, Nat.reduceEqDiff, Nat.reduceAdd, Nat.reduceMul, Nat.reduceLeDiff, Nat.reduceLT, Nat.reduceSub, ↓reduceIte, reduceCtorEq]
                   all_goals (first | (rw [bentW_6 (by rw [hq1]; assumption) (by omega), hj, show ((jn : Int) + 1).toNat = jn + 1 from by omega]; have e9 : l.set kn ⟨s.var, s.no, s.yes, s.ws⟩ = l := (by have := set_getD (l := l) (k := kn) (d := sg0); rw [hs] at this; exact this); rw [e9]; done) | (rw [bentW_n (by rw [hq1]; omega) (by omega), hkn, Int.toNat_natCast, hs, bentS, hq1]; repeat (first | rw [if_pos (by omega)] | rw [if_neg (by omega)]); try rfl))
end

section
attribute [local go_sem] List.length_nil cellsI_length cellsI_sc List.replicate_zero List.nil_append
theorem k19z (z : List Int) (hz4 : z.length = 4) : CallsA Try.prog 19 [.sl 4 (encSgs []), .agg (cellsI z)] (.sl 4 (encSgs [])) := by
 have hq := hz4
 refine callsA_of_tr Try.func19 rfl (Nat.le_of_ble_eq_true rfl) ?_
 simp only [Try.results19, envOf, Nat.reduceAdd]
 refine tr_seq fun K1 hK1 => ?_
 refine tr_region [0, 3] rfl rfl fun K hK => ?_
 iterate 2 refine evR_p ?_
 refine evR_e hK ?_; clear hK K
 refine hK1 _ ?_
 refine tr_seq fun K2 hK2 => ?_
 refine tr_region [3, 5] rfl rfl fun K hK => ?_
 refine evR_bo ?_
 iterate 3 refine evR_p ?_
 refine evR_e hK ?_; clear hK K
 refine hK2 _ ?_
 refine tr_seq fun K3 hK3 => ?_
 refine tr_seq fun K4 hK4 => ?_
 refine tr_region [3, 5, 12] rfl rfl fun K hK => ?_
 iterate 3 refine evR_p ?_
 refine evR_e hK ?_; clear hK K
 refine hK4 _ ?_
 refine tr_condB (fun ht1 => ?_) (fun ht1 => ?_)
 ·
  skip
  (first | (exfalso; omega) | (exfalso; simp_all; done) | skip)
  all_goals
   refine tr_seq fun K5 hK5 => ?_
   refine tr_region [4] rfl rfl fun K hK => ?_
   iterate 2 refine evR_p ?_
   refine evR_e hK ?_; clear hK K
   refine hK5 _ ?_
   refine tr_ret ?_
   (try simp only [thenE, inBlkE])
   simp (maxSteps := 4000000) (disch := first | assumption | omega | (simp only [go_sem, *]; done) | (simp only [go_sem, *]; omega)) only [postA, postO, resV1, fzAll, go_sem, hq, Int.reduceToNat, Nat.reduceBEq, Nat.reduceEqDiff, Nat.reduceAdd, Nat.reduceMul, Nat.reduceLeDiff, Nat.reduceLT, Nat.reduceSub, ↓reduceIte, reduceCtorEq]
   all_goals (rfl)
 ·
  skip
  (first | (exfalso; omega) | (exfalso; simp_all; done) | skip)
  all_goals
   refine tr_skip ?_
   (try simp only [thenE, inBlkE])
   refine hK3 _ ?_
   refine tr_seq fun K6 hK6 => ?_
   refine tr_region [3, 5, 6] rfl rfl fun K hK => ?_
   iterate 5 refine evR_p ?_
   refine evR_c (hc := (k67 _ _ (by omega))) (k := ?_)
   iterate 2 refine evR_p ?_
   refine evR_e hK ?_; clear hK K
   refine hK6 _ ?_
   refine tr_seq fun K7 hK7 => ?_
   refine tr_region [3, 5, 6] rfl rfl fun K hK => ?_
   refine evR_p ?_
   refine evR_bo ?_
   iterate 8 refine evR_p ?_
   refine evR_e hK ?_; clear hK K
   refine hK7 _ ?_
   refine tr_seq fun K8 hK8 => ?_
   refine tr_seq fun K9 hK9 => ?_
   refine tr_region [3, 5, 6, 32] rfl rfl fun K hK => ?_
   iterate 2 refine evR_p ?_
   refine evR_c (hc := (k67 _ _ (by omega))) (k := ?_)
   refine evR_e hK ?_; clear hK K
   refine hK9 _ ?_
   refine tr_block ?_
   refine tr_seq fun K10 hK10 => ?_
   refine tr_region [3, 5, 6, 32, 33] rfl rfl fun K hK => ?_
   iterate 2 refine evR_p ?_
   refine evR_e hK ?_; clear hK K
   refine hK10 _ ?_
   refine tr_condB (fun ht2 => ?_) (fun ht2 => ?_)
   ·
    skip
    (first | (exfalso; omega) | (exfalso; simp_all; done) | skip)
    all_goals
     refine tr_region [5] rfl rfl fun K hK => ?_
     iterate 3 refine evR_p ?_
     refine evR_c (hc := (k67 _ _ (by omega))) (k := ?_)
     iterate 4 refine evR_p ?_
     refine evR_e hK ?_; clear hK K
     refine hK8 _ ?_
     refine tr_seq fun K11 hK11 => ?_
     refine tr_region [4] rfl rfl fun K hK => ?_
     iterate 2 refine evR_p ?_
     refine evR_e hK ?_; clear hK K
     refine hK11 _ ?_
     refine tr_ret ?_
     (try simp only [thenE, inBlkE])
     simp (maxSteps := 4000000) (disch := first | assumption | omega | (simp only [go_sem, *]; done) | (simp only [go_sem, *]; omega)) only [postA, postO, resV1, fzAll, go_sem, hq, Int.reduceToNat, Nat.reduceBEq, Nat.reduceEqDiff, Nat.reduceAdd, Nat.reduceMul, Nat.reduceLeDiff, Nat.reduceLT, Nat.reduceSub, ↓reduceIte, reduceCtorEq]
     all_goals (rfl)
   ·
    skip
    (first | (exfalso; omega) | (exfalso; simp_all; done) | skip)
    all_goals
     refine tr_seq fun K12 hK12 => ?_
     refine tr_region [3, 5, 6, 32, 42] rfl rfl fun K hK => ?_
     iterate 2 refine evR_p ?_
     refine evR_e hK ?_; clear hK K
     refine hK12 _ ?_
     refine tr_condB (fun ht3 => ?_) (fun ht3 => ?_)
     ·
      skip
      (first | (exfalso; omega) | (exfalso; simp_all; done) | skip)
      all_goals
       refine tr_region [5] rfl rfl fun K hK => ?_
       iterate 6 refine evR_p ?_
       refine evR_c (hc := (k67 _ _ (by omega))) (k := ?_)
       iterate 3 refine evR_p ?_
       refine evR_e hK ?_; clear hK K
       refine hK8 _ ?_
       refine tr_seq fun K13 hK13 => ?_
       refine tr_region [4] rfl rfl fun K hK => ?_
       iterate 2 refine evR_p ?_
       refine evR_e hK ?_; clear hK K
       refine hK13 _ ?_
       refine tr_ret ?_
       (try simp only [thenE, inBlkE])
       simp (maxSteps := 4000000) (disch := first | assumption | omega | (simp only [go_sem, *]; done) | (simp only [go_sem, *]; omega)) only [postA, postO, resV1, fzAll, go_sem, hq, Int.reduceToNat, Nat.reduceBEq, Nat.reduceEqDiff, Nat.reduceAdd, Nat.reduceMul, Nat.reduceLeDiff, Nat.reduceLT, Nat.reduceSub, ↓reduceIte, reduceCtorEq]
       all_goals (rfl)
     ·
      skip
      (first | (exfalso; omega) | (exfalso; simp_all; done) | skip)
      all_goals
       refine tr_seq fun K14 hK14 => ?_
       refine tr_region [3, 5, 6, 32, 53] rfl rfl fun K hK => ?_
       iterate 2 refine evR_p ?_
       refine evR_e hK ?_; clear hK K
       refine hK14 _ ?_
       refine tr_condB (fun ht4 => ?_) (fun ht4 => ?_)
       ·
        skip
        (first | (exfalso; omega) | (exfalso; simp_all; done) | skip)
        all_goals
         refine tr_region [5] rfl rfl fun K hK => ?_
         iterate 6 refine evR_p ?_
         refine evR_c (hc := (k67 _ _ (by omega))) (k := ?_)
         iterate 3 refine evR_p ?_
         refine evR_e hK ?_; clear hK K
         refine hK8 _ ?_
         refine tr_seq fun K15 hK15 => ?_
         refine tr_region [4] rfl rfl fun K hK => ?_
         iterate 2 refine evR_p ?_
         refine evR_e hK ?_; clear hK K
         refine hK15 _ ?_
         refine tr_ret ?_
         (try simp only [thenE, inBlkE])
         simp (maxSteps := 4000000) (disch := first | assumption | omega | (simp only [go_sem, *]; done) | (simp only [go_sem, *]; omega)) only [postA, postO, resV1, fzAll, go_sem, hq, Int.reduceToNat, Nat.reduceBEq, Nat.reduceEqDiff, Nat.reduceAdd, Nat.reduceMul, Nat.reduceLeDiff, Nat.reduceLT, Nat.reduceSub, ↓reduceIte, reduceCtorEq]
         all_goals (rfl)
       ·
        skip
        (first | (exfalso; omega) | (exfalso; simp_all; done) | skip)
        all_goals
         refine tr_seq fun K16 hK16 => ?_
         refine tr_region [3, 5, 6, 32, 64] rfl rfl fun K hK => ?_
         iterate 2 refine evR_p ?_
         refine evR_e hK ?_; clear hK K
         refine hK16 _ ?_
         refine tr_condB (fun ht5 => ?_) (fun ht5 => ?_)
         ·
          skip
          (first | (exfalso; omega) | (exfalso; simp_all; done) | skip)
          all_goals
           refine tr_seq fun K17 hK17 => ?_
           refine tr_region [3, 5, 6, 71] rfl rfl fun K hK => ?_
           iterate 6 refine evR_p ?_
           refine evR_e hK ?_; clear hK K
           refine hK17 _ ?_
           refine tr_condB (fun ht6 => ?_) (fun ht6 => ?_)
           ·
            skip
            (first | (exfalso; omega) | (exfalso; simp_all; done) | skip)
            all_goals
             refine tr_draw [] [5] mixed rfl (by kernel_rfl) rfl fun K hK => ?_
             iterate 6 refine evD_p ?_
             refine evD_c (hc := (k67 _ _ (by omega))) (k := ?_)
             iterate 3 refine evD_p ?_
             refine evD_e hK ?_; clear hK K
             refine hK8 _ ?_
             refine tr_seq fun K18 hK18 => ?_
             refine tr_region [4] rfl rfl fun K hK => ?_
             iterate 2 refine evR_p ?_
             refine evR_e hK ?_; clear hK K
             refine hK18 _ ?_
             refine tr_ret ?_
             (try simp only [thenE, inBlkE])
             simp (maxSteps := 4000000) (disch := first | assumption | omega | (simp only [go_sem, *]; done) | (simp only [go_sem, *]; omega)) only [postA, postO, resV1, fzAll, go_sem, hq, Int.reduceToNat, Nat.reduceBEq, Nat.reduceEqDiff, Nat.reduceAdd, Nat.reduceMul, Nat.reduceLeDiff, Nat.reduceLT, Nat.reduceSub, ↓reduceIte, reduceCtorEq]
             all_goals (rfl)
           ·
            skip
            (first | (exfalso; omega) | (exfalso; simp_all; done) | skip)
            all_goals
             refine tr_skip ?_
             (try simp only [thenE, inBlkE])
             refine hK8 _ ?_
             refine tr_seq fun K19 hK19 => ?_
             refine tr_region [4] rfl rfl fun K hK => ?_
             iterate 2 refine evR_p ?_
             refine evR_e hK ?_; clear hK K
             refine hK19 _ ?_
             refine tr_ret ?_
             (try simp only [thenE, inBlkE])
             simp (maxSteps := 4000000) (disch := first | assumption | omega | (simp only [go_sem, *]; done) | (simp only [go_sem, *]; omega)) only [postA, postO, resV1, fzAll, go_sem, hq, Int.reduceToNat, Nat.reduceBEq, Nat.reduceEqDiff, Nat.reduceAdd, Nat.reduceMul, Nat.reduceLeDiff, Nat.reduceLT, Nat.reduceSub, ↓reduceIte, reduceCtorEq]
             all_goals (rfl)
         ·
          skip
          (first | (exfalso; omega) | (exfalso; simp_all; done) | skip)
          all_goals
           refine tr_seq fun K20 hK20 => ?_
           refine tr_region [3, 5, 6, 32, 81] rfl rfl fun K hK => ?_
           iterate 2 refine evR_p ?_
           refine evR_e hK ?_; clear hK K
           refine hK20 _ ?_
           refine tr_condB (fun ht7 => ?_) (fun ht7 => ?_)
           ·
            skip
            (first | (exfalso; omega) | (exfalso; simp_all; done) | skip)
            all_goals
             refine tr_seq fun K21 hK21 => ?_
             refine tr_region [3, 5, 6, 88] rfl rfl fun K hK => ?_
             iterate 6 refine evR_p ?_
             refine evR_e hK ?_; clear hK K
             refine hK21 _ ?_
             refine tr_condB (fun ht8 => ?_) (fun ht8 => ?_)
             ·
              skip
              (first | (exfalso; omega) | (exfalso; simp_all; done) | skip)
              all_goals
               refine tr_draw [] [5] mixed rfl (by kernel_rfl) rfl fun K hK => ?_
               iterate 6 refine evD_p ?_
               refine evD_c (hc := (k67 _ _ (by omega))) (k := ?_)
               iterate 4 refine evD_p ?_
               refine evD_e hK ?_; clear hK K
               refine hK8 _ ?_
               refine tr_seq fun K22 hK22 => ?_
               refine tr_region [4] rfl rfl fun K hK => ?_
               iterate 2 refine evR_p ?_
               refine evR_e hK ?_; clear hK K
               refine hK22 _ ?_
               refine tr_ret ?_
               (try simp only [thenE, inBlkE])
               simp (maxSteps := 4000000) (disch := first | assumption | omega | (simp only [go_sem, *]; done) | (simp only [go_sem, *]; omega)) only [postA, postO, resV1, fzAll, go_sem, hq, Int.reduceToNat, Nat.reduceBEq, Nat.reduceEqDiff, Nat.reduceAdd, Nat.reduceMul, Nat.reduceLeDiff, Nat.reduceLT, Nat.reduceSub, ↓reduceIte, reduceCtorEq]
               all_goals (rfl)
             ·
              skip
              (first | (exfalso; omega) | (exfalso; simp_all; done) | skip)
              all_goals
               refine tr_skip ?_
               (try simp only [thenE, inBlkE])
               refine hK8 _ ?_
               refine tr_seq fun K23 hK23 => ?_
               refine tr_region [4] rfl rfl fun K hK => ?_
               iterate 2 refine evR_p ?_
               refine evR_e hK ?_; clear hK K
               refine hK23 _ ?_
               refine tr_ret ?_
               (try simp only [thenE, inBlkE])
               simp (maxSteps := 4000000) (disch := first | assumption | omega | (simp only [go_sem, *]; done) | (simp only [go_sem, *]; omega)) only [postA, postO, resV1, fzAll, go_sem, hq, Int.reduceToNat, Nat.reduceBEq, Nat.reduceEqDiff, Nat.reduceAdd, Nat.reduceMul, Nat.reduceLeDiff, Nat.reduceLT, Nat.reduceSub, ↓reduceIte, reduceCtorEq]
               all_goals (rfl)
           ·
            skip
            (first | (exfalso; omega) | (exfalso; simp_all; done) | skip)
            all_goals
             refine tr_seq fun K24 hK24 => ?_
             refine tr_region [3, 5, 6, 32, 99] rfl rfl fun K hK => ?_
             iterate 2 refine evR_p ?_
             refine evR_e hK ?_; clear hK K
             refine hK24 _ ?_
             refine tr_condB (fun ht9 => ?_) (fun ht9 => ?_)
             ·
              skip
              (first | (exfalso; omega) | (exfalso; simp_all; done) | skip)
              all_goals
               refine tr_draw [114] [5] mixed rfl (by kernel_rfl) rfl fun K hK => ?_
               iterate 7 refine evD_p ?_
               refine evD_c (hc := (k67 _ _ (by omega))) (k := ?_)
               iterate 2 refine evD_p ?_
               refine evD_c (hc := (k67 _ _ (by omega))) (k := ?_)
               iterate 2 refine evD_p ?_
               refine evD_bs ?_
               iterate 4 refine evD_p ?_
               refine evD_e hK ?_; clear hK K
               refine hK8 _ ?_
               refine tr_seq fun K25 hK25 => ?_
               refine tr_region [4] rfl rfl fun K hK => ?_
               iterate 2 refine evR_p ?_
               refine evR_e hK ?_; clear hK K
               refine hK25 _ ?_
               refine tr_ret ?_
               (try simp only [thenE, inBlkE])
               simp (maxSteps := 4000000) (disch := first | assumption | omega | (simp only [go_sem, *]; done) | (simp only [go_sem, *]; omega)) only [postA, postO, resV1, fzAll, go_sem, hq, Int.reduceToNat, Nat.reduceBEq, Nat.reduceEqDiff, Nat.reduceAdd, Nat.reduceMul, Nat.reduceLeDiff, Nat.reduceLT, Nat.reduceSub, ↓reduceIte, reduceCtorEq]
               all_goals (rfl)
             ·
              skip
              (first | (exfalso; omega) | (exfalso; simp_all; done) | skip)
              all_goals
               refine tr_seq fun K26 hK26 => ?_
               refine tr_region [3, 5, 6, 32, 118] rfl rfl fun K hK => ?_
               iterate 2 refine evR_p ?_
               refine evR_e hK ?_; clear hK K
               refine hK26 _ ?_
               refine tr_condB (fun ht10 => ?_) (fun ht10 => ?_)
               ·
                skip
                (first | (exfalso; omega) | (exfalso; simp_all; done) | skip)
                all_goals
                 refine tr_region [5] rfl rfl fun K hK => ?_
                 iterate 5 refine evR_p ?_
                 refine evR_c (hc := (k67 _ _ (by omega))) (k := ?_)
                 iterate 3 refine evR_p ?_
                 refine evR_e hK ?_; clear hK K
                 refine hK8 _ ?_
                 refine tr_seq fun K27 hK27 => ?_
                 refine tr_region [4] rfl rfl fun K hK => ?_
                 iterate 2 refine evR_p ?_
                 refine evR_e hK ?_; clear hK K
                 refine hK27 _ ?_
                 refine tr_ret ?_
                 (try simp only [thenE, inBlkE])
                 simp (maxSteps := 4000000) (disch := first | assumption | omega | (simp only [go_sem, *]; done) | (simp only [go_sem, *]; omega)) only [postA, postO, resV1, fzAll, go_sem, hq, Int.reduceToNat, Nat.reduceBEq, Nat.reduceEqDiff, Nat.reduceAdd, Nat.reduceMul, Nat.reduceLeDiff, Nat.reduceLT, Nat.reduceSub, ↓reduceIte, reduceCtorEq]
                 all_goals (rfl)
               ·
                skip
                (first | (exfalso; omega) | (exfalso; simp_all; done) | skip)
                all_goals
                 refine tr_seq fun K28 hK28 => ?_
                 refine tr_region [5, 6, 128] rfl rfl fun K hK => ?_
                 iterate 2 refine evR_p ?_
                 refine evR_e hK ?_; clear hK K
                 refine hK28 _ ?_
                 refine tr_condB (fun ht11 => ?_) (fun ht11 => ?_)
                 ·
                  skip
                  (first | (exfalso; omega) | (exfalso; simp_all; done) | skip)
                  all_goals
                   refine tr_draw [] [5] mixed rfl (by kernel_rfl) rfl fun K hK => ?_
                   iterate 16 refine evD_p ?_
                   refine evD_e hK ?_; clear hK K
                   refine hK8 _ ?_
                   refine tr_seq fun K29 hK29 => ?_
                   refine tr_region [4] rfl rfl fun K hK => ?_
                   iterate 2 refine evR_p ?_
                   refine evR_e hK ?_; clear hK K
                   refine hK29 _ ?_
                   refine tr_ret ?_
                   (try simp only [thenE, inBlkE])
                   simp (maxSteps := 4000000) (disch := first | assumption | omega | (simp only [go_sem, *]; done) | (simp only [go_sem, *]; omega)) only [postA, postO, resV1, fzAll, go_sem, hq, Int.reduceToNat, Nat.reduceBEq, Nat.reduceEqDiff, Nat.reduceAdd, Nat.reduceMul, Nat.reduceLeDiff, Nat.reduceLT, Nat.reduceSub, ↓reduceIte, reduceCtorEq]
                   all_goals (rfl)
                 ·
                  skip
                  (first | (exfalso; omega) | (exfalso; simp_all; done) | skip)
                  all_goals
                   refine tr_skip ?_
                   (try simp only [thenE, inBlkE])
                   refine hK8 _ ?_
                   refine tr_seq fun K30 hK30 => ?_
                   refine tr_region [4] rfl rfl fun K hK => ?_
                   iterate 2 refine evR_p ?_
                   refine evR_e hK ?_; clear hK K
                   refine hK30 _ ?_
                   refine tr_ret ?_
                   (try simp only [thenE, inBlkE])
                   simp (maxSteps := 4000000) (disch := first | assumption | omega | (simp only [go_sem, *]; done) | (simp only [go_sem, *]; omega)) only [postA, postO, resV1, fzAll, go_sem, hq, Int.reduceToNat, Nat.reduceBEq, Nat.reduceEqDiff, Nat.reduceAdd, Nat.reduceMul, Nat.reduceLeDiff, Nat.reduceLT, Nat.reduceSub, ↓reduceIte, reduceCtorEq]
                   all_goals (rfl)
end
theorem k19 (l : List Sg) (hll : l.length ≤ 100000) (hws : ∀ s ∈ l, s.ws.length ≤ 100000) (z : List Int) (hz4 : z.length = 4) (hz : ∀ x ∈ z, okI x) : CallsA Try.prog 19 [.sl 4 (encSgs l), .agg (cellsI z)] (.sl 4 (encSgs (bentW l z))) := by
 by_cases h : l.length = 0
 ·
  have e : l = [] := List.eq_nil_of_length_eq_zero h
  subst e
  exact k19z z hz4
 ·
  exact k19n l (by omega) hll hws z hz4 hz

end Go.Proofs.Ytfamkbofdamkkaa
namespace Go.Proofs.Ytfamkbofdamkkaa
open Go.RowKit
set_option linter.unusedVariables false
set_option linter.unusedSimpArgs false
def encSos (l : List Pg) : List (List V) := l.map encSol2
def encPfs (l : List (List Sg)) : List (List V) := l.map fun x => [V.sl 4 (encSgs x)]
def cutS (n : Nat) (s : Sg) : Sg := ⟨s.var, s.no, s.yes, s.ws.take n⟩
def fewS (l : List Sg) : List Sg := (l.take 40).map (cutS 9)
theorem okPf_bent {l : List Sg} (h1 : l.length ≤ 8192) (h2 : ∀ s ∈ l, s.ws.length ≤ 2000) : okPf l := ⟨by unfold maxLen; omega, fun s hs => by have := h2 s hs; unfold maxLen; omega⟩
set_option maxRecDepth 100000
attribute [local go_sem] Nat.zero_add Nat.add_zero Nat.mul_one eq_self ne_eq not_true_eq_false not_false_eq_true decide_true decide_false decide_not Bool.false_eq_true List.filter_cons List.filter_nil true_and and_true beq_false beq_true Bool.not_true Bool.not_false Bool.and_true Bool.true_and Option.getD_some Option.getD_none imp_self implies_true Int.toNat_natCast List.cons_append List.nil_append List.map_cons List.map_nil List.length_cons List.length_nil List.getD_cons_zero List.getD_cons_succ List.drop_zero List.drop_succ_cons List.take_succ_cons List.take_zero
attribute [local go_sem] lowN lowQ lowM isAl appOwn unw shL isSh Option.isNone_none Option.isNone_some Option.isSome_none appF isE isO stpO notIn St.bare evO evDO isEff stp St.get St.slot St.put List.lookup un unL ofVal gof nth pickV pkB_false pkB_true binV unV loadV idxV fldV partV buildV fillV lenV sliV appV appR rowsV winV V.parts V.okp V.sc Mem.look_cons Mem.look_nil V.cl V.clL AObj.clo fzAll exps St.fz Mem.fz V.fz V.fzL AObj.fz shp AObj.shp csh AObj.csh rowM isSt isRpS isRd Option.isSome_some Bool.or_true Bool.true_or Bool.or_false Bool.false_or and_false false_and or_false false_or List.length_append forall_const imp_self arT_104 arT_121 arT_160 arT_161 arT_22 arT_23 arT_24 arT_25 arT_28 arT_29 arT_30 arT_40 arT_42 arT_52 arT_60 arT_65 arT_72 arT_73 arT_76 arT_9 arT_90 boolT_182 boolT_25 boolT_3 boolT_35 boolT_4 boolT_76 flatT_182 flatT_25 flatT_3 flatT_35 flatT_4 flatT_76 intT_133 intT_169 intT_171 intT_188 intT_3 intT_5 lay_104 lay_112 lay_138 lay_141 lay_153 lay_160 lay_161 lay_164 lay_188 lay_23 lay_24 lay_25 lay_27 lay_28 lay_3 lay_30 lay_34 lay_4 lay_49 lay_52 lay_54 lay_56 lay_65 lay_67 lay_73 lay_76 lay_90 lay_99 mapT_112 okF_10 okF_100 okF_101 okF_102 okF_103 okF_104 okF_105 okF_106 okF_107 okF_108 okF_109 okF_11 okF_110 okF_111 okF_112 okF_113 okF_114 okF_115 okF_116 okF_117 okF_118 okF_119 okF_12 okF_120 okF_121 okF_122 okF_123 okF_124 okF_125 okF_126 okF_127 okF_128 okF_129 okF_13 okF_130 okF_131 okF_132 okF_133 okF_134 okF_135 okF_136 okF_137 okF_138 okF_139 okF_14 okF_140 okF_141 okF_142 okF_143 okF_144 okF_145 okF_146 okF_147 okF_148 okF_149 okF_15 okF_150 okF_151 okF_152 okF_153 okF_154 okF_155 okF_156 okF_157 okF_158 okF_159 okF_16 okF_160 okF_161 okF_162 okF_163 okF_164 okF_165 okF_166 okF_167 okF_168 okF_169 okF_17 okF_170 okF_171 okF_172 okF_173 okF_174 okF_175 okF_176 okF_177 okF_18 okF_19 okF_20 okF_21 okF_22 okF_23 okF_24 okF_25 okF_26 okF_27 okF_28 okF_29 okF_3 okF_30 okF_31 okF_32 okF_33 okF_34 okF_35 okF_36 okF_37 okF_38 okF_39 okF_4 okF_40 okF_41 okF_42 okF_43 okF_44 okF_45 okF_46 okF_47 okF_48 okF_49 okF_5 okF_50 okF_51 okF_52 okF_53 okF_54 okF_55 okF_56 okF_57 okF_58 okF_59 okF_6 okF_60 okF_61 okF_62 okF_63 okF_64 okF_65 okF_66 okF_67 okF_68 okF_69 okF_7 okF_70 okF_71 okF_72 okF_73 okF_74 okF_75 okF_76 okF_77 okF_78 okF_79 okF_8 okF_80 okF_81 okF_82 okF_83 okF_84 okF_85 okF_86 okF_87 okF_88 okF_89 okF_9 okF_90 okF_91 okF_92 okF_93 okF_94 okF_95 okF_96 okF_97 okF_98 okF_99 plT_138 plT_153 plT_157 plT_161 plT_27 plT_34 plT_54 plT_56 plT_67 plT_76 plT_90 plT_99 slT_104 slT_121 slT_160 slT_161 slT_22 slT_23 slT_24 slT_25 slT_28 slT_29 slT_30 slT_40 slT_42 slT_52 slT_60 slT_65 slT_72 slT_73 slT_76 slT_90 stT_138_0 stT_138_1 stT_153_0 stT_157_0 stT_157_1 stT_157_2 stT_157_3 stT_27_0 stT_27_1 stT_27_2 stT_34_0 stT_34_1 stT_34_2 stT_34_3 stT_54_0 stT_54_1 stT_54_2 stT_54_3 stT_56_0 stT_56_1 stT_67_1 stT_67_4 stT_67_5 stT_99_0 stT_99_1 strT_160 strT_76 strT_9 zeroT_112 zeroT_138 zeroT_153 zeroT_157 zeroT_160 zeroT_161 zeroT_188 zeroT_27 zeroT_3 zeroT_30 zeroT_34 zeroT_4 zeroT_49 zeroT_54 zeroT_56 zeroT_65 zeroT_67 zeroT_76 zeroT_90 zeroT_99
attribute [local go_sem] cellsI_fzL cellsI_uptoL List.getElem?_cons_zero List.getElem?_cons_succ List.zip_cons_cons List.zip_nil_left List.zip_nil_right Bool.false_and Bool.and_false cellsG_length polyA_length discA_length agEq_cells cellsI_isI cellsI_length cellsI_sc cellsI_cl cellsI_rows cellsI_take cellsI_dropD cellsI_set cellsI_full encI_length encI_getD List.length_set List.length_replicate List.all_cons List.all_nil outA_length eachA_length outM_length getD_set_same List.set_set spl_nil0 spl_cons0 spl_succ encP_length encP_getD
attribute [local simp] encP_length padP_length encI_length
attribute [local go_sem] encR_length encR_getD encRw encPg lookV encI_length encI_getD
attribute [local simp] encA_length encR_length cellsI_length
section
attribute [local go_sem] encA_length encA_getD encSl_length encSl_getD encSgs_take encSgs_length encSo List.replicate_succ List.replicate_zero List.set_cons_zero List.set_cons_succ
set_option maxHeartbeats 16000000 in
theorem k11 (x : List T3) (y : List Pl) (hx : x.length ≤ maxLen) (hy : y.length ≤ maxLen) (fd : Bool) (set gain : Int) (pf : List Sg) (hpl : pf.length ≤ maxLen) (hpw : ∀ s ∈ pf, s.ws.length ≤ maxLen) (n : Int) (hn : okI n) (z : List Int) (hz4 : z.length = 4) (hz : ∀ c ∈ z, okI c) : CallsA Try.prog 11 [.sl 3 (encT x), .sl 2 (encP y), .agg [.bool fd, .int .i64 set, .int .i64 gain, .sl 4 (encSgs pf)], .int .i64 n, .agg (cellsI z)] (.bool true) := by
 obtain ⟨l, hL⟩ : ∃ l, discsL x = l := ⟨_, rfl⟩
 obtain ⟨t, hT⟩ : ∃ t, targetL y = t := ⟨_, rfl⟩
 have hl : okAs l := hL ▸ discsL_ok x
 have h7 : l.length ≤ 7 := hL ▸ discsL_len x
 have ht : t.length = 16 := hT ▸ targetL_len y
 have hR : validR l t = true := hL ▸ hT ▸ made_R x y
 have hR0 := valid0 hR
 have hvM := progR_valid (show l.length ≤ 12 by omega) t
 have c40 : CallsA Try.prog 40 [.sl 3 (encT x)] (.sl 16 (encA l)) := hL ▸ k40 x hx
 have c41 : CallsA Try.prog 41 [.sl 2 (encP y)] (.agg (cellsI t)) := hT ▸ k41 y hy
 have hsh : shlW .i64 1 (l.length : Nat) = ((2 ^ l.length : Nat) : Int) := shl1 (by omega)
 have htf := cellsI_full t (cellsI (List.replicate 16 0)) (by rw [cellsI_length, ht]; rfl)
 have htk : List.take 16 (cellsI t) = cellsI t := List.take_of_length_le (by rw [cellsI_length, ht]; decide)
 obtain ⟨u, hu1, hu2⟩ := pick_pow n hn l.length
 have hpp : (0 : Int) < ((2 ^ l.length : Nat) : Int) := by have := Nat.two_pow_pos l.length; omega
 have c44 : CallsA Try.prog 44 [.int .i64 n, .int .i64 ((2 ^ l.length : Nat) : Int)] (.int .i64 (u : Nat)) := hu1 ▸ k44 n _ hpp
 have hpm := hpl
 unfold maxLen at hpm
 have hmc := minV_range pf.length 8 (by omega)
 have hmc2 : minV (pf.length : Int) 8 ≤ ((encSgs pf).length : Int) := by rw [encSgs_length]; exact hmc.2
 have htc : List.take (minV (pf.length : Int) 8).toNat pf = List.take 8 pf := take_min pf 8
 have mw := manyR_le (u : Nat) 12
 have hneg : IntKind.i64.wrap (0 - manyR (u : Nat) 12) = -manyR (u : Nat) 12 := by rw [w64 (by omega)]; omega
 have c43 := kLeast hl ht hR
 have hpv := okPf_prf hvM
 have c47 := kCheck hl ht hR (solveB (progR l t)).1 (solveB (progR l t)).2.1 (solveB (progR l t)).2.2 (prfS (progR l t)) hpv
 rw [check_least hl ht hR] at c47
 have hp0 := prf_len hvM
 have hp3 := prf_ws (progR l t)
 have hD := caseD_all hl ht hR
 unfold encSol2 at c43
 rw [← solveW_f, ← solveW_s, ← solveW_g] at c43
 generalize (solveB (progR l t)).1 = F at c43 c47 hD
 generalize (solveB (progR l t)).2.1 = S at c43 c47 hD
 generalize (solveB (progR l t)).2.2 = G at c43 c47
 generalize prfS (progR l t) = P at c43 c47 hpv hp0 hp3
 have hp1 : P.length ≤ 100000 := by omega
 have hp2 : ∀ s ∈ P, s.ws.length ≤ 100000 := fun s hs => by have := hp3 s hs; omega
 have hbl := bentW_len (l := P) (z := z)
 have hbw := bentW_ws (z := z) hp3
 have hSL : ∀ SL, SL = [(⟨fd, set, gain, pf.take 8⟩ : So), ⟨F, (u : Nat), -manyR (u : Nat) 12, P⟩, ⟨F, S, G, bentW P z⟩] → ∀ i, i < 3 → okPf (SL.getD i so0).pf := fun SL hSL i hi => by
  subst hSL
  match i, hi with
  | 0, _ => exact okPf_take hpw
  | 1, _ => exact hpv
  | 2, _ => exact okPf_bent (by show (bentW P z).length ≤ 8192; omega) (fun s hs => by have := hbw s hs; omega)
 obtain ⟨SL, hSLd⟩ : ∃ SL, SL = [(⟨fd, set, gain, pf.take 8⟩ : So), ⟨F, (u : Nat), -manyR (u : Nat) 12, P⟩, ⟨F, S, G, bentW P z⟩] := ⟨_, rfl⟩
 have hSLe : [[V.bool fd, V.int .i64 set, V.int .i64 gain, V.sl 4 (encSgs (pf.take 8))], [V.bool F, V.int .i64 (u : Nat), V.int .i64 (-manyR (u : Nat) 12), V.sl 4 (encSgs P)], [V.bool F, V.int .i64 S, V.int .i64 G, V.sl 4 (encSgs (bentW P z))]] = encSl SL := by rw [hSLd]; rfl
 have hSLn : SL.length = 3 := by rw [hSLd]; rfl
 have hDi := hD SL (hSL SL hSLd)
 simp only [caseD_def, encSo] at hDi
 have hq := And.intro ht (And.intro hsh (And.intro htf (And.intro htk (And.intro hz4 (And.intro hmc (And.intro hmc2 (And.intro htc (And.intro hneg (hSLe)))))))))
 refine callsA_of_tr Try.func11 rfl (Nat.le_of_ble_eq_true rfl) ?_
 simp only [Try.results11, envOf, Nat.reduceAdd]
 refine tr_seq fun K1 hK1 => ?_
 refine tr_region [0, 1, 3, 7, 9] rfl rfl fun K hK => ?_
 iterate 3 refine evR_p ?_
 refine evR_e hK ?_; clear hK K
 refine hK1 _ ?_
 refine tr_seq fun K2 hK2 => ?_
 refine tr_seq fun K3 hK3 => ?_
 refine tr_region [0, 1, 3, 7, 9, 20] rfl rfl fun K hK => ?_
 refine evR_c (hc := k39) (k := ?_)
 refine evR_p ?_
 refine evR_e hK ?_; clear hK K
 refine hK3 _ ?_
 refine tr_condB (fun ht1 => ?_) (fun ht1 => ?_)
 ·
  skip
  (first | (exfalso; omega) | (exfalso; simp_all; done) | skip)
  all_goals
   refine tr_seq fun K4 hK4 => ?_
   refine tr_region [10] rfl rfl fun K hK => ?_
   refine evR_p ?_
   refine evR_e hK ?_; clear hK K
   refine hK4 _ ?_
   refine tr_ret ?_
   (try simp only [thenE, inBlkE])
   simp (maxSteps := 4000000) (disch := first | assumption | omega | (simp only [go_sem, *]; done) | (simp only [go_sem, *]; omega)) only [postA, postO, resV1, fzAll, go_sem, hq, Int.reduceToNat, Nat.reduceBEq, Nat.reduceEqDiff, Nat.reduceAdd, Nat.reduceMul, Nat.reduceLeDiff, Nat.reduceLT, Nat.reduceSub, ↓reduceIte, reduceCtorEq]
   all_goals (rfl)
 ·
  skip
  (first | (exfalso; omega) | (exfalso; simp_all; done) | skip)
  all_goals
   refine tr_skip ?_
   (try simp only [thenE, inBlkE])
   refine hK2 _ ?_
   refine tr_seq fun K5 hK5 => ?_
   refine tr_region [1, 3, 7, 9, 11] rfl rfl fun K hK => ?_
   refine evR_p ?_
   refine evR_c (hc := c40) (k := ?_)
   refine evR_p ?_
   refine evR_e hK ?_; clear hK K
   refine hK5 _ ?_
   refine tr_seq fun K6 hK6 => ?_
   refine tr_region [3, 7, 9, 11, 12] rfl rfl fun K hK => ?_
   refine evR_p ?_
   refine evR_c (hc := c41) (k := ?_)
   iterate 2 refine evR_p ?_
   refine evR_e hK ?_; clear hK K
   refine hK6 _ ?_
   refine tr_seq fun K7 hK7 => ?_
   refine tr_region [3, 7, 9, 11, 12, 13, 14] rfl rfl fun K hK => ?_
   iterate 2 refine evR_p ?_
   refine evR_c (hc := c43) (k := ?_)
   iterate 6 refine evR_p ?_
   refine evR_e hK ?_; clear hK K
   refine hK7 _ ?_
   refine tr_seq fun K8 hK8 => ?_
   refine tr_seq fun K9 hK9 => ?_
   refine tr_region [3, 7, 9, 11, 12, 13, 39] rfl rfl fun K hK => ?_
   iterate 3 refine evR_p ?_
   iterate 3 refine evR_g ?_
   refine evR_gc (hc := c47) (k := ?_)
   refine evR_g ?_
   refine evR_p ?_
   refine evR_e hK ?_; clear hK K
   refine hK9 _ ?_
   refine tr_condB (fun ht2 => ?_) (fun ht2 => ?_)
   ·
    skip
    (first | (exfalso; omega) | (exfalso; simp_all; done) | skip)
    all_goals
     refine tr_seq fun K10 hK10 => ?_
     refine tr_region [10] rfl rfl fun K hK => ?_
     refine evR_p ?_
     refine evR_e hK ?_; clear hK K
     refine hK10 _ ?_
     refine tr_ret ?_
     (try simp only [thenE, inBlkE])
     simp (maxSteps := 4000000) (disch := first | assumption | omega | (simp only [go_sem, *]; done) | (simp only [go_sem, *]; omega)) only [postA, postO, resV1, fzAll, go_sem, hq, Int.reduceToNat, Nat.reduceBEq, Nat.reduceEqDiff, Nat.reduceAdd, Nat.reduceMul, Nat.reduceLeDiff, Nat.reduceLT, Nat.reduceSub, ↓reduceIte, reduceCtorEq]
     all_goals (rfl)
   ·
    skip
    (first | (exfalso; omega) | (exfalso; simp_all; done) | skip)
    all_goals
     refine tr_skip ?_
     (try simp only [thenE, inBlkE])
     refine hK8 _ ?_
     refine tr_seq fun K11 hK11 => ?_
     refine tr_region [3, 7, 9, 11, 12, 13] rfl rfl fun K hK => ?_
     iterate 9 refine evR_p ?_
     refine evR_e hK ?_; clear hK K
     refine hK11 _ ?_
     refine tr_seq fun K12 hK12 => ?_
     refine tr_region [3, 7, 9, 11, 12, 13, 15] rfl rfl fun K hK => ?_
     iterate 3 refine evR_p ?_
     refine evR_e hK ?_; clear hK K
     refine hK12 _ ?_
     refine tr_seq fun K13 hK13 => ?_
     refine tr_region [7, 9, 11, 12, 13, 15] rfl rfl fun K hK => ?_
     iterate 4 refine evR_p ?_
     refine evR_c (hc := c44) (k := ?_)
     iterate 2 refine evR_p ?_
     refine evR_e hK ?_; clear hK K
     refine hK13 _ ?_
     refine tr_seq fun K14 hK14 => ?_
     refine tr_region [7, 9, 11, 12, 13, 15] rfl rfl fun K hK => ?_
     iterate 2 refine evR_p ?_
     refine evR_c (hc := (k46 (u : Nat))) (k := ?_)
     iterate 3 refine evR_p ?_
     refine evR_e hK ?_; clear hK K
     refine hK14 _ ?_
     refine tr_seq fun K15 hK15 => ?_
     refine tr_region [7, 9, 11, 12, 13, 15, 16] rfl rfl fun K hK => ?_
     iterate 3 refine evR_p ?_
     refine evR_e hK ?_; clear hK K
     refine hK15 _ ?_
     refine tr_seq fun K16 hK16 => ?_
     refine tr_region [7, 11, 12, 13, 15, 16] rfl rfl fun K hK => ?_
     iterate 3 refine evR_p ?_
     refine evR_c (hc := (k19 P hp1 hp2 z hz4 hz)) (k := ?_)
     iterate 2 refine evR_p ?_
     refine evR_e hK ?_; clear hK K
     refine hK16 _ ?_
     refine tr_seq fun K17 hK17 => ?_
     refine tr_seq fun K18 hK18 => ?_
     refine tr_region [11, 12, 13, 69, 70, 71] rfl rfl fun K hK => ?_
     iterate 3 refine evR_p ?_
     refine evR_bs ?_
     iterate 2 refine evR_p ?_
     refine evR_e hK ?_; clear hK K
     refine hK18 _ ?_
     refine tr_block ?_
     -- loop 1: live [11, 12, 13, 69, 70, 71]
     refine tr_loopW (fun m σ => ∃ i : Nat, i + m = 3 ∧ ((3 ≤ i ∧ True ∧ True ∧ True ∧ True ∧ True) ∨ (i < 3 ∧ CallsA Try.prog 47 [.sl 16 (encA l), .agg (cellsI t), .agg [.bool (SL.getD i so0).fd, .int .i64 (SL.getD i so0).set, .int .i64 (SL.getD i so0).gain, .sl 4 (encSgs (SL.getD i so0).pf)]] (.bool false) ∧ True ∧ True ∧ True ∧ True) ∨ (i < 3 ∧ CallsA Try.prog 47 [.sl 16 (encA l), .agg (cellsI t), .agg [.bool (SL.getD i so0).fd, .int .i64 (SL.getD i so0).set, .int .i64 (SL.getD i so0).gain, .sl 4 (encSgs (SL.getD i so0).pf)]] (.bool true) ∧ (SL.getD i so0).fd = false ∧ F = false ∧ True ∧ True) ∨ (i < 3 ∧ CallsA Try.prog 47 [.sl 16 (encA l), .agg (cellsI t), .agg [.bool (SL.getD i so0).fd, .int .i64 (SL.getD i so0).set, .int .i64 (SL.getD i so0).gain, .sl 4 (encSgs (SL.getD i so0).pf)]] (.bool true) ∧ (SL.getD i so0).fd = true ∧ F = true ∧ manyR (SL.getD i so0).set 12 = manyR S 12 ∧ coversB l t (SL.getD i so0).set = true)) ∧ σ = ⟨[(11, .sl 16 (encA l)), (12, .ptr 2 0), (13, .ptr 3 0), (69, .sl 4 (encSl SL)), (70, .int .i64 3), (71, .int .i64 (i : Nat))], [(3, .cells [.bool F, .int .i64 S, .int .i64 G, .sl 4 (encSgs P)]), (2, .cells (cellsI t))], 4⟩) (3) ?_ ?_
     ·
      exact ⟨_, Wk.trans (Wk.drop (fun k => k == 2 || k == 3)) (Wk.cut 4 (by simp [St.cutOK, AObj.upto, V.upto, V.uptoL, cellsI_uptoL, enC_uptoL, List.all_cons, List.all_nil, List.filter_cons, List.filter_nil, Nat.blt_eq, Nat.reduceLT, Nat.lt_irrefl, decide_true, decide_false, Bool.and_self, Bool.and_true, Bool.true_and, if_true, if_false, ↓reduceIte, Bool.false_eq_true, cellsI_uptoL])), 0, by omega, hDi 0, by first | rfl | (rw [hSLn, ← hSLe]; rfl) | (rw [← hSLe]; rfl)⟩
     ·
      rintro m σ ⟨i, hi, (⟨h3, cI, hfd, hFF, hmw, hcv⟩ | ⟨h3, cI, hfd, hFF, hmw, hcv⟩ | ⟨h3, cI, hfd, hFF, hmw, hcv⟩ | ⟨h3, cI, hfd, hFF, hmw, hcv⟩), rfl⟩ KL1 hKL1
      all_goals
       refine tr_seq fun K19 hK19 => ?_
       refine tr_region [11, 12, 13, 69, 70, 71, 72] rfl rfl fun K hK => ?_
       refine evR_p ?_
       refine evR_e hK ?_; clear hK K
       refine hK19 _ ?_
       refine tr_seq fun K20 hK20 => ?_
       refine tr_condB (fun ht3 => ?_) (fun ht3 => ?_)
       ·
        skip
        (first | (exfalso; omega) | (exfalso; simp_all; done) | skip)
        all_goals
         have hil : i < SL.length := by omega
         try rw [hfd] at cI
         replace hq := And.intro hq (And.intro hil (And.intro hfd (And.intro hFF (And.intro hmw (hcv)))))
         refine tr_skip ?_
         (try simp only [thenE, inBlkE])
         refine hK20 _ ?_
         refine tr_seq fun K21 hK21 => ?_
         refine tr_block ?_
         refine tr_seq fun K22 hK22 => ?_
         refine tr_region [11, 12, 13, 18, 69, 70, 71] rfl rfl fun K hK => ?_
         iterate 4 refine evR_p ?_
         refine evR_e hK ?_; clear hK K
         refine hK22 _ ?_
         refine tr_seq fun K23 hK23 => ?_
         refine tr_seq fun K24 hK24 => ?_
         refine tr_region [11, 12, 13, 18, 69, 70, 71, 79] rfl rfl fun K hK => ?_
         iterate 3 refine evR_p ?_
         refine evR_c (hc := cI) (k := ?_)
         refine evR_p ?_
         refine evR_e hK ?_; clear hK K
         refine hK24 _ ?_
         refine tr_condB (fun ht4 => ?_) (fun ht4 => ?_)
         ·
          skip
          (first | (exfalso; omega) | (exfalso; simp_all; done) | skip)
          all_goals
           refine tr_exit ?_
           simp only [thenE, inBlkE, Nat.reduceEqDiff, ↓reduceIte]
           refine hK21 _ ?_
           refine tr_region [11, 12, 13, 69, 70, 71] rfl rfl fun K hK => ?_
           iterate 2 refine evR_p ?_
           refine evR_e hK ?_; clear hK K
           refine hKL1 _ ?_
           exact ⟨m - 1, _, by omega, Wk.cut 4 (by simp [St.cutOK, AObj.upto, V.upto, V.uptoL, cellsI_uptoL, enC_uptoL, List.all_cons, List.all_nil, List.filter_cons, List.filter_nil, Nat.blt_eq, Nat.reduceLT, Nat.lt_irrefl, decide_true, decide_false, Bool.and_self, Bool.and_true, Bool.true_and, if_true, if_false, ↓reduceIte, Bool.false_eq_true, cellsI_uptoL]), i + 1, by omega, hDi (i + 1), by rw [w64 (x := (i : Int) + 1) (by omega)]; first | rfl | (rw [hFF]; rfl)⟩
         ·
          skip
          (first | (exfalso; omega) | (exfalso; simp_all; done) | skip)
          all_goals
           refine tr_skip ?_
           (try simp only [thenE, inBlkE])
           refine hK23 _ ?_
           refine tr_seq fun K25 hK25 => ?_
           refine tr_draw [] [11, 12, 13, 69, 70, 71, 105] mixed rfl (by kernel_rfl) rfl fun K hK => ?_
           iterate 6 refine evD_p ?_
           iterate 5 refine evD_g ?_
           refine evD_gc (hc := (k46 _)) (k := ?_)
           iterate 2 refine evD_g ?_
           refine evD_gc (hc := (k46 _)) (k := ?_)
           iterate 6 refine evD_g ?_
           refine evD_gc (hc := (kCovers hl ht hR _)) (k := ?_)
           iterate 3 refine evD_g ?_
           refine evD_p ?_
           refine evD_e hK ?_; clear hK K
           refine hK25 _ ?_
           refine tr_condB (fun ht5 => ?_) (fun ht5 => ?_)
           ·
            skip
            (first | (exfalso; omega) | (exfalso; simp_all; done) | skip)
            all_goals
             refine tr_seq fun K26 hK26 => ?_
             refine tr_region [10] rfl rfl fun K hK => ?_
             refine evR_p ?_
             refine evR_e hK ?_; clear hK K
             refine hK26 _ ?_
             refine tr_ret ?_
             (try simp only [thenE, inBlkE])
             simp (maxSteps := 4000000) (disch := first | assumption | omega | (simp only [go_sem, *]; done) | (simp only [go_sem, *]; omega)) only [postA, postO, resV1, fzAll, go_sem, hq, Int.reduceToNat, Nat.reduceBEq, Nat.reduceEqDiff, Nat.reduceAdd, Nat.reduceMul, Nat.reduceLeDiff, Nat.reduceLT, Nat.reduceSub, ↓reduceIte, reduceCtorEq]
             all_goals (rfl)
           ·
            skip
            (first | (exfalso; omega) | (exfalso; simp_all; done) | skip)
            all_goals
             refine tr_skip ?_
             (try simp only [thenE, inBlkE])
             refine hK21 _ ?_
             refine tr_region [11, 12, 13, 69, 70, 71] rfl rfl fun K hK => ?_
             iterate 2 refine evR_p ?_
             refine evR_e hK ?_; clear hK K
             refine hKL1 _ ?_
             exact ⟨m - 1, _, by omega, Wk.cut 4 (by simp [St.cutOK, AObj.upto, V.upto, V.uptoL, cellsI_uptoL, enC_uptoL, List.all_cons, List.all_nil, List.filter_cons, List.filter_nil, Nat.blt_eq, Nat.reduceLT, Nat.lt_irrefl, decide_true, decide_false, Bool.and_self, Bool.and_true, Bool.true_and, if_true, if_false, ↓reduceIte, Bool.false_eq_true, cellsI_uptoL]), i + 1, by omega, hDi (i + 1), by rw [w64 (x := (i : Int) + 1) (by omega)]; first | rfl | (rw [hFF]; rfl)⟩
       ·
        skip
        (first | (exfalso; omega) | (exfalso; simp_all; done) | skip)
        all_goals
         have hil : i = 3 := by omega
         refine tr_exit ?_
         simp only [thenE, inBlkE, Nat.reduceEqDiff, ↓reduceIte]
         refine hK17 _ ?_
         refine tr_seq fun K27 hK27 => ?_
         refine tr_region [10] rfl rfl fun K hK => ?_
         refine evR_p ?_
         refine evR_e hK ?_; clear hK K
         refine hK27 _ ?_
         refine tr_ret ?_
         (try simp only [thenE, inBlkE])
         simp (maxSteps := 4000000) (disch := first | assumption | omega | (simp only [go_sem, *]; done) | (simp only [go_sem, *]; omega)) only [postA, postO, resV1, fzAll, go_sem, hq, Int.reduceToNat, Nat.reduceBEq, Nat.reduceEqDiff, Nat.reduceAdd, Nat.reduceMul, Nat.reduceLeDiff, Nat.reduceLT, Nat.reduceSub, ↓reduceIte, reduceCtorEq]
         all_goals (rfl)
end

end Go.Proofs.Ytfamkbofdamkkaa
namespace Go.Proofs.Ytfamkbofdamkkaa
open Go.ChangeShapes Go.WideShapes Go.ChangeAt Go.RowKit
theorem Try.own : ownKnob Try.prog.godebug = none := by kernel_rfl
theorem Try.laidOut : laidOutB Try.prog = true := by kernel_rfl
section
variable {H : Type} {enc : TypeId × Value → H} {w : World}
theorem okI_of_wf {n : Int} (h : (Lit.int .i64 n).wf = true) : okI n := by
  simp [Lit.wf, IntKind.min, IntKind.max, IntKind.signed, IntKind.bits] at h
  unfold okI; omega
theorem dec3 : Dec enc Try.prog w 65 (fun t : T3 => [V.int .i64 t.p, V.int .i64 t.q, V.int .i64 t.r]) okT :=
  (dec_array (n := 3) (sz := 1) Try.underlying65 (by kernel_rfl) (by kernel_rfl) (dec_int Try.underlying3)).turn (fun xs => ⟨xs.getD 0 0, xs.getD 1 0, xs.getD 2 0⟩) fun xs h => by
    obtain ⟨h1, h2⟩ := h
    match xs, h1 with
    | [x, y, z], _ => exact ⟨rfl, okI_of_wf (h2 x (by simp)), okI_of_wf (h2 y (by simp)), okI_of_wf (h2 z (by simp))⟩
def okG (n : Nat) (a : List Int) : Prop := a.length = n ∧ ∀ c ∈ a, okI c
theorem decG {t : TypeId} {n : Nat} (ht : Try.prog.underlying t = some (.array n 3)) (h1 : Try.prog.cellsOf 3 = 1) (h2 : Try.prog.cellsOf t = n * 1) : Dec enc Try.prog w t (fun a : List Int => cellsI a) (okG n) :=
  (dec_array (n := n) (sz := 1) ht h1 h2 (dec_int Try.underlying3)).turn (fun xs => xs) fun xs h => ⟨by show xs.map (V.int .i64) = _; exact List.map_eq_flatMap, h.1, fun c hc => okI_of_wf (h.2 c hc)⟩
end
set_option linter.unusedVariables false
set_option linter.unusedSimpArgs false
section
variable {H : Type} {enc : TypeId × Value → H} {w : World}
theorem dec2 : Dec enc Try.prog w 90 (fun p : Pl => [V.int .i64 p.x, V.int .i64 p.y]) okP :=
  (dec_array (n := 2) (sz := 1) Try.underlying90 (by kernel_rfl) (by kernel_rfl) (dec_int Try.underlying3)).turn (fun xs => ⟨xs.getD 0 0, xs.getD 1 0⟩) fun xs h => by
    obtain ⟨h1, h2⟩ := h
    match xs, h1 with
    | [x, y], _ => exact ⟨rfl, okI_of_wf (h2 x (by simp)), okI_of_wf (h2 y (by simp))⟩
end
section
variable {H : Type} {enc : TypeId × Value → H} {P : Program} {w : World}

/-- The fields of a struct of n cells from the cell 'off' on. -/
def DecFs (enc : TypeId × Value → H) (P : Program) (w : World) {α : Type} (n off : Nat) (fs : List Field) (ec : α → List V) (Q : α → Prop) : Prop :=
  ∀ (fuel : Nat) (cs : List Value), cs.length = n → (∀ f ∈ fs, ∃ x, DataW.trod enc P w 0 (fun _ => true) true fuel f.type ((cs.drop f.offset).take (P.cellsOf f.type)) = some x) → ∃ a, Q a ∧ Rd w (cs.drop off) (ec a)

theorem decFs_nil {n : Nat} : DecFs enc P w n n [] (fun _ : Unit => []) fun _ => True := by
  intro fuel cs hl _
  exact ⟨(), trivial, by rw [List.drop_eq_nil_of_le (by omega)]; exact Rd.nil⟩
theorem decFs_cons {α β : Type} {n off : Nat} {f : Field} {fs : List Field} {m : Nat} {ea : α → List V} {eb : β → List V} {Qa : α → Prop} {Qb : β → Prop}
    (ho : f.offset = off) (hm : P.cellsOf f.type = m) (ha : Dec enc P w f.type ea Qa) (hb : DecFs enc P w n (off + m) fs eb Qb) :
    DecFs enc P w n off (f :: fs) (fun p : α × β => ea p.1 ++ eb p.2) fun p => Qa p.1 ∧ Qb p.2 := by
  intro fuel cs hl h
  obtain ⟨x, hx⟩ := h f (by simp)
  obtain ⟨a, qa, ra⟩ := ha _ _ _ hx
  obtain ⟨b, qb, rb⟩ := hb fuel cs hl fun g hg => h g (List.mem_cons_of_mem _ hg)
  refine ⟨(a, b), ⟨qa, qb⟩, ?_⟩
  have := ra.append rb
  rw [ho, hm] at this
  have e : List.take m (List.drop off cs) ++ List.drop (off + m) cs = List.drop off cs := by
    rw [← List.drop_drop, List.take_append_drop]
  rw [e] at this
  exact this
theorem dec_struct {α : Type} {t : TypeId} {fs : Array Field} {n : Nat} {ec : α → List V} {Q : α → Prop} (ht : P.underlying t = some (.struct fs)) (hn : P.cellsOf t = n) (h : DecFs enc P w n 0 fs.toList ec Q) : Dec enc P w t ec Q := by
  intro fuel cs x hx
  obtain ⟨xs, k, rfl, rfl, hl, hxl, hi⟩ := DataW.trod_struct ht hx
  obtain ⟨a, qa, ra⟩ := h k cs (by rw [hl, hn]) fun f hf => by
    obtain ⟨i, hil, rfl⟩ := List.mem_iff_getElem.1 hf
    have hil' : i < fs.size := by simpa using hil
    have := hi i fs[i] (by simp [hil'])
    rw [List.getElem?_eq_getElem (by omega)] at this
    exact ⟨_, by simpa using this⟩
  exact ⟨a, qa, by simpa using ra⟩

theorem rel_row {α : Type} {e : TypeId} {sz n : Nat} {ec : α → List V} {Q : α → Prop} (hs : P.cellsOf e = sz) (hd : Dec enc P w e ec Q) {b off len cap : Nat} (hl : len ≤ cap) (hm : cap ≤ maxLen)
    (hel : ∀ i, i < len → ∃ cs' x, w.cells? 0 ((⟨b, off, none⟩ : Addr).add (i * P.cellsOf e)) (P.cellsOf e) = some cs' ∧ DataW.trod enc P w 0 (fun _ => true) true n e cs' = some x) :
    ∃ asx : List α, (∀ a ∈ asx, Q a) ∧ asx.length = len ∧ Rel w (fun _ => False) (fun _ => 0) (fun _ => undef) 0 true (.sl sz (asx.map ec)) (.slice (some ⟨b, off, none⟩) len cap) := by
  obtain ⟨asx, k1, k2, k3⟩ := hd.choose (fun i => ((w.cells? 0 ((⟨b, off, none⟩ : Addr).add (i * P.cellsOf e)) (P.cellsOf e)).getD [])) len fun i hi => by
    obtain ⟨cs', x, q1, q2⟩ := hel i hi
    rw [q1]; exact ⟨_, _, q2⟩
  refine ⟨asx, k2, k1, ?_⟩
  have rows : ∀ i (hi : i < asx.length), ((asx.map ec).getD i []) = ec asx[i] := fun i hi => by simp [List.getD, hi]
  have key : ∀ i (hi : i < asx.length), ∃ cs', Rd w cs' (ec asx[i]) ∧ cs'.length = sz ∧ ∀ j, j < sz → w.cell? ⟨b, off + (i * sz + j), none⟩ = some (cs'.getD j undef) := fun i hi => by
    obtain ⟨cs', x, q1, q2⟩ := hel i (by omega)
    have := k3 i hi
    simp only [q1, Option.getD_some] at this
    obtain ⟨hl', hc'⟩ := cells_get q1
    rw [hs] at hl' hc'
    refine ⟨cs', this, hl', fun j hj => ?_⟩
    rw [← hc' j hj]
    congr 1
    unfold Addr.add
    by_cases hi0 : i * sz = 0
    · by_cases hj0 : j = 0 <;> simp [hi0, hj0]
    · by_cases hj0 : j = 0 <;> simp [hi0, hj0, Nat.add_assoc]
  refine .sl true sz (asx.map ec) b off len cap (fun i j => ((w.cell? ⟨b, off + (i * sz + j), none⟩).getD undef)) (by simp [k1]) hl hm ?_ ?_ ?_ ?_
  · intro i hi
    have hi' : i < asx.length := by simpa using hi
    obtain ⟨cs', q1, q2, q3⟩ := key i hi'
    rw [rows i hi', q1.1, q2]
  · intro i j hi hj
    have hi' : i < asx.length := by simpa using hi
    obtain ⟨cs', q1, q2, q3⟩ := key i hi'
    rw [rows i hi']
    exact (q1.2 j (by rw [q1.1]; omega)).1
  · intro i j hi hj
    have hi' : i < asx.length := by simpa using hi
    obtain ⟨cs', q1, q2, q3⟩ := key i hi'
    simp only [q3 j hj, Option.getD_some]
    exact ⟨trivial, id⟩
  · intro i j hi hj
    have hi' : i < asx.length := by simpa using hi
    obtain ⟨cs', q1, q2, q3⟩ := key i hi'
    rw [rows i hi']
    simp only [q3 j hj, Option.getD_some]
    exact (q1.2 j (by rw [q1.1]; omega)).2

/-- A slice within. -/
theorem dec_slice {α : Type} {t e : TypeId} {sz : Nat} {ec : α → List V} {Q : α → Prop} (ht : P.underlying t = some (.slice e)) (hs : P.cellsOf e = sz) (hz : 0 < sz) (hd : Dec enc P w e ec Q) :
    Dec enc P w t (fun asx : List α => [.sl sz (asx.map ec)]) fun asx => asx.length ≤ maxLen ∧ ∀ a ∈ asx, Q a := by
  intro fuel cs x hf
  rcases Deep.open_slice ht hf with ⟨rfl, -⟩ | ⟨a, len, cap, m, n, D, Pl, rfl, -, hl, hm, hme, -, hel⟩
  · exact ⟨[], ⟨by simp, fun a ha => by simp at ha⟩, Rd.one rfl (.slnil _ _ _)⟩
  · simp only [if_true] at hme
    subst hme
    by_cases hc : m = 0
    · have : len = 0 := by omega
      subst hc; subst this
      exact ⟨[], ⟨by simp, fun a ha => by simp at ha⟩, Rd.one rfl (.slnil _ _ _)⟩
    · have hsp : a.spot = none := by
        obtain ⟨cs', q1, -⟩ := hel 0 (by omega)
        obtain ⟨-, hc'⟩ := cells_get q1
        have := hc' 0 (by omega)
        simp only [Nat.zero_mul, Addr.add, if_true] at this
        unfold World.cell? at this
        split at this
        · split at this
          · cases this
          · simpa using ‹¬ a.spot.isSome = true›
        · cases this
      obtain ⟨b, off, spot⟩ := a
      simp only at hsp
      subst hsp
      obtain ⟨asx, q, e1, hr⟩ := rel_row hs hd hl hm fun i hi => by
        obtain ⟨cs', q1, q2⟩ := hel i (by omega)
        exact ⟨cs', _, q1, q2⟩
      exact ⟨asx, ⟨by omega, q⟩, Rd.one rfl hr⟩
end
end Go.Proofs.Ytfamkbofdamkkaa
namespace Go.Proofs.Ytfamkbofdamkkaa
open Go.ChangeShapes Go.WideShapes Go.ChangeAt Go.RowKit
section
variable {H : Type} {enc : TypeId × Value → H} {w : World}
theorem dec4 : Dec enc Try.prog w 28 (fun a : List Int => cellsI a) (okG 4) := decG Try.underlying28 (by kernel_rfl) (by kernel_rfl)
theorem decWt : Dec enc Try.prog w 56 encW fun _ => True :=
  (dec_struct (n := 2) Try.underlying56 (by kernel_rfl)
    (decFs_cons (m := 1) rfl (by kernel_rfl) (dec_int Try.underlying3) (decFs_cons (m := 1) rfl (by kernel_rfl) (dec_int Try.underlying3) decFs_nil))).turn
    (fun x => ⟨x.1, x.2.1⟩) fun x h => ⟨rfl, trivial⟩
theorem decSg : Dec enc Try.prog w 54 encSg fun s => s.ws.length ≤ maxLen :=
  (dec_struct (n := 4) Try.underlying54 (by kernel_rfl)
    (decFs_cons (m := 1) rfl (by kernel_rfl) (dec_int Try.underlying3) (decFs_cons (m := 1) rfl (by kernel_rfl) (dec_int Try.underlying3) (decFs_cons (m := 1) rfl (by kernel_rfl) (dec_int Try.underlying3)
      (decFs_cons (m := 1) rfl (by kernel_rfl) (dec_slice (sz := 2) Try.underlying52 (by kernel_rfl) (by decide) decWt) decFs_nil))))).turn
    (fun x => ⟨x.1, x.2.1, x.2.2.1, x.2.2.2.1⟩) fun x h => ⟨rfl, h.2.2.2.1.1⟩
end
set_option linter.unusedVariables false
set_option linter.unusedSimpArgs false
section
variable {H : Type} {enc : TypeId × Value → H} {w : World}
theorem decSo : Dec enc Try.prog w 34 encSo fun s => s.pf.length ≤ maxLen ∧ ∀ x ∈ s.pf, x.ws.length ≤ maxLen :=
  (dec_struct (n := 4) Try.underlying34 (by kernel_rfl)
    (decFs_cons (m := 1) rfl (by kernel_rfl) (dec_bool Try.underlying4) (decFs_cons (m := 1) rfl (by kernel_rfl) (dec_int Try.underlying3) (decFs_cons (m := 1) rfl (by kernel_rfl) (dec_int Try.underlying3)
      (decFs_cons (m := 1) rfl (by kernel_rfl) (dec_slice (sz := 4) Try.underlying30 (by kernel_rfl) (by decide) decSg) decFs_nil))))).turn
    (fun x => ⟨x.1, x.2.1, x.2.2.1, x.2.2.2.1⟩) fun x h => ⟨rfl, h.2.2.2.1.1, h.2.2.2.1.2⟩
end
end Go.Proofs.Ytfamkbofdamkkaa
