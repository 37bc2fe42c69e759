/- Texts of this proof, put together. -/
import Derived.Test.YtfamkbofdamkkaaKUb
import Derived.Test.YtfamkbofdamkkaaKUc
import Derived.Test.YtfamkbofdamkkaaKUd
import Derived.Test.YtfamkbofdamkkaaChecked
namespace Go.Proofs.Ytfamkbofdamkkaa
open Go.RowKit
set_option linter.unusedVariables false
set_option linter.unusedSimpArgs false
set_option maxRecDepth 100000
attribute [local go_sem] Nat.zero_add Nat.add_zero Nat.mul_one eq_self ne_eq not_true_eq_false not_false_eq_true decide_true decide_false decide_not Bool.false_eq_true List.filter_cons List.filter_nil true_and and_true beq_false beq_true Bool.not_true Bool.not_false Bool.and_true Bool.true_and Option.getD_some Option.getD_none imp_self implies_true Int.toNat_natCast List.cons_append List.nil_append List.map_cons List.map_nil List.length_cons List.length_nil List.getD_cons_zero List.getD_cons_succ List.drop_zero List.drop_succ_cons List.take_succ_cons List.take_zero
attribute [local go_sem] shL isSh Option.isNone_none Option.isNone_some Option.isSome_none lowN lowQ lowM isAl appOwn unw appF isE isO stpO notIn St.bare evO evDO isEff stp St.get St.slot St.put List.lookup un unL ofVal gof nth pickV pkB_false pkB_true binV unV loadV idxV fldV partV buildV fillV lenV sliV appV appR rowsV winV V.parts V.okp V.sc Mem.look_cons Mem.look_nil V.cl V.clL AObj.clo fzAll exps St.fz Mem.fz V.fz V.fzL AObj.fz Option.isSome_some Option.isSome_none Bool.or_true Bool.true_or Bool.or_false Bool.false_or false_and and_false false_or or_false arT_22 arT_23 arT_25 arT_24 arT_40 arT_30  arT_65 arT_28 arT_90  arT_52 boolT_25 boolT_3 boolT_35 boolT_4  flatT_25 flatT_3 flatT_35 flatT_4  intT_3 intT_133 lay_23 lay_25 lay_67 lay_24 lay_27 lay_3 lay_49 lay_30 lay_34 lay_4 lay_65 lay_52 lay_54 lay_56 lay_141 lay_164  okF_17 okF_31  okF_36 okF_18 okF_34 okF_63  okF_28 okF_50 okF_69 okF_51  okF_35       okF_37   okF_71  okF_65  okF_62 okF_77 okF_79  okF_80 okF_81 okF_64 okF_66 okF_76 okF_113 okF_96 okF_97 okF_98 okF_82  okF_99 okF_119 okF_120 okF_78 okF_100 okF_101 okF_83 okF_84 okF_125 okF_126  okF_127 okF_128 okF_129 okF_130 okF_114 okF_124 okF_140 okF_141 okF_142 okF_143  okF_131 okF_132 okF_144 okF_158 okF_155 okF_159   plT_67 plT_27 plT_34 plT_54 plT_56 slT_22 slT_23 slT_25 slT_24 slT_40 slT_30  slT_65 slT_28 slT_90  slT_52  stT_67_1   stT_67_4 stT_67_5 stT_27_0 stT_27_1 stT_27_2 stT_34_0 stT_34_1 stT_34_2 stT_34_3 stT_54_0 stT_54_1 stT_54_2 stT_54_3 stT_56_0 stT_56_1  zeroT_67 zeroT_27 zeroT_3 zeroT_49 zeroT_30 zeroT_34 zeroT_65  zeroT_54 zeroT_56
attribute [local go_sem] List.getElem?_cons_zero List.getElem?_cons_succ List.zip_cons_cons List.zip_nil_left List.zip_nil_right Bool.false_and Bool.and_false List.length_append List.length_set List.length_replicate List.all_cons List.all_nil encI_length encI_getD encR_length encR_getD encRw encPg spl shp AObj.shp rowM isSt isRpS isRd csh AObj.csh forall_const imp_self
attribute [local simp] encI_length encR_length
section
attribute [local go_sem] encR_one
end

end Go.Proofs.Ytfamkbofdamkkaa
namespace Go.Proofs.Ytfamkbofdamkkaa
open Go.RowKit
set_option linter.unusedVariables false
set_option linter.unusedSimpArgs false
def encSol2 (p : Pg) : List V := [.bool (solveW p).found, .int .i64 (solveW p).set, .int .i64 (solveW p).gain, .sl 4 (encSgs (prfS p))]
theorem sol_le (p : Pg) : V.Le (.tup [.agg (encSol (solveW p)), .int .i64 0]) (.tup [.agg (encSol2 p), .int .i64 0]) :=
  .tup (.cons (.agg (.cons (.refl _) (.cons (.refl _) (.cons (.refl _) (.cons (encS_le _) .nil))))) (.cons (.refl _) .nil))
/-- A proof that is no longer than any of these is. -/
structure okPf (l : List Sg) : Prop where
  len : l.length ≤ maxLen
  ws : ∀ s ∈ l, s.ws.length ≤ maxLen
theorem okPf.at {l : List Sg} (h : okPf l) : ∀ k, k < l.length → ∀ s, l.getD k sg0 = s → s.ws.length ≤ maxLen := fun k hk s hs => by
  subst hs; exact h.ws _ (getD_mem hk)
/-- A program that is no longer than any of these is. -/
structure okPr (p : Pg) : Prop where
  rows : p.rows.length ≤ 400
  gain : p.gain.length ≤ 1000
  coef : ∀ r ∈ p.rows, r.coef.length ≤ 1000
theorem okPr_valid {p : Pg} (hv : validB p = true) : okPr p := by
  obtain ⟨q0, q1, q2, q3, q4, q5⟩ := validB_all hv
  exact ⟨by omega, by omega, fun r hr => by have := (q5 r hr).1; omega⟩
section
variable {p : Pg} (hp : okPr p) {l : List Sg} (hl : okPf l)
include hp
theorem okPr.r : p.rows.length ≤ maxLen := by have := hp.rows; unfold maxLen; omega
theorem okPr.g : p.gain.length ≤ maxLen := by have := hp.gain; unfold maxLen; omega
theorem okPr.c : ∀ r ∈ p.rows, r.coef.length ≤ maxLen := fun r hr => by have := hp.coef r hr; unfold maxLen; omega
include hl
theorem s24 : CallsA Try.prog 24 [.agg (encPg p), .sl 4 (encSgs l)] (.bool (refutesW p l)) := k24 p hp.r hp.g hp.c l hl.len hl.at
theorem s26 : CallsA Try.prog 26 [.agg (encPg p), .sl 4 (encSgs l)] (.int .i64 (wrongW p l)) := k26 p hp.r hp.g hp.c l hl.len hl.at
theorem s32 (n : Int) : CallsA Try.prog 32 [.agg (encPg p), .sl 4 (encSgs l), .int .i64 n] (.bool (boundsW p l n)) := k32 p hp.r hp.g hp.c l hl.len hl.at hp.gain (by have := hp.rows; omega) n
end
theorem okPf_prf {p : Pg} (hv : validB p = true) : okPf (prfS p) := ⟨by have := prf_len hv; unfold maxLen; omega, fun s hs => by have := prf_ws p s hs; unfold maxLen; omega⟩
theorem pickW_rangeL (c : Int) {n : Int} (hn : 0 < n) (hc : okI c) : 0 ≤ pickW c n ∧ pickW c n < n := by
  unfold okI at hc
  unfold pickW
  split
  · rw [w64 (x := c + 1) (by omega), w64 (x := 0 - (c + 1)) (by omega)]
    exact ⟨Int.tmod_nonneg _ (by omega), Int.tmod_lt_of_pos _ hn⟩
  · exact ⟨Int.tmod_nonneg _ (by omega), Int.tmod_lt_of_pos _ hn⟩
/-- The step that Bent makes of a step. -/
def bentS (n : Nat) (z : List Int) (s : Sg) : Sg :=
  if pickW (z.getD 1 0) 9 = 0 then ⟨pickW (z.getD 2 0) 9 - 1, s.no, s.yes, s.ws⟩
  else if pickW (z.getD 1 0) 9 = 1 then ⟨s.var, pickW (z.getD 2 0) (n + 1), s.yes, s.ws⟩
  else if pickW (z.getD 1 0) 9 = 2 then ⟨s.var, s.no, pickW (z.getD 2 0) (n + 1), s.ws⟩
  else if pickW (z.getD 1 0) 9 = 3 then (if 0 < s.ws.length then ⟨s.var, s.no, s.yes, s.ws.set 0 ⟨pickW (z.getD 2 0) 9, (s.ws.getD 0 wt0).tm⟩⟩ else s)
  else if pickW (z.getD 1 0) 9 = 4 then (if 0 < s.ws.length then ⟨s.var, s.no, s.yes, s.ws.set 0 ⟨(s.ws.getD 0 wt0).rw, pickW (z.getD 2 0) 1003 - 1⟩⟩ else s)
  else if pickW (z.getD 1 0) 9 = 5 then ⟨s.var, s.no, s.yes, s.ws ++ [⟨pickW (z.getD 2 0) 10, 1 + pickW (z.getD 3 0) 5⟩]⟩
  else if pickW (z.getD 1 0) 9 = 7 then ⟨s.var, s.yes, s.no, s.ws⟩
  else s
def bentW (l : List Sg) (z : List Int) : List Sg :=
  if l.length = 0 then l
  else if pickW (z.getD 1 0) 9 = 6 then (l.set (pickW (z.getD 0 0) l.length).toNat (bentS l.length z (l.getD (pickW (z.getD 0 0) l.length).toNat sg0))).take (pickW (z.getD 2 0) l.length + 1).toNat
  else l.set (pickW (z.getD 0 0) l.length).toNat (bentS l.length z (l.getD (pickW (z.getD 0 0) l.length).toNat sg0))
theorem bentS_6 {n : Nat} {z : List Int} {s : Sg} (h : pickW (z.getD 1 0) 9 = 6) : bentS n z s = s := by unfold bentS; rw [h]; rfl
theorem set_getD {α : Type} {l : List α} {k : Nat} {d : α} : l.set k (l.getD k d) = l := by
  apply List.ext_getElem?
  intro i
  rw [List.getElem?_set]
  split
  · rename_i e; subst e
    split
    · rename_i h; simp [List.getD, h]
    · rename_i h; rw [List.getElem?_eq_none (by omega)]
  · rfl
theorem bentW_6 {l : List Sg} {z : List Int} (h : pickW (z.getD 1 0) 9 = 6) (h0 : ¬ l.length = 0) : bentW l z = l.take (pickW (z.getD 2 0) l.length + 1).toNat := by
  unfold bentW
  rw [if_neg h0, if_pos h, bentS_6 h, set_getD]
theorem bentW_n {l : List Sg} {z : List Int} (h : ¬ pickW (z.getD 1 0) 9 = 6) (h0 : ¬ l.length = 0) : bentW l z = l.set (pickW (z.getD 0 0) l.length).toNat (bentS l.length z (l.getD (pickW (z.getD 0 0) l.length).toNat sg0)) := by
  unfold bentW
  rw [if_neg h0, if_neg h]
theorem bentS_ws (n : Nat) (z : List Int) (s : Sg) : (bentS n z s).ws.length ≤ s.ws.length + 1 := by
  unfold bentS
  repeat' split
  all_goals simp
theorem bentW_ws {l : List Sg} {z : List Int} {B : Nat} (h : ∀ s ∈ l, s.ws.length ≤ B) : ∀ s ∈ bentW l z, s.ws.length ≤ B + 1 := by
  have h2 : ∀ s ∈ l.set (pickW (z.getD 0 0) l.length).toNat (bentS l.length z (l.getD (pickW (z.getD 0 0) l.length).toNat sg0)), s.ws.length ≤ B + 1 := fun s hs => by
    rcases List.mem_or_eq_of_mem_set hs with hs | hs
    · have := h s hs; omega
    · rw [hs]
      have h3 := bentS_ws l.length z (l.getD (pickW (z.getD 0 0) l.length).toNat sg0)
      have h4 : (l.getD (pickW (z.getD 0 0) l.length).toNat sg0).ws.length ≤ B := by
        by_cases hk : (pickW (z.getD 0 0) l.length).toNat < l.length
        · exact h _ (getD_mem hk)
        · rw [getD_none (by omega)]; simp [sg0]
      omega
  intro s hs
  unfold bentW at hs
  split at hs
  · have := h s hs; omega
  · split at hs
    · exact h2 s (List.mem_of_mem_take hs)
    · exact h2 s hs
theorem bentW_len {l : List Sg} {z : List Int} : (bentW l z).length ≤ l.length := by
  unfold bentW
  split
  · exact Nat.le_refl _
  · split <;> simp
    omega
theorem bentW_pos {l : List Sg} {z : List Int} (hz : ∀ x ∈ z, okI x) (hl : 0 < l.length) (hm : l.length ≤ 8192) : 0 < (bentW l z).length := by
  unfold bentW
  rw [if_neg (by omega)]
  split
  · have hok : okI (z.getD 2 0) := by
      by_cases hk : 2 < z.length
      · exact hz _ (getD_mem hk)
      · rw [getD_none (by omega)]; simp [okI]
    obtain ⟨j, h1, h2⟩ : ∃ j : Nat, pickW (z.getD 2 0) (l.length : Nat) = j ∧ j < l.length := by
      have := pickW_rangeL (z.getD 2 0) (n := (l.length : Nat)) (by omega) hok
      exact ⟨(pickW (z.getD 2 0) (l.length : Nat)).toNat, by omega, by omega⟩
    rw [h1]
    simp; omega
  · simp; omega
def greatW (l : List Sg) (k : Nat) (n : Int) : List Sg := l.set k ⟨(l.getD k sg0).var, (l.getD k sg0).no, (l.getD k sg0).yes, mulW n (l.getD k sg0).ws⟩
def timesOk (n : Int) (ws : List Wt) (i : Nat) : Prop := ∀ j, j < i → 1 ≤ (ws.getD j wt0).tm ∧ (ws.getD j wt0).tm * n ≤ 1000
theorem timesOk_step {n : Int} {ws : List Wt} {i : Nat} (h : timesOk n ws i) (h2 : ¬ (ws.getD i wt0).tm < 1 ∧ ¬ 1000 < (ws.getD i wt0).tm * n) : timesOk n ws (i + 1) := fun j hj => by
  by_cases e : j = i
  · subst e; exact ⟨by omega, by omega⟩
  · exact h j (by omega)
theorem great_wrk {n : Int} (hn : 0 < n) {vars : Int} {rows : List Rw} {l : List Sg} {k : Nat} (hk : k < l.length) (ht : timesOk n (l.getD k sg0).ws (l.getD k sg0).ws.length) : wrkP vars rows (greatW l k n) = wrkP vars rows l := by
  unfold wrkP greatW
  rw [List.length_set, wrk_mul hn hk ht]
theorem great_wrong {n : Int} (hn : 0 < n) {p : Pg} {l : List Sg} {k : Nat} (hk : k < l.length) (ht : timesOk n (l.getD k sg0).ws (l.getD k sg0).ws.length) : refutesW p (greatW l k n) = refutesW p l := by
  have e : (greatW l k n).length = l.length := by simp [greatW]
  rw [wrong_spec, wrong_spec, great_wrk hn hk ht, e]
theorem great_bounds {n : Int} (hn : 0 < n) {p : Pg} {l : List Sg} {k : Nat} (hk : k < l.length) (ht : timesOk n (l.getD k sg0).ws (l.getD k sg0).ws.length) (g : Int) : boundsW p (greatW l k n) g = boundsW p l g := by
  have e : (greatW l k n).length = l.length := by simp [greatW]
  unfold boundsW
  rw [great_wrk hn hk ht, e]
def wholeB (l : List Sg) : Nat → Bool
  | 0 => true
  | i + 1 => wholeB l i && (decide ((l.getD i sg0).no < (l.length : Int)) && decide ((l.getD i sg0).yes < (l.length : Int)))
theorem wholeB_iff {l : List Sg} : ∀ {n : Nat}, wholeB l n = true → ∀ k, k < n → (l.getD k sg0).no < (l.length : Int) ∧ (l.getD k sg0).yes < (l.length : Int)
  | 0, _, k, h => by omega
  | n + 1, hw, k, h => by
    simp only [wholeB, Bool.and_eq_true, decide_eq_true_eq] at hw
    by_cases e : k = n
    · subst e; exact hw.2
    · exact wholeB_iff hw.1 k (by omega)
theorem longer_wrong {p : Pg} {l : List Sg} (h0 : 0 < l.length) (hl : l.length ≤ 8191) (hw : wholeB l l.length = true) (x : Sg) : wrongW p (l ++ [x]) = wrongW p l := by
  unfold wrongW
  rw [wrkP_longer h0 (wholeB_iff hw)]
  have e1 : decide (((l ++ [x]).length : Int) ≤ 8192) = true := by simp; omega
  have e2 : decide ((l.length : Int) ≤ 8192) = true := by simp; omega
  rw [e1, e2]
theorem longer_bounds {p : Pg} {l : List Sg} (h0 : 0 < l.length) (hl : l.length ≤ 8191) (hw : wholeB l l.length = true) (x : Sg) (g : Int) : boundsW p (l ++ [x]) g = boundsW p l g := by
  unfold boundsW
  rw [wrkP_longer h0 (wholeB_iff hw)]
  have e1 : decide (((l ++ [x]).length : Int) ≤ 8192) = true := by simp; omega
  have e2 : decide ((l.length : Int) ≤ 8192) = true := by simp; omega
  rw [e1, e2]
/-! #### what has been multiplied, up to a weight -/
def mulT (n : Int) (ws : List Wt) (i : Nat) : List Wt := (ws.take i).map fun w => ⟨w.rw, w.tm * n⟩
theorem mulT_succ {n : Int} {ws : List Wt} {i : Nat} (h : i < ws.length) : mulT n ws (i + 1) = mulT n ws i ++ [⟨(ws.getD i wt0).rw, (ws.getD i wt0).tm * n⟩] := take_snoc _ _ h
theorem mulT_all (n : Int) (ws : List Wt) : mulT n ws ws.length = mulW n ws := by simp [mulT, mulW]
theorem mulT_len (n : Int) (ws : List Wt) (i : Nat) : (mulT n ws i).length = min i ws.length := by simp [mulT]
theorem encWs_snoc (a : List Wt) (w : Wt) : encWs (a ++ [w]) = encWs a ++ [encW w] := by simp [encWs]
theorem encWs_set (a : List Wt) (k : Nat) (x y : Int) : (encWs a).set k [V.int .i64 x, V.int .i64 y] = encWs (a.set k ⟨x, y⟩) := by simp [encWs, List.map_set, encW]
theorem encSgs_set (a : List Sg) (k : Nat) (v no yes : Int) (ws : List Wt) : (encSgs a).set k [V.int .i64 v, V.int .i64 no, V.int .i64 yes, V.sl 2 (encWs ws)] = encSgs (a.set k ⟨v, no, yes, ws⟩) := by simp [encSgs, List.map_set, encSg]
theorem encSgs_snoc (a : List Sg) (s : Sg) : encSgs (a ++ [s]) = encSgs a ++ [encSg s] := by simp [encSgs]
theorem encSgs_take (a : List Sg) (n : Nat) : (encSgs a).take n = encSgs (a.take n) := by simp [encSgs, List.map_take]
/-- The weights of a step of a changed plain proof are small. -/
def smallS (s : Sg) : Prop := ∀ w ∈ s.ws, -1 ≤ w.tm ∧ w.tm ≤ 1002
theorem bentS_small {n : Nat} {z : List Int} (hz : ∀ x ∈ z, okI x) {s : Sg} (h : smallS s) : smallS (bentS n z s) := by
  have ok : ∀ i, okI (z.getD i 0) := fun i => by
    by_cases hk : i < z.length
    · exact hz _ (getD_mem hk)
    · rw [getD_none (by omega)]; simp [okI]
  have h1 := pickW_rangeL (z.getD 2 0) (n := 1003) (by decide) (ok 2)
  have h2 := pickW_rangeL (z.getD 3 0) (n := 5) (by decide) (ok 3)
  have h0 : 0 < s.ws.length → -1 ≤ (s.ws.getD 0 wt0).tm ∧ (s.ws.getD 0 wt0).tm ≤ 1002 := fun hl => h _ (getD_mem hl)
  unfold bentS
  intro w hw
  split at hw
  · exact h w hw
  · split at hw
    · exact h w hw
    · split at hw
      · exact h w hw
      · split at hw
        · split at hw
          · rcases List.mem_or_eq_of_mem_set hw with hw | hw
            · exact h w hw
            · rw [hw]; exact h0 (by assumption)
          · exact h w hw
        · split at hw
          · split at hw
            · rcases List.mem_or_eq_of_mem_set hw with hw | hw
              · exact h w hw
              · rw [hw]; constructor <;> simp only <;> omega
            · exact h w hw
          · split at hw
            · rcases List.mem_append.1 hw with hw | hw
              · exact h w hw
              · rw [List.mem_singleton] at hw; rw [hw]; constructor <;> simp only <;> omega
            · split at hw
              · exact h w hw
              · exact h w hw
theorem bentW_small {l : List Sg} {z : List Int} (hz : ∀ x ∈ z, okI x) (h : ∀ s ∈ l, smallS s) : ∀ s ∈ bentW l z, smallS s := by
  have h2 : ∀ s ∈ l.set (pickW (z.getD 0 0) l.length).toNat (bentS l.length z (l.getD (pickW (z.getD 0 0) l.length).toNat sg0)), smallS s := fun s hs => by
    rcases List.mem_or_eq_of_mem_set hs with hs | hs
    · exact h s hs
    · rw [hs]
      refine bentS_small hz ?_
      by_cases hk : (pickW (z.getD 0 0) l.length).toNat < l.length
      · exact h _ (getD_mem hk)
      · rw [getD_none (by omega)]; intro w hw; simp [sg0] at hw
  intro s hs
  unfold bentW at hs
  split at hs
  · exact h s hs
  · split at hs
    · exact h2 s (List.mem_of_mem_take hs)
    · exact h2 s hs
theorem prf_small (p : Pg) : ∀ s ∈ prfS p, smallS s := by
  intro s hs
  simp only [prfS, List.mem_map] at hs
  obtain ⟨t, -, rfl⟩ := hs
  intro w hw
  simp only [toSg] at hw
  split at hw
  · rw [List.mem_singleton] at hw; rw [hw]; constructor <;> simp
  · simp at hw
set_option maxRecDepth 100000
attribute [local go_sem] Nat.zero_add Nat.add_zero Nat.mul_one eq_self ne_eq not_true_eq_false not_false_eq_true decide_true decide_false decide_not Bool.false_eq_true List.filter_cons List.filter_nil true_and and_true beq_false beq_true Bool.not_true Bool.not_false Bool.and_true Bool.true_and Option.getD_some Option.getD_none imp_self implies_true Int.toNat_natCast List.cons_append List.nil_append List.map_cons List.map_nil List.length_cons List.length_nil List.getD_cons_zero List.getD_cons_succ List.drop_zero List.drop_succ_cons List.take_succ_cons List.take_zero
attribute [local go_sem] shL isSh Option.isNone_none Option.isNone_some Option.isSome_none lowN lowQ lowM isAl appOwn unw appF isE isO stpO notIn St.bare evO evDO isEff stp St.get St.slot St.put List.lookup un unL ofVal gof nth pickV pkB_false pkB_true binV unV loadV idxV fldV partV buildV fillV lenV sliV appV appR rowsV winV V.parts V.okp V.sc Mem.look_cons Mem.look_nil V.cl V.clL AObj.clo fzAll exps St.fz Mem.fz V.fz V.fzL AObj.fz Option.isSome_some Option.isSome_none Bool.or_true Bool.true_or Bool.or_false Bool.false_or false_and and_false false_or or_false arT_22 arT_23 arT_25 arT_24 arT_40 arT_30  arT_65 arT_28 arT_90  arT_52 boolT_25 boolT_3 boolT_35 boolT_4  flatT_25 flatT_3 flatT_35 flatT_4  intT_3 intT_133 lay_23 lay_25 lay_67 lay_24 lay_27 lay_3 lay_49 lay_30 lay_34 lay_4 lay_65 lay_52 lay_54 lay_56 lay_141 lay_164  okF_17 okF_31  okF_36 okF_18 okF_34 okF_63  okF_28 okF_50 okF_69 okF_51  okF_35       okF_37   okF_71  okF_65  okF_62 okF_77 okF_79  okF_80 okF_81 okF_64 okF_66 okF_76 okF_113 okF_96 okF_97 okF_98 okF_82  okF_99 okF_119 okF_120 okF_78 okF_100 okF_101 okF_83 okF_84 okF_125 okF_126  okF_127 okF_128 okF_129 okF_130 okF_114 okF_124 okF_140 okF_141 okF_142 okF_143  okF_131 okF_132 okF_144 okF_158 okF_155 okF_159   plT_67 plT_27 plT_34 plT_54 plT_56 slT_22 slT_23 slT_25 slT_24 slT_40 slT_30  slT_65 slT_28 slT_90  slT_52  stT_67_1   stT_67_4 stT_67_5 stT_27_0 stT_27_1 stT_27_2 stT_34_0 stT_34_1 stT_34_2 stT_34_3 stT_54_0 stT_54_1 stT_54_2 stT_54_3 stT_56_0 stT_56_1  zeroT_67 zeroT_27 zeroT_3 zeroT_49 zeroT_30 zeroT_34 zeroT_65  zeroT_54 zeroT_56
attribute [local go_sem] List.getElem?_cons_zero List.getElem?_cons_succ List.zip_cons_cons List.zip_nil_left List.zip_nil_right Bool.false_and Bool.and_false List.length_append List.length_set List.length_replicate List.all_cons List.all_nil encI_length encI_getD encR_length encR_getD encRw encPg spl shp AObj.shp rowM isSt isRpS isRd csh AObj.csh forall_const imp_self
attribute [local simp] encI_length encR_length cellsI_length
section
attribute [local go_sem] encI_rep encI_set encI_getD
theorem c35 (p : Pg) (hg : p.gain.length ≤ 1000) (gn : Int) : CallsA Try.prog 65 [.agg (encPg p), .int .i64 gn] (.agg (encRw (goalR p gn))) := by
 have hq : True := trivial
 refine callsA_of_tr Try.func65 rfl (Nat.le_of_ble_eq_true rfl) ?_
 simp only [Try.results65, envOf, Nat.reduceAdd]
 refine tr_seq fun K1 hK1 => ?_
 refine tr_region [1, 2, 4] rfl rfl fun K hK => ?_
 iterate 2 refine evR_p ?_
 refine evR_e hK ?_; clear hK K
 refine hK1 _ ?_
 refine tr_seq fun K2 hK2 => ?_
 refine tr_region [2, 4, 5] rfl rfl fun K hK => ?_
 iterate 10 refine evR_p ?_
 refine evR_e hK ?_; clear hK K
 refine hK2 _ ?_
 refine tr_seq fun K3 hK3 => ?_
 refine tr_seq fun K4 hK4 => ?_
 refine tr_region [2, 4, 5, 6] rfl rfl fun K hK => ?_
 refine evR_p ?_
 refine evR_e hK ?_; clear hK K
 refine hK4 _ ?_
 refine tr_block ?_
 -- loop 1: live [2, 4, 5, 6]
 refine tr_loopW (fun m σ => ∃ i : Nat, i + m = p.gain.length ∧ σ = ⟨[(2, .ptr 0 0), (4, .ptr 1 0), (5, .ptr 3 0), (6, .int .i64 (i : Nat))], [(3, .cells [.int .i64 0, .int .i64 0, .int .i64 0, .int .i64 0, .own 2, .int .i64 (IntKind.i64.wrap (IntKind.i64.wrap (0 - gn) - 1))]), (2, .row 3 1 (encI (negP p.gain i))), (1, .cells [.int .i64 0, .int .i64 0, .int .i64 0, .int .i64 0, .nsl, .int .i64 0]), (0, .cells (encPg p))], 4⟩) (p.gain.length) ?_ ?_
 ·
  exact ⟨_, Wk.refl _, 0, by omega, by rw [negP_0]; rfl⟩
 ·
  rintro m σ ⟨i, hi, rfl⟩ KL1 hKL1
  have hnl : (negP p.gain i).length = p.gain.length := negP_length (by omega)
  refine tr_seq fun K5 hK5 => ?_
  refine tr_seq fun K6 hK6 => ?_
  refine tr_region [2, 4, 5, 6, 19] rfl rfl fun K hK => ?_
  iterate 5 refine evR_p ?_
  refine evR_e hK ?_; clear hK K
  refine hK6 _ ?_
  refine tr_condB (fun ht1 => ?_) (fun ht1 => ?_)
  ·
   skip
   have hil : i < p.gain.length := by omega
   replace hq := And.intro hq (And.intro hil (hnl))
   refine tr_skip ?_
   (try simp only [thenE, inBlkE])
   refine hK5 _ ?_
   refine tr_seq fun K7 hK7 => ?_
   refine tr_block ?_
   refine tr_draw [] [2, 4, 5, 6] mixed rfl (by kernel_rfl) rfl fun K hK => ?_
   iterate 11 refine evD_p ?_
   refine evD_e hK ?_; clear hK K
   refine hK7 _ ?_
   refine tr_region [2, 4, 5, 6] rfl rfl fun K hK => ?_
   iterate 3 refine evR_p ?_
   refine evR_e hK ?_; clear hK K
   refine hKL1 _ ?_
   exact ⟨m - 1, _, by omega, Wk.refl _, i + 1, by omega, by rw [w64 (x := (i : Int) + 1) (by omega), negP_set hil]; rfl⟩
  ·
   skip
   have hil : i = p.gain.length := by omega
   subst hil
   rw [negP_end]
   refine tr_exit ?_
   simp only [thenE, inBlkE, Nat.reduceEqDiff, ↓reduceIte]
   refine hK3 _ ?_
   refine tr_seq fun K8 hK8 => ?_
   refine tr_region [4] rfl rfl fun K hK => ?_
   iterate 2 refine evR_p ?_
   refine evR_e hK ?_; clear hK K
   refine hK8 _ ?_
   refine tr_ret ?_
   (try simp only [thenE, inBlkE])
   simp (maxSteps := 4000000) (disch := first | assumption | omega | (simp only [go_sem, *]; done) | (simp only [go_sem, *]; omega)) only [postA, postO, resV1, fzAll, go_sem, hq, Int.reduceToNat, Nat.reduceBEq, Nat.reduceEqDiff, Nat.reduceAdd, Nat.reduceMul, Nat.reduceLeDiff, Nat.reduceLT, Nat.reduceSub, ↓reduceIte, reduceCtorEq]
   all_goals (rfl)
end

theorem c42 (l : List Int) (set : Int) (hm : l.length ≤ maxLen) : CallsA Try.prog 64 [.sl 1 (encI l), .int .i64 set] (.int .i64 (totG l set l.length)) := by
 unfold maxLen at hm
 have hq : True := trivial
 refine callsA_of_tr Try.func64 rfl (Nat.le_of_ble_eq_true rfl) ?_
 simp only [Try.results64, envOf, Nat.reduceAdd]
 refine tr_seq fun K1 hK1 => ?_
 refine tr_region [0, 1] rfl rfl fun K hK => ?_
 refine evR_p ?_
 refine evR_e hK ?_; clear hK K
 refine hK1 _ ?_
 refine tr_seq fun K2 hK2 => ?_
 refine tr_region [0, 1, 5] rfl rfl fun K hK => ?_
 refine evR_p ?_
 refine evR_e hK ?_; clear hK K
 refine hK2 _ ?_
 refine tr_seq fun K3 hK3 => ?_
 refine tr_seq fun K4 hK4 => ?_
 refine tr_region [0, 1, 5, 6] rfl rfl fun K hK => ?_
 refine evR_p ?_
 refine evR_e hK ?_; clear hK K
 refine hK4 _ ?_
 refine tr_block ?_
 -- loop 1: live [0, 1, 5, 6]
 refine tr_loopW (fun m σ => ∃ i : Nat, i + m = l.length ∧ σ = ⟨[(0, .sl 1 (encI l)), (1, .int .i64 set), (5, .int .i64 (totG l set i)), (6, .int .i64 (i : Nat))], [], 0⟩) (l.length) ?_ ?_
 ·
  exact ⟨_, Wk.refl _, 0, by omega, rfl⟩
 ·
  rintro m σ ⟨i, hi, rfl⟩ KL1 hKL1
  refine tr_seq fun K5 hK5 => ?_
  refine tr_seq fun K6 hK6 => ?_
  refine tr_region [0, 1, 5, 6, 10] rfl rfl fun K hK => ?_
  iterate 4 refine evR_p ?_
  refine evR_e hK ?_; clear hK K
  refine hK6 _ ?_
  refine tr_condB (fun ht1 => ?_) (fun ht1 => ?_)
  ·
   skip
   have hil : i < l.length := by omega
   replace hq := And.intro hq (hil)
   refine tr_skip ?_
   (try simp only [thenE, inBlkE])
   refine hK5 _ ?_
   refine tr_seq fun K7 hK7 => ?_
   refine tr_block ?_
   refine tr_draw [] [0, 1, 5, 6] mixed rfl (by kernel_rfl) rfl fun K hK => ?_
   iterate 12 refine evD_p ?_
   refine evD_e hK ?_; clear hK K
   refine hK7 _ ?_
   refine tr_region [0, 1, 5, 6] rfl rfl fun K hK => ?_
   iterate 3 refine evR_p ?_
   refine evR_e hK ?_; clear hK K
   refine hKL1 _ ?_
   exact ⟨m - 1, _, by omega, Wk.refl _, i + 1, by omega, by rw [w64 (x := (i : Int) + 1) (by omega)]; rfl⟩
  ·
   skip
   have hil : i = l.length := by omega
   subst hil
   refine tr_exit ?_
   simp only [thenE, inBlkE, Nat.reduceEqDiff, ↓reduceIte]
   refine hK3 _ ?_
   refine tr_seq fun K8 hK8 => ?_
   refine tr_region [4] rfl rfl fun K hK => ?_
   iterate 2 refine evR_p ?_
   refine evR_e hK ?_; clear hK K
   refine hK8 _ ?_
   refine tr_ret ?_
   (try simp only [thenE, inBlkE])
   simp (maxSteps := 4000000) (disch := first | assumption | omega | (simp only [go_sem, *]; done) | (simp only [go_sem, *]; omega)) only [postA, postO, resV1, fzAll, go_sem, hq, Int.reduceToNat, Nat.reduceBEq, Nat.reduceEqDiff, Nat.reduceAdd, Nat.reduceMul, Nat.reduceLeDiff, Nat.reduceLT, Nat.reduceSub, ↓reduceIte, reduceCtorEq]
   all_goals (rfl)

theorem c51 (l : List Int) (hm : l.length ≤ maxLen) : CallsA Try.prog 119 [.sl 1 (encI l)] (.bool (coefB l)) := by
 unfold maxLen at hm
 have hq : True := trivial
 refine callsA_of_tr Try.func119 rfl (Nat.le_of_ble_eq_true rfl) ?_
 simp only [Try.results119, envOf, Nat.reduceAdd]
 refine tr_seq fun K1 hK1 => ?_
 refine tr_region [0] rfl rfl fun K hK => ?_
 refine evR_p ?_
 refine evR_e hK ?_; clear hK K
 refine hK1 _ ?_
 refine tr_seq fun K2 hK2 => ?_
 refine tr_seq fun K3 hK3 => ?_
 refine tr_region [0, 3] rfl rfl fun K hK => ?_
 refine evR_p ?_
 refine evR_e hK ?_; clear hK K
 refine hK3 _ ?_
 refine tr_block ?_
 -- loop 1: live [0, 3]
 refine tr_loopW (fun m σ => ∃ i : Nat, i + m = l.length ∧ (∀ j, j < i → -1000000000 ≤ l.getD j 0 ∧ l.getD j 0 ≤ 1000000000) ∧ σ = ⟨[(0, .sl 1 (encI l)), (3, .int .i64 (i : Nat))], [], 0⟩) (l.length) ?_ ?_
 ·
  exact ⟨_, Wk.refl _, 0, by omega, (by intro j hj; omega), rfl⟩
 ·
  rintro m σ ⟨i, hi, hb, rfl⟩ KL1 hKL1
  refine tr_seq fun K4 hK4 => ?_
  refine tr_seq fun K5 hK5 => ?_
  refine tr_region [0, 3, 7] rfl rfl fun K hK => ?_
  iterate 4 refine evR_p ?_
  refine evR_e hK ?_; clear hK K
  refine hK5 _ ?_
  refine tr_condB (fun ht1 => ?_) (fun ht1 => ?_)
  ·
   skip
   have hil : i < l.length := by omega
   replace hq := And.intro hq (hil)
   refine tr_skip ?_
   (try simp only [thenE, inBlkE])
   refine hK4 _ ?_
   refine tr_seq fun K6 hK6 => ?_
   refine tr_block ?_
   refine tr_seq fun K7 hK7 => ?_
   refine tr_region [0, 3, 21] rfl rfl fun K hK => ?_
   iterate 6 refine evR_p ?_
   iterate 5 refine evR_g ?_
   refine evR_p ?_
   refine evR_e hK ?_; clear hK K
   refine hK7 _ ?_
   refine tr_condB (fun ht2 => ?_) (fun ht2 => ?_)
   ·
    skip
    refine tr_seq fun K8 hK8 => ?_
    refine tr_region [2] rfl rfl fun K hK => ?_
    refine evR_p ?_
    refine evR_e hK ?_; clear hK K
    refine hK8 _ ?_
    refine tr_ret ?_
    (try simp only [thenE, inBlkE])
    simp (maxSteps := 4000000) (disch := first | assumption | omega | (simp only [go_sem, *]; done) | (simp only [go_sem, *]; omega)) only [postA, postO, resV1, fzAll, go_sem, hq, Int.reduceToNat, Nat.reduceBEq, Nat.reduceEqDiff, Nat.reduceAdd, Nat.reduceMul, Nat.reduceLeDiff, Nat.reduceLT, Nat.reduceSub, ↓reduceIte, reduceCtorEq]
    all_goals ((first | (rw [coefB_no hil ht2]; done) | (rw [coefB_yes hb]; done)))
   ·
    skip
    refine tr_skip ?_
    (try simp only [thenE, inBlkE])
    refine hK6 _ ?_
    refine tr_region [0, 3] rfl rfl fun K hK => ?_
    iterate 3 refine evR_p ?_
    refine evR_e hK ?_; clear hK K
    refine hKL1 _ ?_
    exact ⟨m - 1, _, by omega, Wk.refl _, i + 1, by omega, (fun j hj => (by rcases Nat.lt_or_ge j i with h | h; exact hb j h; (have : j = i := (by omega)); subst this; omega)), by rw [w64 (x := (i : Int) + 1) (by omega)]; rfl⟩
  ·
   skip
   have hil : i = l.length := by omega
   subst hil
   refine tr_exit ?_
   simp only [thenE, inBlkE, Nat.reduceEqDiff, ↓reduceIte]
   refine hK2 _ ?_
   refine tr_seq fun K9 hK9 => ?_
   refine tr_region [2] rfl rfl fun K hK => ?_
   refine evR_p ?_
   refine evR_e hK ?_; clear hK K
   refine hK9 _ ?_
   refine tr_ret ?_
   (try simp only [thenE, inBlkE])
   simp (maxSteps := 4000000) (disch := first | assumption | omega | (simp only [go_sem, *]; done) | (simp only [go_sem, *]; omega)) only [postA, postO, resV1, fzAll, go_sem, hq, Int.reduceToNat, Nat.reduceBEq, Nat.reduceEqDiff, Nat.reduceAdd, Nat.reduceMul, Nat.reduceLeDiff, Nat.reduceLT, Nat.reduceSub, ↓reduceIte, reduceCtorEq]
   all_goals ((first | (rw [coefB_no hil ht2]; done) | (rw [coefB_yes hb]; done)))

theorem c52 (r : Rw) (hm : r.coef.length ≤ maxLen) (v : Int) : CallsA Try.prog 120 [.agg (encRw r), .int .i64 v] (.bool (rightB r v)) := by
 have hq : True := trivial
 refine callsA_of_tr Try.func120 rfl (Nat.le_of_ble_eq_true rfl) ?_
 simp only [Try.results120, envOf, Nat.reduceAdd]
 refine tr_seq fun K1 hK1 => ?_
 refine tr_region [1, 2] rfl rfl fun K hK => ?_
 iterate 2 refine evR_p ?_
 refine evR_e hK ?_; clear hK K
 refine hK1 _ ?_
 refine tr_seq fun K2 hK2 => ?_
 refine tr_region [4] rfl rfl fun K hK => ?_
 iterate 6 refine evR_p ?_
 iterate 2 refine evR_g ?_
 refine evR_gc (hc := (c51 _ hm)) (k := ?_)
 iterate 2 refine evR_p ?_
 iterate 3 refine evR_g ?_
 iterate 2 refine evR_p ?_
 iterate 3 refine evR_g ?_
 iterate 2 refine evR_p ?_
 refine evR_e hK ?_; clear hK K
 refine hK2 _ ?_
 refine tr_ret ?_
 (try simp only [thenE, inBlkE])
 simp (maxSteps := 4000000) (disch := first | assumption | omega | (simp only [go_sem, *]; done) | (simp only [go_sem, *]; omega)) only [postA, postO, resV1, fzAll, go_sem, hq, Int.reduceToNat, Nat.reduceBEq, Nat.reduceEqDiff, Nat.reduceAdd, Nat.reduceMul, Nat.reduceLeDiff, Nat.reduceLT, Nat.reduceSub, ↓reduceIte, reduceCtorEq]
 all_goals (simp [rightB, isInB, Bool.and_assoc])

theorem c21 (p : Pg) (hr : p.rows.length ≤ maxLen) (hg : p.gain.length ≤ maxLen) (hc : ∀ r ∈ p.rows, r.coef.length ≤ maxLen) : CallsA Try.prog 69 [.agg (encPg p)] (.bool (validB p)) := by
 have hr0 := hr
 unfold maxLen at hr0
 have hq : True := trivial
 refine callsA_of_tr Try.func69 rfl (Nat.le_of_ble_eq_true rfl) ?_
 simp only [Try.results69, envOf, Nat.reduceAdd]
 refine tr_seq fun K1 hK1 => ?_
 refine tr_region [1] rfl rfl fun K hK => ?_
 iterate 2 refine evR_p ?_
 refine evR_e hK ?_; clear hK K
 refine hK1 _ ?_
 refine tr_seq fun K2 hK2 => ?_
 refine tr_seq fun K3 hK3 => ?_
 refine tr_region [1, 31] rfl rfl fun K hK => ?_
 iterate 4 refine evR_p ?_
 iterate 3 refine evR_g ?_
 iterate 2 refine evR_p ?_
 iterate 4 refine evR_g ?_
 iterate 2 refine evR_p ?_
 iterate 6 refine evR_g ?_
 iterate 2 refine evR_p ?_
 iterate 2 refine evR_g ?_
 refine evR_gc (hc := (c51 _ hg)) (k := ?_)
 refine evR_g ?_
 refine evR_p ?_
 refine evR_e hK ?_; clear hK K
 refine hK3 _ ?_
 refine tr_condB (fun ht1 => ?_) (fun ht1 => ?_)
 ·
  skip
  refine tr_seq fun K4 hK4 => ?_
  refine tr_region [2] rfl rfl fun K hK => ?_
  refine evR_p ?_
  refine evR_e hK ?_; clear hK K
  refine hK4 _ ?_
  refine tr_ret ?_
  (try simp only [thenE, inBlkE])
  simp (maxSteps := 4000000) (disch := first | assumption | omega | (simp only [go_sem, *]; done) | (simp only [go_sem, *]; omega)) only [postA, postO, resV1, fzAll, go_sem, hq, Int.reduceToNat, Nat.reduceBEq, Nat.reduceEqDiff, Nat.reduceAdd, Nat.reduceMul, Nat.reduceLeDiff, Nat.reduceLT, Nat.reduceSub, ↓reduceIte, reduceCtorEq]
  all_goals ((first | (rw [valid_yes ht1 hb]; done) | (rw [valid_row_no hil ht3]; done) | (rw [valid_no ht1]; done)))
 ·
  skip
  refine tr_skip ?_
  (try simp only [thenE, inBlkE])
  refine hK2 _ ?_
  refine tr_seq fun K5 hK5 => ?_
  refine tr_seq fun K6 hK6 => ?_
  refine tr_region [1, 3] rfl rfl fun K hK => ?_
  refine evR_p ?_
  refine evR_e hK ?_; clear hK K
  refine hK6 _ ?_
  refine tr_block ?_
  -- loop 1: live [1, 3]
  refine tr_loopW (fun m σ => ∃ i : Nat, i + m = p.rows.length ∧ (∀ j, j < i → rightB (p.rows.getD j rw0) p.vars = true) ∧ σ = ⟨[(1, .ptr 0 0), (3, .int .i64 (i : Nat))], [(0, .cells (encPg p))], 1⟩) (p.rows.length) ?_ ?_
  ·
   exact ⟨_, Wk.refl _, 0, by omega, (by intro j hj; omega), rfl⟩
  ·
   rintro m σ ⟨i, hi, hb, rfl⟩ KL1 hKL1
   refine tr_seq fun K7 hK7 => ?_
   refine tr_seq fun K8 hK8 => ?_
   refine tr_region [1, 3, 36] rfl rfl fun K hK => ?_
   iterate 5 refine evR_p ?_
   refine evR_e hK ?_; clear hK K
   refine hK8 _ ?_
   refine tr_condB (fun ht2 => ?_) (fun ht2 => ?_)
   ·
    skip
    have hil : i < p.rows.length := by omega
    replace hq := And.intro hq (hil)
    refine tr_skip ?_
    (try simp only [thenE, inBlkE])
    refine hK7 _ ?_
    refine tr_seq fun K9 hK9 => ?_
    refine tr_block ?_
    refine tr_seq fun K10 hK10 => ?_
    refine tr_draw [] [1, 3, 47] mixed rfl (by kernel_rfl) rfl fun K hK => ?_
    iterate 7 refine evD_p ?_
    refine evD_c (hc := (c52 (p.rows.getD i rw0) (hc _ (getD_mem hil)) _)) (k := ?_)
    refine evD_p ?_
    refine evD_e hK ?_; clear hK K
    refine hK10 _ ?_
    refine tr_condB (fun ht3 => ?_) (fun ht3 => ?_)
    ·
     skip
     refine tr_seq fun K11 hK11 => ?_
     refine tr_region [2] rfl rfl fun K hK => ?_
     refine evR_p ?_
     refine evR_e hK ?_; clear hK K
     refine hK11 _ ?_
     refine tr_ret ?_
     (try simp only [thenE, inBlkE])
     simp (maxSteps := 4000000) (disch := first | assumption | omega | (simp only [go_sem, *]; done) | (simp only [go_sem, *]; omega)) only [postA, postO, resV1, fzAll, go_sem, hq, Int.reduceToNat, Nat.reduceBEq, Nat.reduceEqDiff, Nat.reduceAdd, Nat.reduceMul, Nat.reduceLeDiff, Nat.reduceLT, Nat.reduceSub, ↓reduceIte, reduceCtorEq]
     all_goals ((first | (rw [valid_yes ht1 hb]; done) | (rw [valid_row_no hil ht3]; done) | (rw [valid_no ht1]; done)))
    ·
     skip
     refine tr_skip ?_
     (try simp only [thenE, inBlkE])
     refine hK9 _ ?_
     refine tr_region [1, 3] rfl rfl fun K hK => ?_
     iterate 3 refine evR_p ?_
     refine evR_e hK ?_; clear hK K
     refine hKL1 _ ?_
     exact ⟨m - 1, _, by omega, Wk.refl _, i + 1, by omega, (fun j hj => (by rcases Nat.lt_or_ge j i with h | h; exact hb j h; (have : j = i := (by omega)); subst this; assumption)), by rw [w64 (x := (i : Int) + 1) (by omega)]; rfl⟩
   ·
    skip
    have hil : i = p.rows.length := by omega
    subst hil
    refine tr_exit ?_
    simp only [thenE, inBlkE, Nat.reduceEqDiff, ↓reduceIte]
    refine hK5 _ ?_
    refine tr_seq fun K12 hK12 => ?_
    refine tr_region [2] rfl rfl fun K hK => ?_
    refine evR_p ?_
    refine evR_e hK ?_; clear hK K
    refine hK12 _ ?_
    refine tr_ret ?_
    (try simp only [thenE, inBlkE])
    simp (maxSteps := 4000000) (disch := first | assumption | omega | (simp only [go_sem, *]; done) | (simp only [go_sem, *]; omega)) only [postA, postO, resV1, fzAll, go_sem, hq, Int.reduceToNat, Nat.reduceBEq, Nat.reduceEqDiff, Nat.reduceAdd, Nat.reduceMul, Nat.reduceLeDiff, Nat.reduceLT, Nat.reduceSub, ↓reduceIte, reduceCtorEq]
    all_goals ((first | (rw [valid_yes ht1 hb]; done) | (rw [valid_row_no hil ht3]; done) | (rw [valid_no ht1]; done)))

theorem c45 (p : Pg) (hr : p.rows.length ≤ maxLen) (hg : p.gain.length ≤ maxLen) (hc : ∀ r ∈ p.rows, r.coef.length ≤ maxLen) (set : Int) (hch : choiceB p set = true) : CallsA Try.prog 113 [.agg (encPg p), .int .i64 set] (.bool (allKept p.rows set)) := by
 have hr3 := choiceB_rows hch
 have hq : True := trivial
 refine callsA_of_tr Try.func113 rfl (Nat.le_of_ble_eq_true rfl) ?_
 simp only [Try.results113, envOf, Nat.reduceAdd]
 refine tr_seq fun K1 hK1 => ?_
 refine tr_region [1, 2] rfl rfl fun K hK => ?_
 iterate 2 refine evR_p ?_
 refine evR_e hK ?_; clear hK K
 refine hK1 _ ?_
 refine tr_seq fun K2 hK2 => ?_
 refine tr_seq fun K3 hK3 => ?_
 refine tr_region [1, 2, 5] rfl rfl fun K hK => ?_
 refine evR_p ?_
 refine evR_e hK ?_; clear hK K
 refine hK3 _ ?_
 refine tr_block ?_
 -- loop 1: live [1, 2, 5]
 refine tr_loopW (fun m σ => ∃ i : Nat, i + m = p.rows.length ∧ (∀ j, j < i → keptB (p.rows.getD j rw0) set = true) ∧ σ = ⟨[(1, .int .i64 set), (2, .ptr 0 0), (5, .int .i64 (i : Nat))], [(0, .cells (encPg p))], 1⟩) (p.rows.length) ?_ ?_
 ·
  exact ⟨_, Wk.refl _, 0, by omega, (by intro j hj; omega), rfl⟩
 ·
  rintro m σ ⟨i, hi, hb, rfl⟩ KL1 hKL1
  refine tr_seq fun K4 hK4 => ?_
  refine tr_seq fun K5 hK5 => ?_
  refine tr_region [1, 2, 5, 10] rfl rfl fun K hK => ?_
  iterate 5 refine evR_p ?_
  refine evR_e hK ?_; clear hK K
  refine hK5 _ ?_
  refine tr_condB (fun ht1 => ?_) (fun ht1 => ?_)
  ·
   skip
   have hil : i < p.rows.length := by omega
   have hkp := row_kept hch hil
   replace hq := And.intro hq (hil)
   refine tr_skip ?_
   (try simp only [thenE, inBlkE])
   refine hK4 _ ?_
   refine tr_seq fun K6 hK6 => ?_
   refine tr_block ?_
   refine tr_seq fun K7 hK7 => ?_
   refine tr_draw [] [1, 2, 5, 27] mixed rfl (by kernel_rfl) rfl fun K hK => ?_
   iterate 7 refine evD_p ?_
   refine evD_c (hc := (c42 _ _ (hc _ (getD_mem hil)))) (k := ?_)
   iterate 7 refine evD_p ?_
   refine evD_e hK ?_; clear hK K
   refine hK7 _ ?_
   refine tr_condB (fun ht2 => ?_) (fun ht2 => ?_)
   ·
    skip
    refine tr_seq fun K8 hK8 => ?_
    refine tr_region [4] rfl rfl fun K hK => ?_
    refine evR_p ?_
    refine evR_e hK ?_; clear hK K
    refine hK8 _ ?_
    refine tr_ret ?_
    (try simp only [thenE, inBlkE])
    simp (maxSteps := 4000000) (disch := first | assumption | omega | (simp only [go_sem, *]; done) | (simp only [go_sem, *]; omega)) only [postA, postO, resV1, fzAll, go_sem, hq, Int.reduceToNat, Nat.reduceBEq, Nat.reduceEqDiff, Nat.reduceAdd, Nat.reduceMul, Nat.reduceLeDiff, Nat.reduceLT, Nat.reduceSub, ↓reduceIte, reduceCtorEq]
    all_goals ((first | (rw [allKept_yes hb]; done) | (rw [allKept_no hil (by rw [hkp, decide_eq_true ht2]; rfl)]; done)))
   ·
    skip
    refine tr_skip ?_
    (try simp only [thenE, inBlkE])
    refine hK6 _ ?_
    refine tr_region [1, 2, 5] rfl rfl fun K hK => ?_
    iterate 3 refine evR_p ?_
    refine evR_e hK ?_; clear hK K
    refine hKL1 _ ?_
    exact ⟨m - 1, _, by omega, Wk.refl _, i + 1, by omega, (fun j hj => (by rcases Nat.lt_or_ge j i with h | h; exact hb j h; (have : j = i := (by omega)); subst this; rw [hkp, decide_eq_false ht2]; rfl)), by rw [w64 (x := (i : Int) + 1) (by omega)]; rfl⟩
  ·
   skip
   have hil : i = p.rows.length := by omega
   subst hil
   refine tr_exit ?_
   simp only [thenE, inBlkE, Nat.reduceEqDiff, ↓reduceIte]
   refine hK2 _ ?_
   refine tr_seq fun K9 hK9 => ?_
   refine tr_region [4] rfl rfl fun K hK => ?_
   refine evR_p ?_
   refine evR_e hK ?_; clear hK K
   refine hK9 _ ?_
   refine tr_ret ?_
   (try simp only [thenE, inBlkE])
   simp (maxSteps := 4000000) (disch := first | assumption | omega | (simp only [go_sem, *]; done) | (simp only [go_sem, *]; omega)) only [postA, postO, resV1, fzAll, go_sem, hq, Int.reduceToNat, Nat.reduceBEq, Nat.reduceEqDiff, Nat.reduceAdd, Nat.reduceMul, Nat.reduceLeDiff, Nat.reduceLT, Nat.reduceSub, ↓reduceIte, reduceCtorEq]
   all_goals ((first | (rw [allKept_yes hb]; done) | (rw [allKept_no hil (by rw [hkp, decide_eq_true ht2]; rfl)]; done)))

theorem c17 (p : Pg) (hr : p.rows.length ≤ maxLen) (hg : p.gain.length ≤ maxLen) (hc : ∀ r ∈ p.rows, r.coef.length ≤ maxLen) (hv : validB p = true) : CallsA Try.prog 63 [.agg (encPg p)] (.tup [.sl 1 (encI (choiceL p)), .int .i64 0]) := by
 obtain ⟨v, hv1, hv2, hv3, hv4⟩ := vars_pow hv
 have hv5 : shlW .i64 1 p.vars = ((2 ^ v : Nat) : Int) := by rw [hv1]; exact hv3
 have hq := And.intro hv (hv5)
 refine callsA_of_tr Try.func63 rfl (Nat.le_of_ble_eq_true rfl) ?_
 simp only [Try.results63, envOf, Nat.reduceAdd]
 refine tr_seq fun K1 hK1 => ?_
 refine tr_region [1] rfl rfl fun K hK => ?_
 iterate 3 refine evR_p ?_
 refine evR_e hK ?_; clear hK K
 refine hK1 _ ?_
 refine tr_seq fun K2 hK2 => ?_
 refine tr_seq fun K3 hK3 => ?_
 refine tr_region [1, 8] rfl rfl fun K hK => ?_
 refine evR_p ?_
 refine evR_c (hc := (c21 p hr hg hc)) (k := ?_)
 refine evR_p ?_
 refine evR_e hK ?_; clear hK K
 refine hK3 _ ?_
 refine tr_condB (fun ht1 => ?_) (fun ht1 => ?_)
 ·
  skip
  (first | (exfalso; simp_all; done) | skip)
  all_goals
   refine tr_seq fun K4 hK4 => ?_
   refine tr_region [2, 3] rfl rfl fun K hK => ?_
   iterate 2 refine evR_p ?_
   refine evR_e hK ?_; clear hK K
   refine hK4 _ ?_
   refine tr_ret ?_
   (try simp only [thenE, inBlkE])
   simp (maxSteps := 4000000) (disch := first | assumption | omega | (simp only [go_sem, *]; done) | (simp only [go_sem, *]; omega)) only [postA, postO, resV1, fzAll, go_sem, hq, Int.reduceToNat, Nat.reduceBEq, Nat.reduceEqDiff, Nat.reduceAdd, Nat.reduceMul, Nat.reduceLeDiff, Nat.reduceLT, Nat.reduceSub, ↓reduceIte, reduceCtorEq]
   all_goals ((unfold choiceL; rw [hv1]; rfl))
 ·
  skip
  (first | (exfalso; simp_all; done) | skip)
  all_goals
   refine tr_skip ?_
   (try simp only [thenE, inBlkE])
   refine hK2 _ ?_
   refine tr_seq fun K5 hK5 => ?_
   refine tr_region [1, 4] rfl rfl fun K hK => ?_
   refine evR_p ?_
   refine evR_e hK ?_; clear hK K
   refine hK5 _ ?_
   refine tr_seq fun K6 hK6 => ?_
   refine tr_seq fun K7 hK7 => ?_
   refine tr_region [1, 4, 5] rfl rfl fun K hK => ?_
   refine evR_p ?_
   refine evR_e hK ?_; clear hK K
   refine hK7 _ ?_
   refine tr_block ?_
   -- loop 1: live [1, 4, 5]
   refine tr_loopW (fun m σ => ∃ i : Nat, i + m = 2 ^ v ∧ σ = ⟨[(1, .ptr 0 0), (4, .own 1), (5, .int .i64 (i : Nat))], [(1, .row 3 1 (encI (chL p.rows i))), (0, .cells (encPg p))], 2⟩) (2 ^ v) ?_ ?_
   ·
    exact ⟨_, Wk.nilslot 3 1 4 rfl, 0, by omega, rfl⟩
   ·
    rintro m σ ⟨i, hi, rfl⟩ KL1 hKL1
    have hcl := chL_length p.rows i
    refine tr_seq fun K8 hK8 => ?_
    refine tr_seq fun K9 hK9 => ?_
    refine tr_region [1, 4, 5, 13] rfl rfl fun K hK => ?_
    iterate 5 refine evR_p ?_
    refine evR_e hK ?_; clear hK K
    refine hK9 _ ?_
    refine tr_condB (fun ht2 => ?_) (fun ht2 => ?_)
    ·
     skip
     (first | (exfalso; simp_all; done) | skip)
     all_goals
      have hil : i < 2 ^ v := by omega
      replace hq := And.intro hq (hil)
      refine tr_skip ?_
      (try simp only [thenE, inBlkE])
      refine hK8 _ ?_
      refine tr_seq fun K10 hK10 => ?_
      refine tr_block ?_
      refine tr_seq fun K11 hK11 => ?_
      refine tr_region [1, 4, 5, 18] rfl rfl fun K hK => ?_
      iterate 2 refine evR_p ?_
      refine evR_c (hc := (c45 p hr hg hc (i : Nat) (choice_in hv hv1 hil))) (k := ?_)
      refine evR_e hK ?_; clear hK K
      refine hK11 _ ?_
      refine tr_condB (fun ht3 => ?_) (fun ht3 => ?_)
      ·
       skip
       (first | (exfalso; simp_all; done) | skip)
       all_goals
        refine tr_region [1, 4, 5] rfl rfl fun K hK => ?_
        iterate 2 refine evR_p ?_
        refine evR_bs ?_
        iterate 2 refine evR_p ?_
        refine evR_e hK ?_; clear hK K
        refine hK10 _ ?_
        refine tr_region [1, 4, 5] rfl rfl fun K hK => ?_
        iterate 3 refine evR_p ?_
        refine evR_e hK ?_; clear hK K
        refine hKL1 _ ?_
        first
         | exact ⟨m - 1, _, by omega, (Wk.trans (Wk.ren 2 1 (Nat.le_of_ble_eq_true rfl) (Nat.le_of_ble_eq_true rfl) rfl) (Wk.cut 2 rfl)), i + 1, by omega, by rw [w64 (x := (i : Int) + 1) (by omega), chL_t ht3, encI_snoc]; rfl⟩
         | exact ⟨m - 1, _, by omega, Wk.refl _, i + 1, by omega, by rw [w64 (x := (i : Int) + 1) (by omega), chL_f ht3]; rfl⟩
      ·
       skip
       (first | (exfalso; simp_all; done) | skip)
       all_goals
        refine tr_skip ?_
        (try simp only [thenE, inBlkE])
        refine hK10 _ ?_
        refine tr_region [1, 4, 5] rfl rfl fun K hK => ?_
        iterate 3 refine evR_p ?_
        refine evR_e hK ?_; clear hK K
        refine hKL1 _ ?_
        first
         | exact ⟨m - 1, _, by omega, (Wk.trans (Wk.ren 2 1 (Nat.le_of_ble_eq_true rfl) (Nat.le_of_ble_eq_true rfl) rfl) (Wk.cut 2 rfl)), i + 1, by omega, by rw [w64 (x := (i : Int) + 1) (by omega), chL_t ht3, encI_snoc]; rfl⟩
         | exact ⟨m - 1, _, by omega, Wk.refl _, i + 1, by omega, by rw [w64 (x := (i : Int) + 1) (by omega), chL_f ht3]; rfl⟩
    ·
     skip
     (first | (exfalso; simp_all; done) | skip)
     all_goals
      have hil : i = 2 ^ v := by omega
      subst hil
      refine tr_exit ?_
      simp only [thenE, inBlkE, Nat.reduceEqDiff, ↓reduceIte]
      refine hK6 _ ?_
      refine tr_seq fun K12 hK12 => ?_
      refine tr_region [2, 3] rfl rfl fun K hK => ?_
      iterate 3 refine evR_p ?_
      refine evR_e hK ?_; clear hK K
      refine hK12 _ ?_
      refine tr_ret ?_
      (try simp only [thenE, inBlkE])
      simp (maxSteps := 4000000) (disch := first | assumption | omega | (simp only [go_sem, *]; done) | (simp only [go_sem, *]; omega)) only [postA, postO, resV1, fzAll, go_sem, hq, Int.reduceToNat, Nat.reduceBEq, Nat.reduceEqDiff, Nat.reduceAdd, Nat.reduceMul, Nat.reduceLeDiff, Nat.reduceLT, Nat.reduceSub, ↓reduceIte, reduceCtorEq]
      all_goals ((unfold choiceL; rw [hv1]; rfl))

theorem c64 (r : Rw) (hm : r.coef.length ≤ maxLen) (d set : Int) : CallsA Try.prog 114 [.agg (encRw r), .int .i64 d, .int .i64 set] (.int .i64 (lrG r.coef d set r.coef.length)) := by
 have hm0 := hm
 unfold maxLen at hm0
 have hq : True := trivial
 refine callsA_of_tr Try.func114 rfl (Nat.le_of_ble_eq_true rfl) ?_
 simp only [Try.results114, envOf, Nat.reduceAdd]
 refine tr_seq fun K1 hK1 => ?_
 refine tr_region [1, 2, 3] rfl rfl fun K hK => ?_
 iterate 2 refine evR_p ?_
 refine evR_e hK ?_; clear hK K
 refine hK1 _ ?_
 refine tr_seq fun K2 hK2 => ?_
 refine tr_region [1, 2, 3, 7] rfl rfl fun K hK => ?_
 refine evR_p ?_
 refine evR_e hK ?_; clear hK K
 refine hK2 _ ?_
 refine tr_seq fun K3 hK3 => ?_
 refine tr_seq fun K4 hK4 => ?_
 refine tr_region [1, 2, 3, 7, 8] rfl rfl fun K hK => ?_
 refine evR_p ?_
 refine evR_e hK ?_; clear hK K
 refine hK4 _ ?_
 refine tr_block ?_
 -- loop 1: live [1, 2, 3, 7, 8]
 refine tr_loopW (fun m σ => ∃ i : Nat, i + m = r.coef.length ∧ σ = ⟨[(1, .int .i64 d), (2, .int .i64 set), (3, .ptr 0 0), (7, .int .i64 (lrG r.coef d set i)), (8, .int .i64 (i : Nat))], [(0, .cells (encRw r))], 1⟩) (r.coef.length) ?_ ?_
 ·
  exact ⟨_, Wk.refl _, 0, by omega, rfl⟩
 ·
  rintro m σ ⟨i, hi, rfl⟩ KL1 hKL1
  refine tr_seq fun K5 hK5 => ?_
  refine tr_seq fun K6 hK6 => ?_
  refine tr_region [1, 2, 3, 7, 8, 13] rfl rfl fun K hK => ?_
  iterate 5 refine evR_p ?_
  refine evR_e hK ?_; clear hK K
  refine hK6 _ ?_
  refine tr_condB (fun ht1 => ?_) (fun ht1 => ?_)
  ·
   skip
   have hil : i < r.coef.length := by omega
   replace hq := And.intro hq (hil)
   refine tr_skip ?_
   (try simp only [thenE, inBlkE])
   refine hK5 _ ?_
   refine tr_seq fun K7 hK7 => ?_
   refine tr_block ?_
   refine tr_seq fun K8 hK8 => ?_
   refine tr_region [1, 2, 3, 7, 8, 18] rfl rfl fun K hK => ?_
   iterate 3 refine evR_p ?_
   refine evR_e hK ?_; clear hK K
   refine hK8 _ ?_
   refine tr_condB (fun ht2 => ?_) (fun ht2 => ?_)
   ·
    skip
    refine tr_draw [] [1, 2, 3, 7, 8] mixed rfl (by kernel_rfl) rfl fun K hK => ?_
    iterate 13 refine evD_p ?_
    refine evD_e hK ?_; clear hK K
    refine hK7 _ ?_
    refine tr_region [1, 2, 3, 7, 8] rfl rfl fun K hK => ?_
    iterate 3 refine evR_p ?_
    refine evR_e hK ?_; clear hK K
    refine hKL1 _ ?_
    first
     | exact ⟨m - 1, _, by omega, Wk.refl _, i + 1, by omega, by rw [w64 (x := (i : Int) + 1) (by omega), lrG_1 ht2]; rfl⟩
     | exact ⟨m - 1, _, by omega, Wk.refl _, i + 1, by omega, by rw [w64 (x := (i : Int) + 1) (by omega), lrG_2 ht2 ht3]; rfl⟩
     | exact ⟨m - 1, _, by omega, Wk.refl _, i + 1, by omega, by rw [w64 (x := (i : Int) + 1) (by omega), lrG_3 ht2 ht3]; rfl⟩
   ·
    skip
    refine tr_seq fun K9 hK9 => ?_
    refine tr_region [1, 2, 3, 7, 8, 36] rfl rfl fun K hK => ?_
    iterate 6 refine evR_p ?_
    refine evR_e hK ?_; clear hK K
    refine hK9 _ ?_
    refine tr_condB (fun ht3 => ?_) (fun ht3 => ?_)
    ·
     skip
     refine tr_region [1, 2, 3, 7, 8] rfl rfl fun K hK => ?_
     iterate 8 refine evR_p ?_
     refine evR_e hK ?_; clear hK K
     refine hK7 _ ?_
     refine tr_region [1, 2, 3, 7, 8] rfl rfl fun K hK => ?_
     iterate 3 refine evR_p ?_
     refine evR_e hK ?_; clear hK K
     refine hKL1 _ ?_
     first
      | exact ⟨m - 1, _, by omega, Wk.refl _, i + 1, by omega, by rw [w64 (x := (i : Int) + 1) (by omega), lrG_1 ht2]; rfl⟩
      | exact ⟨m - 1, _, by omega, Wk.refl _, i + 1, by omega, by rw [w64 (x := (i : Int) + 1) (by omega), lrG_2 ht2 ht3]; rfl⟩
      | exact ⟨m - 1, _, by omega, Wk.refl _, i + 1, by omega, by rw [w64 (x := (i : Int) + 1) (by omega), lrG_3 ht2 ht3]; rfl⟩
    ·
     skip
     refine tr_skip ?_
     (try simp only [thenE, inBlkE])
     refine hK7 _ ?_
     refine tr_region [1, 2, 3, 7, 8] rfl rfl fun K hK => ?_
     iterate 3 refine evR_p ?_
     refine evR_e hK ?_; clear hK K
     refine hKL1 _ ?_
     first
      | exact ⟨m - 1, _, by omega, Wk.refl _, i + 1, by omega, by rw [w64 (x := (i : Int) + 1) (by omega), lrG_1 ht2]; rfl⟩
      | exact ⟨m - 1, _, by omega, Wk.refl _, i + 1, by omega, by rw [w64 (x := (i : Int) + 1) (by omega), lrG_2 ht2 ht3]; rfl⟩
      | exact ⟨m - 1, _, by omega, Wk.refl _, i + 1, by omega, by rw [w64 (x := (i : Int) + 1) (by omega), lrG_3 ht2 ht3]; rfl⟩
  ·
   skip
   have hil : i = r.coef.length := by omega
   subst hil
   refine tr_exit ?_
   simp only [thenE, inBlkE, Nat.reduceEqDiff, ↓reduceIte]
   refine hK3 _ ?_
   refine tr_seq fun K10 hK10 => ?_
   refine tr_region [6] rfl rfl fun K hK => ?_
   iterate 2 refine evR_p ?_
   refine evR_e hK ?_; clear hK K
   refine hK10 _ ?_
   refine tr_ret ?_
   (try simp only [thenE, inBlkE])
   simp (maxSteps := 4000000) (disch := first | assumption | omega | (simp only [go_sem, *]; done) | (simp only [go_sem, *]; omega)) only [postA, postO, resV1, fzAll, go_sem, hq, Int.reduceToNat, Nat.reduceBEq, Nat.reduceEqDiff, Nat.reduceAdd, Nat.reduceMul, Nat.reduceLeDiff, Nat.reduceLT, Nat.reduceSub, ↓reduceIte, reduceCtorEq]
   all_goals (rfl)

section
attribute [local go_sem] encS_leaf encS_two encS_length encS_getD encSt encS_set3 plO_at List.length_append
set_option maxHeartbeats 8000000 in
theorem c43s (rows : List Rw) (hrl : rows.length ≤ 1000) (hm : ∀ r ∈ rows, r.coef.length ≤ maxLen) (v : Nat) (hv : v ≤ 12) (hrow : okRws rows v) (n d s : Nat) (hd : d + n = v) (hs : s < 2 ^ d) (hinf : infN rows n d ((s : Nat) : Int)) (out : List Stp) (ho : out.length + 2 ^ (n + 1) ≤ 100000) (ih : ∀ (m : Nat), m + 1 = n → ∀ (s : Nat) (out : List Stp), s < 2 ^ (d + 1) → infN rows m (d + 1) ((s : Nat) : Int) → out.length + 2 ^ (m + 1) ≤ 100000 → CallsM Try.prog 66 [.own 0, .sl 6 (encR rows), .int .i64 ((d + 1 : Nat) : Int), .int .i64 ((s : Nat) : Int)] [(0, .row 54 4 (encS out))] 1 (.own 1) [(1, .row 54 4 (encS (growN rows m (d + 1) ((s : Nat) : Int) out)))] 2) : CallsM Try.prog 66 [.own 0, .sl 6 (encR rows), .int .i64 ((d : Nat) : Int), .int .i64 ((s : Nat) : Int)] ([(0, .row 54 4 (encS out))]) (1) (.own 1) ([(1, .row 54 4 (encS (growN rows n d ((s : Nat) : Int) out)))]) (2) := by
 have hw1 : IntKind.i64.wrap ((d : Int) + 1) = ((d + 1 : Nat) : Int) := w64 (by omega)
 have hpd : 2 ^ d ≤ 2 ^ 12 := Nat.pow_le_pow_right (by omega) (by omega)
 have hsh : shlW .i64 1 (d : Nat) = ((2 ^ d : Nat) : Int) := shl1 (by omega)
 have hw2 : IntKind.i64.wrap ((s : Int) + ((2 ^ d : Nat) : Int)) = ((s + 2 ^ d : Nat) : Int) := by rw [w64 (by omega)]; omega
 have hov := lrG_over hv hrow (d := d) (s := s) (by omega) hs
 have hp2 : 2 ≤ 2 ^ (n + 1) := (by have := Nat.one_le_two_pow (n := n); rw [Nat.pow_succ]; omega)
 have hw3 : IntKind.i64.wrap ((out.length : Int) + 1) = ((out.length + 1 : Nat) : Int) := w64 (by omega)
 have hmax : rows.length ≤ 1000 := hrl
 unfold maxLen at hm
 have hq := And.intro hw1 (And.intro hsh (And.intro hw2 (hw3)))
 refine callsM_of_tr Try.func66 rfl (Nat.le_of_ble_eq_true rfl) (Nat.le_of_ble_eq_true rfl) (Nat.le_of_ble_eq_true rfl) ?_
 simp only [Try.results66, envOf, gh, gv, List.cons_append, List.nil_append, Nat.reduceAdd]
 refine tr_seq fun K1 hK1 => ?_
 refine tr_region [0, 1, 2, 3, 1000000] rfl rfl fun K hK => ?_
 refine evR_p ?_
 refine evR_e hK ?_; clear hK K
 refine hK1 _ ?_
 refine tr_seq fun K2 hK2 => ?_
 refine tr_seq fun K3 hK3 => ?_
 refine tr_region [0, 1, 2, 3, 9, 1000000] rfl rfl fun K hK => ?_
 refine evR_p ?_
 refine evR_e hK ?_; clear hK K
 refine hK3 _ ?_
 refine tr_block ?_
 -- loop 1: live [0, 1, 2, 3, 9]
 refine tr_loopW (fun m σ => ∃ i : Nat, i + m = rows.length ∧ (∀ j, j < i → overB d s (rows.getD j rw0) = false) ∧ σ = ⟨[(0, .own 0), (1, .sl 6 (encR rows)), (2, .int .i64 (d : Nat)), (3, .int .i64 (s : Nat)), (9, .int .i64 (i : Nat)), (1000000, .own 0)], [(0, .row 54 4 (encS out))], 1⟩) (rows.length) ?_ ?_
 ·
  exact ⟨_, Wk.refl _, 0, by omega, (by intro j hj; omega), rfl⟩
 ·
  rintro m σ ⟨i, hi, hb, rfl⟩ KL1 hKL1
  refine tr_seq fun K4 hK4 => ?_
  refine tr_seq fun K5 hK5 => ?_
  refine tr_region [0, 1, 2, 3, 9, 14, 1000000] rfl rfl fun K hK => ?_
  iterate 4 refine evR_p ?_
  refine evR_e hK ?_; clear hK K
  refine hK5 _ ?_
  refine tr_condB (fun ht1 => ?_) (fun ht1 => ?_)
  ·
   skip
   have hil : i < rows.length := by omega
   have hoi := hov _ (getD_mem (d := rw0) hil)
   replace hq := And.intro hq (hil)
   refine tr_skip ?_
   (try simp only [thenE, inBlkE])
   refine hK4 _ ?_
   refine tr_seq fun K6 hK6 => ?_
   refine tr_block ?_
   refine tr_seq fun K7 hK7 => ?_
   refine tr_draw [] [0, 1, 2, 3, 9, 29, 1000000] mixed rfl (by kernel_rfl) rfl fun K hK => ?_
   iterate 6 refine evD_p ?_
   refine evD_c (hc := (c64 (rows.getD i rw0) (hm _ (getD_mem hil)) (d : Nat) (s : Nat))) (k := ?_)
   iterate 6 refine evD_p ?_
   refine evD_e hK ?_; clear hK K
   refine hK7 _ ?_
   refine tr_condB (fun ht2 => ?_) (fun ht2 => ?_)
   ·
    skip
    refine tr_seq fun K8 hK8 => ?_
    refine tr_region [8, 1000000] rfl rfl fun K hK => ?_
    iterate 3 refine evR_p ?_
    refine evR_bs ?_
    refine evR_p ?_
    refine evR_bs ?_
    iterate 2 refine evR_p ?_
    refine evR_e hK ?_; clear hK K
    refine hK8 _ ?_
    refine tr_ret ?_
    (try simp only [thenE, inBlkE])
    all_goals first | refine ⟨_, (Wk.trans (Wk.ren 3 1 (Nat.le_of_ble_eq_true rfl) (Nat.le_of_ble_eq_true rfl) rfl) (Wk.cut 2 rfl)), ?_⟩ | refine ⟨_, Wk.refl _, ?_⟩
    simp (maxSteps := 4000000) (disch := first | assumption | omega | (simp only [go_sem, *]; done) | (simp only [go_sem, *]; omega)) only [postM, ghOK, gv, St.ren, St.cut, V.ren, V.renL, AObj.ren, Nat.blt_eq, resV1, go_sem, hq, Int.reduceToNat, Nat.reduceBEq, Nat.reduceEqDiff, Nat.reduceAdd, Nat.reduceMul, Nat.reduceLeDiff, Nat.reduceLT, Nat.reduceSub, ↓reduceIte, reduceCtorEq]
    all_goals ((first | (have hix := idxOf_at (overB d s) rw0 rows i hil hb (by rw [← hoi]; exact decide_eq_true ht2); rw [growN_leaf (by rw [hix]; omega), hix]; done) | (subst hnm; rw [plO_fin hs (by omega) hneg]; done)))
   ·
    skip
    refine tr_skip ?_
    (try simp only [thenE, inBlkE])
    refine hK6 _ ?_
    refine tr_region [0, 1, 2, 3, 9, 1000000] rfl rfl fun K hK => ?_
    iterate 3 refine evR_p ?_
    refine evR_e hK ?_; clear hK K
    refine hKL1 _ ?_
    exact ⟨m - 1, _, by omega, Wk.refl _, i + 1, by omega, (fun j hj => (by rcases Nat.lt_or_ge j i with h | h; exact hb j h; (have : j = i := (by omega)); subst this; rw [← hoi]; exact decide_eq_false ht2)), by rw [w64 (x := (i : Int) + 1) (by omega)]; rfl⟩
  ·
   skip
   have hil : i = rows.length := by omega
   subst hil
   have hneg := idx_neg hb
   obtain ⟨m', hnm, hi1, hi2⟩ := infN_step hinf hneg
   rw [setBit_nat hs (by omega)] at hi2
   have hg1 := growN_length rows m' (d + 1) s (out ++ [⟨d, 0, 0, none⟩])
   have hgl := plO_length rows m' d s out
   simp only [List.length_append, List.length_cons, List.length_nil] at hg1
   have hpn : 2 ^ (n + 1) = 2 * 2 ^ (m' + 1) := by subst hnm; rw [Nat.pow_succ (n := 2) (m := m' + 1)]; omega
   have hob := plO_at rows m' d s out
   have hplo : growN rows m' (d + 1) (s : Nat) (out ++ [⟨d, (out.length + 1 : Nat), 0, none⟩]) = plO rows m' d s out := rfl
   have hpll : out.length < (plO rows m' d s out).length := by omega
   replace hq := And.intro hq (And.intro hob (And.intro hplo hpll))
   refine tr_exit ?_
   simp only [thenE, inBlkE, Nat.reduceEqDiff, ↓reduceIte]
   refine hK2 _ ?_
   refine tr_seq fun K9 hK9 => ?_
   refine tr_region [0, 1, 2, 3, 10, 1000000] rfl rfl fun K hK => ?_
   iterate 3 refine evR_p ?_
   refine evR_e hK ?_; clear hK K
   refine hK9 _ ?_
   refine tr_seq fun K10 hK10 => ?_
   refine tr_region [0, 1, 2, 3, 10, 1000000] rfl rfl fun K hK => ?_
   iterate 5 refine evR_p ?_
   refine evR_bs ?_
   iterate 2 refine evR_p ?_
   refine evR_e hK ?_; clear hK K
   refine hK10 _ ?_
   refine tr_seq fun K11 hK11 => ?_
   refine tr_region [0, 1, 2, 3, 10, 1000000] rfl rfl fun K hK => ?_
   iterate 5 refine evR_p ?_
   refine evR_stepX fun Kq hKq => Or.inr ?_
   simp (maxSteps := 4000000) (disch := first | assumption | omega | (simp only [go_sem, *]; done) | (simp only [go_sem, *]; omega)) only [stpM, go_sem, hq, Int.reduceToNat, Nat.reduceBEq, Nat.reduceEqDiff, Nat.reduceAdd, Nat.reduceMul, Nat.reduceLeDiff, Nat.reduceLT, Nat.reduceSub, ↓reduceIte, reduceCtorEq]
   refine ⟨[1], ?_⟩
   simp (maxSteps := 4000000) (disch := first | assumption | omega | (simp only [go_sem, *]; done) | (simp only [go_sem, *]; omega)) only [V.mapL, V.map, gJ, footJ, inJ, AObj.map, ndJ, ltJ, V.domL, V.dom, AObj.dom, kC, kR, AObj.isC, hJ, backJ, List.any_cons, List.any_nil, Nat.ble_eq, Nat.blt_eq, Nat.reduceLT, Nat.reduceLeDiff, Bool.or_true, Bool.true_or, Bool.or_false, Bool.false_or, Bool.and_self, go_sem, hq, Int.reduceToNat, Nat.reduceBEq, Nat.reduceEqDiff, Nat.reduceAdd, Nat.reduceMul, Nat.reduceLeDiff, Nat.reduceLT, Nat.reduceSub, ↓reduceIte, reduceCtorEq]
   refine ⟨_, _, _, (ih m' hnm s (out ++ [⟨d, (out.length + 1 : Nat), 0, none⟩]) (by rw [Nat.pow_succ]; omega) hi1 (by simp only [List.length_append, List.length_cons, List.length_nil]; omega)), ?_⟩
   simp (maxSteps := 4000000) (disch := first | assumption | omega | (simp only [go_sem, *]; done) | (simp only [go_sem, *]; omega)) only [V.mapL, V.map, gJ, footJ, inJ, AObj.map, ndJ, ltJ, V.domL, V.dom, AObj.dom, kC, kR, AObj.isC, hJ, backJ, List.any_cons, List.any_nil, Nat.ble_eq, Nat.blt_eq, Nat.reduceLT, Nat.reduceLeDiff, Bool.or_true, Bool.true_or, Bool.or_false, Bool.false_or, Bool.and_self, go_sem, hq, Int.reduceToNat, Nat.reduceBEq, Nat.reduceEqDiff, Nat.reduceAdd, Nat.reduceMul, Nat.reduceLeDiff, Nat.reduceLT, Nat.reduceSub, ↓reduceIte, reduceCtorEq]
   (repeat (refine And.intro (by first | assumption | omega | decide | (simp; done) | (simp; omega) | (have hq := hvv hgt; omega) | (have hq := hvv hgt.1; omega) | (simp_all; done)) ?_))
   refine hKq _ ?_; clear hKq Kq
   refine evR_p ?_
   refine evR_e hK ?_; clear hK K
   refine hK11 _ ?_
   refine tr_seq fun K12 hK12 => ?_
   refine tr_region [0, 1, 2, 3, 1000000] rfl rfl fun K hK => ?_
   iterate 7 refine evR_p ?_
   refine evR_e hK ?_; clear hK K
   refine hK12 _ ?_
   refine tr_seq fun K13 hK13 => ?_
   refine tr_region [8, 1000000] rfl rfl fun K hK => ?_
   iterate 8 refine evR_p ?_
   refine evR_stepX fun Kq hKq => Or.inr ?_
   simp (maxSteps := 4000000) (disch := first | assumption | omega | (simp only [go_sem, *]; done) | (simp only [go_sem, *]; omega)) only [stpM, go_sem, hq, Int.reduceToNat, Nat.reduceBEq, Nat.reduceEqDiff, Nat.reduceAdd, Nat.reduceMul, Nat.reduceLeDiff, Nat.reduceLT, Nat.reduceSub, ↓reduceIte, reduceCtorEq]
   refine ⟨[2], ?_⟩
   simp (maxSteps := 4000000) (disch := first | assumption | omega | (simp only [go_sem, *]; done) | (simp only [go_sem, *]; omega)) only [V.mapL, V.map, gJ, footJ, inJ, AObj.map, ndJ, ltJ, V.domL, V.dom, AObj.dom, kC, kR, AObj.isC, hJ, backJ, List.any_cons, List.any_nil, Nat.ble_eq, Nat.blt_eq, Nat.reduceLT, Nat.reduceLeDiff, Bool.or_true, Bool.true_or, Bool.or_false, Bool.false_or, Bool.and_self, go_sem, hq, Int.reduceToNat, Nat.reduceBEq, Nat.reduceEqDiff, Nat.reduceAdd, Nat.reduceMul, Nat.reduceLeDiff, Nat.reduceLT, Nat.reduceSub, ↓reduceIte, reduceCtorEq]
   refine ⟨_, _, _, (ih m' hnm (s + 2 ^ d) ((plO rows m' d s out).set out.length ⟨d, (out.length + 1 : Nat), ((plO rows m' d s out).length : Nat), none⟩) (by rw [Nat.pow_succ]; omega) hi2 (by rw [List.length_set]; omega)), ?_⟩
   simp (maxSteps := 4000000) (disch := first | assumption | omega | (simp only [go_sem, *]; done) | (simp only [go_sem, *]; omega)) only [V.mapL, V.map, gJ, footJ, inJ, AObj.map, ndJ, ltJ, V.domL, V.dom, AObj.dom, kC, kR, AObj.isC, hJ, backJ, List.any_cons, List.any_nil, Nat.ble_eq, Nat.blt_eq, Nat.reduceLT, Nat.reduceLeDiff, Bool.or_true, Bool.true_or, Bool.or_false, Bool.false_or, Bool.and_self, go_sem, hq, Int.reduceToNat, Nat.reduceBEq, Nat.reduceEqDiff, Nat.reduceAdd, Nat.reduceMul, Nat.reduceLeDiff, Nat.reduceLT, Nat.reduceSub, ↓reduceIte, reduceCtorEq]
   (repeat (refine And.intro (by first | assumption | omega | decide | (simp; done) | (simp; omega) | (have hq := hvv hgt; omega) | (have hq := hvv hgt.1; omega) | (simp_all; done)) ?_))
   refine hKq _ ?_; clear hKq Kq
   refine evR_p ?_
   refine evR_e hK ?_; clear hK K
   refine hK13 _ ?_
   refine tr_ret ?_
   (try simp only [thenE, inBlkE])
   all_goals first | refine ⟨_, (Wk.trans (Wk.ren 3 1 (Nat.le_of_ble_eq_true rfl) (Nat.le_of_ble_eq_true rfl) rfl) (Wk.cut 2 rfl)), ?_⟩ | refine ⟨_, Wk.refl _, ?_⟩
   simp (maxSteps := 4000000) (disch := first | assumption | omega | (simp only [go_sem, *]; done) | (simp only [go_sem, *]; omega)) only [postM, ghOK, gv, St.ren, St.cut, V.ren, V.renL, AObj.ren, Nat.blt_eq, resV1, go_sem, hq, Int.reduceToNat, Nat.reduceBEq, Nat.reduceEqDiff, Nat.reduceAdd, Nat.reduceMul, Nat.reduceLeDiff, Nat.reduceLT, Nat.reduceSub, ↓reduceIte, reduceCtorEq]
   all_goals ((first | (have hix := idxOf_at (overB d s) rw0 rows i hil hb (by rw [← hoi]; exact decide_eq_true ht2); rw [growN_leaf (by rw [hix]; omega), hix]; done) | (subst hnm; rw [plO_fin hs (by omega) hneg]; done)))
end
theorem c43 (rows : List Rw) (hrl : rows.length ≤ 1000) (hm : ∀ r ∈ rows, r.coef.length ≤ maxLen) (v : Nat) (hv : v ≤ 12) (hrow : okRws rows v) : ∀ (n d s : Nat) (out : List Stp), d + n = v → s < 2 ^ d → infN rows n d ((s : Nat) : Int) → out.length + 2 ^ (n + 1) ≤ 100000 → CallsM Try.prog 66 [.own 0, .sl 6 (encR rows), .int .i64 ((d : Nat) : Int), .int .i64 ((s : Nat) : Int)] [(0, .row 54 4 (encS out))] 1 (.own 1) [(1, .row 54 4 (encS (growN rows n d ((s : Nat) : Int) out)))] 2 := by
 intro n
 induction n with
 | zero => intro d s out hd hs hi ho; exact c43s rows hrl hm v hv hrow 0 d s hd hs hi out ho (fun m hm => by omega)
 | succ n ihn =>
  intro d s out hd hs hi ho
  refine c43s rows hrl hm v hv hrow (n + 1) d s hd hs hi out ho (fun m hm s' out' h1 h2 h3 => ?_)
  have : m = n := by omega
  subst this
  exact ihn (d + 1) s' out' (by omega) h1 h2 h3

section
attribute [local go_sem] encS_leaf0 encS_two0 encS_length encS_getD encSt encS_set3
set_option maxHeartbeats 8000000 in
theorem c43u (rows : List Rw) (hrl : rows.length ≤ 1000) (hm : ∀ r ∈ rows, r.coef.length ≤ maxLen) (v : Nat) (hv : v ≤ 12) (hrow : okRws rows v) (n d s : Nat) (hd : d + n = v) (hs : s < 2 ^ d) (hinf : infN rows n d ((s : Nat) : Int)) : CallsA Try.prog 66 [.nsl, .sl 6 (encR rows), .int .i64 ((d : Nat) : Int), .int .i64 ((s : Nat) : Int)] (.sl 4 (encS (growN rows n d ((s : Nat) : Int) []))) := by
 have hw1 : IntKind.i64.wrap ((d : Int) + 1) = ((d + 1 : Nat) : Int) := w64 (by omega)
 have hpd : 2 ^ d ≤ 2 ^ 12 := Nat.pow_le_pow_right (by omega) (by omega)
 have hsh : shlW .i64 1 (d : Nat) = ((2 ^ d : Nat) : Int) := shl1 (by omega)
 have hw2 : IntKind.i64.wrap ((s : Int) + ((2 ^ d : Nat) : Int)) = ((s + 2 ^ d : Nat) : Int) := by rw [w64 (by omega)]; omega
 have hov := lrG_over hv hrow (d := d) (s := s) (by omega) hs
 have hp2 : 2 ≤ 2 ^ (n + 1) := (by have := Nat.one_le_two_pow (n := n); rw [Nat.pow_succ]; omega)
 have hmax : rows.length ≤ 1000 := hrl
 unfold maxLen at hm
 have hw0 : IntKind.i64.wrap (0 + 1) = 1 := by decide
 have hpnn : 2 ^ (n + 1) ≤ 2 ^ 13 := Nat.pow_le_pow_right (by omega) (by omega)
 have hq := And.intro hw1 (And.intro hsh (And.intro hw2 (hw0)))
 refine callsA_of_tr Try.func66 rfl (Nat.le_of_ble_eq_true rfl) ?_
 simp only [Try.results66, envOf, Nat.reduceAdd]
 refine tr_seq fun K1 hK1 => ?_
 refine tr_region [0, 1, 2, 3] rfl rfl fun K hK => ?_
 refine evR_p ?_
 refine evR_e hK ?_; clear hK K
 refine hK1 _ ?_
 refine tr_seq fun K2 hK2 => ?_
 refine tr_seq fun K3 hK3 => ?_
 refine tr_region [0, 1, 2, 3, 9] rfl rfl fun K hK => ?_
 refine evR_p ?_
 refine evR_e hK ?_; clear hK K
 refine hK3 _ ?_
 refine tr_block ?_
 -- loop 1: live [0, 1, 2, 3, 9]
 refine tr_loopW (fun m σ => ∃ i : Nat, i + m = rows.length ∧ (∀ j, j < i → overB d s (rows.getD j rw0) = false) ∧ σ = ⟨[(0, .nsl), (1, .sl 6 (encR rows)), (2, .int .i64 (d : Nat)), (3, .int .i64 (s : Nat)), (9, .int .i64 (i : Nat))], [], 0⟩) (rows.length) ?_ ?_
 ·
  exact ⟨_, Wk.refl _, 0, by omega, (by intro j hj; omega), rfl⟩
 ·
  rintro m σ ⟨i, hi, hb, rfl⟩ KL1 hKL1
  refine tr_seq fun K4 hK4 => ?_
  refine tr_seq fun K5 hK5 => ?_
  refine tr_region [0, 1, 2, 3, 9, 14] rfl rfl fun K hK => ?_
  iterate 4 refine evR_p ?_
  refine evR_e hK ?_; clear hK K
  refine hK5 _ ?_
  refine tr_condB (fun ht1 => ?_) (fun ht1 => ?_)
  ·
   skip
   have hil : i < rows.length := by omega
   have hoi := hov _ (getD_mem (d := rw0) hil)
   replace hq := And.intro hq (hil)
   refine tr_skip ?_
   (try simp only [thenE, inBlkE])
   refine hK4 _ ?_
   refine tr_seq fun K6 hK6 => ?_
   refine tr_block ?_
   refine tr_seq fun K7 hK7 => ?_
   refine tr_draw [] [0, 1, 2, 3, 9, 29] mixed rfl (by kernel_rfl) rfl fun K hK => ?_
   iterate 6 refine evD_p ?_
   refine evD_c (hc := (c64 (rows.getD i rw0) (by unfold maxLen; exact hm _ (getD_mem hil)) (d : Nat) (s : Nat))) (k := ?_)
   iterate 6 refine evD_p ?_
   refine evD_e hK ?_; clear hK K
   refine hK7 _ ?_
   refine tr_condB (fun ht2 => ?_) (fun ht2 => ?_)
   ·
    skip
    refine tr_seq fun K8 hK8 => ?_
    refine tr_region [8] rfl rfl fun K hK => ?_
    iterate 3 refine evR_p ?_
    refine evR_bs ?_
    refine evR_p ?_
    refine evR_bs ?_
    iterate 2 refine evR_p ?_
    refine evR_e hK ?_; clear hK K
    refine hK8 _ ?_
    refine tr_ret ?_
    (try simp only [thenE, inBlkE])
    simp (maxSteps := 4000000) (disch := first | assumption | omega | (simp only [go_sem, *]; done) | (simp only [go_sem, *]; omega)) only [postA, postO, resV1, fzAll, go_sem, hq, Int.reduceToNat, Nat.reduceBEq, Nat.reduceEqDiff, Nat.reduceAdd, Nat.reduceMul, Nat.reduceLeDiff, Nat.reduceLT, Nat.reduceSub, ↓reduceIte, reduceCtorEq]
    all_goals ((first | (have hix := idxOf_at (overB d s) rw0 rows i hil hb (by rw [← hoi]; exact decide_eq_true ht2); rw [growN_leaf (by rw [hix]; omega), hix]; done) | (have hix := idxOf_at (overB d s) rw0 rows i hil hb (by rw [← hoi]; exact decide_eq_true ht2); rw [growN_leaf (by rw [hix]; omega), hix]; rfl) | (subst hnm; rw [← plO_fin hs (by omega) hneg]; rfl)))
   ·
    skip
    refine tr_skip ?_
    (try simp only [thenE, inBlkE])
    refine hK6 _ ?_
    refine tr_region [0, 1, 2, 3, 9] rfl rfl fun K hK => ?_
    iterate 3 refine evR_p ?_
    refine evR_e hK ?_; clear hK K
    refine hKL1 _ ?_
    exact ⟨m - 1, _, by omega, Wk.refl _, i + 1, by omega, (fun j hj => (by rcases Nat.lt_or_ge j i with h | h; exact hb j h; (have : j = i := (by omega)); subst this; rw [← hoi]; exact decide_eq_false ht2)), by rw [w64 (x := (i : Int) + 1) (by omega)]; rfl⟩
  ·
   skip
   have hil : i = rows.length := by omega
   subst hil
   have hneg := idx_neg hb
   obtain ⟨m', hnm, hi1, hi2⟩ := infN_step hinf hneg
   rw [setBit_nat hs (by omega)] at hi2
   have hg1 := growN_length rows m' (d + 1) s ([] ++ [⟨d, 0, 0, none⟩])
   have hgl := plO_length rows m' d s []
   simp only [List.length_append, List.length_cons, List.length_nil] at hg1
   have hpn : 2 ^ (n + 1) = 2 * 2 ^ (m' + 1) := by subst hnm; rw [Nat.pow_succ (n := 2) (m := m' + 1)]; omega
   have hob : (plO rows m' d s []).getD 0 stp0 = ⟨d, 1, 0, none⟩ := plO_at rows m' d s []
   have hplo : growN rows m' (d + 1) (s : Nat) [⟨d, 1, 0, none⟩] = plO rows m' d s [] := rfl
   have hpll : 0 < (plO rows m' d s []).length := by omega
   replace hq := And.intro hq (And.intro hob (And.intro hplo hpll))
   refine tr_exit ?_
   simp only [thenE, inBlkE, Nat.reduceEqDiff, ↓reduceIte]
   refine hK2 _ ?_
   refine tr_seq fun K9 hK9 => ?_
   refine tr_region [0, 1, 2, 3, 10] rfl rfl fun K hK => ?_
   iterate 3 refine evR_p ?_
   refine evR_e hK ?_; clear hK K
   refine hK9 _ ?_
   refine tr_seq fun K10 hK10 => ?_
   refine tr_region [0, 1, 2, 3, 10] rfl rfl fun K hK => ?_
   iterate 5 refine evR_p ?_
   refine evR_bs ?_
   iterate 2 refine evR_p ?_
   refine evR_e hK ?_; clear hK K
   refine hK10 _ ?_
   refine tr_seq fun K11 hK11 => ?_
   refine tr_region [0, 1, 2, 3, 10] rfl rfl fun K hK => ?_
   iterate 5 refine evR_p ?_
   refine evR_stepX fun Kq hKq => Or.inr ?_
   simp (maxSteps := 4000000) (disch := first | assumption | omega | (simp only [go_sem, *]; done) | (simp only [go_sem, *]; omega)) only [stpM, go_sem, hq, Int.reduceToNat, Nat.reduceBEq, Nat.reduceEqDiff, Nat.reduceAdd, Nat.reduceMul, Nat.reduceLeDiff, Nat.reduceLT, Nat.reduceSub, ↓reduceIte, reduceCtorEq]
   refine ⟨[1], ?_⟩
   simp (maxSteps := 4000000) (disch := first | assumption | omega | (simp only [go_sem, *]; done) | (simp only [go_sem, *]; omega)) only [V.mapL, V.map, gJ, footJ, inJ, AObj.map, ndJ, ltJ, V.domL, V.dom, AObj.dom, kC, kR, AObj.isC, hJ, backJ, List.any_cons, List.any_nil, Nat.ble_eq, Nat.blt_eq, Nat.reduceLT, Nat.reduceLeDiff, Bool.or_true, Bool.true_or, Bool.or_false, Bool.false_or, Bool.and_self, go_sem, hq, Int.reduceToNat, Nat.reduceBEq, Nat.reduceEqDiff, Nat.reduceAdd, Nat.reduceMul, Nat.reduceLeDiff, Nat.reduceLT, Nat.reduceSub, ↓reduceIte, reduceCtorEq]
   refine ⟨_, _, _, (c43 rows hrl (by unfold maxLen; exact hm) v hv hrow m' (d + 1) s [⟨d, 1, 0, none⟩] (by omega) (by rw [Nat.pow_succ]; omega) hi1 (by simp only [List.length_cons, List.length_nil]; omega)), ?_⟩
   simp (maxSteps := 4000000) (disch := first | assumption | omega | (simp only [go_sem, *]; done) | (simp only [go_sem, *]; omega)) only [V.mapL, V.map, gJ, footJ, inJ, AObj.map, ndJ, ltJ, V.domL, V.dom, AObj.dom, kC, kR, AObj.isC, hJ, backJ, List.any_cons, List.any_nil, Nat.ble_eq, Nat.blt_eq, Nat.reduceLT, Nat.reduceLeDiff, Bool.or_true, Bool.true_or, Bool.or_false, Bool.false_or, Bool.and_self, go_sem, hq, Int.reduceToNat, Nat.reduceBEq, Nat.reduceEqDiff, Nat.reduceAdd, Nat.reduceMul, Nat.reduceLeDiff, Nat.reduceLT, Nat.reduceSub, ↓reduceIte, reduceCtorEq]
   (repeat (refine And.intro (by first | assumption | omega | decide | (simp; done) | (simp; omega) | (have hq := hvv hgt; omega) | (have hq := hvv hgt.1; omega) | (simp_all; done)) ?_))
   refine hKq _ ?_; clear hKq Kq
   refine evR_p ?_
   refine evR_e hK ?_; clear hK K
   refine hK11 _ ?_
   refine tr_seq fun K12 hK12 => ?_
   refine tr_region [0, 1, 2, 3] rfl rfl fun K hK => ?_
   iterate 7 refine evR_p ?_
   refine evR_e hK ?_; clear hK K
   refine hK12 _ ?_
   refine tr_seq fun K13 hK13 => ?_
   refine tr_region [8] rfl rfl fun K hK => ?_
   iterate 8 refine evR_p ?_
   refine evR_stepX fun Kq hKq => Or.inr ?_
   simp (maxSteps := 4000000) (disch := first | assumption | omega | (simp only [go_sem, *]; done) | (simp only [go_sem, *]; omega)) only [stpM, go_sem, hq, Int.reduceToNat, Nat.reduceBEq, Nat.reduceEqDiff, Nat.reduceAdd, Nat.reduceMul, Nat.reduceLeDiff, Nat.reduceLT, Nat.reduceSub, ↓reduceIte, reduceCtorEq]
   refine ⟨[2], ?_⟩
   simp (maxSteps := 4000000) (disch := first | assumption | omega | (simp only [go_sem, *]; done) | (simp only [go_sem, *]; omega)) only [V.mapL, V.map, gJ, footJ, inJ, AObj.map, ndJ, ltJ, V.domL, V.dom, AObj.dom, kC, kR, AObj.isC, hJ, backJ, List.any_cons, List.any_nil, Nat.ble_eq, Nat.blt_eq, Nat.reduceLT, Nat.reduceLeDiff, Bool.or_true, Bool.true_or, Bool.or_false, Bool.false_or, Bool.and_self, go_sem, hq, Int.reduceToNat, Nat.reduceBEq, Nat.reduceEqDiff, Nat.reduceAdd, Nat.reduceMul, Nat.reduceLeDiff, Nat.reduceLT, Nat.reduceSub, ↓reduceIte, reduceCtorEq]
   refine ⟨_, _, _, (c43 rows hrl (by unfold maxLen; exact hm) v hv hrow m' (d + 1) (s + 2 ^ d) ((plO rows m' d s []).set 0 ⟨d, 1, ((plO rows m' d s []).length : Nat), none⟩) (by omega) (by rw [Nat.pow_succ]; omega) hi2 (by rw [List.length_set]; omega)), ?_⟩
   simp (maxSteps := 4000000) (disch := first | assumption | omega | (simp only [go_sem, *]; done) | (simp only [go_sem, *]; omega)) only [V.mapL, V.map, gJ, footJ, inJ, AObj.map, ndJ, ltJ, V.domL, V.dom, AObj.dom, kC, kR, AObj.isC, hJ, backJ, List.any_cons, List.any_nil, Nat.ble_eq, Nat.blt_eq, Nat.reduceLT, Nat.reduceLeDiff, Bool.or_true, Bool.true_or, Bool.or_false, Bool.false_or, Bool.and_self, go_sem, hq, Int.reduceToNat, Nat.reduceBEq, Nat.reduceEqDiff, Nat.reduceAdd, Nat.reduceMul, Nat.reduceLeDiff, Nat.reduceLT, Nat.reduceSub, ↓reduceIte, reduceCtorEq]
   (repeat (refine And.intro (by first | assumption | omega | decide | (simp; done) | (simp; omega) | (have hq := hvv hgt; omega) | (have hq := hvv hgt.1; omega) | (simp_all; done)) ?_))
   refine hKq _ ?_; clear hKq Kq
   refine evR_p ?_
   refine evR_e hK ?_; clear hK K
   refine hK13 _ ?_
   refine tr_ret ?_
   (try simp only [thenE, inBlkE])
   simp (maxSteps := 4000000) (disch := first | assumption | omega | (simp only [go_sem, *]; done) | (simp only [go_sem, *]; omega)) only [postA, postO, resV1, fzAll, go_sem, hq, Int.reduceToNat, Nat.reduceBEq, Nat.reduceEqDiff, Nat.reduceAdd, Nat.reduceMul, Nat.reduceLeDiff, Nat.reduceLT, Nat.reduceSub, ↓reduceIte, reduceCtorEq]
   all_goals ((first | (have hix := idxOf_at (overB d s) rw0 rows i hil hb (by rw [← hoi]; exact decide_eq_true ht2); rw [growN_leaf (by rw [hix]; omega), hix]; done) | (have hix := idxOf_at (overB d s) rw0 rows i hil hb (by rw [← hoi]; exact decide_eq_true ht2); rw [growN_leaf (by rw [hix]; omega), hix]; rfl) | (subst hnm; rw [← plO_fin hs (by omega) hneg]; rfl)))
end

section
attribute [local go_sem] encR_one List.replicate_zero List.nil_append
set_option maxHeartbeats 4000000 in
theorem c15 (p : Pg) (hr : p.rows.length ≤ maxLen) (hg : p.gain.length ≤ maxLen) (hc : ∀ r ∈ p.rows, r.coef.length ≤ maxLen) (hv : validB p = true) : CallsA Try.prog 18 [.agg (encPg p)] (.tup [.agg (encSol (solveW p)), .int .i64 0]) := by
 obtain ⟨q0, q1, q2, q3, q4, q5⟩ := validB_all hv
 have hcm := (choice_max hv).2
 obtain ⟨v, hv1, hv2, hv3, hv4⟩ := vars_pow hv
 have hG : (solveB p).1 = true → -12000000000 ≤ (solveB p).2.2 ∧ (solveB p).2.2 ≤ 12000000000 := fun hf => by obtain ⟨s, -, -, -, h1, h2⟩ := solveB_gain hv hf; exact ⟨h1, h2⟩
 have hsol : (solveB p).1 = true → CallsA Try.prog 66 [.nsl, .sl 6 (encR (p.rows ++ [goalW p (solveB p).2.2])), .int .i64 0, .int .i64 0] (.sl 4 (encS (solveW p).proof)) := fun hf => by
  have hi := solve_inf hv
  rw [solRows_t hf] at hi
  have := c43u (p.rows ++ [goalW p (solveB p).2.2]) (by rw [List.length_append]; simp; omega) (fun r hr => by have := (okRws_goal hv _ r hr).1; unfold maxLen; omega) p.vars.toNat (by omega) (okRws_goal hv _) p.vars.toNat 0 0 (by omega) (by simp) hi
  simpa [solveW, solRows_t hf] using this
 have hsol0 : (solveB p).1 = false → CallsA Try.prog 66 [.nsl, .sl 6 (encR p.rows), .int .i64 0, .int .i64 0] (.sl 4 (encS (solveW p).proof)) := fun hf => by
  have hi := solve_inf hv
  rw [solRows_f hf] at hi
  have := c43u p.rows (by omega) hc p.vars.toNat (by omega) (okRws_rows hv) p.vars.toNat 0 0 (by omega) (by simp) hi
  simpa [solveW, solRows_f hf] using this
 have h35 : (solveB p).1 = true → CallsA Try.prog 65 [.agg (encPg p), .int .i64 (solveB p).2.2] (.agg (encRw (goalW p (solveB p).2.2))) := fun hf => by
  have := c35 p (by omega) (solveB p).2.2
  rwa [goalR_eq (by have := hG hf; omega)] at this
 have hq := hv
 refine callsA_of_tr Try.func18 rfl (Nat.le_of_ble_eq_true rfl) ?_
 simp only [Try.results18, envOf, Nat.reduceAdd]
 refine tr_seq fun K1 hK1 => ?_
 refine tr_region [1, 2] rfl rfl fun K hK => ?_
 iterate 3 refine evR_p ?_
 refine evR_e hK ?_; clear hK K
 refine hK1 _ ?_
 refine tr_seq fun K2 hK2 => ?_
 refine tr_region [1, 2, 4, 5] rfl rfl fun K hK => ?_
 refine evR_p ?_
 refine evR_c (hc := (c17 p hr hg hc hv)) (k := ?_)
 iterate 5 refine evR_p ?_
 refine evR_e hK ?_; clear hK K
 refine hK2 _ ?_
 refine tr_seq fun K3 hK3 => ?_
 refine tr_seq fun K4 hK4 => ?_
 refine tr_region [1, 2, 4, 16] rfl rfl fun K hK => ?_
 iterate 2 refine evR_p ?_
 refine evR_e hK ?_; clear hK K
 refine hK4 _ ?_
 refine tr_condB (fun ht1 => ?_) (fun ht1 => ?_)
 ·
  skip
  (first | (exfalso; simp_all; done) | skip)
  all_goals
   refine tr_seq fun K5 hK5 => ?_
   refine tr_region [2, 3] rfl rfl fun K hK => ?_
   iterate 3 refine evR_p ?_
   refine evR_e hK ?_; clear hK K
   refine hK5 _ ?_
   refine tr_ret ?_
   (try simp only [thenE, inBlkE])
   simp (maxSteps := 4000000) (disch := first | assumption | omega | (simp only [go_sem, *]; done) | (simp only [go_sem, *]; omega)) only [postA, postO, resV1, fzAll, go_sem, hq, Int.reduceToNat, Nat.reduceBEq, Nat.reduceEqDiff, Nat.reduceAdd, Nat.reduceMul, Nat.reduceLeDiff, Nat.reduceLT, Nat.reduceSub, ↓reduceIte, reduceCtorEq]
   all_goals (rfl)
 ·
  skip
  (first | (exfalso; simp_all; done) | skip)
  all_goals
   refine tr_skip ?_
   (try simp only [thenE, inBlkE])
   refine hK3 _ ?_
   refine tr_seq fun K6 hK6 => ?_
   refine tr_region [1, 2, 4, 6] rfl rfl fun K hK => ?_
   iterate 3 refine evR_p ?_
   refine evR_e hK ?_; clear hK K
   refine hK6 _ ?_
   refine tr_seq fun K7 hK7 => ?_
   refine tr_seq fun K8 hK8 => ?_
   refine tr_region [1, 2, 4, 6, 7] rfl rfl fun K hK => ?_
   iterate 4 refine evR_p ?_
   refine evR_e hK ?_; clear hK K
   refine hK8 _ ?_
   refine tr_block ?_
   -- loop 1: live [1, 2, 4, 6, 7]
   refine tr_loopW (fun m σ => ∃ i : Nat, i = m ∧ i ≤ (choiceL p).length ∧ σ = ⟨[(1, .ptr 0 0), (2, .ptr 1 0), (4, .sl 1 (encI (choiceL p))), (6, .ptr 2 0), (7, .int .i64 ((i : Int) - 1))], [(2, .cells [.bool (bestR p.gain ((choiceL p).drop i)).1, .int .i64 (bestR p.gain ((choiceL p).drop i)).2.1, .int .i64 (bestR p.gain ((choiceL p).drop i)).2.2, .nsl]), (1, .cells [.bool false, .int .i64 0, .int .i64 0, .nsl]), (0, .cells (encPg p))], 3⟩) ((choiceL p).length) ?_ ?_
   ·
    exact ⟨_, Wk.refl _, _, rfl, Nat.le_refl _, by rw [bestR_end (Nat.le_refl _), w64 (x := ((choiceL p).length : Int) - 1) (by omega)]; rfl⟩
   ·
    rintro m σ ⟨i, rfl, hi, rfl⟩ KL1 hKL1
    refine tr_seq fun K9 hK9 => ?_
    refine tr_seq fun K10 hK10 => ?_
    refine tr_region [1, 2, 4, 6, 7, 23] rfl rfl fun K hK => ?_
    iterate 2 refine evR_p ?_
    refine evR_e hK ?_; clear hK K
    refine hK10 _ ?_
    refine tr_condB (fun ht2 => ?_) (fun ht2 => ?_)
    ·
     skip
     (first | (exfalso; simp_all; done) | skip)
     all_goals
      obtain ⟨k, rfl⟩ : ∃ k, i = k + 1 := ⟨i - 1, by omega⟩
      have hkl : k < (choiceL p).length := by omega
      have hk1 : ((k + 1 : Nat) : Int) - 1 = (k : Int) := by omega
      have hgt := choice_tot hv hkl
      have hgk := hgt
      replace hq := And.intro hq (And.intro hkl (And.intro hk1 (hgk)))
      refine tr_skip ?_
      (try simp only [thenE, inBlkE])
      refine hK9 _ ?_
      refine tr_seq fun K11 hK11 => ?_
      refine tr_block ?_
      refine tr_seq fun K12 hK12 => ?_
      refine tr_draw [] [1, 2, 4, 6, 7, 8] mixed rfl (by kernel_rfl) rfl fun K hK => ?_
      iterate 6 refine evD_p ?_
      refine evD_c (hc := (c42 _ _ hg)) (k := ?_)
      refine evD_p ?_
      refine evD_e hK ?_; clear hK K
      refine hK12 _ ?_
      refine tr_seq fun K13 hK13 => ?_
      refine tr_region [1, 2, 4, 6, 7, 8, 41] rfl rfl fun K hK => ?_
      iterate 4 refine evR_p ?_
      iterate 4 refine evR_g ?_
      refine evR_p ?_
      refine evR_e hK ?_; clear hK K
      refine hK13 _ ?_
      refine tr_condB (fun ht3 => ?_) (fun ht3 => ?_)
      ·
       skip
       (first | (exfalso; simp_all; done) | skip)
       all_goals
        refine tr_seq fun K14 hK14 => ?_
        refine tr_region [1, 2, 4, 6, 7, 8] rfl rfl fun K hK => ?_
        iterate 2 refine evR_p ?_
        refine evR_e hK ?_; clear hK K
        refine hK14 _ ?_
        refine tr_seq fun K15 hK15 => ?_
        refine tr_region [1, 2, 4, 6, 7, 8] rfl rfl fun K hK => ?_
        iterate 6 refine evR_p ?_
        refine evR_e hK ?_; clear hK K
        refine hK15 _ ?_
        refine tr_region [1, 2, 4, 6, 7] rfl rfl fun K hK => ?_
        iterate 3 refine evR_p ?_
        refine evR_e hK ?_; clear hK K
        refine hK11 _ ?_
        refine tr_region [1, 2, 4, 6, 7] rfl rfl fun K hK => ?_
        iterate 3 refine evR_p ?_
        refine evR_e hK ?_; clear hK K
        refine hKL1 _ ?_
        first
         | exact ⟨k, _, by omega, Wk.refl _, k, rfl, by omega, by rw [w64 (x := (k : Int) - 1) (by omega), best_back hkl ht3]; rfl⟩
         | exact ⟨k, _, by omega, Wk.refl _, k, rfl, by omega, by rw [w64 (x := (k : Int) - 1) (by omega), best_keep hkl ht3]; rfl⟩
      ·
       skip
       (first | (exfalso; simp_all; done) | skip)
       all_goals
        refine tr_skip ?_
        (try simp only [thenE, inBlkE])
        refine hK11 _ ?_
        refine tr_region [1, 2, 4, 6, 7] rfl rfl fun K hK => ?_
        iterate 3 refine evR_p ?_
        refine evR_e hK ?_; clear hK K
        refine hKL1 _ ?_
        first
         | exact ⟨k, _, by omega, Wk.refl _, k, rfl, by omega, by rw [w64 (x := (k : Int) - 1) (by omega), best_back hkl ht3]; rfl⟩
         | exact ⟨k, _, by omega, Wk.refl _, k, rfl, by omega, by rw [w64 (x := (k : Int) - 1) (by omega), best_keep hkl ht3]; rfl⟩
    ·
     skip
     (first | (exfalso; simp_all; done) | skip)
     all_goals
      have hil : i = 0 := by omega
      subst hil
      rw [best_all]
      refine tr_exit ?_
      simp only [thenE, inBlkE, Nat.reduceEqDiff, ↓reduceIte]
      refine hK7 _ ?_
      refine tr_seq fun K16 hK16 => ?_
      refine tr_region [1, 2, 6, 9] rfl rfl fun K hK => ?_
      refine evR_bo ?_
      iterate 4 refine evR_p ?_
      refine evR_e hK ?_; clear hK K
      refine hK16 _ ?_
      refine tr_seq fun K17 hK17 => ?_
      refine tr_seq fun K18 hK18 => ?_
      refine tr_region [1, 2, 6, 9, 55] rfl rfl fun K hK => ?_
      iterate 2 refine evR_p ?_
      refine evR_e hK ?_; clear hK K
      refine hK18 _ ?_
      refine tr_condB (fun ht4 => ?_) (fun ht4 => ?_)
      ·
       skip
       (first | (exfalso; simp_all; done) | skip)
       all_goals
        refine tr_region [2, 6, 9] rfl rfl fun K hK => ?_
        iterate 4 refine evR_p ?_
        refine evR_c (hc := (h35 (by assumption))) (k := ?_)
        refine evR_bs ?_
        iterate 2 refine evR_p ?_
        refine evR_e hK ?_; clear hK K
        refine hK17 _ ?_
        refine tr_seq fun K19 hK19 => ?_
        refine tr_region [2, 6] rfl rfl fun K hK => ?_
        refine evR_p ?_
        refine evR_c (hc := (hsol (by assumption))) (k := ?_)
        iterate 2 refine evR_p ?_
        refine evR_e hK ?_; clear hK K
        refine hK19 _ ?_
        refine tr_seq fun K20 hK20 => ?_
        refine tr_region [2, 3] rfl rfl fun K hK => ?_
        iterate 3 refine evR_p ?_
        refine evR_e hK ?_; clear hK K
        refine hK20 _ ?_
        refine tr_ret ?_
        (try simp only [thenE, inBlkE])
        simp (maxSteps := 4000000) (disch := first | assumption | omega | (simp only [go_sem, *]; done) | (simp only [go_sem, *]; omega)) only [postA, postO, resV1, fzAll, go_sem, hq, Int.reduceToNat, Nat.reduceBEq, Nat.reduceEqDiff, Nat.reduceAdd, Nat.reduceMul, Nat.reduceLeDiff, Nat.reduceLT, Nat.reduceSub, ↓reduceIte, reduceCtorEq]
        all_goals (rfl)
      ·
       skip
       (first | (exfalso; simp_all; done) | skip)
       all_goals
        refine tr_skip ?_
        (try simp only [thenE, inBlkE])
        refine hK17 _ ?_
        refine tr_seq fun K21 hK21 => ?_
        refine tr_region [2, 6] rfl rfl fun K hK => ?_
        refine evR_p ?_
        refine evR_c (hc := (hsol0 (by assumption))) (k := ?_)
        iterate 2 refine evR_p ?_
        refine evR_e hK ?_; clear hK K
        refine hK21 _ ?_
        refine tr_seq fun K22 hK22 => ?_
        refine tr_region [2, 3] rfl rfl fun K hK => ?_
        iterate 3 refine evR_p ?_
        refine evR_e hK ?_; clear hK K
        refine hK22 _ ?_
        refine tr_ret ?_
        (try simp only [thenE, inBlkE])
        simp (maxSteps := 4000000) (disch := first | assumption | omega | (simp only [go_sem, *]; done) | (simp only [go_sem, *]; omega)) only [postA, postO, resV1, fzAll, go_sem, hq, Int.reduceToNat, Nat.reduceBEq, Nat.reduceEqDiff, Nat.reduceAdd, Nat.reduceMul, Nat.reduceLeDiff, Nat.reduceLT, Nat.reduceSub, ↓reduceIte, reduceCtorEq]
        all_goals (rfl)
end

end Go.Proofs.Ytfamkbofdamkkaa
namespace Go.Proofs.Ytfamkbofdamkkaa
open Go.RowKit
set_option linter.unusedVariables false
set_option linter.unusedSimpArgs false
section
variable {cx : Cx} {mem : Mem} {nx : Nat} {ι : Nat → Nat} {ρ : Nat → Value} {w : World}
theorem ML.reobj (hm : ML cx mem nx ι ρ w) {i : Nat} {o o' : AObj} (hin0 : (i, o) ∈ mem) (hb : blk ι ρ (i, o') = blk ι ρ (i, o)) (ho : OR w (OO cx.X mem ι ρ) ι ρ nx i o → OR w (OO cx.X mem ι ρ) ι ρ nx i o') :
    ML cx (mem.map fun p => if p.1 = i then (i, o') else p) nx ι ρ w ∧ ∀ b, OO cx.X (mem.map fun p => if p.1 = i then (i, o') else p) ι ρ b → OO cx.X mem ι ρ b := by
  have hin : ∀ q, q ∈ (mem.map fun p => if p.1 = i then (i, o') else p) → ∃ p ∈ mem, q = (if p.1 = i then (i, o') else p) ∧ blk ι ρ q = blk ι ρ p ∧ q.1 = p.1 := by
    intro q hq
    obtain ⟨p, hp, rfl⟩ := List.mem_map.1 hq
    refine ⟨p, hp, rfl, ?_⟩
    by_cases hpid : p.1 = i
    · have : p = (i, o) := hm.keys p hp _ hin0 hpid
      subst this; simp [hb]
    · simp [hpid]
  have hO : ∀ b, OO cx.X (mem.map fun p => if p.1 = i then (i, o') else p) ι ρ b → OO cx.X mem ι ρ b := by
    rintro b (hx | ⟨q, hq, hqb⟩)
    · exact .inl hx
    · obtain ⟨p, hp, -, hpb, -⟩ := hin q hq
      exact .inr ⟨p, hp, by rw [← hpb]; exact hqb⟩
  have hk : ∀ c v x, Rel w (OO cx.X mem ι ρ) ι ρ nx c v x → Rel w (OO cx.X (mem.map fun p => if p.1 = i then (i, o') else p) ι ρ) ι ρ nx c v x := fun c v x hr =>
    hr.mono (fun a y hc hno => ⟨hc, fun hn => hno (hO _ hn)⟩) (fun _ _ => ⟨rfl, rfl⟩) (Nat.le_refl _)
  refine ⟨⟨hm.os, hm.tape, hm.output, hm.size, hm.old, ?_, ?_, ?_, ?_, hm.xlt, ?_⟩, hO⟩
  · intro p hp q hq e
    obtain ⟨p', hp', rfl, -, e1⟩ := hin p hp
    obtain ⟨q', hq', rfl, -, e2⟩ := hin q hq
    have : p' = q' := hm.keys p' hp' q' hq' (by rw [← e1, ← e2]; exact e)
    rw [this]
  · intro p hp; obtain ⟨p', hp', -, -, e1⟩ := hin p hp; rw [e1]; exact hm.lt p' hp'
  · intro p hp b hpb; obtain ⟨p', hp', -, e1, -⟩ := hin p hp; rw [e1] at hpb; exact hm.own p' hp' b hpb
  · intro p hp q hq b hpb hqb
    obtain ⟨p', hp', rfl, e1, -⟩ := hin p hp
    obtain ⟨q', hq', rfl, e2, -⟩ := hin q hq
    have : p' = q' := hm.inj p' hp' q' hq' b (by rw [← e1]; exact hpb) (by rw [← e2]; exact hqb)
    rw [this]
  · intro q hq
    obtain ⟨p, hp, rfl, -, -⟩ := hin q hq
    by_cases hpid : p.1 = i
    · have : p = (i, o) := hm.keys p hp _ hin0 hpid
      subst this
      simp only [if_true]
      exact OR.mono hk rfl rfl (fun _ _ => rfl) (ho (hm.obj _ hp))
    · simp only [hpid, if_false]
      exact OR.mono hk rfl rfl (fun _ _ => rfl) (hm.obj p hp)
end
/-- A nil slice in a row that may name others, as a slice of the call's own that has not grown yet. -/
theorem Wk.nilrow {N : Nat} {σ : St} (e z i k j : Nat) {e' z' : Nat} {rows : List (List V)} {r : List V} (hl : σ.mem.look i = some (.orow e' z' rows)) (hk : k < rows.length) (hr : rows.getD k [] = r) (hj : j < r.length) (hn : r.getD j .any = .nsl) :
    Wk N σ ⟨σ.env, ((σ.nx, AObj.row e z []) :: σ.mem).map fun p => if p.1 = i then (i, .orow e' z' (rows.set k (r.set j (.own σ.nx)))) else p, σ.nx + 1⟩ := fun cx ι ρ a w h => by
  obtain ⟨m1, m2⟩ := h.sr.ml.addNil e z
  have hmem := Mem.look_mem hl
  have gs : ∀ c, (r.set j (.own σ.nx)).getD c .any = if c = j then .own σ.nx else r.getD c .any := fun c => by
    simp only [List.getD, List.getElem?_set]
    by_cases e : j = c
    · subst e; simp [hj]
    · rw [if_neg e, if_neg (Ne.symm e)]
  have gr : ∀ c, (rows.set k (r.set j (.own σ.nx))).getD c [] = if c = k then r.set j (.own σ.nx) else rows.getD c [] := fun c => by
    simp only [List.getD, List.getElem?_set]
    by_cases e : k = c
    · subst e; simp [hk]
    · rw [if_neg e, if_neg (Ne.symm e)]
  obtain ⟨m3, m4⟩ := m1.reobj (i := i) (o := .orow e' z' rows) (o' := .orow e' z' (rows.set k (r.set j (.own σ.nx)))) (List.mem_cons_of_mem _ hmem) rfl (by
    rintro ⟨xs, h1, h2, h3, h4⟩
    refine ⟨xs, by rw [List.length_set]; exact h1, fun c hc => ?_, fun c d hc hd => ?_, fun c d hc hd => ?_⟩ <;> rw [List.length_set] at hc <;> rw [gr]
    · split
      · rename_i e; subst e; rw [List.length_set, ← hr]; exact h2 c hc
      · exact h2 c hc
    · split
      · rename_i e; subst e
        rw [gs]; split
        · rfl
        · rw [← hr]; exact h3 c d hc hd
      · exact h3 c d hc hd
    · split
      · rename_i e; subst e
        have h5 := h4 c d hc hd
        rw [hr] at h5
        rw [gs]; split
        · rename_i e2; subst e2
          rw [hn] at h5
          have hx : xs.getD (c * z' + d) undef = .slice none 0 0 := by generalize xs.getD (c * z' + d) undef = y at h5 ⊢; cases h5; rfl
          rw [hx]
          have := Rel.own (w := w) (O := OO cx.X ((σ.nx, AObj.row e z []) :: σ.mem) ι (fun i => if i = σ.nx then .slice none 0 0 else ρ i)) (ι := ι) (ρ := fun i => if i = σ.nx then (.slice none 0 0 : Value) else ρ i) (nx := σ.nx + 1) σ.nx (by omega) (by simp [Value.oneCell'])
          simpa using this
        · exact h5
      · exact h4 c d hc hd)
  exact ⟨ι, _, ⟨⟨m3, fun t => (m2 _ _ _ (h.sr.env t)).mono (fun a y hc hno => ⟨hc, fun hn => hno (m4 _ hn)⟩) (fun _ _ => ⟨rfl, rfl⟩) (Nat.le_refl _)⟩, h.size, h.defers⟩⟩
theorem s18 {p : Pg} (hv : validB p = true) : CallsA Try.prog 18 [.agg (encPg p)] (.tup [.agg (encSol2 p), .int .i64 0]) := by
  obtain ⟨a, b, c⟩ := valid_max hv
  exact (c15 p a b c hv).le (sol_le p)
theorem encWs_fzL (i : Nat) (o : AObj) (s : Sg) : V.fzL i o (encSg s) = encSg s := by simp [encSg, V.fzL, V.fz]
theorem encSgs_fz (i : Nat) (o : AObj) (l : List Sg) : (encSgs l).map (V.fzL i o) = encSgs l := by
  simp only [encSgs, List.map_map]
  exact List.map_congr_left fun s _ => encWs_fzL i o s
theorem encSgs_cl (l : List Sg) : (encSgs l).all V.clL = true := by
  rw [List.all_eq_true]
  intro r hr
  obtain ⟨s, -, rfl⟩ := List.mem_map.1 hr
  rfl
theorem encSgs_row (a : List Sg) (k : Nat) (r : List V) (h : k < a.length) : ((encSgs a).set k r).getD k [] = r := by simp [List.getD, encSgs_length, h]
theorem encSgs_ren (i j : Nat) (l : List Sg) : (encSgs l).map (V.renL i j) = encSgs l := by
  simp only [encSgs, List.map_map]
  exact List.map_congr_left fun s _ => by simp [encSg, V.renL, V.ren]
theorem all_set {α : Type} {p : α → Bool} {l : List α} {k : Nat} {r : α} (h : l.all p = true) (hk : k < l.length) : (l.set k r).all p = p r := by
  cases hp : p r with
  | true =>
    rw [List.all_eq_true] at h ⊢
    intro x hx
    rcases List.mem_or_eq_of_mem_set hx with hx | hx
    · exact h x hx
    · rw [hx]; exact hp
  | false =>
    rw [Bool.eq_false_iff]
    intro h2
    rw [List.all_eq_true] at h2
    have := h2 r (List.mem_iff_getElem.2 ⟨k, by simpa using hk, by simp⟩)
    rw [hp] at this; cases this
theorem orow_no (j : Nat) (l : List Sg) (k : Nat) (r : List V) (h : k < l.length) : ((encSgs l).set k r).all (V.noL j) = V.noL j r := by
  refine all_set ?_ (by rw [encSgs_length]; exact h)
  rw [List.all_eq_true]
  intro x hx
  obtain ⟨s, -, rfl⟩ := List.mem_map.1 hx
  simp [encSg, V.noL, V.no]
theorem orow_upto (n : Nat) (l : List Sg) (k : Nat) (r : List V) (h : k < l.length) : ((encSgs l).set k r).all (V.uptoL n) = V.uptoL n r := by
  refine all_set ?_ (by rw [encSgs_length]; exact h)
  rw [List.all_eq_true]
  intro x hx
  obtain ⟨s, -, rfl⟩ := List.mem_map.1 hx
  simp [encSg, V.uptoL, V.upto]
theorem encSgs_app1 (a : List Sg) (v no yes : Int) (ws : List Wt) : encSgs a ++ [[V.int .i64 v, V.int .i64 no, V.int .i64 yes, V.sl 2 (encWs ws)]] = encSgs (a ++ [⟨v, no, yes, ws⟩]) := by rw [encSgs_snoc]; rfl
theorem encWs_app1 (a : List Wt) (x y : Int) : encWs a ++ [[V.int .i64 x, V.int .i64 y]] = encWs (a ++ [⟨x, y⟩]) := by simp [encWs, encW]
theorem mul_small2 {t n : Int} (ht : -1 ≤ t ∧ t ≤ 1002) (hn : 1 ≤ n ∧ n ≤ 100) : -1000000 ≤ t * n ∧ t * n ≤ 1000000 := by
  have h1 : -1 * n ≤ t * n := Int.mul_le_mul_of_nonneg_right ht.1 (by omega)
  have h2 : t * n ≤ 1002 * n := Int.mul_le_mul_of_nonneg_right ht.2 (by omega)
  omega
set_option maxRecDepth 100000
attribute [local go_sem] Nat.zero_add Nat.add_zero Nat.mul_one eq_self ne_eq not_true_eq_false not_false_eq_true decide_true decide_false decide_not Bool.false_eq_true List.filter_cons List.filter_nil true_and and_true beq_false beq_true Bool.not_true Bool.not_false Bool.and_true Bool.true_and Option.getD_some Option.getD_none imp_self implies_true Int.toNat_natCast List.cons_append List.nil_append List.map_cons List.map_nil List.length_cons List.length_nil List.getD_cons_zero List.getD_cons_succ List.drop_zero List.drop_succ_cons List.take_succ_cons List.take_zero
attribute [local go_sem] shL isSh Option.isNone_none Option.isNone_some Option.isSome_none lowN lowQ lowM isAl appOwn unw appF isE isO stpO notIn St.bare evO evDO isEff stp St.get St.slot St.put List.lookup un unL ofVal gof nth pickV pkB_false pkB_true binV unV loadV idxV fldV partV buildV fillV lenV sliV appV appR rowsV winV V.parts V.okp V.sc Mem.look_cons Mem.look_nil V.cl V.clL AObj.clo fzAll exps St.fz Mem.fz V.fz V.fzL AObj.fz Option.isSome_some Option.isSome_none Bool.or_true Bool.true_or Bool.or_false Bool.false_or false_and and_false false_or or_false arT_104 arT_121 arT_160 arT_161 arT_22 arT_23 arT_24 arT_25 arT_28 arT_29 arT_30 arT_40 arT_42 arT_52 arT_60 arT_65 arT_72 arT_73 arT_76 arT_9 arT_90 boolT_182 boolT_25 boolT_3 boolT_35 boolT_4 boolT_76 flatT_182 flatT_25 flatT_3 flatT_35 flatT_4 flatT_76 intT_133 intT_169 intT_171 intT_188 intT_3 intT_5 lay_104 lay_112 lay_138 lay_141 lay_153 lay_160 lay_161 lay_164 lay_188 lay_23 lay_24 lay_25 lay_27 lay_28 lay_3 lay_30 lay_34 lay_4 lay_49 lay_52 lay_54 lay_56 lay_65 lay_67 lay_73 lay_76 lay_90 lay_99 mapT_112 okF_10 okF_100 okF_101 okF_102 okF_103 okF_104 okF_105 okF_106 okF_107 okF_108 okF_109 okF_11 okF_110 okF_111 okF_112 okF_113 okF_114 okF_115 okF_116 okF_117 okF_118 okF_119 okF_12 okF_120 okF_121 okF_122 okF_123 okF_124 okF_125 okF_126 okF_127 okF_128 okF_129 okF_13 okF_130 okF_131 okF_132 okF_133 okF_134 okF_135 okF_136 okF_137 okF_138 okF_139 okF_14 okF_140 okF_141 okF_142 okF_143 okF_144 okF_145 okF_146 okF_147 okF_148 okF_149 okF_15 okF_150 okF_151 okF_152 okF_153 okF_154 okF_155 okF_156 okF_157 okF_158 okF_159 okF_16 okF_160 okF_161 okF_162 okF_163 okF_164 okF_165 okF_166 okF_167 okF_168 okF_169 okF_17 okF_170 okF_171 okF_172 okF_173 okF_174 okF_175 okF_176 okF_177 okF_18 okF_19 okF_20 okF_21 okF_22 okF_23 okF_24 okF_25 okF_26 okF_27 okF_28 okF_29 okF_3 okF_30 okF_31 okF_32 okF_33 okF_34 okF_35 okF_36 okF_37 okF_38 okF_39 okF_4 okF_40 okF_41 okF_42 okF_43 okF_44 okF_45 okF_46 okF_47 okF_48 okF_49 okF_5 okF_50 okF_51 okF_52 okF_53 okF_54 okF_55 okF_56 okF_57 okF_58 okF_59 okF_6 okF_60 okF_61 okF_62 okF_63 okF_64 okF_65 okF_66 okF_67 okF_68 okF_69 okF_7 okF_70 okF_71 okF_72 okF_73 okF_74 okF_75 okF_76 okF_77 okF_78 okF_79 okF_8 okF_80 okF_81 okF_82 okF_83 okF_84 okF_85 okF_86 okF_87 okF_88 okF_89 okF_9 okF_90 okF_91 okF_92 okF_93 okF_94 okF_95 okF_96 okF_97 okF_98 okF_99 plT_138 plT_153 plT_157 plT_161 plT_27 plT_34 plT_54 plT_56 plT_67 plT_76 plT_90 plT_99 slT_104 slT_121 slT_160 slT_161 slT_22 slT_23 slT_24 slT_25 slT_28 slT_29 slT_30 slT_40 slT_42 slT_52 slT_60 slT_65 slT_72 slT_73 slT_76 slT_90 stT_138_0 stT_138_1 stT_153_0 stT_157_0 stT_157_1 stT_157_2 stT_157_3 stT_27_0 stT_27_1 stT_27_2 stT_34_0 stT_34_1 stT_34_2 stT_34_3 stT_54_0 stT_54_1 stT_54_2 stT_54_3 stT_56_0 stT_56_1 stT_67_1 stT_67_4 stT_67_5 stT_99_0 stT_99_1 strT_160 strT_76 strT_9 zeroT_112 zeroT_138 zeroT_153 zeroT_157 zeroT_160 zeroT_161 zeroT_188 zeroT_27 zeroT_3 zeroT_30 zeroT_34 zeroT_4 zeroT_49 zeroT_54 zeroT_56 zeroT_65 zeroT_67 zeroT_76 zeroT_90 zeroT_99
attribute [local go_sem] List.getElem?_cons_zero List.getElem?_cons_succ List.zip_cons_cons List.zip_nil_left List.zip_nil_right Bool.false_and Bool.and_false List.length_append List.length_set List.length_replicate List.all_cons List.all_nil encI_length encI_getD encR_length encR_getD encRw encPg spl shp AObj.shp rowM isSt isRpS isRd csh AObj.csh forall_const imp_self
attribute [local go_sem] encSg encW encSgs_length encWs_length encSgs_getD encWs_getD lookV lkM putM
attribute [local simp] encI_length encR_length cellsI_length encSgs_length encWs_length
theorem k67 (c n : Int) (hn : 0 < n) : CallsA Try.prog 67 [.int .i64 c, .int .i64 n] (.int .i64 (pickW c n)) := by
 have hq : True := trivial
 refine callsA_of_tr Try.func67 rfl (Nat.le_of_ble_eq_true rfl) ?_
 simp only [Try.results67, envOf, Nat.reduceAdd]
 refine tr_seq fun K1 hK1 => ?_
 refine tr_region [0, 1] rfl rfl fun K hK => ?_
 refine evR_p ?_
 refine evR_e hK ?_; clear hK K
 refine hK1 _ ?_
 refine tr_seq fun K2 hK2 => ?_
 refine tr_seq fun K3 hK3 => ?_
 refine tr_region [0, 1, 6] rfl rfl fun K hK => ?_
 iterate 2 refine evR_p ?_
 refine evR_e hK ?_; clear hK K
 refine hK3 _ ?_
 refine tr_condB (fun ht1 => ?_) (fun ht1 => ?_)
 ·
  skip
  refine tr_region [0, 1] rfl rfl fun K hK => ?_
  iterate 4 refine evR_p ?_
  refine evR_e hK ?_; clear hK K
  refine hK2 _ ?_
  refine tr_seq fun K4 hK4 => ?_
  refine tr_region [4] rfl rfl fun K hK => ?_
  iterate 4 refine evR_p ?_
  refine evR_e hK ?_; clear hK K
  refine hK4 _ ?_
  refine tr_ret ?_
  (try simp only [thenE, inBlkE])
  simp (maxSteps := 4000000) (disch := first | assumption | omega | (simp only [go_sem, *]; done) | (simp only [go_sem, *]; omega)) only [postA, postO, resV1, fzAll, go_sem, hq, Int.reduceToNat, Nat.reduceBEq, Nat.reduceEqDiff, Nat.reduceAdd, Nat.reduceMul, Nat.reduceLeDiff, Nat.reduceLT, Nat.reduceSub, ↓reduceIte, reduceCtorEq]
  all_goals (simp [pickW, *])
 ·
  skip
  refine tr_skip ?_
  (try simp only [thenE, inBlkE])
  refine hK2 _ ?_
  refine tr_seq fun K5 hK5 => ?_
  refine tr_region [4] rfl rfl fun K hK => ?_
  iterate 4 refine evR_p ?_
  refine evR_e hK ?_; clear hK K
  refine hK5 _ ?_
  refine tr_ret ?_
  (try simp only [thenE, inBlkE])
  simp (maxSteps := 4000000) (disch := first | assumption | omega | (simp only [go_sem, *]; done) | (simp only [go_sem, *]; omega)) only [postA, postO, resV1, fzAll, go_sem, hq, Int.reduceToNat, Nat.reduceBEq, Nat.reduceEqDiff, Nat.reduceAdd, Nat.reduceMul, Nat.reduceLeDiff, Nat.reduceLT, Nat.reduceSub, ↓reduceIte, reduceCtorEq]
  all_goals (simp [pickW, *])

section
attribute [local go_sem] List.map_set encSgs_fz encSgs_cl encSgs_row encSgs_set encSgs_take encWs_set List.set_set cellsI_length cellsI_getD cellsI_dropD cellsI_sc cellsI_cl cellsI_winT cellsI_take cellsI_fzL encWs_app1 encSg List.nil_append List.replicate_succ List.replicate_zero List.set_cons_zero List.set_cons_succ
set_option maxHeartbeats 16000000 in
theorem k19n (l : List Sg) (hl0 : 0 < l.length) (hll : l.length ≤ 100000) (hws : ∀ s ∈ l, s.ws.length ≤ 100000) (z : List Int) (hz4 : z.length = 4) (hz : ∀ x ∈ z, okI x) : CallsA Try.prog 19 [.sl 4 (encSgs l), .agg (cellsI z)] (.sl 4 (encSgs (bentW l z))) := by
 have ok : ∀ i, i < 4 → okI (z.getD i 0) := fun i hi => hz _ (getD_mem (by omega))
 obtain ⟨kn, hkn, hkl⟩ : ∃ k : Nat, pickW (z.getD 0 0) (l.length : Nat) = k ∧ k < l.length := by
  have := pickW_rangeL (z.getD 0 0) (n := (l.length : Nat)) (by omega) (ok 0 (by omega))
  exact ⟨(pickW (z.getD 0 0) (l.length : Nat)).toNat, by omega, by omega⟩
 obtain ⟨jn, hj, hjl⟩ : ∃ k : Nat, pickW (z.getD 2 0) (l.length : Nat) = k ∧ k < l.length := by
  have := pickW_rangeL (z.getD 2 0) (n := (l.length : Nat)) (by omega) (ok 2 (by omega))
  exact ⟨(pickW (z.getD 2 0) (l.length : Nat)).toNat, by omega, by omega⟩
 obtain ⟨s, hs⟩ : ∃ s, l.getD kn sg0 = s := ⟨_, rfl⟩
 obtain ⟨q1, hq1⟩ : ∃ q, pickW (z.getD 1 0) 9 = q := ⟨_, rfl⟩
 have hsw : s.ws.length ≤ 100000 := hs ▸ hws _ (getD_mem hkl)
 have r0 := pickW_rangeL (z.getD 2 0) (n := 9) (by decide) (ok 2 (by omega))
 have r1 := pickW_rangeL (z.getD 2 0) (n := 1003) (by decide) (ok 2 (by omega))
 have r2 := pickW_rangeL (z.getD 3 0) (n := 5) (by decide) (ok 3 (by omega))
 have hw0 : IntKind.i64.wrap (pickW (z.getD 2 0) 9 - 1) = pickW (z.getD 2 0) 9 - 1 := w64 (by omega)
 have hw1 : IntKind.i64.wrap ((l.length : Int) + 1) = (l.length : Int) + 1 := w64 (by omega)
 have hw3 : IntKind.i64.wrap (pickW (z.getD 2 0) 1003 - 1) = pickW (z.getD 2 0) 1003 - 1 := w64 (by omega)
 have hw4 : IntKind.i64.wrap (1 + pickW (z.getD 3 0) 5) = 1 + pickW (z.getD 3 0) 5 := w64 (by omega)
 have hwj : IntKind.i64.wrap ((jn : Int) + 1) = ((jn + 1 : Nat) : Int) := by rw [w64 (by omega)]; omega
 have hw5 : min (jn + 1) l.length = jn + 1 := by omega
 have hq := And.intro hz4 (And.intro hl0 (And.intro hkn (And.intro hkl (And.intro hs (And.intro hq1 (And.intro hj (And.intro hjl (And.intro hwj (And.intro hw0 (And.intro hw1 (And.intro hw3 (And.intro hw4 (hw5)))))))))))))
 refine callsA_of_tr Try.func19 rfl (Nat.le_of_ble_eq_true rfl) ?_
 simp only [Try.results19, envOf, Nat.reduceAdd]
 refine tr_seq fun K1 hK1 => ?_
 refine tr_region [0, 3] rfl rfl fun K hK => ?_
 iterate 2 refine evR_p ?_
 refine evR_e hK ?_; clear hK K
 refine hK1 _ ?_
 refine tr_seq fun K2 hK2 => ?_
 refine tr_region [3, 5] rfl rfl fun K hK => ?_
 refine evR_bo ?_
 iterate 3 refine evR_p ?_
 refine evR_e hK ?_; clear hK K
 refine hK2 _ ?_
 refine tr_seq fun K3 hK3 => ?_
 refine tr_seq fun K4 hK4 => ?_
 refine tr_region [3, 5, 12] rfl rfl fun K hK => ?_
 iterate 3 refine evR_p ?_
 refine evR_e hK ?_; clear hK K
 refine hK4 _ ?_
 refine tr_condB (fun ht1 => ?_) (fun ht1 => ?_)
 ·
  skip
  (first | (exfalso; omega) | (exfalso; simp_all; done) | skip)
  all_goals
   refine tr_seq fun K5 hK5 => ?_
   refine tr_region [4] rfl rfl fun K hK => ?_
   iterate 2 refine evR_p ?_
   refine evR_e hK ?_; clear hK K
   refine hK5 _ ?_
   refine tr_ret ?_
   (try simp only [thenE, inBlkE])
   simp (maxSteps := 4000000) (disch := first | assumption | omega | (simp only [go_sem, *]; done) | (simp only [go_sem, *]; omega)) only [postA, postO, resV1, fzAll, go_sem, hq, Int.reduceToNat, Nat.reduceBEq, Nat.reduceEqDiff, Nat.reduceAdd, Nat.reduceMul, Nat.reduceLeDiff, Nat.reduceLT, Nat.reduceSub, ↓reduceIte, reduceCtorEq]
   all_goals (first | (rw [bentW_6 (by rw [hq1]; assumption) (by omega), hj, show ((jn : Int) + 1).toNat = jn + 1 from by omega]; have e9 : l.set kn ⟨s.var, s.no, s.yes, s.ws⟩ = l := (by have := set_getD (l := l) (k := kn) (d := sg0); rw [hs] at this; exact this); rw [e9]; done) | (rw [bentW_n (by rw [hq1]; omega) (by omega), hkn, Int.toNat_natCast, hs, bentS, hq1]; repeat (first | rw [if_pos (by omega)] | rw [if_neg (by omega)]); try rfl))
 ·
  skip
  (first | (exfalso; omega) | (exfalso; simp_all; done) | skip)
  all_goals
   refine tr_skip ?_
   (try simp only [thenE, inBlkE])
   refine hK3 _ ?_
   refine tr_seq fun K6 hK6 => ?_
   refine tr_region [3, 5, 6] rfl rfl fun K hK => ?_
   iterate 5 refine evR_p ?_
   refine evR_c (hc := (k67 _ _ (by omega))) (k := ?_)
   iterate 2 refine evR_p ?_
   refine evR_e hK ?_; clear hK K
   refine hK6 _ ?_
   refine tr_seq fun K7 hK7 => ?_
   refine tr_wk (Wk.open (i := 2) rfl) ?_
   try simp only [List.map_cons, List.map_nil, Nat.reduceEqDiff, ↓reduceIte, List.set_cons_zero, List.set_cons_succ, Nat.reduceAdd]
   refine tr_region [3, 5, 6] rfl rfl fun K hK => ?_
   refine evR_p ?_
   refine evR_bo ?_
   iterate 8 refine evR_p ?_
   refine evR_e hK ?_; clear hK K
   refine hK7 _ ?_
   refine tr_seq fun K8 hK8 => ?_
   refine tr_seq fun K9 hK9 => ?_
   refine tr_region [3, 5, 6, 32] rfl rfl fun K hK => ?_
   iterate 2 refine evR_p ?_
   refine evR_c (hc := (k67 _ _ (by omega))) (k := ?_)
   refine evR_e hK ?_; clear hK K
   refine hK9 _ ?_
   refine tr_block ?_
   refine tr_seq fun K10 hK10 => ?_
   refine tr_region [3, 5, 6, 32, 33] rfl rfl fun K hK => ?_
   iterate 2 refine evR_p ?_
   refine evR_e hK ?_; clear hK K
   refine hK10 _ ?_
   refine tr_condB (fun ht2 => ?_) (fun ht2 => ?_)
   ·
    skip
    (first | (exfalso; omega) | (exfalso; simp_all; done) | skip)
    all_goals
     refine tr_region [5] rfl rfl fun K hK => ?_
     iterate 3 refine evR_p ?_
     refine evR_c (hc := (k67 _ _ (by omega))) (k := ?_)
     iterate 4 refine evR_p ?_
     refine evR_e hK ?_; clear hK K
     refine hK8 _ ?_
     refine tr_seq fun K11 hK11 => ?_
     refine tr_fz [.own 4, .own 5] (by simp (maxSteps := 4000000) (disch := first | assumption | omega | (simp only [go_sem, *]; done) | (simp only [go_sem, *]; omega)) only [go_sem, hq, Int.reduceToNat, Nat.reduceBEq, Nat.reduceEqDiff, Nat.reduceAdd, Nat.reduceMul, Nat.reduceLeDiff, Nat.reduceLT, Nat.reduceSub, ↓reduceIte, reduceCtorEq]; (try rfl)) ?_
     refine tr_region [4] rfl rfl fun K hK => ?_
     iterate 2 refine evR_p ?_
     refine evR_e hK ?_; clear hK K
     refine hK11 _ ?_
     refine tr_ret ?_
     (try simp only [thenE, inBlkE])
     simp (maxSteps := 4000000) (disch := first | assumption | omega | (simp only [go_sem, *]; done) | (simp only [go_sem, *]; omega)) only [postA, postO, resV1, fzAll, go_sem, hq, Int.reduceToNat, Nat.reduceBEq, Nat.reduceEqDiff, Nat.reduceAdd, Nat.reduceMul, Nat.reduceLeDiff, Nat.reduceLT, Nat.reduceSub, ↓reduceIte, reduceCtorEq]
     all_goals (first | (rw [bentW_6 (by rw [hq1]; assumption) (by omega), hj, show ((jn : Int) + 1).toNat = jn + 1 from by omega]; have e9 : l.set kn ⟨s.var, s.no, s.yes, s.ws⟩ = l := (by have := set_getD (l := l) (k := kn) (d := sg0); rw [hs] at this; exact this); rw [e9]; done) | (rw [bentW_n (by rw [hq1]; omega) (by omega), hkn, Int.toNat_natCast, hs, bentS, hq1]; repeat (first | rw [if_pos (by omega)] | rw [if_neg (by omega)]); try rfl))
   ·
    skip
    (first | (exfalso; omega) | (exfalso; simp_all; done) | skip)
    all_goals
     refine tr_seq fun K12 hK12 => ?_
     refine tr_region [3, 5, 6, 32, 42] rfl rfl fun K hK => ?_
     iterate 2 refine evR_p ?_
     refine evR_e hK ?_; clear hK K
     refine hK12 _ ?_
     refine tr_condB (fun ht3 => ?_) (fun ht3 => ?_)
     ·
      skip
      (first | (exfalso; omega) | (exfalso; simp_all; done) | skip)
      all_goals
       refine tr_region [5] rfl rfl fun K hK => ?_
       iterate 6 refine evR_p ?_
       refine evR_c (hc := (k67 _ _ (by omega))) (k := ?_)
       iterate 3 refine evR_p ?_
       refine evR_e hK ?_; clear hK K
       refine hK8 _ ?_
       refine tr_seq fun K13 hK13 => ?_
       refine tr_fz [.own 4, .own 5] (by simp (maxSteps := 4000000) (disch := first | assumption | omega | (simp only [go_sem, *]; done) | (simp only [go_sem, *]; omega)) only [go_sem, hq, Int.reduceToNat, Nat.reduceBEq, Nat.reduceEqDiff, Nat.reduceAdd, Nat.reduceMul, Nat.reduceLeDiff, Nat.reduceLT, Nat.reduceSub, ↓reduceIte, reduceCtorEq]; (try rfl)) ?_
       refine tr_region [4] rfl rfl fun K hK => ?_
       iterate 2 refine evR_p ?_
       refine evR_e hK ?_; clear hK K
       refine hK13 _ ?_
       refine tr_ret ?_
       (try simp only [thenE, inBlkE])
       simp (maxSteps := 4000000) (disch := first | assumption | omega | (simp only [go_sem, *]; done) | (simp only [go_sem, *]; omega)) only [postA, postO, resV1, fzAll, go_sem, hq, Int.reduceToNat, Nat.reduceBEq, Nat.reduceEqDiff, Nat.reduceAdd, Nat.reduceMul, Nat.reduceLeDiff, Nat.reduceLT, Nat.reduceSub, ↓reduceIte, reduceCtorEq]
       all_goals (first | (rw [bentW_6 (by rw [hq1]; assumption) (by omega), hj, show ((jn : Int) + 1).toNat = jn + 1 from by omega]; have e9 : l.set kn ⟨s.var, s.no, s.yes, s.ws⟩ = l := (by have := set_getD (l := l) (k := kn) (d := sg0); rw [hs] at this; exact this); rw [e9]; done) | (rw [bentW_n (by rw [hq1]; omega) (by omega), hkn, Int.toNat_natCast, hs, bentS, hq1]; repeat (first | rw [if_pos (by omega)] | rw [if_neg (by omega)]); try rfl))
     ·
      skip
      (first | (exfalso; omega) | (exfalso; simp_all; done) | skip)
      all_goals
       refine tr_seq fun K14 hK14 => ?_
       refine tr_region [3, 5, 6, 32, 53] rfl rfl fun K hK => ?_
       iterate 2 refine evR_p ?_
       refine evR_e hK ?_; clear hK K
       refine hK14 _ ?_
       refine tr_condB (fun ht4 => ?_) (fun ht4 => ?_)
       ·
        skip
        (first | (exfalso; omega) | (exfalso; simp_all; done) | skip)
        all_goals
         refine tr_region [5] rfl rfl fun K hK => ?_
         iterate 6 refine evR_p ?_
         refine evR_c (hc := (k67 _ _ (by omega))) (k := ?_)
         iterate 3 refine evR_p ?_
         refine evR_e hK ?_; clear hK K
         refine hK8 _ ?_
         refine tr_seq fun K15 hK15 => ?_
         refine tr_fz [.own 4, .own 5] (by simp (maxSteps := 4000000) (disch := first | assumption | omega | (simp only [go_sem, *]; done) | (simp only [go_sem, *]; omega)) only [go_sem, hq, Int.reduceToNat, Nat.reduceBEq, Nat.reduceEqDiff, Nat.reduceAdd, Nat.reduceMul, Nat.reduceLeDiff, Nat.reduceLT, Nat.reduceSub, ↓reduceIte, reduceCtorEq]; (try rfl)) ?_
         refine tr_region [4] rfl rfl fun K hK => ?_
         iterate 2 refine evR_p ?_
         refine evR_e hK ?_; clear hK K
         refine hK15 _ ?_
         refine tr_ret ?_
         (try simp only [thenE, inBlkE])
         simp (maxSteps := 4000000) (disch := first | assumption | omega | (simp only [go_sem, *]; done) | (simp only [go_sem, *]; omega)) only [postA, postO, resV1, fzAll, go_sem, hq, Int.reduceToNat, Nat.reduceBEq, Nat.reduceEqDiff, Nat.reduceAdd, Nat.reduceMul, Nat.reduceLeDiff, Nat.reduceLT, Nat.reduceSub, ↓reduceIte, reduceCtorEq]
         all_goals (first | (rw [bentW_6 (by rw [hq1]; assumption) (by omega), hj, show ((jn : Int) + 1).toNat = jn + 1 from by omega]; have e9 : l.set kn ⟨s.var, s.no, s.yes, s.ws⟩ = l := (by have := set_getD (l := l) (k := kn) (d := sg0); rw [hs] at this; exact this); rw [e9]; done) | (rw [bentW_n (by rw [hq1]; omega) (by omega), hkn, Int.toNat_natCast, hs, bentS, hq1]; repeat (first | rw [if_pos (by omega)] | rw [if_neg (by omega)]); try rfl))
       ·
        skip
        (first | (exfalso; omega) | (exfalso; simp_all; done) | skip)
        all_goals
         refine tr_seq fun K16 hK16 => ?_
         refine tr_region [3, 5, 6, 32, 64] rfl rfl fun K hK => ?_
         iterate 2 refine evR_p ?_
         refine evR_e hK ?_; clear hK K
         refine hK16 _ ?_
         refine tr_condB (fun ht5 => ?_) (fun ht5 => ?_)
         ·
          skip
          (first | (exfalso; omega) | (exfalso; simp_all; done) | skip)
          all_goals
           refine tr_seq fun K17 hK17 => ?_
           refine tr_region [3, 5, 6, 71] rfl rfl fun K hK => ?_
           iterate 6 refine evR_p ?_
           refine evR_e hK ?_; clear hK K
           refine hK17 _ ?_
           refine tr_condB (fun ht6 => ?_) (fun ht6 => ?_)
           ·
            skip
            (first | (exfalso; omega) | (exfalso; simp_all; done) | skip)
            all_goals
             refine tr_draw [] [5] mixed rfl (by kernel_rfl) rfl fun K hK => ?_
             iterate 6 refine evD_p ?_
             refine evD_c (hc := (k67 _ _ (by omega))) (k := ?_)
             iterate 3 refine evD_p ?_
             refine evD_e hK ?_; clear hK K
             refine hK8 _ ?_
             refine tr_seq fun K18 hK18 => ?_
             refine tr_fz [.own 4, .own 5] (by simp (maxSteps := 4000000) (disch := first | assumption | omega | (simp only [go_sem, *]; done) | (simp only [go_sem, *]; omega)) only [go_sem, hq, Int.reduceToNat, Nat.reduceBEq, Nat.reduceEqDiff, Nat.reduceAdd, Nat.reduceMul, Nat.reduceLeDiff, Nat.reduceLT, Nat.reduceSub, ↓reduceIte, reduceCtorEq]; (try rfl)) ?_
             refine tr_region [4] rfl rfl fun K hK => ?_
             iterate 2 refine evR_p ?_
             refine evR_e hK ?_; clear hK K
             refine hK18 _ ?_
             refine tr_ret ?_
             (try simp only [thenE, inBlkE])
             simp (maxSteps := 4000000) (disch := first | assumption | omega | (simp only [go_sem, *]; done) | (simp only [go_sem, *]; omega)) only [postA, postO, resV1, fzAll, go_sem, hq, Int.reduceToNat, Nat.reduceBEq, Nat.reduceEqDiff, Nat.reduceAdd, Nat.reduceMul, Nat.reduceLeDiff, Nat.reduceLT, Nat.reduceSub, ↓reduceIte, reduceCtorEq]
             all_goals (first | (rw [bentW_6 (by rw [hq1]; assumption) (by omega), hj, show ((jn : Int) + 1).toNat = jn + 1 from by omega]; have e9 : l.set kn ⟨s.var, s.no, s.yes, s.ws⟩ = l := (by have := set_getD (l := l) (k := kn) (d := sg0); rw [hs] at this; exact this); rw [e9]; done) | (rw [bentW_n (by rw [hq1]; omega) (by omega), hkn, Int.toNat_natCast, hs, bentS, hq1]; repeat (first | rw [if_pos (by omega)] | rw [if_neg (by omega)]); try rfl))
           ·
            skip
            (first | (exfalso; omega) | (exfalso; simp_all; done) | skip)
            all_goals
             refine tr_skip ?_
             (try simp only [thenE, inBlkE])
             refine hK8 _ ?_
             refine tr_seq fun K19 hK19 => ?_
             refine tr_fz [.own 4, .own 5] (by simp (maxSteps := 4000000) (disch := first | assumption | omega | (simp only [go_sem, *]; done) | (simp only [go_sem, *]; omega)) only [go_sem, hq, Int.reduceToNat, Nat.reduceBEq, Nat.reduceEqDiff, Nat.reduceAdd, Nat.reduceMul, Nat.reduceLeDiff, Nat.reduceLT, Nat.reduceSub, ↓reduceIte, reduceCtorEq]; (try rfl)) ?_
             refine tr_region [4] rfl rfl fun K hK => ?_
             iterate 2 refine evR_p ?_
             refine evR_e hK ?_; clear hK K
             refine hK19 _ ?_
             refine tr_ret ?_
             (try simp only [thenE, inBlkE])
             simp (maxSteps := 4000000) (disch := first | assumption | omega | (simp only [go_sem, *]; done) | (simp only [go_sem, *]; omega)) only [postA, postO, resV1, fzAll, go_sem, hq, Int.reduceToNat, Nat.reduceBEq, Nat.reduceEqDiff, Nat.reduceAdd, Nat.reduceMul, Nat.reduceLeDiff, Nat.reduceLT, Nat.reduceSub, ↓reduceIte, reduceCtorEq]
             all_goals (first | (rw [bentW_6 (by rw [hq1]; assumption) (by omega), hj, show ((jn : Int) + 1).toNat = jn + 1 from by omega]; have e9 : l.set kn ⟨s.var, s.no, s.yes, s.ws⟩ = l := (by have := set_getD (l := l) (k := kn) (d := sg0); rw [hs] at this; exact this); rw [e9]; done) | (rw [bentW_n (by rw [hq1]; omega) (by omega), hkn, Int.toNat_natCast, hs, bentS, hq1]; repeat (first | rw [if_pos (by omega)] | rw [if_neg (by omega)]); try rfl))
         ·
          skip
          (first | (exfalso; omega) | (exfalso; simp_all; done) | skip)
          all_goals
           refine tr_seq fun K20 hK20 => ?_
           refine tr_region [3, 5, 6, 32, 81] rfl rfl fun K hK => ?_
           iterate 2 refine evR_p ?_
           refine evR_e hK ?_; clear hK K
           refine hK20 _ ?_
           refine tr_condB (fun ht7 => ?_) (fun ht7 => ?_)
           ·
            skip
            (first | (exfalso; omega) | (exfalso; simp_all; done) | skip)
            all_goals
             refine tr_seq fun K21 hK21 => ?_
             refine tr_region [3, 5, 6, 88] rfl rfl fun K hK => ?_
             iterate 6 refine evR_p ?_
             refine evR_e hK ?_; clear hK K
             refine hK21 _ ?_
             refine tr_condB (fun ht8 => ?_) (fun ht8 => ?_)
             ·
              skip
              (first | (exfalso; omega) | (exfalso; simp_all; done) | skip)
              all_goals
               refine tr_draw [] [5] mixed rfl (by kernel_rfl) rfl fun K hK => ?_
               iterate 6 refine evD_p ?_
               refine evD_c (hc := (k67 _ _ (by omega))) (k := ?_)
               iterate 4 refine evD_p ?_
               refine evD_e hK ?_; clear hK K
               refine hK8 _ ?_
               refine tr_seq fun K22 hK22 => ?_
               refine tr_fz [.own 4, .own 5] (by simp (maxSteps := 4000000) (disch := first | assumption | omega | (simp only [go_sem, *]; done) | (simp only [go_sem, *]; omega)) only [go_sem, hq, Int.reduceToNat, Nat.reduceBEq, Nat.reduceEqDiff, Nat.reduceAdd, Nat.reduceMul, Nat.reduceLeDiff, Nat.reduceLT, Nat.reduceSub, ↓reduceIte, reduceCtorEq]; (try rfl)) ?_
               refine tr_region [4] rfl rfl fun K hK => ?_
               iterate 2 refine evR_p ?_
               refine evR_e hK ?_; clear hK K
               refine hK22 _ ?_
               refine tr_ret ?_
               (try simp only [thenE, inBlkE])
               simp (maxSteps := 4000000) (disch := first | assumption | omega | (simp only [go_sem, *]; done) | (simp only [go_sem, *]; omega)) only [postA, postO, resV1, fzAll, go_sem, hq, Int.reduceToNat, Nat.reduceBEq, Nat.reduceEqDiff, Nat.reduceAdd, Nat.reduceMul, Nat.reduceLeDiff, Nat.reduceLT, Nat.reduceSub, ↓reduceIte, reduceCtorEq]
               all_goals (first | (rw [bentW_6 (by rw [hq1]; assumption) (by omega), hj, show ((jn : Int) + 1).toNat = jn + 1 from by omega]; have e9 : l.set kn ⟨s.var, s.no, s.yes, s.ws⟩ = l := (by have := set_getD (l := l) (k := kn) (d := sg0); rw [hs] at this; exact this); rw [e9]; done) | (rw [bentW_n (by rw [hq1]; omega) (by omega), hkn, Int.toNat_natCast, hs, bentS, hq1]; repeat (first | rw [if_pos (by omega)] | rw [if_neg (by omega)]); try rfl))
             ·
              skip
              (first | (exfalso; omega) | (exfalso; simp_all; done) | skip)
              all_goals
               refine tr_skip ?_
               (try simp only [thenE, inBlkE])
               refine hK8 _ ?_
               refine tr_seq fun K23 hK23 => ?_
               refine tr_fz [.own 4, .own 5] (by simp (maxSteps := 4000000) (disch := first | assumption | omega | (simp only [go_sem, *]; done) | (simp only [go_sem, *]; omega)) only [go_sem, hq, Int.reduceToNat, Nat.reduceBEq, Nat.reduceEqDiff, Nat.reduceAdd, Nat.reduceMul, Nat.reduceLeDiff, Nat.reduceLT, Nat.reduceSub, ↓reduceIte, reduceCtorEq]; (try rfl)) ?_
               refine tr_region [4] rfl rfl fun K hK => ?_
               iterate 2 refine evR_p ?_
               refine evR_e hK ?_; clear hK K
               refine hK23 _ ?_
               refine tr_ret ?_
               (try simp only [thenE, inBlkE])
               simp (maxSteps := 4000000) (disch := first | assumption | omega | (simp only [go_sem, *]; done) | (simp only [go_sem, *]; omega)) only [postA, postO, resV1, fzAll, go_sem, hq, Int.reduceToNat, Nat.reduceBEq, Nat.reduceEqDiff, Nat.reduceAdd, Nat.reduceMul, Nat.reduceLeDiff, Nat.reduceLT, Nat.reduceSub, ↓reduceIte, reduceCtorEq]
               all_goals (first | (rw [bentW_6 (by rw [hq1]; assumption) (by omega), hj, show ((jn : Int) + 1).toNat = jn + 1 from by omega]; have e9 : l.set kn ⟨s.var, s.no, s.yes, s.ws⟩ = l := (by have := set_getD (l := l) (k := kn) (d := sg0); rw [hs] at this; exact this); rw [e9]; done) | (rw [bentW_n (by rw [hq1]; omega) (by omega), hkn, Int.toNat_natCast, hs, bentS, hq1]; repeat (first | rw [if_pos (by omega)] | rw [if_neg (by omega)]); try rfl))
           ·
            skip
            (first | (exfalso; omega) | (exfalso; simp_all; done) | skip)
            all_goals
             refine tr_seq fun K24 hK24 => ?_
             refine tr_region [3, 5, 6, 32, 99] rfl rfl fun K hK => ?_
             iterate 2 refine evR_p ?_
             refine evR_e hK ?_; clear hK K
             refine hK24 _ ?_
             refine tr_condB (fun ht9 => ?_) (fun ht9 => ?_)
             ·
              skip
              (first | (exfalso; omega) | (exfalso; simp_all; done) | skip)
              all_goals
               refine tr_draw [114] [5] mixed rfl (by kernel_rfl) rfl fun K hK => ?_
               iterate 7 refine evD_p ?_
               refine evD_c (hc := (k67 _ _ (by omega))) (k := ?_)
               iterate 2 refine evD_p ?_
               refine evD_c (hc := (k67 _ _ (by omega))) (k := ?_)
               iterate 2 refine evD_p ?_
               refine evD_bs ?_
               iterate 4 refine evD_p ?_
               refine evD_e hK ?_; clear hK K
               refine hK8 _ ?_
               refine tr_seq fun K25 hK25 => ?_
               refine tr_fz [.own 4, .own 5] (by simp (maxSteps := 4000000) (disch := first | assumption | omega | (simp only [go_sem, *]; done) | (simp only [go_sem, *]; omega)) only [go_sem, hq, Int.reduceToNat, Nat.reduceBEq, Nat.reduceEqDiff, Nat.reduceAdd, Nat.reduceMul, Nat.reduceLeDiff, Nat.reduceLT, Nat.reduceSub, ↓reduceIte, reduceCtorEq]; (try rfl)) ?_
               refine tr_region [4] rfl rfl fun K hK => ?_
               iterate 2 refine evR_p ?_
               refine evR_e hK ?_; clear hK K
               refine hK25 _ ?_
               refine tr_ret ?_
               (try simp only [thenE, inBlkE])
               simp (maxSteps := 4000000) (disch := first | assumption | omega | (simp only [go_sem, *]; done) | (simp only [go_sem, *]; omega)) only [postA, postO, resV1, fzAll, go_sem, hq, Int.reduceToNat, Nat.reduceBEq, Nat.reduceEqDiff, Nat.reduceAdd, Nat.reduceMul, Nat.reduceLeDiff, Nat.reduceLT, Nat.reduceSub, ↓reduceIte, reduceCtorEq]
               all_goals (first | (rw [bentW_6 (by rw [hq1]; assumption) (by omega), hj, show ((jn : Int) + 1).toNat = jn + 1 from by omega]; have e9 : l.set kn ⟨s.var, s.no, s.yes, s.ws⟩ = l := (by have := set_getD (l := l) (k := kn) (d := sg0); rw [hs] at this; exact this); rw [e9]; done) | (rw [bentW_n (by rw [hq1]; omega) (by omega), hkn, Int.toNat_natCast, hs, bentS, hq1]; repeat (first | rw [if_pos (by omega)] | rw [if_neg (by omega)]); try rfl))
             ·
              skip
              (first | (exfalso; omega) | (exfalso; simp_all; done) | skip)
              all_goals
               refine tr_seq fun K26 hK26 => ?_
               refine tr_region [3, 5, 6, 32, 118] rfl rfl fun K hK => ?_
               iterate 2 refine evR_p ?_
               refine evR_e hK ?_; clear hK K
               refine hK26 _ ?_
               refine tr_condB (fun ht10 => ?_) (fun ht10 => ?_)
               ·
                skip
                (first | (exfalso; omega) | (exfalso; simp_all; done) | skip)
                all_goals
                 refine tr_fz [.own 4, .own 2] (by simp (maxSteps := 4000000) (disch := first | assumption | omega | (simp only [go_sem, *]; done) | (simp only [go_sem, *]; omega)) only [go_sem, hq, Int.reduceToNat, Nat.reduceBEq, Nat.reduceEqDiff, Nat.reduceAdd, Nat.reduceMul, Nat.reduceLeDiff, Nat.reduceLT, Nat.reduceSub, ↓reduceIte, reduceCtorEq]; (try rfl)) ?_
                 refine tr_region [5] rfl rfl fun K hK => ?_
                 iterate 5 refine evR_p ?_
                 refine evR_c (hc := (k67 _ _ (by omega))) (k := ?_)
                 iterate 3 refine evR_p ?_
                 refine evR_e hK ?_; clear hK K
                 refine hK8 _ ?_
                 refine tr_seq fun K27 hK27 => ?_
                 refine tr_fz [.own 4, .own 5] (by simp (maxSteps := 4000000) (disch := first | assumption | omega | (simp only [go_sem, *]; done) | (simp only [go_sem, *]; omega)) only [go_sem, hq, Int.reduceToNat, Nat.reduceBEq, Nat.reduceEqDiff, Nat.reduceAdd, Nat.reduceMul, Nat.reduceLeDiff, Nat.reduceLT, Nat.reduceSub, ↓reduceIte, reduceCtorEq]; (try rfl)) ?_
                 refine tr_region [4] rfl rfl fun K hK => ?_
                 iterate 2 refine evR_p ?_
                 refine evR_e hK ?_; clear hK K
                 refine hK27 _ ?_
                 refine tr_ret ?_
                 (try simp only [thenE, inBlkE])
                 simp (maxSteps := 4000000) (disch := first | assumption | omega | (simp only [go_sem, *]; done) | (simp only [go_sem, *]; omega)) only [postA, postO, resV1, fzAll, go_sem, hq, Int.reduceToNat, Nat.reduceBEq, Nat.reduceEqDiff, Nat.reduceAdd, Nat.reduceMul, Nat.reduceLeDiff, Nat.reduceLT, Nat.reduceSub, ↓reduceIte, reduceCtorEq]
                 all_goals (first | (rw [bentW_6 (by rw [hq1]; assumption) (by omega), hj, show ((jn : Int) + 1).toNat = jn + 1 from by omega]; have e9 : l.set kn ⟨s.var, s.no, s.yes, s.ws⟩ = l := (by have := set_getD (l := l) (k := kn) (d := sg0); rw [hs] at this; exact this); rw [e9]; done) | (rw [bentW_n (by rw [hq1]; omega) (by omega), hkn, Int.toNat_natCast, hs, bentS, hq1]; repeat (first | rw [if_pos (by omega)] | rw [if_neg (by omega)]); try rfl))
               ·
                skip
                (first | (exfalso; omega) | (exfalso; simp_all; done) | skip)
                all_goals
                 refine tr_seq fun K28 hK28 => ?_
                 refine tr_region [5, 6, 128] rfl rfl fun K hK => ?_
                 iterate 2 refine evR_p ?_
                 refine evR_e hK ?_; clear hK K
                 refine hK28 _ ?_
                 refine tr_condB (fun ht11 => ?_) (fun ht11 => ?_)
                 ·
                  skip
                  (first | (exfalso; omega) | (exfalso; simp_all; done) | skip)
                  all_goals
                   refine tr_draw [] [5] mixed rfl (by kernel_rfl) rfl fun K hK => ?_
                   iterate 16 refine evD_p ?_
                   refine evD_e hK ?_; clear hK K
                   refine hK8 _ ?_
                   refine tr_seq fun K29 hK29 => ?_
                   refine tr_fz [.own 4, .own 5] (by simp (maxSteps := 4000000) (disch := first | assumption | omega | (simp only [go_sem, *]; done) | (simp only [go_sem, *]; omega)) only [go_sem, hq, Int.reduceToNat, Nat.reduceBEq, Nat.reduceEqDiff, Nat.reduceAdd, Nat.reduceMul, Nat.reduceLeDiff, Nat.reduceLT, Nat.reduceSub, ↓reduceIte, reduceCtorEq]; (try rfl)) ?_
                   refine tr_region [4] rfl rfl fun K hK => ?_
                   iterate 2 refine evR_p ?_
                   refine evR_e hK ?_; clear hK K
                   refine hK29 _ ?_
                   refine tr_ret ?_
                   (try simp only [thenE, inBlkE])
                   simp (maxSteps := 4000000) (disch := first | assumption | omega | (simp only [go_sem, *]; done) | (simp only [go_sem, *]; omega)) only [postA, postO, resV1, fzAll, go_sem, hq, Int.reduceToNat, Nat.reduceBEq, Nat.reduceEqDiff, Nat.reduceAdd, Nat.reduceMul, Nat.reduceLeDiff, Nat.reduceLT, Nat.reduceSub, ↓reduceIte, reduceCtorEq]
                   all_goals (first | (rw [bentW_6 (by rw [hq1]; assumption) (by omega), hj, show ((jn : Int) + 1).toNat = jn + 1 from by omega]; have e9 : l.set kn ⟨s.var, s.no, s.yes, s.ws⟩ = l := (by have := set_getD (l := l) (k := kn) (d := sg0); rw [hs] at this; exact this); rw [e9]; done) | (rw [bentW_n (by rw [hq1]; omega) (by omega), hkn, Int.toNat_natCast, hs, bentS, hq1]; repeat (first | rw [if_pos (by omega)] | rw [if_neg (by omega)]); try rfl))
                 ·
                  skip
                  (first | (exfalso; omega) | (exfalso; simp_all; done) | skip)
                  all_goals
                   refine tr_skip ?_
                   (try simp only [thenE, inBlkE])
                   refine hK8 _ ?_
                   refine tr_seq fun K30 hK30 => ?_
                   refine tr_fz [.own 4, .own 5] (by simp (maxSteps := 4000000) (disch := first | assumption | omega | (simp only [go_sem, *]; done) | (simp only [go_sem, *]; omega)) only [go_sem, hq, Int.reduceToNat, Nat.reduceBEq, Nat.reduceEqDiff, Nat.reduceAdd, Nat.reduceMul, Nat.reduceLeDiff, Nat.reduceLT, Nat.reduceSub, ↓reduceIte, reduceCtorEq]; (try rfl)) ?_
                   refine tr_region [4] rfl rfl fun K hK => ?_
                   iterate 2 refine evR_p ?_
                   refine evR_e hK ?_; clear hK K
                   refine hK30 _ ?_
                   refine tr_ret ?_
                   (try simp only [thenE, inBlkE])
                   simp (maxSteps := 4000000) (disch := first | assumption | omega | (simp only [go_sem, *]; done) | (simp only [go_sem, *]; omega)) only [postA, postO, resV1, fzAll, go_sem, hq, Int.reduceToNat, Nat.reduceBEq, Nat.reduceEqDiff, Nat.reduceAdd, Nat.reduceMul, Nat.reduceLeDiff, Nat.reduceLT, Nat.reduceSub, ↓reduceIte, reduceCtorEq]
                   all_goals (first | (rw [bentW_6 (by rw [hq1]; assumption) (by omega), hj, show ((jn : Int) + 1).toNat = jn + 1 from by omega]; have e9 : l.set kn ⟨s.var, s.no, s.yes, s.ws⟩ = l := (by have := set_getD (l := l) (k := kn) (d := sg0); rw [hs] at this; exact this); rw [e9]; done) | (rw [bentW_n (by rw [hq1]; omega) (by omega), hkn, Int.toNat_natCast, hs, bentS, hq1]; repeat (first | rw [if_pos (by omega)] | rw [if_neg (by omega)]); try rfl))
end

section
attribute [local go_sem] List.length_nil cellsI_length cellsI_sc List.replicate_zero List.nil_append
theorem k19z (z : List Int) (hz4 : z.length = 4) : CallsA Try.prog 19 [.sl 4 (encSgs []), .agg (cellsI z)] (.sl 4 (encSgs [])) := by
 have hq := hz4
 refine callsA_of_tr Try.func19 rfl (Nat.le_of_ble_eq_true rfl) ?_
 simp only [Try.results19, envOf, Nat.reduceAdd]
 refine tr_seq fun K1 hK1 => ?_
 refine tr_region [0, 3] rfl rfl fun K hK => ?_
 iterate 2 refine evR_p ?_
 refine evR_e hK ?_; clear hK K
 refine hK1 _ ?_
 refine tr_seq fun K2 hK2 => ?_
 refine tr_region [3, 5] rfl rfl fun K hK => ?_
 refine evR_bo ?_
 iterate 3 refine evR_p ?_
 refine evR_e hK ?_; clear hK K
 refine hK2 _ ?_
 refine tr_seq fun K3 hK3 => ?_
 refine tr_seq fun K4 hK4 => ?_
 refine tr_region [3, 5, 12] rfl rfl fun K hK => ?_
 iterate 3 refine evR_p ?_
 refine evR_e hK ?_; clear hK K
 refine hK4 _ ?_
 refine tr_condB (fun ht1 => ?_) (fun ht1 => ?_)
 ·
  skip
  (first | (exfalso; omega) | (exfalso; simp_all; done) | skip)
  all_goals
   refine tr_seq fun K5 hK5 => ?_
   refine tr_region [4] rfl rfl fun K hK => ?_
   iterate 2 refine evR_p ?_
   refine evR_e hK ?_; clear hK K
   refine hK5 _ ?_
   refine tr_ret ?_
   (try simp only [thenE, inBlkE])
   simp (maxSteps := 4000000) (disch := first | assumption | omega | (simp only [go_sem, *]; done) | (simp only [go_sem, *]; omega)) only [postA, postO, resV1, fzAll, go_sem, hq, Int.reduceToNat, Nat.reduceBEq, Nat.reduceEqDiff, Nat.reduceAdd, Nat.reduceMul, Nat.reduceLeDiff, Nat.reduceLT, Nat.reduceSub, ↓reduceIte, reduceCtorEq]
   all_goals (rfl)
 ·
  skip
  (first | (exfalso; omega) | (exfalso; simp_all; done) | skip)
  all_goals
   refine tr_skip ?_
   (try simp only [thenE, inBlkE])
   refine hK3 _ ?_
   refine tr_seq fun K6 hK6 => ?_
   refine tr_region [3, 5, 6] rfl rfl fun K hK => ?_
   iterate 5 refine evR_p ?_
   refine evR_c (hc := (k67 _ _ (by omega))) (k := ?_)
   iterate 2 refine evR_p ?_
   refine evR_e hK ?_; clear hK K
   refine hK6 _ ?_
   refine tr_seq fun K7 hK7 => ?_
   refine tr_region [3, 5, 6] rfl rfl fun K hK => ?_
   refine evR_p ?_
   refine evR_bo ?_
   iterate 8 refine evR_p ?_
   refine evR_e hK ?_; clear hK K
   refine hK7 _ ?_
   refine tr_seq fun K8 hK8 => ?_
   refine tr_seq fun K9 hK9 => ?_
   refine tr_region [3, 5, 6, 32] rfl rfl fun K hK => ?_
   iterate 2 refine evR_p ?_
   refine evR_c (hc := (k67 _ _ (by omega))) (k := ?_)
   refine evR_e hK ?_; clear hK K
   refine hK9 _ ?_
   refine tr_block ?_
   refine tr_seq fun K10 hK10 => ?_
   refine tr_region [3, 5, 6, 32, 33] rfl rfl fun K hK => ?_
   iterate 2 refine evR_p ?_
   refine evR_e hK ?_; clear hK K
   refine hK10 _ ?_
   refine tr_condB (fun ht2 => ?_) (fun ht2 => ?_)
   ·
    skip
    (first | (exfalso; omega) | (exfalso; simp_all; done) | skip)
    all_goals
     refine tr_region [5] rfl rfl fun K hK => ?_
     iterate 3 refine evR_p ?_
     refine evR_c (hc := (k67 _ _ (by omega))) (k := ?_)
     iterate 4 refine evR_p ?_
     refine evR_e hK ?_; clear hK K
     refine hK8 _ ?_
     refine tr_seq fun K11 hK11 => ?_
     refine tr_region [4] rfl rfl fun K hK => ?_
     iterate 2 refine evR_p ?_
     refine evR_e hK ?_; clear hK K
     refine hK11 _ ?_
     refine tr_ret ?_
     (try simp only [thenE, inBlkE])
     simp (maxSteps := 4000000) (disch := first | assumption | omega | (simp only [go_sem, *]; done) | (simp only [go_sem, *]; omega)) only [postA, postO, resV1, fzAll, go_sem, hq, Int.reduceToNat, Nat.reduceBEq, Nat.reduceEqDiff, Nat.reduceAdd, Nat.reduceMul, Nat.reduceLeDiff, Nat.reduceLT, Nat.reduceSub, ↓reduceIte, reduceCtorEq]
     all_goals (rfl)
   ·
    skip
    (first | (exfalso; omega) | (exfalso; simp_all; done) | skip)
    all_goals
     refine tr_seq fun K12 hK12 => ?_
     refine tr_region [3, 5, 6, 32, 42] rfl rfl fun K hK => ?_
     iterate 2 refine evR_p ?_
     refine evR_e hK ?_; clear hK K
     refine hK12 _ ?_
     refine tr_condB (fun ht3 => ?_) (fun ht3 => ?_)
     ·
      skip
      (first | (exfalso; omega) | (exfalso; simp_all; done) | skip)
      all_goals
       refine tr_region [5] rfl rfl fun K hK => ?_
       iterate 6 refine evR_p ?_
       refine evR_c (hc := (k67 _ _ (by omega))) (k := ?_)
       iterate 3 refine evR_p ?_
       refine evR_e hK ?_; clear hK K
       refine hK8 _ ?_
       refine tr_seq fun K13 hK13 => ?_
       refine tr_region [4] rfl rfl fun K hK => ?_
       iterate 2 refine evR_p ?_
       refine evR_e hK ?_; clear hK K
       refine hK13 _ ?_
       refine tr_ret ?_
       (try simp only [thenE, inBlkE])
       simp (maxSteps := 4000000) (disch := first | assumption | omega | (simp only [go_sem, *]; done) | (simp only [go_sem, *]; omega)) only [postA, postO, resV1, fzAll, go_sem, hq, Int.reduceToNat, Nat.reduceBEq, Nat.reduceEqDiff, Nat.reduceAdd, Nat.reduceMul, Nat.reduceLeDiff, Nat.reduceLT, Nat.reduceSub, ↓reduceIte, reduceCtorEq]
       all_goals (rfl)
     ·
      skip
      (first | (exfalso; omega) | (exfalso; simp_all; done) | skip)
      all_goals
       refine tr_seq fun K14 hK14 => ?_
       refine tr_region [3, 5, 6, 32, 53] rfl rfl fun K hK => ?_
       iterate 2 refine evR_p ?_
       refine evR_e hK ?_; clear hK K
       refine hK14 _ ?_
       refine tr_condB (fun ht4 => ?_) (fun ht4 => ?_)
       ·
        skip
        (first | (exfalso; omega) | (exfalso; simp_all; done) | skip)
        all_goals
         refine tr_region [5] rfl rfl fun K hK => ?_
         iterate 6 refine evR_p ?_
         refine evR_c (hc := (k67 _ _ (by omega))) (k := ?_)
         iterate 3 refine evR_p ?_
         refine evR_e hK ?_; clear hK K
         refine hK8 _ ?_
         refine tr_seq fun K15 hK15 => ?_
         refine tr_region [4] rfl rfl fun K hK => ?_
         iterate 2 refine evR_p ?_
         refine evR_e hK ?_; clear hK K
         refine hK15 _ ?_
         refine tr_ret ?_
         (try simp only [thenE, inBlkE])
         simp (maxSteps := 4000000) (disch := first | assumption | omega | (simp only [go_sem, *]; done) | (simp only [go_sem, *]; omega)) only [postA, postO, resV1, fzAll, go_sem, hq, Int.reduceToNat, Nat.reduceBEq, Nat.reduceEqDiff, Nat.reduceAdd, Nat.reduceMul, Nat.reduceLeDiff, Nat.reduceLT, Nat.reduceSub, ↓reduceIte, reduceCtorEq]
         all_goals (rfl)
       ·
        skip
        (first | (exfalso; omega) | (exfalso; simp_all; done) | skip)
        all_goals
         refine tr_seq fun K16 hK16 => ?_
         refine tr_region [3, 5, 6, 32, 64] rfl rfl fun K hK => ?_
         iterate 2 refine evR_p ?_
         refine evR_e hK ?_; clear hK K
         refine hK16 _ ?_
         refine tr_condB (fun ht5 => ?_) (fun ht5 => ?_)
         ·
          skip
          (first | (exfalso; omega) | (exfalso; simp_all; done) | skip)
          all_goals
           refine tr_seq fun K17 hK17 => ?_
           refine tr_region [3, 5, 6, 71] rfl rfl fun K hK => ?_
           iterate 6 refine evR_p ?_
           refine evR_e hK ?_; clear hK K
           refine hK17 _ ?_
           refine tr_condB (fun ht6 => ?_) (fun ht6 => ?_)
           ·
            skip
            (first | (exfalso; omega) | (exfalso; simp_all; done) | skip)
            all_goals
             refine tr_draw [] [5] mixed rfl (by kernel_rfl) rfl fun K hK => ?_
             iterate 6 refine evD_p ?_
             refine evD_c (hc := (k67 _ _ (by omega))) (k := ?_)
             iterate 3 refine evD_p ?_
             refine evD_e hK ?_; clear hK K
             refine hK8 _ ?_
             refine tr_seq fun K18 hK18 => ?_
             refine tr_region [4] rfl rfl fun K hK => ?_
             iterate 2 refine evR_p ?_
             refine evR_e hK ?_; clear hK K
             refine hK18 _ ?_
             refine tr_ret ?_
             (try simp only [thenE, inBlkE])
             simp (maxSteps := 4000000) (disch := first | assumption | omega | (simp only [go_sem, *]; done) | (simp only [go_sem, *]; omega)) only [postA, postO, resV1, fzAll, go_sem, hq, Int.reduceToNat, Nat.reduceBEq, Nat.reduceEqDiff, Nat.reduceAdd, Nat.reduceMul, Nat.reduceLeDiff, Nat.reduceLT, Nat.reduceSub, ↓reduceIte, reduceCtorEq]
             all_goals (rfl)
           ·
            skip
            (first | (exfalso; omega) | (exfalso; simp_all; done) | skip)
            all_goals
             refine tr_skip ?_
             (try simp only [thenE, inBlkE])
             refine hK8 _ ?_
             refine tr_seq fun K19 hK19 => ?_
             refine tr_region [4] rfl rfl fun K hK => ?_
             iterate 2 refine evR_p ?_
             refine evR_e hK ?_; clear hK K
             refine hK19 _ ?_
             refine tr_ret ?_
             (try simp only [thenE, inBlkE])
             simp (maxSteps := 4000000) (disch := first | assumption | omega | (simp only [go_sem, *]; done) | (simp only [go_sem, *]; omega)) only [postA, postO, resV1, fzAll, go_sem, hq, Int.reduceToNat, Nat.reduceBEq, Nat.reduceEqDiff, Nat.reduceAdd, Nat.reduceMul, Nat.reduceLeDiff, Nat.reduceLT, Nat.reduceSub, ↓reduceIte, reduceCtorEq]
             all_goals (rfl)
         ·
          skip
          (first | (exfalso; omega) | (exfalso; simp_all; done) | skip)
          all_goals
           refine tr_seq fun K20 hK20 => ?_
           refine tr_region [3, 5, 6, 32, 81] rfl rfl fun K hK => ?_
           iterate 2 refine evR_p ?_
           refine evR_e hK ?_; clear hK K
           refine hK20 _ ?_
           refine tr_condB (fun ht7 => ?_) (fun ht7 => ?_)
           ·
            skip
            (first | (exfalso; omega) | (exfalso; simp_all; done) | skip)
            all_goals
             refine tr_seq fun K21 hK21 => ?_
             refine tr_region [3, 5, 6, 88] rfl rfl fun K hK => ?_
             iterate 6 refine evR_p ?_
             refine evR_e hK ?_; clear hK K
             refine hK21 _ ?_
             refine tr_condB (fun ht8 => ?_) (fun ht8 => ?_)
             ·
              skip
              (first | (exfalso; omega) | (exfalso; simp_all; done) | skip)
              all_goals
               refine tr_draw [] [5] mixed rfl (by kernel_rfl) rfl fun K hK => ?_
               iterate 6 refine evD_p ?_
               refine evD_c (hc := (k67 _ _ (by omega))) (k := ?_)
               iterate 4 refine evD_p ?_
               refine evD_e hK ?_; clear hK K
               refine hK8 _ ?_
               refine tr_seq fun K22 hK22 => ?_
               refine tr_region [4] rfl rfl fun K hK => ?_
               iterate 2 refine evR_p ?_
               refine evR_e hK ?_; clear hK K
               refine hK22 _ ?_
               refine tr_ret ?_
               (try simp only [thenE, inBlkE])
               simp (maxSteps := 4000000) (disch := first | assumption | omega | (simp only [go_sem, *]; done) | (simp only [go_sem, *]; omega)) only [postA, postO, resV1, fzAll, go_sem, hq, Int.reduceToNat, Nat.reduceBEq, Nat.reduceEqDiff, Nat.reduceAdd, Nat.reduceMul, Nat.reduceLeDiff, Nat.reduceLT, Nat.reduceSub, ↓reduceIte, reduceCtorEq]
               all_goals (rfl)
             ·
              skip
              (first | (exfalso; omega) | (exfalso; simp_all; done) | skip)
              all_goals
               refine tr_skip ?_
               (try simp only [thenE, inBlkE])
               refine hK8 _ ?_
               refine tr_seq fun K23 hK23 => ?_
               refine tr_region [4] rfl rfl fun K hK => ?_
               iterate 2 refine evR_p ?_
               refine evR_e hK ?_; clear hK K
               refine hK23 _ ?_
               refine tr_ret ?_
               (try simp only [thenE, inBlkE])
               simp (maxSteps := 4000000) (disch := first | assumption | omega | (simp only [go_sem, *]; done) | (simp only [go_sem, *]; omega)) only [postA, postO, resV1, fzAll, go_sem, hq, Int.reduceToNat, Nat.reduceBEq, Nat.reduceEqDiff, Nat.reduceAdd, Nat.reduceMul, Nat.reduceLeDiff, Nat.reduceLT, Nat.reduceSub, ↓reduceIte, reduceCtorEq]
               all_goals (rfl)
           ·
            skip
            (first | (exfalso; omega) | (exfalso; simp_all; done) | skip)
            all_goals
             refine tr_seq fun K24 hK24 => ?_
             refine tr_region [3, 5, 6, 32, 99] rfl rfl fun K hK => ?_
             iterate 2 refine evR_p ?_
             refine evR_e hK ?_; clear hK K
             refine hK24 _ ?_
             refine tr_condB (fun ht9 => ?_) (fun ht9 => ?_)
             ·
              skip
              (first | (exfalso; omega) | (exfalso; simp_all; done) | skip)
              all_goals
               refine tr_draw [114] [5] mixed rfl (by kernel_rfl) rfl fun K hK => ?_
               iterate 7 refine evD_p ?_
               refine evD_c (hc := (k67 _ _ (by omega))) (k := ?_)
               iterate 2 refine evD_p ?_
               refine evD_c (hc := (k67 _ _ (by omega))) (k := ?_)
               iterate 2 refine evD_p ?_
               refine evD_bs ?_
               iterate 4 refine evD_p ?_
               refine evD_e hK ?_; clear hK K
               refine hK8 _ ?_
               refine tr_seq fun K25 hK25 => ?_
               refine tr_region [4] rfl rfl fun K hK => ?_
               iterate 2 refine evR_p ?_
               refine evR_e hK ?_; clear hK K
               refine hK25 _ ?_
               refine tr_ret ?_
               (try simp only [thenE, inBlkE])
               simp (maxSteps := 4000000) (disch := first | assumption | omega | (simp only [go_sem, *]; done) | (simp only [go_sem, *]; omega)) only [postA, postO, resV1, fzAll, go_sem, hq, Int.reduceToNat, Nat.reduceBEq, Nat.reduceEqDiff, Nat.reduceAdd, Nat.reduceMul, Nat.reduceLeDiff, Nat.reduceLT, Nat.reduceSub, ↓reduceIte, reduceCtorEq]
               all_goals (rfl)
             ·
              skip
              (first | (exfalso; omega) | (exfalso; simp_all; done) | skip)
              all_goals
               refine tr_seq fun K26 hK26 => ?_
               refine tr_region [3, 5, 6, 32, 118] rfl rfl fun K hK => ?_
               iterate 2 refine evR_p ?_
               refine evR_e hK ?_; clear hK K
               refine hK26 _ ?_
               refine tr_condB (fun ht10 => ?_) (fun ht10 => ?_)
               ·
                skip
                (first | (exfalso; omega) | (exfalso; simp_all; done) | skip)
                all_goals
                 refine tr_region [5] rfl rfl fun K hK => ?_
                 iterate 5 refine evR_p ?_
                 refine evR_c (hc := (k67 _ _ (by omega))) (k := ?_)
                 iterate 3 refine evR_p ?_
                 refine evR_e hK ?_; clear hK K
                 refine hK8 _ ?_
                 refine tr_seq fun K27 hK27 => ?_
                 refine tr_region [4] rfl rfl fun K hK => ?_
                 iterate 2 refine evR_p ?_
                 refine evR_e hK ?_; clear hK K
                 refine hK27 _ ?_
                 refine tr_ret ?_
                 (try simp only [thenE, inBlkE])
                 simp (maxSteps := 4000000) (disch := first | assumption | omega | (simp only [go_sem, *]; done) | (simp only [go_sem, *]; omega)) only [postA, postO, resV1, fzAll, go_sem, hq, Int.reduceToNat, Nat.reduceBEq, Nat.reduceEqDiff, Nat.reduceAdd, Nat.reduceMul, Nat.reduceLeDiff, Nat.reduceLT, Nat.reduceSub, ↓reduceIte, reduceCtorEq]
                 all_goals (rfl)
               ·
                skip
                (first | (exfalso; omega) | (exfalso; simp_all; done) | skip)
                all_goals
                 refine tr_seq fun K28 hK28 => ?_
                 refine tr_region [5, 6, 128] rfl rfl fun K hK => ?_
                 iterate 2 refine evR_p ?_
                 refine evR_e hK ?_; clear hK K
                 refine hK28 _ ?_
                 refine tr_condB (fun ht11 => ?_) (fun ht11 => ?_)
                 ·
                  skip
                  (first | (exfalso; omega) | (exfalso; simp_all; done) | skip)
                  all_goals
                   refine tr_draw [] [5] mixed rfl (by kernel_rfl) rfl fun K hK => ?_
                   iterate 16 refine evD_p ?_
                   refine evD_e hK ?_; clear hK K
                   refine hK8 _ ?_
                   refine tr_seq fun K29 hK29 => ?_
                   refine tr_region [4] rfl rfl fun K hK => ?_
                   iterate 2 refine evR_p ?_
                   refine evR_e hK ?_; clear hK K
                   refine hK29 _ ?_
                   refine tr_ret ?_
                   (try simp only [thenE, inBlkE])
                   simp (maxSteps := 4000000) (disch := first | assumption | omega | (simp only [go_sem, *]; done) | (simp only [go_sem, *]; omega)) only [postA, postO, resV1, fzAll, go_sem, hq, Int.reduceToNat, Nat.reduceBEq, Nat.reduceEqDiff, Nat.reduceAdd, Nat.reduceMul, Nat.reduceLeDiff, Nat.reduceLT, Nat.reduceSub, ↓reduceIte, reduceCtorEq]
                   all_goals (rfl)
                 ·
                  skip
                  (first | (exfalso; omega) | (exfalso; simp_all; done) | skip)
                  all_goals
                   refine tr_skip ?_
                   (try simp only [thenE, inBlkE])
                   refine hK8 _ ?_
                   refine tr_seq fun K30 hK30 => ?_
                   refine tr_region [4] rfl rfl fun K hK => ?_
                   iterate 2 refine evR_p ?_
                   refine evR_e hK ?_; clear hK K
                   refine hK30 _ ?_
                   refine tr_ret ?_
                   (try simp only [thenE, inBlkE])
                   simp (maxSteps := 4000000) (disch := first | assumption | omega | (simp only [go_sem, *]; done) | (simp only [go_sem, *]; omega)) only [postA, postO, resV1, fzAll, go_sem, hq, Int.reduceToNat, Nat.reduceBEq, Nat.reduceEqDiff, Nat.reduceAdd, Nat.reduceMul, Nat.reduceLeDiff, Nat.reduceLT, Nat.reduceSub, ↓reduceIte, reduceCtorEq]
                   all_goals (rfl)
end
theorem k19 (l : List Sg) (hll : l.length ≤ 100000) (hws : ∀ s ∈ l, s.ws.length ≤ 100000) (z : List Int) (hz4 : z.length = 4) (hz : ∀ x ∈ z, okI x) : CallsA Try.prog 19 [.sl 4 (encSgs l), .agg (cellsI z)] (.sl 4 (encSgs (bentW l z))) := by
 by_cases h : l.length = 0
 ·
  have e : l = [] := List.eq_nil_of_length_eq_zero h
  subst e
  exact k19z z hz4
 ·
  exact k19n l (by omega) hll hws z hz4 hz

end Go.Proofs.Ytfamkbofdamkkaa
namespace Go.Proofs.Ytfamkbofdamkkaa
open Go.ChangeShapes Go.WideShapes Go.ChangeAt Go.RowKit
theorem Try.own : ownKnob Try.prog.godebug = none := by kernel_rfl
theorem Try.laidOut : laidOutB Try.prog = true := by kernel_rfl
section
variable {H : Type} {enc : TypeId × Value → H} {w : World}
theorem okI_of_wf {n : Int} (h : (Lit.int .i64 n).wf = true) : okI n := by
  simp [Lit.wf, IntKind.min, IntKind.max, IntKind.signed, IntKind.bits] at h
  unfold okI; omega
theorem dec3 : Dec enc Try.prog w 65 (fun t : T3 => [V.int .i64 t.p, V.int .i64 t.q, V.int .i64 t.r]) okT :=
  (dec_array (n := 3) (sz := 1) Try.underlying65 (by kernel_rfl) (by kernel_rfl) (dec_int Try.underlying3)).turn (fun xs => ⟨xs.getD 0 0, xs.getD 1 0, xs.getD 2 0⟩) fun xs h => by
    obtain ⟨h1, h2⟩ := h
    match xs, h1 with
    | [x, y, z], _ => exact ⟨rfl, okI_of_wf (h2 x (by simp)), okI_of_wf (h2 y (by simp)), okI_of_wf (h2 z (by simp))⟩
def okG (n : Nat) (a : List Int) : Prop := a.length = n ∧ ∀ c ∈ a, okI c
theorem decG {t : TypeId} {n : Nat} (ht : Try.prog.underlying t = some (.array n 3)) (h1 : Try.prog.cellsOf 3 = 1) (h2 : Try.prog.cellsOf t = n * 1) : Dec enc Try.prog w t (fun a : List Int => cellsI a) (okG n) :=
  (dec_array (n := n) (sz := 1) ht h1 h2 (dec_int Try.underlying3)).turn (fun xs => xs) fun xs h => ⟨by show xs.map (V.int .i64) = _; exact List.map_eq_flatMap, h.1, fun c hc => okI_of_wf (h.2 c hc)⟩
theorem dec8 : Dec enc Try.prog w 23 (fun a : List Int => cellsI a) (okG 8) := decG Try.underlying23 (by kernel_rfl) (by kernel_rfl)
end
set_option linter.unusedVariables false
set_option linter.unusedSimpArgs false
section
variable {H : Type} {enc : TypeId × Value → H} {P : Program} {w : World}

/-- The fields of a struct of n cells from the cell 'off' on. -/
def DecFs (enc : TypeId × Value → H) (P : Program) (w : World) {α : Type} (n off : Nat) (fs : List Field) (ec : α → List V) (Q : α → Prop) : Prop :=
  ∀ (fuel : Nat) (cs : List Value), cs.length = n → (∀ f ∈ fs, ∃ x, DataW.trod enc P w 0 (fun _ => true) true fuel f.type ((cs.drop f.offset).take (P.cellsOf f.type)) = some x) → ∃ a, Q a ∧ Rd w (cs.drop off) (ec a)

theorem decFs_nil {n : Nat} : DecFs enc P w n n [] (fun _ : Unit => []) fun _ => True := by
  intro fuel cs hl _
  exact ⟨(), trivial, by rw [List.drop_eq_nil_of_le (by omega)]; exact Rd.nil⟩
theorem decFs_cons {α β : Type} {n off : Nat} {f : Field} {fs : List Field} {m : Nat} {ea : α → List V} {eb : β → List V} {Qa : α → Prop} {Qb : β → Prop}
    (ho : f.offset = off) (hm : P.cellsOf f.type = m) (ha : Dec enc P w f.type ea Qa) (hb : DecFs enc P w n (off + m) fs eb Qb) :
    DecFs enc P w n off (f :: fs) (fun p : α × β => ea p.1 ++ eb p.2) fun p => Qa p.1 ∧ Qb p.2 := by
  intro fuel cs hl h
  obtain ⟨x, hx⟩ := h f (by simp)
  obtain ⟨a, qa, ra⟩ := ha _ _ _ hx
  obtain ⟨b, qb, rb⟩ := hb fuel cs hl fun g hg => h g (List.mem_cons_of_mem _ hg)
  refine ⟨(a, b), ⟨qa, qb⟩, ?_⟩
  have := ra.append rb
  rw [ho, hm] at this
  have e : List.take m (List.drop off cs) ++ List.drop (off + m) cs = List.drop off cs := by
    rw [← List.drop_drop, List.take_append_drop]
  rw [e] at this
  exact this
theorem dec_struct {α : Type} {t : TypeId} {fs : Array Field} {n : Nat} {ec : α → List V} {Q : α → Prop} (ht : P.underlying t = some (.struct fs)) (hn : P.cellsOf t = n) (h : DecFs enc P w n 0 fs.toList ec Q) : Dec enc P w t ec Q := by
  intro fuel cs x hx
  obtain ⟨xs, k, rfl, rfl, hl, hxl, hi⟩ := DataW.trod_struct ht hx
  obtain ⟨a, qa, ra⟩ := h k cs (by rw [hl, hn]) fun f hf => by
    obtain ⟨i, hil, rfl⟩ := List.mem_iff_getElem.1 hf
    have hil' : i < fs.size := by simpa using hil
    have := hi i fs[i] (by simp [hil'])
    rw [List.getElem?_eq_getElem (by omega)] at this
    exact ⟨_, by simpa using this⟩
  exact ⟨a, qa, by simpa using ra⟩

theorem rel_row {α : Type} {e : TypeId} {sz n : Nat} {ec : α → List V} {Q : α → Prop} (hs : P.cellsOf e = sz) (hd : Dec enc P w e ec Q) {b off len cap : Nat} (hl : len ≤ cap) (hm : cap ≤ maxLen)
    (hel : ∀ i, i < len → ∃ cs' x, w.cells? 0 ((⟨b, off, none⟩ : Addr).add (i * P.cellsOf e)) (P.cellsOf e) = some cs' ∧ DataW.trod enc P w 0 (fun _ => true) true n e cs' = some x) :
    ∃ asx : List α, (∀ a ∈ asx, Q a) ∧ asx.length = len ∧ Rel w (fun _ => False) (fun _ => 0) (fun _ => undef) 0 true (.sl sz (asx.map ec)) (.slice (some ⟨b, off, none⟩) len cap) := by
  obtain ⟨asx, k1, k2, k3⟩ := hd.choose (fun i => ((w.cells? 0 ((⟨b, off, none⟩ : Addr).add (i * P.cellsOf e)) (P.cellsOf e)).getD [])) len fun i hi => by
    obtain ⟨cs', x, q1, q2⟩ := hel i hi
    rw [q1]; exact ⟨_, _, q2⟩
  refine ⟨asx, k2, k1, ?_⟩
  have rows : ∀ i (hi : i < asx.length), ((asx.map ec).getD i []) = ec asx[i] := fun i hi => by simp [List.getD, hi]
  have key : ∀ i (hi : i < asx.length), ∃ cs', Rd w cs' (ec asx[i]) ∧ cs'.length = sz ∧ ∀ j, j < sz → w.cell? ⟨b, off + (i * sz + j), none⟩ = some (cs'.getD j undef) := fun i hi => by
    obtain ⟨cs', x, q1, q2⟩ := hel i (by omega)
    have := k3 i hi
    simp only [q1, Option.getD_some] at this
    obtain ⟨hl', hc'⟩ := cells_get q1
    rw [hs] at hl' hc'
    refine ⟨cs', this, hl', fun j hj => ?_⟩
    rw [← hc' j hj]
    congr 1
    unfold Addr.add
    by_cases hi0 : i * sz = 0
    · by_cases hj0 : j = 0 <;> simp [hi0, hj0]
    · by_cases hj0 : j = 0 <;> simp [hi0, hj0, Nat.add_assoc]
  refine .sl true sz (asx.map ec) b off len cap (fun i j => ((w.cell? ⟨b, off + (i * sz + j), none⟩).getD undef)) (by simp [k1]) hl hm ?_ ?_ ?_ ?_
  · intro i hi
    have hi' : i < asx.length := by simpa using hi
    obtain ⟨cs', q1, q2, q3⟩ := key i hi'
    rw [rows i hi', q1.1, q2]
  · intro i j hi hj
    have hi' : i < asx.length := by simpa using hi
    obtain ⟨cs', q1, q2, q3⟩ := key i hi'
    rw [rows i hi']
    exact (q1.2 j (by rw [q1.1]; omega)).1
  · intro i j hi hj
    have hi' : i < asx.length := by simpa using hi
    obtain ⟨cs', q1, q2, q3⟩ := key i hi'
    simp only [q3 j hj, Option.getD_some]
    exact ⟨trivial, id⟩
  · intro i j hi hj
    have hi' : i < asx.length := by simpa using hi
    obtain ⟨cs', q1, q2, q3⟩ := key i hi'
    rw [rows i hi']
    simp only [q3 j hj, Option.getD_some]
    exact (q1.2 j (by rw [q1.1]; omega)).2

/-- A slice within. -/
theorem dec_slice {α : Type} {t e : TypeId} {sz : Nat} {ec : α → List V} {Q : α → Prop} (ht : P.underlying t = some (.slice e)) (hs : P.cellsOf e = sz) (hz : 0 < sz) (hd : Dec enc P w e ec Q) :
    Dec enc P w t (fun asx : List α => [.sl sz (asx.map ec)]) fun asx => asx.length ≤ maxLen ∧ ∀ a ∈ asx, Q a := by
  intro fuel cs x hf
  rcases Deep.open_slice ht hf with ⟨rfl, -⟩ | ⟨a, len, cap, m, n, D, Pl, rfl, -, hl, hm, hme, -, hel⟩
  · exact ⟨[], ⟨by simp, fun a ha => by simp at ha⟩, Rd.one rfl (.slnil _ _ _)⟩
  · simp only [if_true] at hme
    subst hme
    by_cases hc : m = 0
    · have : len = 0 := by omega
      subst hc; subst this
      exact ⟨[], ⟨by simp, fun a ha => by simp at ha⟩, Rd.one rfl (.slnil _ _ _)⟩
    · have hsp : a.spot = none := by
        obtain ⟨cs', q1, -⟩ := hel 0 (by omega)
        obtain ⟨-, hc'⟩ := cells_get q1
        have := hc' 0 (by omega)
        simp only [Nat.zero_mul, Addr.add, if_true] at this
        unfold World.cell? at this
        split at this
        · split at this
          · cases this
          · simpa using ‹¬ a.spot.isSome = true›
        · cases this
      obtain ⟨b, off, spot⟩ := a
      simp only at hsp
      subst hsp
      obtain ⟨asx, q, e1, hr⟩ := rel_row hs hd hl hm fun i hi => by
        obtain ⟨cs', q1, q2⟩ := hel i (by omega)
        exact ⟨cs', _, q1, q2⟩
      exact ⟨asx, ⟨by omega, q⟩, Rd.one rfl hr⟩
end
end Go.Proofs.Ytfamkbofdamkkaa
namespace Go.Proofs.Ytfamkbofdamkkaa
open Go.ChangeShapes Go.WideShapes Go.ChangeAt Go.RowKit
section
variable {H : Type} {enc : TypeId × Value → H} {w : World}
theorem dec4 : Dec enc Try.prog w 28 (fun a : List Int => cellsI a) (okG 4) := decG Try.underlying28 (by kernel_rfl) (by kernel_rfl)
theorem decWt : Dec enc Try.prog w 56 encW fun _ => True :=
  (dec_struct (n := 2) Try.underlying56 (by kernel_rfl)
    (decFs_cons (m := 1) rfl (by kernel_rfl) (dec_int Try.underlying3) (decFs_cons (m := 1) rfl (by kernel_rfl) (dec_int Try.underlying3) decFs_nil))).turn
    (fun x => ⟨x.1, x.2.1⟩) fun x h => ⟨rfl, trivial⟩
theorem decSg : Dec enc Try.prog w 54 encSg fun s => s.ws.length ≤ maxLen :=
  (dec_struct (n := 4) Try.underlying54 (by kernel_rfl)
    (decFs_cons (m := 1) rfl (by kernel_rfl) (dec_int Try.underlying3) (decFs_cons (m := 1) rfl (by kernel_rfl) (dec_int Try.underlying3) (decFs_cons (m := 1) rfl (by kernel_rfl) (dec_int Try.underlying3)
      (decFs_cons (m := 1) rfl (by kernel_rfl) (dec_slice (sz := 2) Try.underlying52 (by kernel_rfl) (by decide) decWt) decFs_nil))))).turn
    (fun x => ⟨x.1, x.2.1, x.2.2.1, x.2.2.2.1⟩) fun x h => ⟨rfl, h.2.2.2.1.1⟩
/-- Two lists of four numbers. -/
theorem dec24 : Dec enc Try.prog w 29 (fun z : List Int × List Int => cellsI z.1 ++ cellsI z.2) (fun z => okG 4 z.1 ∧ okG 4 z.2) :=
  (dec_array (n := 2) (sz := 4) Try.underlying29 (by kernel_rfl) (by kernel_rfl) dec4).turn (fun xs => (xs.getD 0 [], xs.getD 1 [])) fun xs h => by
    obtain ⟨h1, h2⟩ := h
    match xs, h1 with
    | [x, y], _ => exact ⟨by simp, h2 x (by simp), h2 y (by simp)⟩
end
end Go.Proofs.Ytfamkbofdamkkaa
namespace Go.Proofs.Ytfamkbofdamkkaa
open Go.RowKit
set_option linter.unusedVariables false
set_option linter.unusedSimpArgs false
set_option maxRecDepth 100000
attribute [local go_sem] Nat.zero_add Nat.add_zero Nat.mul_one eq_self ne_eq not_true_eq_false not_false_eq_true decide_true decide_false decide_not Bool.false_eq_true List.filter_cons List.filter_nil true_and and_true beq_false beq_true Bool.not_true Bool.not_false Bool.and_true Bool.true_and Option.getD_some Option.getD_none imp_self implies_true Int.toNat_natCast List.cons_append List.nil_append List.map_cons List.map_nil List.length_cons List.length_nil List.getD_cons_zero List.getD_cons_succ List.drop_zero List.drop_succ_cons List.take_succ_cons List.take_zero
attribute [local go_sem] shL isSh Option.isNone_none Option.isNone_some Option.isSome_none lowN lowQ lowM isAl appOwn unw appF isE isO stpO notIn St.bare evO evDO isEff stp St.get St.slot St.put List.lookup un unL ofVal gof nth pickV pkB_false pkB_true binV unV loadV idxV fldV partV buildV fillV lenV sliV appV appR rowsV winV V.parts V.okp V.sc Mem.look_cons Mem.look_nil V.cl V.clL AObj.clo fzAll exps St.fz Mem.fz V.fz V.fzL AObj.fz Option.isSome_some Option.isSome_none Bool.or_true Bool.true_or Bool.or_false Bool.false_or false_and and_false false_or or_false arT_22 arT_23 arT_25 arT_24 arT_40 arT_30  arT_65 arT_28 arT_90  arT_52 boolT_25 boolT_3 boolT_35 boolT_4  flatT_25 flatT_3 flatT_35 flatT_4  intT_3 intT_133 lay_23 lay_25 lay_67 lay_24 lay_27 lay_3 lay_49 lay_30 lay_34 lay_4 lay_65 lay_52 lay_54 lay_56 lay_141 lay_164  okF_17 okF_31  okF_36 okF_18 okF_34 okF_63  okF_28 okF_50 okF_69 okF_51  okF_35       okF_37   okF_71  okF_65  okF_62 okF_77 okF_79  okF_80 okF_81 okF_64 okF_66 okF_76 okF_113 okF_96 okF_97 okF_98 okF_82  okF_99 okF_119 okF_120 okF_78 okF_100 okF_101 okF_83 okF_84 okF_125 okF_126  okF_127 okF_128 okF_129 okF_130 okF_114 okF_124 okF_140 okF_141 okF_142 okF_143  okF_131 okF_132 okF_144 okF_158 okF_155 okF_159   plT_67 plT_27 plT_34 plT_54 plT_56 slT_22 slT_23 slT_25 slT_24 slT_40 slT_30  slT_65 slT_28 slT_90  slT_52  stT_67_1   stT_67_4 stT_67_5 stT_27_0 stT_27_1 stT_27_2 stT_34_0 stT_34_1 stT_34_2 stT_34_3 stT_54_0 stT_54_1 stT_54_2 stT_54_3 stT_56_0 stT_56_1  zeroT_67 zeroT_27 zeroT_3 zeroT_49 zeroT_30 zeroT_34 zeroT_65  zeroT_54 zeroT_56
attribute [local go_sem] List.getElem?_cons_zero List.getElem?_cons_succ List.zip_cons_cons List.zip_nil_left List.zip_nil_right Bool.false_and Bool.and_false List.length_append List.length_set List.length_replicate List.all_cons List.all_nil encI_length encI_getD encR_length encR_getD encRw encPg spl shp AObj.shp rowM isSt isRpS isRd csh AObj.csh forall_const imp_self
attribute [local simp] encI_length encR_length
section
attribute [local go_sem] encT_length encT_getD cellsI_length cellsI_getD cellsI_sc cellsI_cl cellsI_dropD encR_one List.length_drop
set_option maxHeartbeats 8000000 in
theorem c11 (v : Int) (x : List T3) (g : List Int) (hv : okI v) (hx : x.length ≤ maxLen) (hg : g.length = 8) : CallsA Try.prog 17 [.int .i64 v, .sl 3 (encT x), .agg (cellsI g)] (.agg (encPg (madeW v x g))) := by
 have r1 := pickW_range v (n := 9) (by omega) (by omega) hv
 have hx0 := hx
 unfold maxLen at hx0
 obtain ⟨n, hn⟩ := Int.eq_ofNat_of_zero_le r1.1
 have hn9 : n < 9 := by omega
 have hq := And.intro hn (hg)
 refine callsA_of_tr Try.func17 rfl (Nat.le_of_ble_eq_true rfl) ?_
 simp only [Try.results17, envOf, Nat.reduceAdd]
 refine tr_seq fun K1 hK1 => ?_
 refine tr_region [0, 1, 5, 6] rfl rfl fun K hK => ?_
 iterate 2 refine evR_p ?_
 refine evR_e hK ?_; clear hK K
 refine hK1 _ ?_
 refine tr_seq fun K2 hK2 => ?_
 refine tr_fz [.ptr 0 0] (by simp (maxSteps := 4000000) (disch := first | assumption | omega | (simp only [go_sem, *]; done) | (simp only [go_sem, *]; omega)) only [go_sem, hq, Int.reduceToNat, Nat.reduceBEq, Nat.reduceEqDiff, Nat.reduceAdd, Nat.reduceMul, Nat.reduceLeDiff, Nat.reduceLT, Nat.reduceSub, ↓reduceIte, reduceCtorEq]; (try rfl)) ?_
 refine tr_region [1, 5, 6, 7] rfl rfl fun K hK => ?_
 refine evR_p ?_
 refine evR_c (hc := (c37 _ _ (by decide))) (k := ?_)
 iterate 3 refine evR_p ?_
 refine evR_e hK ?_; clear hK K
 refine hK2 _ ?_
 refine tr_seq fun K3 hK3 => ?_
 refine tr_seq fun K4 hK4 => ?_
 refine tr_region [1, 5, 6, 7, 8] rfl rfl fun K hK => ?_
 refine evR_p ?_
 refine evR_e hK ?_; clear hK K
 refine hK4 _ ?_
 refine tr_block ?_
 -- loop 1: live [1, 5, 6, 7, 8]
 refine tr_loopW (fun m σ => ∃ i : Nat, i + m = n ∧ σ = ⟨[(1, .sl 3 (encT x)), (5, .ep (cellsI g)), (6, .ptr 1 0), (7, .ptr 2 0), (8, .int .i64 (i : Nat))], [(4, .row 3 1 (encI (gainM g i))), (3, .row 67 6 (encR [])), (2, .cells [.int .i64 (n : Nat), .own 3, .own 4]), (1, .cells [.int .i64 0, .nsl, .nsl])], 5⟩) (n) ?_ ?_
 ·
  exact ⟨_, Wk.trans (Wk.nilown 67 6 2 1 rfl (Nat.le_of_ble_eq_true rfl) rfl) (Wk.nilown 3 1 2 2 rfl (Nat.le_of_ble_eq_true rfl) rfl), 0, by omega, rfl⟩
 ·
  rintro m σ ⟨i, hi, rfl⟩ KL1 hKL1
  refine tr_seq fun K5 hK5 => ?_
  refine tr_seq fun K6 hK6 => ?_
  refine tr_region [1, 5, 6, 7, 8, 18] rfl rfl fun K hK => ?_
  iterate 4 refine evR_p ?_
  refine evR_e hK ?_; clear hK K
  refine hK6 _ ?_
  refine tr_condB (fun ht1 => ?_) (fun ht1 => ?_)
  ·
   skip
   have hil : i < n := by omega
   have hi8 : i < 8 := by omega
   have hgl := gainM_length g i
   replace hq := And.intro hq (And.intro hil (And.intro hi8 (hgl)))
   refine tr_skip ?_
   (try simp only [thenE, inBlkE])
   refine hK5 _ ?_
   refine tr_seq fun K7 hK7 => ?_
   refine tr_block ?_
   refine tr_draw [28] [1, 5, 6, 7, 8] mixed rfl (by kernel_rfl) rfl fun K hK => ?_
   iterate 5 refine evD_p ?_
   refine evD_c (hc := (c37 _ _ (by decide))) (k := ?_)
   refine evD_p ?_
   refine evD_bs ?_
   iterate 3 refine evD_p ?_
   refine evD_e hK ?_; clear hK K
   refine hK7 _ ?_
   refine tr_region [1, 5, 6, 7, 8] rfl rfl fun K hK => ?_
   iterate 3 refine evR_p ?_
   refine evR_e hK ?_; clear hK K
   refine hKL1 _ ?_
   exact ⟨m - 1, _, by omega, (Wk.trans (Wk.ren 5 4 (Nat.le_of_ble_eq_true rfl) (Nat.le_of_ble_eq_true rfl) rfl) (Wk.cut 5 rfl)), i + 1, by omega, by rw [w64 (x := (i : Int) + 1) (by omega), gainM_succ, encI_snoc]; rfl⟩
  ·
   skip
   have hil : i = n := by omega
   subst hil
   refine tr_exit ?_
   simp only [thenE, inBlkE, Nat.reduceEqDiff, ↓reduceIte]
   refine hK3 _ ?_
   refine tr_seq fun K8 hK8 => ?_
   refine tr_seq fun K9 hK9 => ?_
   refine tr_region [1, 6, 7, 9] rfl rfl fun K hK => ?_
   refine evR_p ?_
   refine evR_e hK ?_; clear hK K
   refine hK9 _ ?_
   refine tr_block ?_
   -- loop 2: live [1, 6, 7, 9]
   refine tr_loopW (fun m σ => ∃ j : Nat, j + m = min x.length 8 ∧ σ = ⟨[(1, .sl 3 (encT x)), (6, .ptr 1 0), (7, .ptr 2 0), (9, .int .i64 (j : Nat))], [(3, .row 67 6 (encR (rowsM i x j))), (4, .row 3 1 (encI (gainM g i))), (2, .cells [.int .i64 (i : Nat), .own 3, .own 4]), (1, .cells [.int .i64 0, .nsl, .nsl])], 5⟩) (min x.length 8) ?_ ?_
   ·
    exact ⟨_, Wk.swap, 0, by omega, rfl⟩
   ·
    rintro m2 σ ⟨j, hj, rfl⟩ KL2 hKL2
    refine tr_seq fun K10 hK10 => ?_
    refine tr_seq fun K11 hK11 => ?_
    refine tr_region [1, 6, 7, 9, 38] rfl rfl fun K hK => ?_
    iterate 5 refine evR_p ?_
    iterate 2 refine evR_g ?_
    refine evR_p ?_
    refine evR_e hK ?_; clear hK K
    refine hK11 _ ?_
    refine tr_condB (fun ht2 => ?_) (fun ht2 => ?_)
    ·
     skip
     have hjl : j < x.length := by omega
     have hj8 : j < 8 := by omega
     have hrl := rowsM_length i x j
     have hw1 : IntKind.i64.wrap (1 + (j : Int)) = 1 + (j : Int) := w64 (by omega)
     replace hq := And.intro hq (And.intro hjl (And.intro hj8 (And.intro hrl (hw1))))
     refine tr_skip ?_
     (try simp only [thenE, inBlkE])
     refine hK10 _ ?_
     refine tr_seq fun K12 hK12 => ?_
     refine tr_block ?_
     refine tr_seq fun K13 hK13 => ?_
     refine tr_draw [45, 46, 47, 51, 52, 53] [1, 6, 7, 9, 10] mixed rfl (by kernel_rfl) rfl fun K hK => ?_
     iterate 7 refine evD_p ?_
     refine evD_c (hc := (c37 _ _ (by decide))) (k := ?_)
     iterate 5 refine evD_p ?_
     refine evD_c (hc := (c37 _ _ (by decide))) (k := ?_)
     iterate 4 refine evD_p ?_
     refine evD_e hK ?_; clear hK K
     refine hK13 _ ?_
     refine tr_seq fun K14 hK14 => ?_
     refine tr_seq fun K15 hK15 => ?_
     refine tr_region [1, 6, 7, 9, 10, 11] rfl rfl fun K hK => ?_
     refine evR_p ?_
     refine evR_e hK ?_; clear hK K
     refine hK15 _ ?_
     refine tr_block ?_
     -- loop 3: live [1, 6, 7, 9, 10, 11]
     refine tr_loopW (fun m σ => ∃ k : Nat, k + m = i ∧ σ = ⟨[(1, .sl 3 (encT x)), (6, .ptr 1 0), (7, .ptr 2 0), (9, .int .i64 (j : Nat)), (10, .ptr 5 0), (11, .int .i64 (k : Nat))], [(6, .row 3 1 (encI (coefM (x.getD j t30) k))), (5, .cells [.int .i64 (1 + (j : Int)), .int .i64 (pickW (x.getD j t30).p 9), .int .i64 0, .int .i64 0, .own 6, .int .i64 (IntKind.i64.wrap (pickW (x.getD j t30).r 30 - 4))]), (3, .row 67 6 (encR (rowsM i x j))), (4, .row 3 1 (encI (gainM g i))), (2, .cells [.int .i64 (i : Nat), .own 3, .own 4]), (1, .cells [.int .i64 0, .nsl, .nsl])], 7⟩) (i) ?_ ?_
     ·
      exact ⟨_, (Wk.nilown 3 1 5 4 rfl (Nat.le_of_ble_eq_true rfl) rfl), 0, by omega, rfl⟩
     ·
      rintro m3 σ ⟨k, hk, rfl⟩ KL3 hKL3
      refine tr_seq fun K16 hK16 => ?_
      refine tr_seq fun K17 hK17 => ?_
      refine tr_region [1, 6, 7, 9, 10, 11, 60] rfl rfl fun K hK => ?_
      iterate 4 refine evR_p ?_
      refine evR_e hK ?_; clear hK K
      refine hK17 _ ?_
      refine tr_condB (fun ht3 => ?_) (fun ht3 => ?_)
      ·
       skip
       have hkl : k < i := by omega
       have hcl := coefM_length (x.getD j t30) k
       have hw2 : IntKind.i64.wrap (3 * (k : Int)) = 3 * (k : Int) := w64 (by omega)
       have hw3 : IntKind.i64.wrap (1 + 3 * (k : Int)) = 1 + 3 * (k : Int) := w64 (by omega)
       have hw4 : IntKind.i64.wrap (5 * (k : Int)) = 5 * (k : Int) := w64 (by omega)
       have hw5 : IntKind.i64.wrap (1 + 5 * (k : Int)) = 1 + 5 * (k : Int) := w64 (by omega)
       replace hq := And.intro hq (And.intro hkl (And.intro hcl (And.intro hw2 (And.intro hw3 (And.intro hw4 (hw5))))))
       refine tr_skip ?_
       (try simp only [thenE, inBlkE])
       refine hK16 _ ?_
       refine tr_seq fun K18 hK18 => ?_
       refine tr_block ?_
       refine tr_draw [67, 68, 69, 77, 78, 79, 86] [1, 6, 7, 9, 10, 11] mixed rfl (by kernel_rfl) rfl fun K hK => ?_
       iterate 11 refine evD_p ?_
       refine evD_c (hc := (c37 _ _ (by decide))) (k := ?_)
       iterate 9 refine evD_p ?_
       refine evD_c (hc := (c37 _ _ (by decide))) (k := ?_)
       refine evD_p ?_
       refine evD_bs ?_
       iterate 3 refine evD_p ?_
       refine evD_e hK ?_; clear hK K
       refine hK18 _ ?_
       refine tr_region [1, 6, 7, 9, 10, 11] rfl rfl fun K hK => ?_
       iterate 3 refine evR_p ?_
       refine evR_e hK ?_; clear hK K
       refine hKL3 _ ?_
       exact ⟨m3 - 1, _, by omega, (Wk.trans (Wk.ren 7 6 (Nat.le_of_ble_eq_true rfl) (Nat.le_of_ble_eq_true rfl) rfl) (Wk.cut 7 rfl)), k + 1, by omega, by rw [w64 (x := (k : Int) + 1) (by omega), coefM_succ, encI_snoc]; rfl⟩
      ·
       skip
       have hkl : k = i := by omega
       subst hkl
       refine tr_exit ?_
       simp only [thenE, inBlkE, Nat.reduceEqDiff, ↓reduceIte]
       refine hK14 _ ?_
       refine tr_fz [.own 6] (by simp (maxSteps := 4000000) (disch := first | assumption | omega | (simp only [go_sem, *]; done) | (simp only [go_sem, *]; omega)) only [go_sem, hq, Int.reduceToNat, Nat.reduceBEq, Nat.reduceEqDiff, Nat.reduceAdd, Nat.reduceMul, Nat.reduceLeDiff, Nat.reduceLT, Nat.reduceSub, ↓reduceIte, reduceCtorEq]; (try rfl)) ?_
       refine tr_region [1, 6, 7, 9] rfl rfl fun K hK => ?_
       iterate 3 refine evR_p ?_
       refine evR_bs ?_
       iterate 3 refine evR_p ?_
       refine evR_e hK ?_; clear hK K
       refine hK12 _ ?_
       refine tr_region [1, 6, 7, 9] rfl rfl fun K hK => ?_
       iterate 3 refine evR_p ?_
       refine evR_e hK ?_; clear hK K
       refine hKL2 _ ?_
       exact ⟨m2 - 1, _, by omega, Wk.trans (Wk.drop (fun k => k != 5)) (Wk.trans (Wk.ren 7 3 (Nat.le_of_ble_eq_true rfl) (Nat.le_of_ble_eq_true rfl) rfl) (Wk.cut 5 rfl)), j + 1, by omega, by rw [w64 (x := (j : Int) + 1) (by omega), rowsM_succ]; rfl⟩
    ·
     skip
     have hjl : j = min x.length 8 := by omega
     refine tr_exit ?_
     simp only [thenE, inBlkE, Nat.reduceEqDiff, ↓reduceIte]
     refine hK8 _ ?_
     refine tr_seq fun K19 hK19 => ?_
     refine tr_region [6] rfl rfl fun K hK => ?_
     iterate 2 refine evR_p ?_
     refine evR_e hK ?_; clear hK K
     refine hK19 _ ?_
     refine tr_ret ?_
     (try simp only [thenE, inBlkE])
     simp (maxSteps := 4000000) (disch := first | assumption | omega | (simp only [go_sem, *]; done) | (simp only [go_sem, *]; omega)) only [postA, postO, resV1, fzAll, go_sem, hq, Int.reduceToNat, Nat.reduceBEq, Nat.reduceEqDiff, Nat.reduceAdd, Nat.reduceMul, Nat.reduceLeDiff, Nat.reduceLT, Nat.reduceSub, ↓reduceIte, reduceCtorEq]
     all_goals ((subst hjl; simp only [madeW, encPg, hn, Int.toNat_natCast]))
end

end Go.Proofs.Ytfamkbofdamkkaa
namespace Go.Proofs.Ytfamkbofdamkkaa
open Go.RowKit
set_option linter.unusedVariables false
set_option linter.unusedSimpArgs false
def encSos (l : List Pg) : List (List V) := l.map encSol2
theorem encSos_length (l : List Pg) : (encSos l).length = l.length := by simp [encSos]
theorem encSos_getD (l : List Pg) (k : Nat) (h : k < l.length) : (encSos l).getD k [] = encSol2 (l.getD k pg0) := by simp [encSos, List.getD, h]
def encPfs (l : List (List Sg)) : List (List V) := l.map fun x => [V.sl 4 (encSgs x)]
theorem encPfs_length (l : List (List Sg)) : (encPfs l).length = l.length := by simp [encPfs]
theorem encPfs_getD (l : List (List Sg)) (k : Nat) (h : k < l.length) : (encPfs l).getD k [] = [V.sl 4 (encSgs (l.getD k []))] := by simp [encPfs, List.getD, h]
def cutS (n : Nat) (s : Sg) : Sg := ⟨s.var, s.no, s.yes, s.ws.take n⟩
def fewS (l : List Sg) : List Sg := (l.take 40).map (cutS 9)
theorem cutS_succ {l : List Sg} {i : Nat} (n : Nat) (h : i < l.length) : (l.take (i + 1)).map (cutS n) = (l.take i).map (cutS n) ++ [cutS n (l.getD i sg0)] := take_snoc _ _ h
theorem fewS_min (l : List Sg) : (l.take (min l.length 40)).map (cutS 9) = fewS l := by
  unfold fewS
  congr 1
  rw [← List.take_take, List.take_of_length_le (l := l.take 40) (by simp; omega)]
theorem encWs_take (a : List Wt) (n : Nat) : (encWs a).take n = encWs (a.take n) := by simp [encWs, List.map_take]
theorem okPf_few (l : List Sg) : okPf (fewS l) := by
  refine ⟨?_, fun s hs => ?_⟩
  · have : (fewS l).length ≤ 40 := by simp [fewS]; omega
    unfold maxLen; omega
  · simp only [fewS, List.mem_map] at hs
    obtain ⟨t, -, rfl⟩ := hs
    have : (cutS 9 t).ws.length ≤ 9 := by simp [cutS]; omega
    unfold maxLen; omega
theorem okPf_bent {l : List Sg} (h1 : l.length ≤ 8192) (h2 : ∀ s ∈ l, s.ws.length ≤ 2000) : okPf l := ⟨by unfold maxLen; omega, fun s hs => by have := h2 s hs; unfold maxLen; omega⟩
theorem zz_take {za zb : List Int} (h1 : za.length = 4) (h2 : zb.length = 4) : ∃ zq : List Int, cellsI za ++ cellsI zb = cellsI zq ∧ zq.length = 8 ∧ List.take 4 (cellsI zq) = cellsI za ∧ List.take 4 (List.drop 4 (cellsI zq)) = cellsI zb := by
  have e : cellsI za ++ cellsI zb = cellsI (za ++ zb) := by simp [cellsI]
  refine ⟨za ++ zb, e, by simp [h1, h2], ?_, ?_⟩
  · rw [← e, List.take_left' (by rw [cellsI_length, h1])]
  · rw [← e, List.drop_left' (by rw [cellsI_length, h1]), List.take_of_length_le (by rw [cellsI_length, h2]; exact Nat.le_refl _)]
/-- The proofs that the laws on Bent go through. -/
theorem pfs_ok {p : Pg} (hv : validB p = true) (z1 z2 : List Int) (st : List Sg) : ∀ k, k < 4 → okPf ([prfS p, bentW (prfS p) z1, bentW (bentW (prfS p) z1) z2, fewS st].getD k []) := by
  have hpl := prf_len hv
  have hw0 := prf_ws p
  have hw1 := bentW_ws (z := z1) hw0
  have hw2 := bentW_ws (z := z2) hw1
  have hl1 := bentW_len (l := prfS p) (z := z1)
  have hl2 := bentW_len (l := bentW (prfS p) z1) (z := z2)
  intro k hk
  match k, hk with
  | 0, _ => exact okPf_prf hv
  | 1, _ => exact okPf_bent (by show (bentW _ _).length ≤ 8192; omega) (fun s hs => by have := hw1 s hs; omega)
  | 2, _ => exact okPf_bent (by show (bentW _ _).length ≤ 8192; omega) (fun s hs => by have := hw2 s hs; omega)
  | 3, _ => exact okPf_few st
/-- What holds is true. -/
theorem sound_ref {p : Pg} (hv : validB p = true) {l : List Sg} (h : refutesW p l = true) : (choiceL p).length = 0 := by
  obtain ⟨v, hv1, -⟩ := vars_pow hv
  rw [List.length_eq_zero_iff]
  refine List.eq_nil_iff_forall_not_mem.2 fun x hx => ?_
  obtain ⟨s, -, hs, hk⟩ := mem_choiceL.1 hx
  have ev : p.vars.toNat = v := by omega
  rw [ev] at hs
  rw [refutes_true h hv1 hs] at hk; cases hk
theorem sound_bnd {p : Pg} (hv : validB p = true) {l : List Sg} {g : Int} (h : boundsW p l g = true) : ∀ x ∈ choiceL p, gainW p x ≤ g := by
  obtain ⟨v, hv1, -⟩ := vars_pow hv
  intro x hx
  obtain ⟨s, rfl, hs, hk⟩ := mem_choiceL.1 hx
  have ev : p.vars.toNat = v := by omega
  rw [ev] at hs
  rw [(gain_in hv hv1 hs).1]
  exact bounds_true h hv1 hs hk
end Go.Proofs.Ytfamkbofdamkkaa
