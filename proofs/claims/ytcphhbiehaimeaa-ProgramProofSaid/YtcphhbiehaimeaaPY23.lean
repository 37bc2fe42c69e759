/- The proof that Solve gives, read by the words of the chapter. -/
import Derived.Test.YtcphhbiehaimeaaPV23
namespace Go.Proofs.Ytcphhbiehaimeaa
open Go.RowKit
set_option linter.unusedVariables false
set_option linter.unusedSimpArgs false
theorem encI_rep (n : Nat) (x : Int) : List.replicate n [V.int .i64 x] = encI (List.replicate n x) := by simp [encI]
theorem encI_set (l : List Int) (k : Nat) (x : Int) : (encI l).set k [V.int .i64 x] = encI (l.set k x) := by simp [encI, List.map_set]
/-- The least sum, exactly. -/
def lstG (c : List Int) (d s : Nat) : Nat → Int
  | 0 => 0
  | k + 1 => lstG c d s k + (if k < d then (if s.testBit k then c.getD k 0 else 0) else if c.getD k 0 < 0 then c.getD k 0 else 0)
theorem lstG_range {c : List Int} (hb : coefB c = true) (d s : Nat) : ∀ k : Nat, -((k : Int) * 1000000000) ≤ lstG c d s k ∧ lstG c d s k ≤ (k : Int) * 1000000000
  | 0 => by simp [lstG]
  | k + 1 => by
    have ih := lstG_range hb d s k
    have hc := coef_getD hb k
    simp only [lstG]
    split
    · split <;> omega
    · split <;> omega
theorem lstG_low (c : List Int) {d s : Nat} : ∀ k, k ≤ d → lstG c d s k = sumG c s k
  | 0, _ => rfl
  | k + 1, h => by
    have ih := lstG_low c (d := d) (s := s) k (by omega)
    simp only [lstG, sumG, ih, if_pos (show k < d by omega)]
theorem sumG_take (c : List Int) (s d : Nat) : ∀ k, k ≤ d → sumG (c.take d) s k = sumG c s k
  | 0, _ => rfl
  | k + 1, h => by
    have : (c.take d).getD k 0 = c.getD k 0 := by simp [List.getD, List.getElem?_take, show k < d by omega]
    simp only [sumG, sumG_take c s d k (by omega), this]
theorem coefB_take {c : List Int} (h : coefB c = true) (d : Nat) : coefB (c.take d) = true := coefB_iff.2 fun x hx => coefB_iff.1 h x (List.mem_of_mem_take hx)
theorem leastW_lst {r : Rw} {v : Nat} (hb : coefB r.coef = true) (hl : r.coef.length = v) (hv : v ≤ 12) {d s : Nat} (hd : d ≤ v) (hs : s < 2 ^ d) : leastW r d s = lstG r.coef d s v := by
  have hp : 2 ^ d ≤ 2 ^ 12 := Nat.pow_le_pow_right (by omega) (by omega)
  have h0 : chosenW (r.coef.take d) s = lstG r.coef d s d := by
    rw [chosenW_sum (coefB_take hb d) (by omega) (by simp; omega), lstG_low _ _ (Nat.le_refl _)]
    unfold sumS
    rw [show (r.coef.take d).length = d by simp; omega, sumG_take _ _ _ _ (Nat.le_refl _)]
  unfold leastW
  rw [h0]
  have key : ∀ k, d + k ≤ v → leastT (r.coef.drop d) (lstG r.coef d s d) k = lstG r.coef d s (d + k) := by
    intro k
    induction k with
    | zero => intro _; rfl
    | succ k ih =>
      intro hk
      have hr := lstG_range hb d s (d + k)
      have hc := coef_getD hb (d + k)
      have e : (r.coef.drop d).getD k 0 = r.coef.getD (d + k) 0 := by simp [List.getD]
      have e2 : d + (k + 1) = (d + k) + 1 := by omega
      rw [e2]
      simp only [leastT, lstG, ih (by omega), e, if_neg (show ¬ d + k < d by omega)]
      have e3 : minV 0 (r.coef.getD (d + k) 0) = if r.coef.getD (d + k) 0 < 0 then r.coef.getD (d + k) 0 else 0 := rfl
      rw [e3]
      have : ((d + k : Nat) : Int) * 1000000000 ≤ 12 * 1000000000 := by omega
      split <;> rw [w64 (by omega)]
  rw [key (r.coef.drop d).length (by simp; omega)]
  congr 1; simp; omega
theorem lstG_le (c : List Int) {d s t : Nat} (ht : t % 2 ^ d = s) : ∀ k, lstG c d s k ≤ sumG c t k
  | 0 => Int.le_refl _
  | k + 1 => by
    have ih := lstG_le c ht k
    simp only [lstG, sumG]
    by_cases h : k < d
    · rw [if_pos h]
      have : s.testBit k = t.testBit k := by rw [← ht, Nat.testBit_mod_two_pow]; simp [h]
      rw [this]; split <;> omega
    · rw [if_neg h]; split <;> split <;> omega
/-! #### what is decided -/
def decL (v d s : Nat) : List Int := (List.range v).map fun k => if k < d then (if s.testBit k then 1 else 0) else -1
theorem decL_length (v d s : Nat) : (decL v d s).length = v := by simp [decL]
theorem decL_getD {v d s k : Nat} (h : k < v) : (decL v d s).getD k 0 = if k < d then (if s.testBit k then 1 else 0) else -1 := by simp [decL, List.getD, List.getElem?_range h]
theorem decL_0 (v : Nat) : decL v 0 0 = List.replicate v (-1) := by
  apply List.ext_getElem (by simp [decL])
  intro i h1 h2
  simp [decL]
theorem decL_set0 {v d s : Nat} (h : d < v) (hs : s < 2 ^ d) : (decL v d s).set d 0 = decL v (d + 1) s := by
  apply List.ext_getElem (by simp [decL])
  intro i h1 h2
  simp only [decL, List.getElem_set, List.getElem_map, List.getElem_range]
  by_cases e : d = i
  · subst e
    have : s.testBit d = false := Nat.testBit_lt_two_pow hs
    simp [this]
  · rw [if_neg e]
    by_cases h3 : i < d
    · simp [h3, show i < d + 1 by omega]
    · simp [h3, show ¬ i < d + 1 by omega]
theorem decL_set1 {v d s : Nat} (h : d < v) (hs : s < 2 ^ d) : (decL v d s).set d 1 = decL v (d + 1) (s + 2 ^ d) := by
  apply List.ext_getElem (by simp [decL])
  intro i h1 h2
  simp only [decL, List.getElem_set, List.getElem_map, List.getElem_range]
  have ho : s + 2 ^ d = 2 ^ d ||| s := by rw [Nat.add_comm]; simpa using Nat.two_pow_add_eq_or_of_lt hs 1
  rw [ho, Nat.testBit_or, Nat.testBit_two_pow]
  by_cases e : d = i
  · subst e; simp
  · rw [if_neg e]
    by_cases h3 : i < d
    · simp [h3, show i < d + 1 by omega, e]
    · simp [h3, show ¬ i < d + 1 by omega]
/-- The sum of a leaf. -/
def lfG (c dec : List Int) : Nat → Int
  | 0 => 0
  | k + 1 => if (decide (dec.getD k 0 = 1) || (decide (dec.getD k 0 < 0) && decide (c.getD k 0 < 0))) = true then IntKind.i64.wrap (lfG c dec k + c.getD k 0) else lfG c dec k
theorem lfG_t {c dec : List Int} {k : Nat} (h : dec.getD k 0 = 1 ∨ dec.getD k 0 < 0 ∧ c.getD k 0 < 0) : lfG c dec (k + 1) = IntKind.i64.wrap (lfG c dec k + c.getD k 0) := by simp only [lfG]; rw [if_pos]; simpa using h
theorem lfG_f {c dec : List Int} {k : Nat} (h : ¬ dec.getD k 0 = 1 ∧ (¬ dec.getD k 0 < 0 ∨ ¬ c.getD k 0 < 0)) : lfG c dec (k + 1) = lfG c dec k := by
  simp only [lfG]; rw [if_neg]
  simp only [Bool.or_eq_true, Bool.and_eq_true, decide_eq_true_eq]; omega
theorem lfG_lst {c : List Int} (hb : coefB c = true) {v d s : Nat} (hv : v ≤ 12) : ∀ k, k ≤ v → lfG c (decL v d s) k = lstG c d s k
  | 0, _ => rfl
  | k + 1, hk => by
    have ih := lfG_lst hb (d := d) (s := s) hv k (by omega)
    have hr := lstG_range hb d s k
    have hc := coef_getD hb k
    have hd := decL_getD (d := d) (s := s) (show k < v by omega)
    have hw : IntKind.i64.wrap (lstG c d s k + c.getD k 0) = lstG c d s k + c.getD k 0 := w64 (by omega)
    simp only [lstG]
    by_cases h : k < d
    · rw [if_pos h] at hd ⊢
      by_cases hb2 : s.testBit k = true
      · rw [if_pos hb2] at hd ⊢
        rw [lfG_t (.inl hd), ih, hw]
      · rw [if_neg hb2] at hd ⊢
        rw [lfG_f (by omega), ih]; omega
    · rw [if_neg h] at hd ⊢
      by_cases hn : c.getD k 0 < 0
      · rw [if_pos hn, lfG_t (.inr (by omega)), ih, hw]
      · rw [if_neg hn, lfG_f (by omega), ih]; omega
/-! #### the tree -/
def atLeaf (rows : List Rw) (l : List Stp) (d s p : Nat) : Prop := p < l.length ∧ l.getD p stp0 = ⟨-1, 0, 0, some (idxOf (overB d s) rows)⟩
def layT (rows : List Rw) (l : List Stp) : Nat → Nat → Nat → Nat → Prop
  | 0, d, s, p => atLeaf rows l d s p
  | n + 1, d, s, p => (0 ≤ idxOf (overB d s) rows ∧ atLeaf rows l d s p) ∨ (¬ 0 ≤ idxOf (overB d s) rows ∧ ∃ no yes : Nat, p < no ∧ p < yes ∧ p < l.length ∧ l.getD p stp0 = ⟨d, no, yes, none⟩ ∧ layT rows l n (d + 1) s no ∧ layT rows l n (d + 1) (s + 2 ^ d) yes)
theorem layT_mono {rows : List Rw} {l l' : List Stp} : ∀ {n d s p : Nat}, (∀ i, p ≤ i → i < l.length → i < l'.length ∧ l'.getD i stp0 = l.getD i stp0) → layT rows l n d s p → layT rows l' n d s p
  | 0, d, s, p, h, ⟨h1, h2⟩ => ⟨(h p (Nat.le_refl _) h1).1, (h p (Nat.le_refl _) h1).2.trans h2⟩
  | n + 1, d, s, p, h, .inl ⟨h0, h1, h2⟩ => .inl ⟨h0, (h p (Nat.le_refl _) h1).1, (h p (Nat.le_refl _) h1).2.trans h2⟩
  | n + 1, d, s, p, h, .inr ⟨h0, no, yes, a1, a2, a3, a4, a5, a6⟩ => .inr ⟨h0, no, yes, a1, a2, (h p (Nat.le_refl _) a3).1, (h p (Nat.le_refl _) a3).2.trans a4,
      layT_mono (fun i hi hl => h i (by omega) hl) a5, layT_mono (fun i hi hl => h i (by omega) hl) a6⟩
theorem layT_grow (rows : List Rw) : ∀ (n d s : Nat) (out : List Stp), d + n ≤ 12 → s < 2 ^ d → layT rows (growN rows n d s out) n d s out.length
  | 0, d, s, out, _, _ => ⟨by simp [growN], by simp [growN, List.getD]⟩
  | n + 1, d, s, out, hd, hs => by
    by_cases h0 : 0 ≤ idxOf (overB d s) rows
    · refine .inl ⟨h0, ?_⟩
      rw [growN_leaf h0]
      exact ⟨by simp, by simp [List.getD]⟩
    · have hsb := setBit_nat hs (show d ≤ 12 by omega)
      have l1 := layT_grow rows n (d + 1) s (out ++ [⟨d, 0, 0, none⟩]) (by omega) (by rw [Nat.pow_succ]; omega)
      have g1 := growN_length rows n (d + 1) s (out ++ [⟨d, 0, 0, none⟩])
      generalize ho1 : growN rows n (d + 1) s (out ++ [⟨d, 0, 0, none⟩]) = o1 at l1 g1
      have l2 := layT_grow rows n (d + 1) (s + 2 ^ d) o1 (by omega) (by rw [Nat.pow_succ]; omega)
      have g2 := growN_length rows n (d + 1) ((s + 2 ^ d : Nat) : Int) o1
      simp only [List.length_append, List.length_cons, List.length_nil] at l1 g1
      have e : growN rows (n + 1) d s out = (growN rows n (d + 1) ((s + 2 ^ d : Nat) : Int) o1).set out.length ⟨d, out.length + 1, o1.length, none⟩ := by
        simp only [growN, if_neg h0, hsb, ho1]
      rw [e]
      have hset : ∀ (l : List Stp) (x : Stp) (i : Nat), out.length < i → (l.set out.length x).getD i stp0 = l.getD i stp0 := fun l x i hi => by
        simp only [List.getD, List.getElem?_set_ne (show out.length ≠ i by omega)]
      refine .inr ⟨h0, out.length + 1, o1.length, by omega, by omega, by rw [List.length_set]; omega, getD_set_self (by omega), ?_, ?_⟩
      · refine layT_mono (fun i hi hl => ⟨by rw [List.length_set]; omega, ?_⟩) l1
        rw [hset _ _ _ (by omega), growN_pre rows n _ _ _ i hl]
      · refine layT_mono (fun i hi hl => ⟨by rw [List.length_set]; exact hl, ?_⟩) l2
        exact hset _ _ _ (by omega)
def leafB (rows2 : List Rw) (v : Nat) (i : Int) (d s : Nat) : Bool := decide ((rows2.getD i.toNat rw0).most < lfG (rows2.getD i.toNat rw0).coef (decL v d s) v)
def treeB (rows2 rows : List Rw) (v : Nat) : Nat → Nat → Nat → Bool
  | 0, d, s => leafB rows2 v (idxOf (overB d s) rows) d s
  | n + 1, d, s => if 0 ≤ idxOf (overB d s) rows then leafB rows2 v (idxOf (overB d s) rows) d s else treeB rows2 rows v n (d + 1) s && treeB rows2 rows v n (d + 1) (s + 2 ^ d)
theorem idx_at {α : Type} (dflt : α) {p : α → Bool} : ∀ {xs : List α}, 0 ≤ idxOf p xs → (idxOf p xs).toNat < xs.length ∧ p (xs.getD (idxOf p xs).toNat dflt) = true
  | [], h => by simp [idxOf] at h
  | x :: xs, h => by
    by_cases hp : p x = true
    · simp only [idxOf, hp, if_true]; simp [hp]
    · have hf : p x = false := by simpa using hp
      by_cases hr : idxOf p xs < 0
      · simp [idxOf, hf, hr] at h
      · have e : idxOf p (x :: xs) = idxOf p xs + 1 := by simp [idxOf, hf, hr]
        obtain ⟨h1, h2⟩ := idx_at dflt (p := p) (xs := xs) (by omega)
        rw [e, show (idxOf p xs + 1).toNat = (idxOf p xs).toNat + 1 by omega]
        exact ⟨by simpa using h1, by simpa using h2⟩
def okRws (rows : List Rw) (v : Nat) : Prop := ∀ r ∈ rows, r.coef.length = v ∧ coefB r.coef = true
theorem tree_true {rows : List Rw} {v : Nat} (hv : v ≤ 12) (hr : okRws rows v) : ∀ (n d s : Nat), d + n = v → s < 2 ^ d → infN rows n d s → treeB rows rows v n d s = true := by
  have leaf : ∀ d s : Nat, d ≤ v → s < 2 ^ d → 0 ≤ idxOf (overB d s) rows → leafB rows v (idxOf (overB d s) rows) d s = true := fun d s hd hs h => by
    obtain ⟨h1, h2⟩ := idx_at rw0 h
    obtain ⟨k1, k2⟩ := hr _ (getD_mem (d := rw0) h1)
    simp only [overB, decide_eq_true_eq] at h2
    rw [leastW_lst k2 k1 hv hd hs] at h2
    simp only [leafB, decide_eq_true_eq]
    rw [lfG_lst k2 hv v (Nat.le_refl _)]; exact h2
  intro n
  induction n with
  | zero => intro d s hd hs h; exact leaf d s (by omega) hs h
  | succ n ih =>
    intro d s hd hs h
    simp only [treeB]
    split
    · rename_i h0; exact leaf d s (by omega) hs h0
    · rename_i h0
      rcases h with h | ⟨h1, h2⟩
      · exact (h0 h).elim
      · rw [setBit_nat hs (by omega)] at h2
        rw [ih (d + 1) s (by omega) (by rw [Nat.pow_succ]; omega) h1, ih (d + 1) (s + 2 ^ d) (by omega) (by rw [Nat.pow_succ]; omega) h2]
        rfl
/-- A choice t that is not refuted: the leaf that holds it does not. -/
theorem tree_false {rows2 rows : List Rw} {v : Nat} (hv : v ≤ 12) (hr : okRws rows v) (hr2 : okRws rows2 v) (hlen : rows2.length = rows.length) {t : Nat} (ht : t < 2 ^ v)
    (hno : ∀ i, i < rows.length → (rows.getD i rw0).most < sumG (rows.getD i rw0).coef t v → sumG (rows2.getD i rw0).coef t v ≤ (rows2.getD i rw0).most) :
    ∀ (n d s : Nat), d + n = v → s < 2 ^ d → t % 2 ^ d = s → infN rows n d s → treeB rows2 rows v n d s = false := by
  have leaf : ∀ d s : Nat, d ≤ v → s < 2 ^ d → t % 2 ^ d = s → 0 ≤ idxOf (overB d s) rows → leafB rows2 v (idxOf (overB d s) rows) d s = false := fun d s hd hs he h => by
    obtain ⟨h1, h2⟩ := idx_at rw0 h
    obtain ⟨k1, k2⟩ := hr _ (getD_mem (d := rw0) h1)
    obtain ⟨j1, j2⟩ := hr2 _ (getD_mem (d := rw0) (show (idxOf (overB d s) rows).toNat < rows2.length by omega))
    simp only [overB, decide_eq_true_eq] at h2
    rw [leastW_lst k2 k1 hv hd hs] at h2
    have h3 := lstG_le (rows.getD (idxOf (overB d s) rows).toNat rw0).coef he v
    have h4 := hno _ h1 (by omega)
    have h5 := lstG_le (rows2.getD (idxOf (overB d s) rows).toNat rw0).coef he v
    simp only [leafB, decide_eq_false_iff_not]
    rw [lfG_lst j2 hv v (Nat.le_refl _)]; omega
  intro n
  induction n with
  | zero => intro d s hd hs he h; exact leaf d s (by omega) hs he h
  | succ n ih =>
    intro d s hd hs he h
    simp only [treeB]
    split
    · rename_i h0; exact leaf d s (by omega) hs he h0
    · rename_i h0
      rcases h with h | ⟨h1, h2⟩
      · exact (h0 h).elim
      · rw [setBit_nat hs (by omega)] at h2
        have hm : t % 2 ^ (d + 1) = s ∨ t % 2 ^ (d + 1) = s + 2 ^ d := by
          have h6 : t % 2 ^ (d + 1) = t % 2 ^ d + 2 ^ d * (t / 2 ^ d % 2) := by rw [Nat.pow_succ, Nat.mod_mul]
          rw [h6, he]
          rcases Nat.mod_two_eq_zero_or_one (t / 2 ^ d) with h7 | h7 <;> rw [h7]
          · left; omega
          · right; omega
        rcases hm with hm | hm
        · rw [ih (d + 1) s (by omega) (by rw [Nat.pow_succ]; omega) hm h1]; rfl
        · rw [ih (d + 1) (s + 2 ^ d) (by omega) (by rw [Nat.pow_succ]; omega) hm h2, Bool.and_false]
/-! #### for Solve -/
def negP (g : List Int) (i : Nat) : List Int := negG g i ++ List.replicate (g.length - i) 0
theorem negP_length {g : List Int} {i : Nat} (h : i ≤ g.length) : (negP g i).length = g.length := by simp [negP, negG_length]; omega
theorem negP_set {g : List Int} {i : Nat} (h : i < g.length) : (negP g i).set i (IntKind.i64.wrap (0 - g.getD i 0)) = negP g (i + 1) := by
  unfold negP
  rw [negG_succ h]
  obtain ⟨k, hk⟩ : ∃ k, g.length - i = k + 1 := ⟨g.length - i - 1, by omega⟩
  have hl : (negG g i).length = i := by rw [negG_length]; omega
  rw [hk, List.replicate_succ, List.set_append, if_neg (by omega), hl, Nat.sub_self, List.set_cons_zero, show g.length - (i + 1) = k by omega]
  simp
theorem negP_0 (g : List Int) : negP g 0 = List.replicate g.length 0 := by simp [negP, negG]
theorem negP_end (g : List Int) : negP g g.length = negG g g.length := by simp [negP]
/-- The one row of a leaf, so far. -/
def sumP (c : List Int) (v i : Nat) : List Int := ((List.range i).map fun k => c.getD k 0) ++ List.replicate (v - i) 0
theorem sumP_length {c : List Int} {v i : Nat} (h : i ≤ v) : (sumP c v i).length = v := by simp [sumP]; omega
theorem sumP_at {c : List Int} {v i : Nat} (h : i < v) : (sumP c v i).getD i 0 = 0 := by
  obtain ⟨k, hk⟩ : ∃ k, v - i = k + 1 := ⟨v - i - 1, by omega⟩
  simp [sumP, List.getD, List.getElem?_append_right, hk]
theorem sumP_set {c : List Int} {v i : Nat} (h : i < v) : (sumP c v i).set i (c.getD i 0) = sumP c v (i + 1) := by
  unfold sumP
  obtain ⟨k, hk⟩ : ∃ k, v - i = k + 1 := ⟨v - i - 1, by omega⟩
  rw [hk, List.replicate_succ, List.set_append, if_neg (by simp), List.length_map, List.length_range, Nat.sub_self, List.set_cons_zero, List.range_succ, List.map_append, show v - (i + 1) = k by omega]
  simp
theorem sumP_0 (c : List Int) (v : Nat) : sumP c v 0 = List.replicate v 0 := by simp [sumP]
theorem sumP_end {c : List Int} {v : Nat} (h : c.length = v) : sumP c v v = c := by
  unfold sumP
  rw [Nat.sub_self, List.replicate_zero, List.append_nil]
  apply List.ext_getElem (by simp [h])
  intro i h1 h2
  simp [List.getD, h2]
/-- The reference's goal. -/
def goalR (p : Pg) (g : Int) : Rw := ⟨0, 0, 0, 0, negG p.gain p.gain.length, IntKind.i64.wrap (IntKind.i64.wrap (0 - g) - 1)⟩
theorem goalR_eq {p : Pg} {g : Int} (h : -100000000000 ≤ g ∧ g ≤ 100000000000) : goalR p g = goalW p g := by
  unfold goalR goalW
  rw [w64 (x := 0 - g) (by omega), w64 (x := g + 1) (by omega), w64 (x := (0 - g) - 1) (by omega), w64 (by omega), show 0 - g - 1 = 0 - (g + 1) by omega]
theorem okRws_goal {p : Pg} (hv : validB p = true) (g : Int) : okRws (p.rows ++ [goalW p g]) p.vars.toNat := by
  obtain ⟨h0, h1, h2, h3, h4, h5⟩ := validB_all hv
  intro r hr
  rcases List.mem_append.1 hr with hr | hr
  · obtain ⟨k1, k2, -⟩ := h5 r hr; exact ⟨by omega, k2⟩
  · rw [List.mem_singleton] at hr; subst hr
    exact ⟨by simp only [goalW, negG_length]; omega, by simp only [goalW]; rw [negG_neg h4]; exact coefB_neg h4⟩
theorem okRws_rows {p : Pg} (hv : validB p = true) : okRws p.rows p.vars.toNat := fun r hr => okRws_goal hv 0 r (List.mem_append_left _ hr)
theorem proof_refutes {p : Pg} (hv : validB p = true) {v : Nat} (e : p.vars = v) : treeB (solRows p (solveB p)) (solRows p (solveB p)) v v 0 0 = true := by
  obtain ⟨h0, h1, h2, h3, h4, h5⟩ := validB_all hv
  have hi := solve_inf hv
  rw [e] at hi
  simp only [Int.toNat_natCast] at hi
  refine tree_true (by omega) (fun r hr => ?_) v 0 0 (by omega) (by simp) hi
  unfold solRows at hr
  split at hr
  · have := okRws_goal hv _ r hr; rw [e] at this; simpa using this
  · have := okRws_rows hv r hr; rw [e] at this; simpa using this
theorem proof_less {p : Pg} (hv : validB p = true) {v : Nat} (e : p.vars = v) (hf : (solveB p).1 = true) : treeB (p.rows ++ [goalW p ((solveB p).2.2 - 1)]) (solRows p (solveB p)) v v 0 0 = false := by
  obtain ⟨h0, h1, h2, h3, h4, h5⟩ := validB_all hv
  have hi := solve_inf hv
  rw [e] at hi
  simp only [Int.toNat_natCast] at hi
  obtain ⟨s, hs1, hs2, hs3⟩ := solveB_mem hf
  obtain ⟨s', hs1', -, hs4, hs5, hs6⟩ := solveB_gain hv hf
  have : s' = s := by omega
  subst this
  rw [e] at hs2
  simp only [Int.toNat_natCast] at hs2
  have hp : 2 ^ v ≤ 2 ^ 12 := Nat.pow_le_pow_right (by omega) (by omega)
  have ev : p.vars.toNat = v := by omega
  have esol := solRows_t (p := p) hf
  have hgs : ∀ g, sumG (goalW p g).coef s' v = - sumS p.gain s' := fun g => by
    have h6 := goal_sum hv (show s' < 65536 by omega)
    have hb : coefB (negG p.gain p.gain.length) = true := by rw [negG_neg h4]; exact coefB_neg h4
    rw [chosenW_sum hb (by omega) (by rw [negG_length]; omega)] at h6
    rw [← h6]
    show sumG (negG p.gain p.gain.length) s' v = sumG (negG p.gain p.gain.length) s' (negG p.gain p.gain.length).length
    rw [negG_length]; congr 1; omega
  rw [esol] at hi ⊢
  refine tree_false (by omega) (ev ▸ okRws_goal hv _) (ev ▸ okRws_goal hv _) (by simp) hs2 (fun i hi2 hb => ?_) v 0 0 (by omega) (by simp) (by simp; exact Nat.mod_one _) hi
  by_cases hil : i < p.rows.length
  · exfalso
    have e1 : (p.rows ++ [goalW p (solveB p).2.2]).getD i rw0 = p.rows.getD i rw0 := by simp [List.getD, List.getElem?_append_left hil]
    rw [e1] at hb
    have hr := getD_mem (d := rw0) hil
    have hk := (List.all_eq_true.1 hs3) _ hr
    rw [keptB_in hv e hr hs2, decide_eq_true_eq] at hk
    omega
  · have hie : i = p.rows.length := by simp at hi2; omega
    subst hie
    have e1 : (p.rows ++ [goalW p ((solveB p).2.2 - 1)]).getD p.rows.length rw0 = goalW p ((solveB p).2.2 - 1) := by simp [List.getD]
    rw [e1, hgs, goal_most (by omega), ← hs4]; omega
end Go.Proofs.Ytcphhbiehaimeaa
