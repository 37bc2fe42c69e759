/- Sums of two choices; broken rows. -/
import Derived.Test.YtcphhbiehaimeaaPT23
namespace Go.Proofs.Ytcphhbiehaimeaa
open Go.RowKit
set_option linter.unusedVariables false
set_option linter.unusedSimpArgs false
theorem andNotN {a b : Nat} (ha : a < 65536) (hb : b < 65536) : ∃ K : Nat, bitsV .andNot .i64 a b = K ∧ K ≤ a ∧ ∀ i, K.testBit i = (a.testBit i && !b.testBit i) := by
  refine ⟨a &&& (b ^^^ 65535), ?_, Nat.and_le_left, fun i => ?_⟩
  · have e : bitsV .andNot .i64 a b = IntKind.i64.wrap (((BitVec.ofInt 64 (a : Int)) &&& ~~~(BitVec.ofInt 64 (b : Int))).toNat : Int) := rfl
    have e2 : ((BitVec.ofInt 64 (a : Int)) &&& ~~~(BitVec.ofInt 64 (b : Int))).toNat = a &&& (b ^^^ 65535) := by
      apply Nat.eq_of_testBit_eq
      intro i
      rw [← BitVec.getLsbD]
      simp only [BitVec.getLsbD_and, BitVec.getLsbD_not, Nat.testBit_and, Nat.testBit_xor]
      rw [BitVec.getLsbD, BitVec.getLsbD, toNat64 ha, toNat64 hb]
      by_cases h : i < 16
      · rw [show (65535 : Nat) = 2 ^ 16 - 1 from rfl, Nat.testBit_two_pow_sub_one]
        simp [h, show i < 64 by omega]
      · have : a.testBit i = false := Nat.testBit_lt_two_pow (Nat.lt_of_lt_of_le ha (by rw [show (65536 : Nat) = 2 ^ 16 from rfl]; exact Nat.pow_le_pow_right (by omega) (by omega)))
        simp [this]
    have h16 : a &&& (b ^^^ 65535) ≤ a := Nat.and_le_left
    rw [e, e2, w64 (by omega)]
  · rw [Nat.testBit_and, Nat.testBit_xor, show (65535 : Nat) = 2 ^ 16 - 1 from rfl, Nat.testBit_two_pow_sub_one]
    by_cases h : i < 16
    · simp [h]
    · have : a.testBit i = false := Nat.testBit_lt_two_pow (Nat.lt_of_lt_of_le ha (by rw [show (65536 : Nat) = 2 ^ 16 from rfl]; exact Nat.pow_le_pow_right (by omega) (by omega)))
      simp [this]
theorem sumG_or (l : List Int) {a b : Nat} (h : ∀ i, a.testBit i = true → b.testBit i = false) : ∀ n, sumG l a n + sumG l b n = sumG l (a ||| b) n
  | 0 => rfl
  | n + 1 => by
    have ih := sumG_or l h n
    simp only [sumG, Nat.testBit_or]
    have hn := h n
    cases ha : a.testBit n <;> cases hb : b.testBit n <;> simp_all <;> omega
theorem sum_in {p : Pg} (hv : validB p = true) {v : Nat} (e : p.vars = v) {r : Rw} (hr : r ∈ p.rows) {s : Nat} (hs : s < 2 ^ v) : sumW r s = sumG r.coef s v ∧ chosenW r.coef s = sumG r.coef s v ∧ -12000000000 ≤ sumG r.coef s v ∧ sumG r.coef s v ≤ 12000000000 := by
  obtain ⟨h0, h1, h2, h3, h4, h5⟩ := validB_all hv
  obtain ⟨k1, k2, k3⟩ := h5 r hr
  have hp : 2 ^ v ≤ 2 ^ 12 := Nat.pow_le_pow_right (by omega) (by omega)
  have hl : r.coef.length = v := by omega
  have e1 : chosenW r.coef s = sumG r.coef s v := by rw [chosenW_sum k2 (by omega) (by omega)]; unfold sumS; rw [hl]
  have h6 := chosenG_sum k2 (show s < 65536 by omega) v (by omega)
  refine ⟨?_, e1, by omega, by omega⟩
  unfold sumW
  have hright : rightB r r.coef.length = true := by simp only [rightB, Bool.and_eq_true, decide_eq_true_eq, isInB_spec]; exact ⟨trivial, k2, k3⟩
  obtain ⟨q1, q2, q3⟩ := shl_small (k := (r.coef.length : Nat)) (by omega)
  have hsh : shlW .i64 1 (r.coef.length : Nat) = ((2 ^ v : Nat) : Int) := by rw [hl]; exact shl1 (by omega)
  have hin : isInB (s : Int) 0 (IntKind.i64.wrap (shlW .i64 1 r.coef.length - 1)) = true := by rw [q1, hsh, isInB_spec]; omega
  rw [hright, hin, decide_eq_false (by omega), e1]
  rfl
theorem gainW_in {p : Pg} (hv : validB p = true) {v : Nat} (e : p.vars = v) {s : Nat} (hs : s < 2 ^ v) : gainW p s = sumG p.gain s v ∧ -12000000000 ≤ sumG p.gain s v ∧ sumG p.gain s v ≤ 12000000000 := by
  obtain ⟨h0, h1, h2, h3, h4, h5⟩ := validB_all hv
  have hp : 2 ^ v ≤ 2 ^ 12 := Nat.pow_le_pow_right (by omega) (by omega)
  have h6 := chosenG_sum h4 (show s < 65536 by omega) v (by omega)
  exact ⟨(gain_in hv e hs).1, by omega, by omega⟩
theorem keptB_in {p : Pg} (hv : validB p = true) {v : Nat} (e : p.vars = v) {r : Rw} (hr : r ∈ p.rows) {s : Nat} (hs : s < 2 ^ v) : keptB r s = decide (sumG r.coef s v ≤ r.most) := by
  unfold keptB; rw [(sum_in hv e hr hs).2.1]
theorem brkTo_app (p : Pg) (s : Int) : ∀ {i n : Nat}, i ≤ n → ∃ l, brkTo p s n = brkTo p s i ++ l
  | i, 0, h => ⟨[], by have : i = 0 := by omega
                       subst this; simp⟩
  | i, n + 1, h => by
    by_cases e : i = n + 1
    · subst e; exact ⟨[], by simp⟩
    · obtain ⟨l, hl⟩ := brkTo_app p s (show i ≤ n by omega)
      simp only [brkTo]
      split
      · exact ⟨l, hl⟩
      · exact ⟨l ++ [(n : Int)], by rw [hl, List.append_assoc]⟩
/-- A broken row stands in the list, where it has to. -/
theorem brkTo_at {p : Pg} {s : Int} {i n : Nat} (hi : i < n) (hk : keptB (p.rows.getD i rw0) s = false) : (brkTo p s i).length < (brkTo p s n).length ∧ (brkTo p s n).getD (brkTo p s i).length 0 = i := by
  obtain ⟨l, hl⟩ := brkTo_app p s (show i + 1 ≤ n by omega)
  rw [hl, brkTo_f hk]
  constructor
  · simp
  · simp [List.getD]
theorem brkTo_nil {p : Pg} {s : Int} : ∀ {n : Nat}, brkTo p s n = [] ↔ ∀ i, i < n → keptB (p.rows.getD i rw0) s = true
  | 0 => by simp [brkTo]
  | n + 1 => by
    cases h : keptB (p.rows.getD n rw0) s with
    | true =>
      rw [brkTo_t h, brkTo_nil (n := n)]
      constructor
      · intro h2 i hi
        by_cases e : i = n
        · subst e; exact h
        · exact h2 i (by omega)
      · exact fun h2 i hi => h2 i (by omega)
    | false =>
      rw [brkTo_f h]
      constructor
      · intro h2; simp at h2
      · intro h2; rw [h2 n (by omega)] at h; cases h
theorem broken_in {p : Pg} (hv : validB p = true) {v : Nat} (e : p.vars = v) {s : Nat} (hs : s < 2 ^ v) : brokenW p s = brkTo p s p.rows.length := by
  unfold brokenW; rw [if_pos (choice_in hv e hs)]
theorem broken_keeps {p : Pg} (hv : validB p = true) {v : Nat} (e : p.vars = v) {s : Nat} (hs : s < 2 ^ v) : decide (((brkTo p s p.rows.length).length : Int) = 0) = keepsB p s := by
  rw [keeps_in hv e hs, Bool.eq_iff_iff, decide_eq_true_eq]
  have h1 : ((brkTo p s p.rows.length).length : Int) = 0 ↔ brkTo p s p.rows.length = [] := by rw [← List.length_eq_zero_iff]; omega
  rw [h1, brkTo_nil]
  simp only [allKept, List.all_eq_true]
  constructor
  · intro h r hr
    obtain ⟨i, hi, rfl⟩ := List.getElem_of_mem hr
    have := h i hi
    rwa [show p.rows.getD i rw0 = p.rows[i] by simp [List.getD, hi]] at this
  · exact fun h i hi => h _ (getD_mem hi)
theorem broken_keeps2 {p : Pg} (hv : validB p = true) {v : Nat} (e : p.vars = v) {s : Nat} (hs : s < 2 ^ v) : decide (brkTo p s p.rows.length = []) = keepsB p s := by
  rw [← broken_keeps hv e hs, decide_eq_decide, ← List.length_eq_zero_iff]; omega
theorem pow_pos_int (v : Nat) : 0 < ((2 ^ v : Nat) : Int) := by have := Nat.two_pow_pos v; omega
theorem brk_no {p : Pg} (hv : validB p = true) {v : Nat} (e : p.vars = v) {i : Nat} (hi : i < p.rows.length) {s : Nat} (hs : s < 2 ^ v) (h : ¬ sumW (p.rows.getD i rw0) s ≤ (p.rows.getD i rw0).most) :
    (brkTo p s i).length < (brokenW p s).length ∧ (brokenW p s).getD (brkTo p s i).length 0 = i ∧ (brkTo p s (i + 1)).length = (brkTo p s i).length + 1 := by
  have hr := getD_mem (d := rw0) hi
  have hk : keptB (p.rows.getD i rw0) s = false := by
    rw [keptB_in hv e hr hs, decide_eq_false_iff_not, ← (sum_in hv e hr hs).1]; exact h
  obtain ⟨h1, h2⟩ := brkTo_at hi hk
  rw [broken_in hv e hs]
  exact ⟨h1, h2, by rw [brkTo_f hk]; simp⟩
theorem brk_yes {p : Pg} (hv : validB p = true) {v : Nat} (e : p.vars = v) {i : Nat} (hi : i < p.rows.length) {s : Nat} (hs : s < 2 ^ v) (h : sumW (p.rows.getD i rw0) s ≤ (p.rows.getD i rw0).most) : brkTo p s (i + 1) = brkTo p s i := by
  have hr := getD_mem (d := rw0) hi
  exact brkTo_t (by rw [keptB_in hv e hr hs, decide_eq_true_eq, ← (sum_in hv e hr hs).1]; exact h)
theorem sums_in {p : Pg} (hv : validB p = true) {v : Nat} (e : p.vars = v) {r : Rw} (hr : r ∈ p.rows) {A B : Nat} (hA : A < 2 ^ v) (hB : B < 2 ^ v) (hC : A ||| B < 2 ^ v) (hd : ∀ i, A.testBit i = true → B.testBit i = false) :
    IntKind.i64.wrap (sumW r A + sumW r B) = sumW r ((A ||| B : Nat) : Int) := by
  have h1 := sum_in hv e hr hA
  have h2 := sum_in hv e hr hB
  have h3 := sum_in hv e hr hC
  rw [h1.1, h2.1, h3.1, sumG_or _ hd, w64 (by omega)]
theorem gains_in {p : Pg} (hv : validB p = true) {v : Nat} (e : p.vars = v) {A B : Nat} (hA : A < 2 ^ v) (hB : B < 2 ^ v) (hC : A ||| B < 2 ^ v) (hd : ∀ i, A.testBit i = true → B.testBit i = false) :
    IntKind.i64.wrap (gainW p A + gainW p B) = gainW p ((A ||| B : Nat) : Int) := by
  have h1 := gainW_in hv e hA
  have h2 := gainW_in hv e hB
  have h3 := gainW_in hv e hC
  rw [h1.1, h2.1, h3.1, sumG_or _ hd, w64 (by omega)]
/-- Two choices without a common thing. -/
theorem two_choices {v : Nat} (hv : v ≤ 12) {c d : Int} (hc : okI c) (hd : okI d) :
    ∃ A B : Nat, pickW c ((2 ^ v : Nat) : Int) = A ∧ bitsV .andNot .i64 (pickW d ((2 ^ v : Nat) : Int)) A = B ∧ A < 2 ^ v ∧ B < 2 ^ v ∧ bitsV .or .i64 A B = ((A ||| B : Nat) : Int) ∧ A ||| B < 2 ^ v ∧ ∀ i, A.testBit i = true → B.testBit i = false := by
  have hp : 2 ^ v ≤ 2 ^ 12 := Nat.pow_le_pow_right (by omega) hv
  have hp0 : 0 < 2 ^ v := Nat.two_pow_pos v
  have key : ∀ c : Int, okI c → 0 ≤ pickW c ((2 ^ v : Nat) : Int) ∧ pickW c ((2 ^ v : Nat) : Int) < ((2 ^ v : Nat) : Int) := fun c hc => by
    unfold okI at hc
    unfold pickW
    split
    · rw [w64 (x := c + 1) (by omega), w64 (by omega), Int.tmod_eq_emod_of_nonneg (by omega)]
      exact ⟨Int.emod_nonneg _ (by omega), Int.emod_lt_of_pos _ (by omega)⟩
    · rw [Int.tmod_eq_emod_of_nonneg (by omega)]
      exact ⟨Int.emod_nonneg _ (by omega), Int.emod_lt_of_pos _ (by omega)⟩
  obtain ⟨a1, a2⟩ := key c hc
  obtain ⟨b1, b2⟩ := key d hd
  obtain ⟨A, hA⟩ := Int.eq_ofNat_of_zero_le a1
  obtain ⟨D, hD⟩ := Int.eq_ofNat_of_zero_le b1
  obtain ⟨B, hB, hB1, hB2⟩ := andNotN (a := D) (b := A) (by omega) (by omega)
  refine ⟨A, B, hA, by rw [hD]; exact hB, by omega, by omega, orN (by omega) (by omega), Nat.or_lt_two_pow (by omega) (by omega), fun i hi => ?_⟩
  rw [hB2, hi]; simp
end Go.Proofs.Ytcphhbiehaimeaa
