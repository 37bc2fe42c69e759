/- Programs that integers determine; sums in another way; the least of the best. -/
import Derived.Test.YtcphhbiehaimeaaPC23
namespace Go.Proofs.Ytcphhbiehaimeaa
open Go.RowKit
set_option linter.unusedVariables false
set_option linter.unusedSimpArgs false
theorem wrap_okI (x : Int) : -9223372036854775808 ≤ IntKind.i64.wrap x ∧ IntKind.i64.wrap x ≤ 9223372036854775807 := by
  unfold IntKind.wrap; simp [IntKind.signed, IntKind.bits]; split <;> omega
def okT (t : T3) : Prop := okI t.p ∧ okI t.q ∧ okI t.r
theorem coefB_madeM {t : T3} (n : Nat) : coefB (coefM t n) = true := by
  refine coefB_iff.2 fun x hx => ?_
  obtain ⟨k, -, rfl⟩ := List.mem_map.1 hx
  have h1 := pickW_range (IntKind.i64.wrap (t.p.tdiv (1 + 3 * (k : Int)))) (n := 12) (by omega) (by omega) (wrap_okI _)
  have h2 := pickW_range (IntKind.i64.wrap (t.q.tdiv (1 + 5 * (k : Int)))) (n := 5) (by omega) (by omega) (wrap_okI _)
  rw [w64 (by omega)]; omega
theorem coefM_small {t : T3} {n : Nat} : ∀ x ∈ coefM t n, -4 ≤ x ∧ x ≤ 11 := by
  intro x hx
  obtain ⟨k, -, rfl⟩ := List.mem_map.1 hx
  have h1 := pickW_range (IntKind.i64.wrap (t.p.tdiv (1 + 3 * (k : Int)))) (n := 12) (by omega) (by omega) (wrap_okI _)
  have h2 := pickW_range (IntKind.i64.wrap (t.q.tdiv (1 + 5 * (k : Int)))) (n := 5) (by omega) (by omega) (wrap_okI _)
  rw [w64 (by omega)]; omega
theorem getD_okI {g : List Int} (h : ∀ x ∈ g, okI x) (k : Nat) : okI (g.getD k 0) := by
  by_cases hk : k < g.length
  · exact h _ (getD_mem hk)
  · rw [show g.getD k 0 = 0 by simp [List.getD, List.getElem?_eq_none (Nat.le_of_not_lt hk)]]; unfold okI; omega
theorem gainM_small {g : List Int} (h : ∀ x ∈ g, okI x) {n : Nat} : ∀ x ∈ gainM g n, -8 ≤ x ∧ x ≤ 31 := by
  intro x hx
  obtain ⟨k, -, rfl⟩ := List.mem_map.1 hx
  have h1 := pickW_range (g.getD k 0) (n := 40) (by omega) (by omega) (getD_okI h k)
  rw [w64 (by omega)]; omega
theorem made_row {v : Int} {x : List T3} {g : List Int} (hx : ∀ t ∈ x, okT t) {r : Rw} (hr : r ∈ (madeW v x g).rows) :
    r.coef.length = (pickW v 9).toNat ∧ (∀ c ∈ r.coef, -4 ≤ c ∧ c ≤ 11) ∧ -4 ≤ r.most ∧ r.most ≤ 25 := by
  obtain ⟨i, hi, rfl⟩ := List.mem_map.1 hr
  have hi' : i < x.length := by have := List.mem_range.1 hi; omega
  have ht := hx _ (getD_mem (d := t30) hi')
  have h1 := pickW_range (x.getD i t30).r (n := 30) (by omega) (by omega) ht.2.2
  refine ⟨by simp only [rowM0, coefM_length], coefM_small, ?_, ?_⟩ <;> simp only [rowM0] <;> rw [w64 (by omega)] <;> omega
theorem made_vars {v : Int} (hv : okI v) {x : List T3} {g : List Int} : 0 ≤ (madeW v x g).vars ∧ (madeW v x g).vars ≤ 8 := by
  have := pickW_range v (n := 9) (by omega) (by omega) hv
  simp only [madeW]; omega
theorem made_rows (v : Int) (x : List T3) (g : List Int) : (madeW v x g).rows.length ≤ 8 := by simp only [madeW, rowsM_length]; omega
theorem made_valid {v : Int} {x : List T3} {g : List Int} (hv : okI v) (hx : ∀ t ∈ x, okT t) (hg : ∀ c ∈ g, okI c) : validB (madeW v x g) = true := by
  have h1 := made_vars hv (x := x) (g := g)
  have h2 := made_rows v x g
  have e : (madeW v x g).vars = pickW v 9 := rfl
  simp only [validB, Bool.and_eq_true, decide_eq_true_eq, isInB_spec, List.all_eq_true, rightB]
  refine ⟨⟨h1.1, by omega⟩, by omega, fun r hr => ?_, ?_, ?_⟩
  · obtain ⟨k1, k2, k3, k4⟩ := made_row hx hr
    refine ⟨by rw [k1, e]; omega, coefB_iff.2 fun c hc => ?_, by omega, by omega⟩
    have := k2 c hc; omega
  · simp only [madeW, gainM_length]; omega
  · refine coefB_iff.2 fun c hc => ?_
    have := gainM_small hg c hc; omega
theorem valid_max {p : Pg} (h : validB p = true) : p.rows.length ≤ maxLen ∧ p.gain.length ≤ maxLen ∧ ∀ r ∈ p.rows, r.coef.length ≤ maxLen := by
  obtain ⟨h0, h1, h2, h3, h4, h5⟩ := validB_all h
  unfold maxLen
  exact ⟨by omega, by omega, fun r hr => by have := (h5 r hr).1; omega⟩
/-! #### sums by remainders -/
def totG (l : List Int) (set : Int) : Nat → Int
  | 0 => 0
  | n + 1 => IntKind.i64.wrap (totG l set n + IntKind.i64.wrap (l.getD n 0 * (shrW .i64 set n).tmod 2))
theorem rem_bit {s n : Nat} (hn : n < 64) : (shrW .i64 s n).tmod 2 = if s.testBit n then 1 else 0 := by
  rw [shrN hn, Nat.testBit_eq_decide_div_mod_eq]
  have : ((s / 2 ^ n : Nat) : Int).tmod 2 = ((s / 2 ^ n % 2 : Nat) : Int) := by
    rw [Int.tmod_eq_emod_of_nonneg (Int.natCast_nonneg _)]; omega
  rw [this]
  rcases Nat.mod_two_eq_zero_or_one (s / 2 ^ n) with h | h <;> simp [h]
theorem totG_sum {l : List Int} (hb : coefB l = true) {s : Nat} (hs : s < 65536) : ∀ n : Nat, n ≤ 12 → totG l s n = sumG l s n
  | 0, _ => rfl
  | n + 1, hn => by
    have h1 := chosenG_sum hb hs n (by omega)
    have hc := coef_getD hb n
    simp only [totG, sumG, totG_sum hb hs n (by omega), rem_bit (show n < 64 by omega)]
    split
    · rw [Int.mul_one, w64 (x := l.getD n 0) (by omega), w64 (by omega)]
    · rw [Int.mul_zero, w64 (x := (0 : Int)) (by omega), w64 (by omega)]
def keptTo (rows : List Rw) (set : Int) (v : Nat) : Nat → Bool
  | 0 => true
  | n + 1 => keptTo rows set v n && decide (totG (rows.getD n rw0).coef set v ≤ (rows.getD n rw0).most)
theorem keptTo_iff {rows : List Rw} {set : Int} {v : Nat} : ∀ {n : Nat}, keptTo rows set v n = true ↔ ∀ i, i < n → totG (rows.getD i rw0).coef set v ≤ (rows.getD i rw0).most
  | 0 => by simp [keptTo]
  | n + 1 => by
    simp only [keptTo, Bool.and_eq_true, keptTo_iff (n := n), decide_eq_true_eq]
    constructor
    · rintro ⟨h1, h2⟩ i hi
      by_cases e : i = n
      · subst e; exact h2
      · exact h1 i (by omega)
    · exact fun h => ⟨fun i hi => h i (by omega), h n (by omega)⟩
theorem keptTo_all {p : Pg} (hv : validB p = true) {v : Nat} (e : p.vars = v) {s : Nat} (hs : s < 65536) : keptTo p.rows s v p.rows.length = allKept p.rows s := by
  obtain ⟨h0, h1, h2, h3, h4, h5⟩ := validB_all hv
  rw [Bool.eq_iff_iff, keptTo_iff]
  have key : ∀ r ∈ p.rows, (totG r.coef s v ≤ r.most ↔ keptB r s = true) := fun r hr => by
    obtain ⟨k1, k2, -⟩ := h5 r hr
    rw [keptB_iff, chosenW_sum k2 hs (by omega), totG_sum k2 hs v (by omega)]
    have : r.coef.length = v := by omega
    unfold sumS; rw [this]
  simp only [allKept, List.all_eq_true]
  constructor
  · intro h r hr
    obtain ⟨i, hi, rfl⟩ := List.getElem_of_mem hr
    have := h i hi
    have e2 : p.rows.getD i rw0 = p.rows[i] := by simp [List.getD, hi]
    rw [e2] at this
    exact (key _ hr).1 this
  · intro h i hi
    exact (key _ (getD_mem hi)).2 (h _ (getD_mem hi))
theorem choice_in {p : Pg} (hv : validB p = true) {v : Nat} (e : p.vars = v) {s : Nat} (hs : s < 2 ^ v) : choiceB p s = true := by
  obtain ⟨v', e', h1, h2, h3⟩ := vars_pow hv
  have : v' = v := by omega
  subst this
  obtain ⟨k1, -⟩ := shl_small (k := (v' : Nat)) (by omega)
  unfold choiceB
  rw [hv, e', k1, h2]
  simp only [Bool.true_and, isInB_spec]; omega
theorem choice_iff {p : Pg} (hv : validB p = true) {v : Nat} (e : p.vars = v) {s : Int} : choiceB p s = true ↔ ∃ n : Nat, s = n ∧ n < 2 ^ v := by
  obtain ⟨v', e', h1, h2, h3⟩ := vars_pow hv
  have : v' = v := by omega
  subst this
  obtain ⟨k1, -⟩ := shl_small (k := (v' : Nat)) (by omega)
  unfold choiceB
  rw [hv, e', k1, h2]
  simp only [Bool.true_and, isInB_spec]
  constructor
  · rintro ⟨q1, q2⟩
    obtain ⟨n, rfl⟩ := Int.eq_ofNat_of_zero_le q1
    exact ⟨n, rfl, by omega⟩
  · rintro ⟨n, rfl, hn⟩; omega
theorem keeps_in {p : Pg} (hv : validB p = true) {v : Nat} (e : p.vars = v) {s : Nat} (hs : s < 2 ^ v) : keepsB p s = allKept p.rows s := by
  unfold keepsB; rw [choice_in hv e hs]; rfl
theorem gain_in {p : Pg} (hv : validB p = true) {v : Nat} (e : p.vars = v) {s : Nat} (hs : s < 2 ^ v) : gainW p s = sumG p.gain s v ∧ totG p.gain s v = sumG p.gain s v := by
  obtain ⟨h0, h1, h2, h3, h4, h5⟩ := validB_all hv
  have hp : 2 ^ v ≤ 2 ^ 12 := Nat.pow_le_pow_right (by omega) (by omega)
  refine ⟨?_, totG_sum h4 (by omega) v (by omega)⟩
  unfold gainW
  rw [if_pos (choice_in hv e hs), chosenW_sum h4 (by omega) (by omega)]
  unfold sumS
  rw [show p.gain.length = v by omega]
/-- None with the same gain is a lesser number. -/
theorem best_least (g : List Int) (rows : List Rw) : ∀ n : Nat, ∀ x ∈ chL rows n, chosenW g x = (bestW g (chL rows n)).2.2 → (bestW g (chL rows n)).2.1 ≤ x
  | 0 => by intro x hx; cases hx
  | n + 1 => by
    intro x hx he
    cases h : allKept rows n with
    | false => rw [chL_f h] at hx he ⊢; exact best_least g rows n x hx he
    | true =>
      rw [chL_t h] at hx he ⊢
      rw [bestW_snoc] at he ⊢
      have hsp := bestW_spec g (chL rows n)
      generalize hb : bestW g (chL rows n) = b at he hsp ⊢
      have ih := best_least g rows n
      rw [hb] at ih
      cases hc : (!b.1 || decide (b.2.2 < chosenW g n)) with
      | true =>
        rw [bestS_t hc] at he ⊢
        simp only at he ⊢
        rcases List.mem_append.1 hx with hx | hx
        · cases hf : b.1 with
          | false => rw [(hsp.1 hf).1] at hx; cases hx
          | true =>
            have := (hsp.2 hf).2.2 x hx
            simp [hf] at hc; omega
        · rw [List.mem_singleton] at hx; omega
      | false =>
        rw [bestS_f hc] at he ⊢
        simp only [Bool.or_eq_false_iff, Bool.not_eq_false', decide_eq_false_iff_not] at hc
        rcases List.mem_append.1 hx with hx | hx
        · exact ih x hx he
        · rw [List.mem_singleton] at hx; subst hx
          have := (hsp.2 hc.1).1
          obtain ⟨s, e, hs, -⟩ := mem_chL.1 this
          omega
/-- What Solve's answer says of a choice that keeps all rows. -/
theorem solve_kept {p : Pg} (hv : validB p = true) {v : Nat} (e : p.vars = v) {s : Nat} (hs : s < 2 ^ v) (hk : allKept p.rows s = true) :
    (solveB p).1 = true ∧ sumG p.gain s v ≤ (solveB p).2.2 ∧ (sumG p.gain s v = (solveB p).2.2 → (solveB p).2.1 ≤ s) ∧ ((s : Int) = (solveB p).2.1 → sumG p.gain s v = (solveB p).2.2) := by
  obtain ⟨h0, h1, h2, h3, h4, h5⟩ := validB_all hv
  have hp : 2 ^ v ≤ 2 ^ 12 := Nat.pow_le_pow_right (by omega) (by omega)
  have hm : (s : Int) ∈ choiceL p := mem_choiceL.2 ⟨s, rfl, by rw [e]; exact hs, hk⟩
  have hsp := bestW_spec p.gain (choiceL p)
  have eb : bestW p.gain (choiceL p) = solveB p := rfl
  rw [eb] at hsp
  have hl : chosenW p.gain s = sumG p.gain s v := by
    rw [chosenW_sum h4 (by omega) (by omega)]; unfold sumS; rw [show p.gain.length = v by omega]
  have hf : (solveB p).1 = true := by
    cases hf : (solveB p).1 with
    | true => rfl
    | false => rw [(hsp.1 hf).1] at hm; cases hm
  refine ⟨hf, by rw [← hl]; exact (hsp.2 hf).2.2 _ hm, fun h => ?_, fun h => ?_⟩
  · exact best_least p.gain p.rows (2 ^ p.vars.toNat) s hm (by rw [hl]; exact h)
  · rw [← hl, h]; exact (hsp.2 hf).2.1.symm
theorem solve_set {p : Pg} (hv : validB p = true) {v : Nat} (e : p.vars = v) : ((solveB p).1 = true → 0 ≤ (solveB p).2.1 ∧ (solveB p).2.1 < ((2 ^ v : Nat) : Int)) ∧ ((solveB p).1 = false → (solveB p).2.1 = 0 ∧ (solveB p).2.2 = 0) := by
  have hsp := bestW_spec p.gain (choiceL p)
  have eb : bestW p.gain (choiceL p) = solveB p := rfl
  rw [eb] at hsp
  refine ⟨fun h => ?_, fun h => ?_⟩
  · obtain ⟨s, h1, h2, h3⟩ := solveB_mem h
    rw [e] at h2
    simp only [Int.toNat_natCast] at h2
    omega
  · have := (hsp.1 h).2
    rw [this]; exact ⟨rfl, rfl⟩
theorem there_0 {p : Pg} (hv : validB p = true) {v : Nat} (e : p.vars = v) : ((solveW p).found && decide ((solveW p).set < ((0 : Nat) : Int))) = false := by
  have := (solve_set hv e).1
  cases hf : (solveW p).found with
  | false => rfl
  | true => have h1 := this hf; have e1 : (solveW p).set = (solveB p).2.1 := rfl; simp only [Bool.true_and, decide_eq_false_iff_not]; omega
theorem there_f {p : Pg} (hv : validB p = true) {v : Nat} (e : p.vars = v) {i : Nat} (hk : allKept p.rows i = false) : ((solveW p).found && decide ((solveW p).set < (i : Int))) = ((solveW p).found && decide ((solveW p).set < ((i + 1 : Nat) : Int))) := by
  cases hf : (solveW p).found with
  | false => rfl
  | true =>
    obtain ⟨s, h1, h2, h3⟩ := solveB_mem hf
    have e1 : (solveW p).set = (solveB p).2.1 := rfl
    have : s ≠ i := fun e => by subst e; rw [h3] at hk; cases hk
    simp only [Bool.true_and]; rw [decide_eq_decide]; omega
theorem there_t {p : Pg} (hv : validB p = true) {v : Nat} (e : p.vars = v) {i : Nat} (hi : i < 2 ^ v) (hk : allKept p.rows i = true) : ((solveW p).found && decide ((solveW p).set < (i : Int)) || decide ((i : Int) = (solveW p).set)) = ((solveW p).found && decide ((solveW p).set < ((i + 1 : Nat) : Int))) := by
  have hf : (solveW p).found = true := (solve_kept hv e hi hk).1
  rw [hf, Bool.true_and, Bool.true_and, Bool.eq_iff_iff, Bool.or_eq_true, decide_eq_true_eq, decide_eq_true_eq, decide_eq_true_eq]; omega
theorem there_n {p : Pg} (hv : validB p = true) {v : Nat} (e : p.vars = v) : ((solveW p).found && decide ((solveW p).set < ((2 ^ v : Nat) : Int))) = (solveW p).found := by
  cases hf : (solveW p).found with
  | false => rfl
  | true => have h1 := (solve_set hv e).1 hf; have e1 : (solveW p).set = (solveB p).2.1 := rfl; simp only [Bool.true_and, decide_eq_true_eq]; omega
theorem best_no {p : Pg} (hv : validB p = true) {v : Nat} (e : p.vars = v) {i : Nat} (hi : i < 2 ^ v) (hk : allKept p.rows i = true) :
    (solveW p).found = true ∧ ¬ (solveW p).gain < sumG p.gain i v ∧ ¬ (sumG p.gain i v = (solveW p).gain ∧ (i : Int) < (solveW p).set) ∧ ¬ ((i : Int) = (solveW p).set ∧ ¬ sumG p.gain i v = (solveW p).gain) := by
  obtain ⟨h1, h2, h3, h4⟩ := solve_kept hv e hi hk
  have e1 : (solveW p).set = (solveB p).2.1 := rfl
  have e2 : (solveW p).gain = (solveB p).2.2 := rfl
  rw [e1, e2]
  refine ⟨h1, by omega, fun h => ?_, fun h => h.2 (h4 h.1)⟩
  have := h3 h.1; omega
end Go.Proofs.Ytcphhbiehaimeaa
