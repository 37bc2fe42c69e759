/- The reference's areas. -/
import Derived.Test.YtpaielaniekdbaaPH21
namespace Go.Proofs.Ytpaielaniekdbaa
open Go.RowKit
set_option linter.unusedVariables false
set_option linter.unusedSimpArgs false
def outB (x : Int) : Bool := decide (x < 0) || decide (65535 < x)
theorem valid_bad {a : List Int} {i : Nat} (hi : i < a.length) (h : a.getD i 0 < 0 ∨ 65536 ≤ a.getD i 0) : validA a = false := by
  have : ¬ validA a = true := by
    rw [valid_iff]
    intro k
    have := k _ (getD_mem (d := 0) hi)
    omega
  simpa using this
theorem valid_ok {a : List Int} (ha : a.length = 16) (h : ∀ j, j < 16 → 0 ≤ a.getD j 0 ∧ a.getD j 0 < 65536) : validA a = true := by
  rw [valid_iff]
  intro x hx
  obtain ⟨j, hj, rfl⟩ := List.getElem_of_mem hx
  rw [getD_of_get hj]
  have := h j (by omega)
  omega
theorem cell_ref {a : List Int} (ha : a.length = 16) (hv : validA a = true) {x y : Int} (hx : 0 ≤ x ∧ x < 16) (hy : 0 ≤ y ∧ y < 16) : decide ((shrW .i64 (a.getD y.toNat 0) x).tmod 2 = 1) = cellB (a.getD y.toNat 0) x := by
  have hr := (valid_iff a).1 hv (a.getD y.toNat 0) (getD_mem (by omega))
  obtain ⟨N, hN⟩ : ∃ N : Nat, a.getD y.toNat 0 = N := ⟨(a.getD y.toNat 0).toNat, by omega⟩
  obtain ⟨k, hk⟩ : ∃ k : Nat, x = k := ⟨x.toNat, by omega⟩
  rw [hN]
  subst hk
  rw [cellB_bit (by omega) (by omega), shrN (by omega), Nat.testBit_eq_decide_div_mod_eq]
  apply decide_eq_decide.2
  have e : ((N / 2 ^ k : Nat) : Int).tmod 2 = ((N / 2 ^ k % 2 : Nat) : Int) := rfl
  rw [e]; omega
theorem has_in {a : List Int} {x y : Int} (hv : validA a = true) (hx : 0 ≤ x ∧ x < 16) (hy : 0 ≤ y ∧ y < 16) : hasA a x y = cellB (a.getD y.toNat 0) x := by
  simp only [hasA, hv, decide_eq_true (minV_nn hx.1 hy.1), decide_eq_true (maxV_lt hx.2 hy.2), Bool.true_and]
theorem has_out {a : List Int} {x y : Int} (h : validA a = false ∨ x < 0 ∨ 16 ≤ x ∨ y < 0 ∨ 16 ≤ y) : hasA a x y = false := by
  have : ¬ hasA a x y = true := by
    simp only [hasA, Bool.and_eq_true, decide_eq_true_eq]
    rintro ⟨h1, h2, h3, _⟩
    have := minV_le x y
    have := maxV_ge x y
    rcases h with h | h
    · simp [h] at h1
    · omega
  simpa using this
def gA (a : List Int) (x y : Nat) : Bool := hasA a x y
theorem gA_bit {a : List Int} (ha : a.length = 16) (hv : validA a = true) : a = cellsG (gA a) := by
  have e := rep_G ha hv
  refine e.trans (cellsG_congr fun x y hx hy => ?_)
  show bitG a x y = hasA a x y
  have := has_G (bitG a) hx hy
  rw [← e] at this
  exact this.symm
theorem gA_bad {a : List Int} (hv : validA a = false) : gA a = fun _ _ => false := by
  funext x y; exact has_out (.inl hv)
theorem size_ref {a : List Int} (ha : a.length = 16) : ((tot (gA a) 16 : Nat) : Int) = sizeA a := by
  cases hv : validA a with
  | true =>
    have e := gA_bit ha hv
    have : sizeA a = sizeA (cellsG (gA a)) := by rw [← e]
    rw [this, size_G]
  | false => rw [gA_bad hv]; simp [sizeA, hv]; rfl
theorem rowG_add (g : Nat → Nat → Bool) {y n : Nat} (h : n < 16) (hg : g n y = true) : rowG g y (n + 1) = IntKind.i64.wrap (rowG g y n + shlW .i64 1 n) := by
  obtain ⟨N, h1, h2, h3⟩ := rowG_bits g y n (by omega)
  have hp : 2 ^ n ≤ 2 ^ 15 := Nat.pow_le_pow_right (by omega) (by omega)
  rw [rowG_succ, hg, if_pos rfl, h1, shl1 h, orN (by omega) (by omega), ← Int.natCast_add, w64 (by omega)]
  congr 1
  apply Nat.eq_of_testBit_eq
  intro i
  rw [Nat.testBit_or, Nat.testBit_two_pow, Nat.add_comm N]
  rcases Nat.lt_trichotomy i n with h4 | h4 | h4
  · rw [Nat.testBit_two_pow_add_gt h4]
    have : ¬ n = i := by omega
    simp [this]
  · subst h4
    rw [Nat.testBit_two_pow_add_eq, Nat.testBit_lt_two_pow h2]; simp
  · have hq : 2 ^ (n + 1) ≤ 2 ^ i := Nat.pow_le_pow_right (by omega) h4
    have hp1 : 2 ^ (n + 1) = 2 ^ n * 2 := Nat.pow_succ 2 n
    rw [Nat.testBit_lt_two_pow (by omega), Nat.testBit_lt_two_pow (by omega)]
    have : ¬ n = i := by omega
    simp [this]
theorem rowG_skip (g : Nat → Nat → Bool) {y n : Nat} (hg : g n y = false) : rowG g y (n + 1) = rowG g y n := by rw [rowG_succ, hg]; simp
theorem union_ref {a b : List Int} (ha : a.length = 16) (hb : b.length = 16) (h1 : validA a = true) (h2 : validA b = true) : unionA a b = cellsG fun x y => gA a x y || gA b x y := by
  have e1 := gA_bit ha h1
  have e2 := gA_bit hb h2
  have := union_G (gA a) (gA b)
  rwa [← e1, ← e2] at this
theorem each_bad {p : Int → Int → Int} {a b : List Int} (h : validA a = false ∨ validA b = false) : eachA p a b = zeros16 := by
  rcases h with h | h <;> simp [eachA, h]
theorem meet_ref {a b : List Int} (ha : a.length = 16) (hb : b.length = 16) : meetA a b = cellsG fun x y => gA a x y && gA b x y := by
  cases h1 : validA a with
  | false => rw [meetA, each_bad (.inl h1), gA_bad h1, zeros_G]; simp
  | true =>
    cases h2 : validA b with
    | false => rw [meetA, each_bad (.inr h2), gA_bad h2, zeros_G]; simp
    | true =>
      have e1 := gA_bit ha h1
      have e2 := gA_bit hb h2
      have := meet_G (gA a) (gA b)
      rwa [← e1, ← e2] at this
theorem minus_ref {a b : List Int} (ha : a.length = 16) (hb : b.length = 16) (h2 : validA b = true) : minusA a b = cellsG fun x y => gA a x y && !gA b x y := by
  cases h1 : validA a with
  | false => rw [minusA, each_bad (.inl h1), gA_bad h1, zeros_G]; simp
  | true =>
    have e1 := gA_bit ha h1
    have e2 := gA_bit hb h2
    have := minus_G (gA a) (gA b)
    rwa [← e1, ← e2] at this
theorem move_ref {a : List Int} (ha : a.length = 16) {dx dy : Int} (h1 : -16 < dx) (h2 : dx < 16) (h3 : -16 < dy) (h4 : dy < 16) : moveA a dx dy = cellsG fun (x : Nat) (y : Nat) => hasA a ((x : Int) - dx) ((y : Int) - dy) := by
  cases hv : validA a with
  | false =>
    have e : moveA a dx dy = zeros16 := by simp [moveA, hv]
    rw [e, zeros_G]
    exact cellsG_congr fun x y _ _ => (has_out (.inl hv)).symm
  | true =>
    have e := gA_bit ha hv
    have m := move_G (gA a) h1 h2 h3 h4
    rw [← e] at m
    rw [m]
    apply cellsG_congr
    intro x y hx hy
    simp only [shG, inR]
    by_cases hr : (0 ≤ (y : Int) - dy ∧ (y : Int) - dy < 16) ∧ (0 ≤ (x : Int) - dx ∧ (x : Int) - dx < 16)
    · obtain ⟨⟨r1, r2⟩, r3, r4⟩ := hr
      simp only [r1, r2, r3, r4, decide_true, Bool.true_and, gA]
      rw [show ((((x : Int) - dx).toNat : Nat) : Int) = (x : Int) - dx by omega, show ((((y : Int) - dy).toNat : Nat) : Int) = (y : Int) - dy by omega]
    · rw [has_out (by omega)]
      rw [Bool.eq_false_iff]
      intro h
      simp only [Bool.and_eq_true, decide_eq_true_eq] at h
      omega
theorem move_out {a : List Int} {dx dy : Int} (h : ((dx ≤ -16 ∨ 16 ≤ dx) ∨ dy ≤ -16) ∨ 16 ≤ dy) : moveA a dx dy = zeros16 := by
  have h1 := minV_le dx dy
  have h2 := maxV_ge dx dy
  have : minV dx dy ≤ -16 ∨ 16 ≤ maxV dx dy := by omega
  rcases this with h | h <;> simp [moveA, h]
theorem within_ref {a b : List Int} (ha : a.length = 16) (hb : b.length = 16) : withinA a b = (validA a && (validA b && decide (sizeA (minusA a b) = 0))) := by
  cases h1 : validA a <;> cases h2 : validA b <;> simp [withinA, h1, h2]
  rw [minus_ref ha hb h2, size_G]
  constructor
  · intro e
    rw [zeros_G] at e
    have : tot (fun x y => gA a x y && !gA b x y) 16 = tot (fun _ _ => false) 16 := tot_congr fun x y hx hy => cellsG_inj e hx hy
    rw [this]; rfl
  · intro e
    rw [zeros_G]
    have e' : tot (fun x y => gA a x y && !gA b x y) 16 = 0 := by omega
    exact cellsG_congr fun x y hx hy => tot_zero e' x y hx hy
theorem onMap_iff (p : Pl) : onMap p = (((decide (0 ≤ p.x) && decide (p.x ≤ 64)) && decide (0 ≤ p.y)) && decide (p.y ≤ 64)) := by
  rw [Bool.eq_iff_iff]
  simp only [onMap, minV_min, maxV_max, Bool.and_eq_true, decide_eq_true_eq]
  omega
end Go.Proofs.Ytpaielaniekdbaa
