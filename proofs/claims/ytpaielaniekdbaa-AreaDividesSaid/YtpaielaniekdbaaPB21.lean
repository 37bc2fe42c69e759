/- Rows of bits, and a box. -/
import Derived.Test.YtpaielaniekdbaaP21
namespace Go.Proofs.Ytpaielaniekdbaa
open Go.RowKit
theorem toNat64 {a : Nat} (h : a < 65536) : (BitVec.ofInt 64 (a : Int)).toNat = a := by
  rw [BitVec.ofInt_natCast, BitVec.toNat_ofNat, Nat.mod_eq_of_lt (by omega)]
theorem orN {a b : Nat} (ha : a < 65536) (hb : b < 65536) : bitsV .or .i64 a b = ((a ||| b : Nat) : Int) := by
  have h : a ||| b < 2 ^ 16 := Nat.or_lt_two_pow (by omega) (by omega)
  have e : bitsV .or .i64 a b = IntKind.i64.wrap (((BitVec.ofInt 64 (a : Int)) ||| (BitVec.ofInt 64 (b : Int))).toNat : Int) := rfl
  rw [e, BitVec.toNat_or, toNat64 ha, toNat64 hb, w64 (by omega)]
theorem andN {a b : Nat} (ha : a < 65536) (hb : b < 65536) : bitsV .and .i64 a b = ((a &&& b : Nat) : Int) := by
  have h : a &&& b < 2 ^ 16 := Nat.and_lt_two_pow a (by omega)
  have e : bitsV .and .i64 a b = IntKind.i64.wrap (((BitVec.ofInt 64 (a : Int)) &&& (BitVec.ofInt 64 (b : Int))).toNat : Int) := rfl
  rw [e, BitVec.toNat_and, toNat64 ha, toNat64 hb, w64 (by omega)]
theorem shl1 {n : Nat} (h : n < 16) : shlW .i64 1 n = ((2 ^ n : Nat) : Int) := by
  have hp : 2 ^ n < 2 ^ 16 := Nat.pow_lt_pow_right (by omega) h
  have e : shlW .i64 1 n = IntKind.i64.wrap (1 * 2 ^ (min ((n : Int).toNat) 64)) := rfl
  have e2 : min ((n : Int).toNat) 64 = n := by simp; omega
  rw [e, e2, Int.one_mul]
  have e3 : (2 : Int) ^ n = ((2 ^ n : Nat) : Int) := by simp
  rw [e3, w64 ⟨Int.le_trans (by decide) (Int.natCast_nonneg _), Int.le_trans (Int.ofNat_le.2 (Nat.le_of_lt hp)) (by decide)⟩]
theorem shrN {a k : Nat} (h : k < 64) : shrW .i64 a k = ((a / 2 ^ k : Nat) : Int) := by
  have e : shrW .i64 a k = (a : Int).fdiv (2 ^ (min ((k : Int).toNat) 64)) := rfl
  have e2 : min ((k : Int).toNat) 64 = k := by simp; omega
  rw [e, e2]
  have e3 : (2 : Int) ^ k = ((2 ^ k : Nat) : Int) := by simp
  rw [e3, Int.fdiv_eq_ediv_of_nonneg _ (Int.natCast_nonneg _)]; exact (Int.natCast_ediv a (2 ^ k)).symm
theorem rowG_bits (g : Nat → Nat → Bool) (y : Nat) : ∀ n, n ≤ 16 → ∃ N : Nat, rowG g y n = N ∧ N < 2 ^ n ∧ ∀ i, i < n → N.testBit i = g i y
  | 0, _ => ⟨0, rfl, by simp, fun i hi => by omega⟩
  | n + 1, hn => by
    obtain ⟨N, h1, h2, h3⟩ := rowG_bits g y n (by omega)
    have hp : 2 ^ n < 2 ^ 16 := Nat.pow_lt_pow_right (by omega) (by omega)
    have hp1 : 2 ^ (n + 1) = 2 ^ n * 2 := Nat.pow_succ 2 n
    rw [rowG_succ]
    cases hg : g n y with
    | false =>
      simp only [Bool.false_eq_true, if_false]
      refine ⟨N, h1, by omega, fun i hi => ?_⟩
      rcases Nat.lt_or_ge i n with h | h
      · exact h3 i h
      · have : i = n := by omega
        subst this
        rw [hg, Nat.testBit_lt_two_pow h2]
    | true =>
      simp only [if_true]
      rw [h1, shl1 (by omega), orN (by omega) (by omega)]
      refine ⟨N ||| 2 ^ n, rfl, Nat.or_lt_two_pow (by omega) (by omega), fun i hi => ?_⟩
      rw [Nat.testBit_or, Nat.testBit_two_pow]
      rcases Nat.lt_or_ge i n with h | h
      · rw [h3 i h]; simp; intro e; omega
      · have : i = n := by omega
        subst this
        simp [hg]
theorem outA_getD (f : Nat → Int) {j : Nat} (h : j < 16) : (outA f 16).getD j 0 = f j := by
  simp [outA, List.getD, h]
theorem cellB_bit {N k : Nat} (hN : N < 65536) (hk : k < 16) : cellB N k = N.testBit k := by
  have h1 : N / 2 ^ k < 65536 := Nat.lt_of_le_of_lt (Nat.div_le_self _ _) hN
  have e1 : bitsV .and .i64 ((N / 2 ^ k : Nat) : Int) ((1 : Nat) : Int) = ((N / 2 ^ k &&& 1 : Nat) : Int) := andN h1 (by omega)
  have e0 : cellB N k = decide (bitsV .and .i64 (shrW .i64 (N : Int) (k : Int)) ((1 : Nat) : Int) = 1) := rfl
  rw [e0, shrN (by omega), e1, Nat.and_one_is_mod, Nat.testBit_eq_decide_div_mod_eq]
  apply decide_eq_decide.2
  omega
/-- A valid area: sixteen rows of sixteen bits. -/
theorem valid_iff (a : List Int) : validA a = true ↔ ∀ x ∈ a, 0 ≤ x ∧ x ≤ 65535 := by
  simp [validA]
theorem cellsG_row (g : Nat → Nat → Bool) {j : Nat} (h : j < 16) : ∃ N : Nat, (cellsG g).getD j 0 = N ∧ N < 65536 ∧ ∀ i, i < 16 → N.testBit i = g i j := by
  obtain ⟨N, h1, h2, h3⟩ := rowG_bits g j 16 (by omega)
  exact ⟨N, by rw [cellsG, outA_getD _ h]; exact h1, by simpa using h2, h3⟩
theorem cellsG_valid (g : Nat → Nat → Bool) : validA (cellsG g) = true := by
  rw [valid_iff]
  intro x hx
  obtain ⟨j, hj, e⟩ := List.getElem_of_mem hx
  have hj' : j < 16 := by rw [cellsG_length] at hj; exact hj
  obtain ⟨N, h1, h2, _⟩ := cellsG_row g hj'
  have e2 : (cellsG g).getD j 0 = x := by rw [List.getD_eq_getElem?_getD, List.getElem?_eq_getElem hj, e]; rfl
  rw [← e2, h1]; omega
theorem minV_nn {x y : Int} (hx : 0 ≤ x) (hy : 0 ≤ y) : 0 ≤ minV x y := by unfold minV; split <;> omega
theorem maxV_lt {x y n : Int} (hx : x < n) (hy : y < n) : maxV x y < n := by unfold maxV; split <;> omega
theorem hasA_cellsG (g : Nat → Nat → Bool) {x y : Int} (hx : 0 ≤ x ∧ x < 16) (hy : 0 ≤ y ∧ y < 16) : hasA (cellsG g) x y = g x.toNat y.toNat := by
  obtain ⟨N, h1, h2, h3⟩ := cellsG_row g (j := y.toNat) (by omega)
  have e : cellB (N : Int) x = N.testBit x.toNat := by
    have := cellB_bit h2 (k := x.toNat) (by omega)
    rwa [show ((x.toNat : Nat) : Int) = x by omega] at this
  simp only [hasA, cellsG_valid, h1, e, h3 _ (show x.toNat < 16 by omega), decide_eq_true (minV_nn hx.1 hy.1), decide_eq_true (maxV_lt hx.2 hy.2), Bool.true_and]
/-! #### a box -/
theorem rect_valid {u v : Pl} (hu : onMap u = true) (hv : onMap v = true) : validP (rectP u v) = true := by
  have h1 := onMap_spec hu
  have h2 := onMap_spec hv
  have a : onMap ⟨v.x, u.y⟩ = true := onMap_mk (by simp only []; omega)
  have b : onMap ⟨u.x, v.y⟩ = true := onMap_mk (by simp only []; omega)
  simp [validP, rectP, hu, hv, a, b]
theorem minV_min (x y : Int) : minV x y = min x y := by unfold minV; split <;> omega
theorem maxV_max (x y : Int) : maxV x y = max x y := by unfold maxV; split <;> omega
theorem mul_sign (a b : Int) : (0 < a * b ↔ (0 < a ∧ 0 < b) ∨ (a < 0 ∧ b < 0)) ∧ (a * b < 0 ↔ (0 < a ∧ b < 0) ∨ (a < 0 ∧ 0 < b)) ∧ (a * b = 0 ↔ a = 0 ∨ b = 0) := by
  rcases Int.lt_trichotomy a 0 with ha | ha | ha <;> rcases Int.lt_trichotomy b 0 with hb | hb | hb
  · have := Int.mul_pos_of_neg_of_neg ha hb; omega
  · subst hb; simp <;> omega
  · have := Int.mul_neg_of_neg_of_pos ha hb; omega
  · subst ha; simp <;> omega
  · subst ha; simp <;> omega
  · subst ha; simp <;> omega
  · have := Int.mul_neg_of_pos_of_neg ha hb; omega
  · subst hb; simp <;> omega
  · have := Int.mul_pos ha hb; omega
theorem hor_turn (a b y : Int) (p : Pl) : turnP ⟨a, y⟩ ⟨b, y⟩ p = (b - a) * (p.y - y) := by simp [turnP]
theorem ver_turn (x a b : Int) (p : Pl) : turnP ⟨x, a⟩ ⟨x, b⟩ p = (a - b) * (p.x - x) := by
  simp only [turnP, Int.sub_self, Int.zero_mul, Int.zero_sub]; rw [← Int.neg_mul]; congr 1; omega
theorem ver_hit (x a b : Int) (p : Pl) : hitP ⟨x, a⟩ ⟨x, b⟩ p = decide (p.x = x ∧ min a b ≤ p.y ∧ p.y ≤ max a b) := by
  have s := mul_sign (a - b) (p.x - x)
  rw [Bool.eq_iff_iff]
  simp only [hitP, nearP, ver_turn, minV_min, maxV_max, decide_eq_true_eq, Bool.and_eq_true, s.2.2]
  omega
theorem hor_hit (y a b : Int) (p : Pl) : hitP ⟨a, y⟩ ⟨b, y⟩ p = decide (p.y = y ∧ min a b ≤ p.x ∧ p.x ≤ max a b) := by
  have s := mul_sign (b - a) (p.y - y)
  rw [Bool.eq_iff_iff]
  simp only [hitP, nearP, hor_turn, minV_min, maxV_max, decide_eq_true_eq, Bool.and_eq_true, s.2.2]
  omega
theorem ver_cross (x a b : Int) (p : Pl) : crossP ⟨x, a⟩ ⟨x, b⟩ p = decide ((min a b ≤ p.y ∧ p.y < max a b) ∧ p.x < x) := by
  have s := mul_sign (a - b) (p.x - x)
  rw [Bool.eq_iff_iff]
  simp only [crossP, ver_turn, decide_eq_true_eq, Bool.and_eq_true, Bool.or_eq_true, s.1, s.2.1]
  omega
theorem hor_cross (y a b : Int) (p : Pl) : crossP ⟨a, y⟩ ⟨b, y⟩ p = false := by
  have h : ¬ (crossP ⟨a, y⟩ ⟨b, y⟩ p = true) := by
    simp only [crossP, decide_eq_true_eq, Bool.and_eq_true, Bool.or_eq_true]
    omega
  simpa using h
theorem box_go (u v p : Pl) : (0 ≤ sideP (rectP u v) p) ↔ (min u.x v.x ≤ p.x ∧ p.x ≤ max u.x v.x ∧ min u.y v.y ≤ p.y ∧ p.y ≤ max u.y v.y) := by
  obtain ⟨ux, uy⟩ := u
  obtain ⟨vx, vy⟩ := v
  obtain ⟨px, py⟩ := p
  simp only [rectP, sideP, List.length_cons, List.length_nil, Nat.zero_add, Nat.reduceAdd, Nat.reduceSub, List.getD_cons_succ, List.getD_cons_zero, sideGo, ver_hit, hor_hit, ver_cross, hor_cross, decide_eq_true_eq, Bool.false_eq_true, if_false]
  by_cases h1 : px = ux ∧ min vy uy ≤ py ∧ py ≤ max vy uy
  · rw [if_pos h1]; omega
  rw [if_neg h1]
  by_cases h2 : py = uy ∧ min ux vx ≤ px ∧ px ≤ max ux vx
  · rw [if_pos h2]; omega
  rw [if_neg h2]
  by_cases h3 : px = vx ∧ min uy vy ≤ py ∧ py ≤ max uy vy
  · rw [if_pos h3]; omega
  rw [if_neg h3]
  by_cases h4 : py = vy ∧ min vx ux ≤ px ∧ px ≤ max vx ux
  · rw [if_pos h4]; omega
  rw [if_neg h4]
  by_cases c1 : (min vy uy ≤ py ∧ py < max vy uy) ∧ px < ux
  · rw [if_pos c1]
    by_cases c2 : (min uy vy ≤ py ∧ py < max uy vy) ∧ px < vx
    · rw [if_pos c2]; omega
    · rw [if_neg c2]; omega
  · rw [if_neg c1]
    by_cases c2 : (min uy vy ≤ py ∧ py < max uy vy) ∧ px < vx
    · rw [if_pos c2]; omega
    · rw [if_neg c2]; omega
theorem box_side (u v p : Pl) : decide (0 ≤ sideP (rectP u v) p) = (decide (min u.x v.x ≤ p.x) && (decide (p.x ≤ max u.x v.x) && (decide (min u.y v.y ≤ p.y) && decide (p.y ≤ max u.y v.y)))) := by
  rw [Bool.eq_iff_iff]
  simp only [decide_eq_true_eq, Bool.and_eq_true, box_go]
theorem box_law {u v : Pl} {x y : Int} (hu : onMap u = true) (hv : onMap v = true) (hx : 0 ≤ x ∧ x < 16) (hy : 0 ≤ y ∧ y < 16) :
    (polyA (rectP u v)).2 = 0 ∧ hasA (polyA (rectP u v)).1 x y = (((decide (minV u.x v.x ≤ 4 * x + 2) && decide (4 * x + 2 ≤ maxV u.x v.x)) && decide (minV u.y v.y ≤ 4 * y + 2)) && decide (4 * y + 2 ≤ maxV u.y v.y)) := by
  simp only [polyA, rect_valid hu hv, if_true]
  refine ⟨trivial, ?_⟩
  rw [hasA_cellsG _ hx hy]
  have ec : ctr x.toNat y.toNat = ⟨4 * x + 2, 4 * y + 2⟩ := by simp only [ctr]; congr 1 <;> omega
  show decide (0 ≤ sideP (rectP u v) (ctr x.toNat y.toNat)) = _
  rw [ec, box_side]
  simp only [minV_min, maxV_max, Bool.and_assoc]
end Go.Proofs.Ytpaielaniekdbaa
