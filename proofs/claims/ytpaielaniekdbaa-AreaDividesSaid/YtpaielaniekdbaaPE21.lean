/- Discs. -/
import Derived.Test.YtpaielaniekdbaaPD21
namespace Go.Proofs.Ytpaielaniekdbaa
open Go.RowKit
set_option linter.unusedVariables false
set_option linter.unusedSimpArgs false
theorem sq_sub (a b : Int) : (a - b) * (a - b) = (b - a) * (b - a) := by
  have : a - b = -(b - a) := by omega
  rw [this, Int.neg_mul_neg]
theorem near_comm (p q : Pl) (r : Int) : nearR p q r = nearR q p r := by
  simp only [nearR]; rw [sq_sub p.x q.x, sq_sub p.y q.y]
theorem near_mono {p q : Pl} {r s : Int} (h0 : 0 ≤ r) (h : r ≤ s) (hn : nearR p q r = true) : nearR p q s = true := by
  simp only [nearR, decide_eq_true_eq] at hn ⊢
  have : r * r ≤ s * s := Int.mul_le_mul h h h0 (by omega)
  omega
theorem sq_nn (a : Int) : 0 ≤ a * a := by
  rcases Int.le_total 0 a with h | h
  · exact Int.mul_nonneg h h
  · exact Int.mul_nonneg_of_nonpos_of_nonpos h h
theorem near_zero (p q : Pl) : nearR p q 0 = true ↔ p.x = q.x ∧ p.y = q.y := by
  simp only [nearR, decide_eq_true_eq]
  have h1 := sq_nn (p.x - q.x)
  have h2 := sq_nn (p.y - q.y)
  have e1 := (mul_sign (p.x - q.x) (p.x - q.x)).2.2
  have e2 := (mul_sign (p.y - q.y) (p.y - q.y)).2.2
  constructor
  · intro h
    have a1 : (p.x - q.x) * (p.x - q.x) = 0 := by omega
    have a2 : (p.y - q.y) * (p.y - q.y) = 0 := by omega
    have := e1.1 a1
    have := e2.1 a2
    omega
  · rintro ⟨h3, h4⟩
    rw [h3, h4]; simp
theorem ctr_int {x y : Int} (hx : 0 ≤ x ∧ x < 16) (hy : 0 ≤ y ∧ y < 16) : (⟨4 * x + 2, 4 * y + 2⟩ : Pl) = ctr x.toNat y.toNat := by
  simp only [ctr]; congr 1 <;> omega
theorem discs_law (t : Pl) (r s x y u v : Int) (ht : okP t) (h0 : 0 ≤ r) (hrs : r ≤ s) (hs : s ≤ 100) (hx : 0 ≤ x ∧ x < 16) (hy : 0 ≤ y ∧ y < 16) (hu : 0 ≤ u ∧ u < 16) (hv : 0 ≤ v ∧ v < 16) :
    (discA (placeP t) r).2 = 0 ∧ (discA (placeP t) s).2 = 0 ∧ (discA ⟨4 * x + 2, 4 * y + 2⟩ 0).2 = 0 ∧ (discA ⟨4 * x + 2, 4 * y + 2⟩ r).2 = 0 ∧ (discA ⟨4 * u + 2, 4 * v + 2⟩ r).2 = 0 ∧
    withinA (discA (placeP t) r).1 (discA (placeP t) s).1 = true ∧ sizeA (discA ⟨4 * x + 2, 4 * y + 2⟩ 0).1 = 1 ∧ hasA (discA ⟨4 * x + 2, 4 * y + 2⟩ 0).1 x y = true ∧
    hasA (discA ⟨4 * x + 2, 4 * y + 2⟩ r).1 u v = hasA (discA ⟨4 * u + 2, 4 * v + 2⟩ r).1 x y := by
  have hp := placeP_on ht
  rw [ctr_int hx hy, ctr_int hu hv]
  have c1 := ctr_on (x := x.toNat) (y := y.toNat) (by omega) (by omega)
  have c2 := ctr_on (x := u.toNat) (y := v.toNat) (by omega) (by omega)
  rw [discA_ok hp h0 (by omega), discA_ok hp (by omega) hs, discA_ok c1 (by omega) (by omega), discA_ok c1 h0 (by omega), discA_ok c2 h0 (by omega)]
  refine ⟨rfl, rfl, rfl, rfl, rfl, ?_, ?_, ?_, ?_⟩
  · exact within_G.2 fun a b _ _ h => near_mono h0 hrs h
  · have e : (cellsG fun a b => nearR (ctr a b) (ctr x.toNat y.toNat) 0) = cellsG fun a b => Nat.beq a x.toNat && Nat.beq b y.toNat := by
      apply cellsG_congr
      intro a b ha hb
      rw [Bool.eq_iff_iff, near_zero, Bool.and_eq_true, Nat.beq_eq, Nat.beq_eq]
      simp only [ctr]
      omega
    show sizeA (cellsG fun a b => nearR (ctr a b) (ctr x.toNat y.toNat) 0) = 1
    rw [e, size_G, tot_one (by omega) (by omega)]; rfl
  · rw [hasA_cellsG _ hx hy]
    exact (near_zero _ _).2 ⟨rfl, rfl⟩
  · rw [hasA_cellsG _ hu hv, hasA_cellsG _ hx hy]
    exact near_comm _ _ _
end Go.Proofs.Ytpaielaniekdbaa
