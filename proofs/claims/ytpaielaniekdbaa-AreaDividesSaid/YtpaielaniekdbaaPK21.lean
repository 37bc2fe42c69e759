/- Two areas. -/
import Derived.Test.YtpaielaniekdbaaPJ21
import Derived.Test.YtpaielaniekdbaaC21a
import Derived.Test.YtpaielaniekdbaaC21b
namespace Go.Proofs.Ytpaielaniekdbaa
open Go.RowKit
set_option linter.unusedVariables false
set_option linter.unusedSimpArgs false
theorem c17u (a b : List Int) (ha : a.length = 16) (hb : b.length = 16) : CallsA Try.prog 17 [.agg (cellsI a), .agg (cellsI b)] (.agg (cellsI (unionA a b))) := c17 a b ha hb
theorem c19u (a b : List Int) (ha : a.length = 16) (hb : b.length = 16) : CallsA Try.prog 19 [.agg (cellsI a), .agg (cellsI b)] (.agg (cellsI (meetA a b))) := c19 a b ha hb
theorem c21u (a b : List Int) (ha : a.length = 16) (hb : b.length = 16) : CallsA Try.prog 21 [.agg (cellsI a), .agg (cellsI b)] (.agg (cellsI (minusA a b))) := c21 a b ha hb
def areaR (x : List Pl) (p : Pl) (r : Int) : List Int := minusA (discA (placeP p) (pickW r 101)).1 (polyA (madeP x)).1
theorem areaR_length (x : List Pl) (p : Pl) (r : Int) : (areaR x p r).length = 16 := minusA_length (discA_length _ _) (polyA_length _)
theorem area_G {x : List Pl} {p : Pl} {r : Int} (hx : ∀ q ∈ x, okP q) (hp : okP p) (hr : okI r) : ∃ g, areaR x p r = cellsG g := by
  have h1 := madeP_length x
  have hv := valid_mk h1.1 (by omega) (madeP_on hx)
  have k := pickW_range r (n := 101) (by omega) (by omega) hr
  have e1 : (discA (placeP p) (pickW r 101)).1 = cellsG fun a b => nearR (ctr a b) (placeP p) (pickW r 101) := by rw [discA_ok (placeP_on hp) (by omega) (by omega)]
  have e2 : (polyA (madeP x)).1 = cellsG fun a b => decide (0 ≤ sideP (madeP x) (ctr a b)) := by simp [polyA, hv]
  unfold areaR
  rw [e1, e2]
  exact ⟨_, minus_G _ _⟩
theorem sets_law (g h : Nat → Nat → Bool) {u v : Int} (hu : 0 ≤ u ∧ u < 16) (hv : 0 ≤ v ∧ v < 16) :
    hasA (unionA (cellsG g) (cellsG h)) u v = (hasA (cellsG g) u v || hasA (cellsG h) u v) ∧ hasA (meetA (cellsG g) (cellsG h)) u v = (hasA (cellsG g) u v && hasA (cellsG h) u v) ∧
    hasA (minusA (cellsG g) (cellsG h)) u v = (hasA (cellsG g) u v && !hasA (cellsG h) u v) ∧
    IntKind.i64.wrap (sizeA (cellsG g) + sizeA (cellsG h)) = IntKind.i64.wrap (sizeA (unionA (cellsG g) (cellsG h)) + sizeA (meetA (cellsG g) (cellsG h))) ∧
    sizeA (minusA (cellsG g) (cellsG h)) = IntKind.i64.wrap (sizeA (cellsG g) - sizeA (meetA (cellsG g) (cellsG h))) ∧
    withinA (cellsG g) (cellsG h) = decide (sizeA (minusA (cellsG g) (cellsG h)) = 0) ∧
    withinA (meetA (cellsG g) (cellsG h)) (cellsG g) = true ∧ withinA (cellsG g) (unionA (cellsG g) (cellsG h)) = true ∧ validA (unionA (cellsG g) (cellsG h)) = true ∧ validA (minusA (cellsG g) (cellsG h)) = true := by
  rw [union_G, meet_G, minus_G]
  have t1 := tot_or_and g h 16
  have t2 := tot_minus g h 16
  have t3 := tot_le g 16
  refine ⟨?_, ?_, ?_, ?_, ?_, ?_, ?_, ?_, cellsG_valid _, cellsG_valid _⟩
  · rw [hasA_cellsG _ hu hv, hasA_cellsG _ hu hv, hasA_cellsG _ hu hv]
  · rw [hasA_cellsG _ hu hv, hasA_cellsG _ hu hv, hasA_cellsG _ hu hv]
  · rw [hasA_cellsG _ hu hv, hasA_cellsG _ hu hv, hasA_cellsG _ hu hv]
  · rw [size_G, size_G, size_G, size_G]; congr 1; omega
  · rw [size_G, size_G, size_G, w64 (by omega)]; omega
  · rw [within_ref (cellsG_length _) (cellsG_length _), cellsG_valid, cellsG_valid, minus_G]; rfl
  · exact within_G.2 fun x y _ _ e => by simp at e; exact e.1
  · exact within_G.2 fun x y _ _ e => by simp [e]
end Go.Proofs.Ytpaielaniekdbaa
