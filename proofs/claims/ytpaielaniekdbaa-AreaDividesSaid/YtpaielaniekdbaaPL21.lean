/- Lists of areas and of polygons. -/
import Derived.Test.YtpaielaniekdbaaPK21
namespace Go.Proofs.Ytpaielaniekdbaa
open Go.RowKit
set_option linter.unusedVariables false
set_option linter.unusedSimpArgs false
def encA (l : List (List Int)) : List (List V) := l.map cellsI
theorem encA_length (l : List (List Int)) : (encA l).length = l.length := by simp [encA]
theorem encA_getD (l : List (List Int)) (k : Nat) (h : k < l.length) : (encA l).getD k [] = cellsI (l.getD k []) := by simp [encA, List.getD, h]
def encL (l : List (List Pl)) : List (List V) := l.map fun p => [V.sl 2 (encP p)]
theorem encL_length (l : List (List Pl)) : (encL l).length = l.length := by simp [encL]
theorem encL_getD (l : List (List Pl)) (k : Nat) (h : k < l.length) : (encL l).getD k [] = [V.sl 2 (encP (l.getD k []))] := by simp [encL, List.getD, h]
theorem cells_app_take (a b : List Int) (ha : a.length = 16) : List.take 16 (cellsI a ++ cellsI b) = cellsI a := by
  rw [List.take_append_of_le_length (by simp [cellsI_length, ha]), List.take_of_length_le (by simp [cellsI_length, ha])]
theorem cells_app_drop (a b : List Int) (ha : a.length = 16) : List.drop 16 (cellsI a ++ cellsI b) = cellsI b := by
  rw [← ha, ← cellsI_length a, List.drop_left]
theorem uptoL_app (n : Nat) (a b : List Int) : V.uptoL n (cellsI a ++ cellsI b) = true := by
  have : cellsI a ++ cellsI b = cellsI (a ++ b) := by simp [cellsI]
  rw [this, cellsI_uptoL]
theorem as_len {a b : List Int} (x y : List Pl) (p c : Pl) (r : Int) (ha : a.length = 16) (hb : b.length = 16) {i : Nat} (h : i < 4) : (([a, b, areaR x p r, areaR y c r] : List (List Int)).getD i []).length = 16 := by
  have : i = 0 ∨ i = 1 ∨ i = 2 ∨ i = 3 := by omega
  rcases this with rfl | rfl | rfl | rfl
  · exact ha
  · exact hb
  · exact areaR_length _ _ _
  · exact areaR_length _ _ _
theorem ps_len (l x : List Pl) (hl : l.length ≤ maxLen) {i : Nat} (h : i < 2) : (([l.take 13, madeP x] : List (List Pl)).getD i []).length ≤ maxLen := by
  have : i = 0 ∨ i = 1 := by omega
  rcases this with rfl | rfl
  · show (l.take 13).length ≤ maxLen
    simp only [List.length_take]; omega
  · show (madeP x).length ≤ maxLen
    have := madeP_length x
    unfold maxLen; omega
theorem take_min (l : List Pl) : List.take (minV (l.length : Int) 13).toNat (encP l) = encP (l.take 13) := by
  have e : (minV (l.length : Int) 13).toNat = min l.length 13 := by rw [minV_min]; omega
  rw [e, encP, encP, ← List.map_take]
  congr 1
  rcases Nat.le_total l.length 13 with h | h
  · rw [Nat.min_eq_left h, List.take_of_length_le (Nat.le_refl _), List.take_of_length_le h]
  · rw [Nat.min_eq_right h]
theorem two_I (r s : Int) : (((List.replicate 2 [V.int .i64 0]).set 0 [V.int .i64 r]).set 1 [V.int .i64 s]) = encI [r, s] := rfl
end Go.Proofs.Ytpaielaniekdbaa
