/- A polygon turned. -/
import Derived.Test.YtpaielaniekdbaaPF21
namespace Go.Proofs.Ytpaielaniekdbaa
open Go.RowKit
set_option linter.unusedVariables false
set_option linter.unusedSimpArgs false
theorem madeP_length (x : List Pl) : 3 ≤ (madeP x).length ∧ (madeP x).length ≤ 9 := by
  unfold madeP; rw [padP_length]; simp; omega
theorem madeP_on {x : List Pl} (h : ∀ p ∈ x, okP p) : ∀ p ∈ madeP x, onMap p = true := by
  intro p hp
  unfold madeP padP at hp
  rcases List.mem_append.1 hp with hp | hp
  · obtain ⟨q, hq, rfl⟩ := List.mem_map.1 hp
    exact placeP_on (h q (List.mem_of_mem_take hq))
  · obtain ⟨j, hj, rfl⟩ := List.mem_map.1 hp
    have hj' := List.mem_of_mem_drop hj
    have h3 : ((x.take 9).map placeP).length = min 9 x.length := by simp
    have hj3 : j < 3 := by
      obtain ⟨k, hk, e⟩ := List.getElem_of_mem hj
      simp at e hk
      omega
    have : j = 0 ∨ j = 1 ∨ j = 2 := by omega
    rcases this with rfl | rfl | rfl <;> rfl
def turnL (l : List Pl) (n k : Nat) : List Pl := (List.range k).map fun i => l.getD ((i + n) % l.length) ⟨0, 0⟩
def backL (l : List Pl) (k : Nat) : List Pl := (List.range k).map fun i => l.getD (l.length - 1 - i) ⟨0, 0⟩
theorem turnL_length (l : List Pl) (n k : Nat) : (turnL l n k).length = k := by simp [turnL]
theorem backL_length (l : List Pl) (k : Nat) : (backL l k).length = k := by simp [backL]
theorem turnL_succ (l : List Pl) (n k : Nat) : turnL l n (k + 1) = turnL l n k ++ [l.getD ((k + n) % l.length) ⟨0, 0⟩] := by simp [turnL, List.range_succ]
theorem backL_succ (l : List Pl) (k : Nat) : backL l (k + 1) = backL l k ++ [l.getD (l.length - 1 - k) ⟨0, 0⟩] := by simp [backL, List.range_succ]
theorem backL_all (l : List Pl) : backL l l.length = l.reverse := by
  apply List.ext_getElem (by simp [backL])
  intro i h1 h2
  have hi : i < l.length := by simpa [backL] using h1
  simp [backL, List.getD, show l.length - 1 - i < l.length by omega]
theorem turnL_all (l : List Pl) {n : Nat} (h : n < l.length) : turnL l n l.length = l.drop n ++ l.take n := by
  apply List.ext_getElem (by simp [turnL]; omega)
  intro i h1 h2
  have hi : i < l.length := by simpa [turnL] using h1
  have hm : (i + n) % l.length < l.length := Nat.mod_lt _ (by omega)
  simp only [turnL, List.getElem_map, List.getElem_range, List.getElem_append, List.length_drop, List.getElem_drop, List.getElem_take, List.getD_eq_getElem?_getD]
  rw [List.getElem?_eq_getElem hm, Option.getD_some]
  by_cases hc : i < l.length - n
  · rw [dif_pos hc]
    congr 1
    rw [Nat.mod_eq_of_lt (by omega)]; omega
  · rw [dif_neg hc]
    congr 1
    rw [Nat.mod_eq_sub_mod (by omega), Nat.mod_eq_of_lt (by omega)]; omega
theorem valid_mk {l : List Pl} (h1 : 3 ≤ l.length) (h2 : l.length ≤ 12) (h : ∀ p ∈ l, onMap p = true) : validP l = true := by
  simp only [validP, Bool.and_eq_true, decide_eq_true_eq]
  refine ⟨by omega, by omega, ?_⟩
  simp; exact h
theorem turns_law (l : List Pl) (n : Nat) (h1 : 3 ≤ l.length) (h2 : l.length ≤ 9) (hn : n < l.length) (h : ∀ p ∈ l, onMap p = true) :
    (polyA l).2 = 0 ∧ (polyA (turnL l n l.length)).2 = 0 ∧ (polyA (backL l l.length)).2 = 0 ∧ (polyA (turnL l n l.length)).1 = (polyA l).1 ∧ (polyA (backL l l.length)).1 = (polyA l).1 := by
  rw [turnL_all l hn, backL_all]
  have v1 := valid_mk h1 (by omega) h
  have v2 : validP (l.drop n ++ l.take n) = true := valid_mk (by simp; omega) (by simp; omega) fun p hp => by
    rcases List.mem_append.1 hp with hp | hp
    · exact h p (List.mem_of_mem_drop hp)
    · exact h p (List.mem_of_mem_take hp)
  have v3 : validP l.reverse = true := valid_mk (by simpa using h1) (by simp; omega) fun p hp => h p (by simpa using hp)
  simp only [polyA, v1, v2, v3, if_true]
  refine ⟨trivial, trivial, trivial, ?_, ?_⟩
  · apply cellsG_congr
    intro a b _ _
    rw [side_rot, List.take_append_drop]
  · apply cellsG_congr
    intro a b _ _
    rw [side_rev]
end Go.Proofs.Ytpaielaniekdbaa
