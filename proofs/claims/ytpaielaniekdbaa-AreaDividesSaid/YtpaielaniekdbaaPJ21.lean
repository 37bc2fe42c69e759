/- The reference's polygons. -/
import Derived.Test.YtpaielaniekdbaaPI21
namespace Go.Proofs.Ytpaielaniekdbaa
open Go.RowKit
set_option linter.unusedVariables false
set_option linter.unusedSimpArgs false
theorem cnt_t {p : Nat → Bool} {n : Nat} (h : p n = true) : cnt p (n + 1) = cnt p n + 1 := by simp [cnt, h]
theorem cnt_f {p : Nat → Bool} {n : Nat} (h : p n = false) : cnt p (n + 1) = cnt p n := by simp [cnt, h]
theorem cnt_le (p : Nat → Bool) : ∀ n, cnt p n ≤ n
  | 0 => Nat.le_refl _
  | n + 1 => by have := cnt_le p n; simp only [cnt]; split <;> omega
theorem tot_le (g : Nat → Nat → Bool) : ∀ n, tot g n ≤ 16 * n
  | 0 => Nat.le_refl _
  | n + 1 => by have := tot_le g n; have := cnt_le (fun x => g x n) 16; simp only [tot]; omega
theorem poly_len_bad {l : List Pl} (h : (l.length : Int) < 3 ∨ 12 < (l.length : Int)) : validP l = false := by
  have : ¬ validP l = true := by
    intro e
    have := validP_len e
    omega
  simpa using this
theorem poly_el_bad {l : List Pl} {i : Nat} (hi : i < l.length) (h : onMap (l.getD i ⟨0, 0⟩) = false) : validP l = false := by
  have : ¬ validP l = true := by
    intro e
    have := (validP_len e).2.2 _ (getD_mem (d := ⟨0, 0⟩) hi)
    rw [h] at this; cases this
  simpa using this
theorem poly_ok {l : List Pl} (h : ¬ (l.length : Int) < 3 ∧ ¬ 12 < (l.length : Int)) (hall : ∀ j, j < l.length → onMap (l.getD j ⟨0, 0⟩) = true) : validP l = true := by
  refine valid_mk (by omega) (by omega) fun p hp => ?_
  obtain ⟨j, hj, rfl⟩ := List.getElem_of_mem hp
  have := hall j hj
  simpa [List.getD, hj] using this
theorem mulW {u v : Int} (h1 : -64 ≤ u) (h2 : u ≤ 64) (h3 : -64 ≤ v) (h4 : v ≤ 64) : IntKind.i64.wrap (IntKind.i64.wrap u * IntKind.i64.wrap v) = u * v := by
  have := mulB h1 h2 h3 h4
  rw [w64 (x := u) (by omega), w64 (x := v) (by omega), w64 (by omega)]
theorem mulW1 {u v : Int} (h1 : -64 ≤ u) (h2 : u ≤ 64) (h3 : -64 ≤ v) (h4 : v ≤ 64) : IntKind.i64.wrap (u * v) = u * v := by
  have := mulB h1 h2 h3 h4
  rw [w64 (by omega)]
/-- What the reference's 'meets' computes. -/
def meetsN (a b p : Pl) : Int := a.x * (b.y - a.y) + (p.y - a.y) * (b.x - a.x)
theorem meets_turn (a b p : Pl) : turnP a b p = meetsN a b p - p.x * (b.y - a.y) := by
  simp only [turnP, meetsN, Int.sub_mul, Int.mul_sub]
  have c1 := Int.mul_comm a.x b.y
  have c2 := Int.mul_comm a.x a.y
  have c3 := Int.mul_comm p.y b.x
  have c4 := Int.mul_comm p.y a.x
  have c5 := Int.mul_comm a.y b.x
  have c6 := Int.mul_comm p.x b.y
  have c7 := Int.mul_comm p.x a.y
  omega
/-- The reference's edges: from each corner to the next. -/
def nextP (l : List Pl) (i : Nat) : Pl := l.getD ((i + 1) % l.length) ⟨0, 0⟩
def refE (l : List Pl) (k : Nat) : List (Pl × Pl) := (List.range k).map fun i => (l.getD i ⟨0, 0⟩, nextP l i)
theorem refE_succ (l : List Pl) (k : Nat) : refE l (k + 1) = refE l k ++ [(l.getD k ⟨0, 0⟩, nextP l k)] := by simp [refE, List.range_succ]
theorem edgesFrom_length : ∀ (l : List Pl) (a : Pl), (edgesFrom a l).length = l.length
  | [], _ => rfl
  | b :: bs, a => by simp [edgesFrom, edgesFrom_length bs b]
theorem edgesFrom_get : ∀ (l : List Pl) (a : Pl) (i : Nat) (h : i < (edgesFrom a l).length), (edgesFrom a l)[i] = ((a :: l).getD i ⟨0, 0⟩, l.getD i ⟨0, 0⟩)
  | [], a, i, h => by simp [edgesFrom] at h
  | b :: bs, a, 0, h => by simp [edgesFrom]
  | b :: bs, a, i + 1, h => by
    simp only [edgesFrom, List.getElem_cons_succ]
    rw [edgesFrom_get bs b i]; simp
theorem refE_perm (l : List Pl) : (refE l l.length).Perm (edges l) := by
  cases l with
  | nil => exact .nil
  | cons a t =>
    have e : refE (a :: t) (a :: t).length = edges (t ++ [a]) := by
      have hl : lastP (t ++ [a]) = a := lastP_append t [a] (by simp)
      unfold edges
      rw [hl]
      apply List.ext_getElem
      · simp [refE, edgesFrom_length]
      · intro i h1 h2
        rw [edgesFrom_get]
        have hi : i < t.length + 1 := by simpa [refE] using h1
        simp only [refE, List.getElem_map, List.getElem_range, nextP, List.length_cons]
        rcases Nat.lt_or_ge i t.length with h | h
        · rw [Nat.mod_eq_of_lt (by omega)]
          simp only [List.getD_eq_getElem?_getD, List.getElem?_cons_succ]
          rw [List.getElem?_append_left h, ← List.cons_append, List.getElem?_append_left (by simpa using hi)]
        · have : i = t.length := by omega
          subst this
          rw [Nat.mod_self]
          simp only [List.getD_eq_getElem?_getD]
          rw [List.getElem?_append_right (Nat.le_refl _), ← List.cons_append, List.getElem?_append_left (by simp)]
          simp
    rw [e]
    exact edges_rot t [a]
theorem inside_hit {l : List Pl} {p : Pl} (hv : validP l = true) (hp : onMap p = true) {i : Nat} (hi : i < l.length) (h : hitP (l.getD i ⟨0, 0⟩) (nextP l i) p = true) : insideP l p = 0 := by
  simp only [insideP, hv, hp, Bool.and_self, if_true]
  rw [sideP_E]
  unfold sideE
  have h1 : (edges l).any (hitE p) = true := by
    rw [← (refE_perm l).any_eq, List.any_eq_true]
    exact ⟨_, List.mem_map.2 ⟨i, List.mem_range.2 hi, rfl⟩, h⟩
  rw [h1]; rfl
theorem inside_count {l : List Pl} {p : Pl} (hv : validP l = true) (hp : onMap p = true) (h : ∀ j, j < l.length → hitP (l.getD j ⟨0, 0⟩) (nextP l j) p = false) :
    insideP l p = 2 * (((refE l l.length).countP (crossE p) : Nat) : Int).tmod 2 - 1 := by
  simp only [insideP, hv, hp, Bool.and_self, if_true]
  rw [sideP_E]
  unfold sideE
  have h1 : (edges l).any (hitE p) = false := by
    rw [← (refE_perm l).any_eq, List.any_eq_false]
    intro e he
    obtain ⟨j, hj, rfl⟩ := List.mem_map.1 he
    have h3 := h j (List.mem_range.1 hj)
    intro hc
    have h4 : hitP (l.getD j ⟨0, 0⟩) (nextP l j) p = true := hc
    rw [h3] at h4; cases h4
  rw [h1, ← (refE_perm l).countP_eq]
  have e : (((refE l l.length).countP (crossE p) : Nat) : Int).tmod 2 = (((refE l l.length).countP (crossE p) % 2 : Nat) : Int) := rfl
  rw [e]
  simp only [Bool.false_eq_true, if_false]
  split <;> omega
theorem refE_count_le (l : List Pl) (p : Pl) (k : Nat) : (refE l k).countP (crossE p) ≤ k := by
  have := List.countP_le_length (p := crossE p) (l := refE l k)
  simpa [refE] using this
theorem cross_some (a b p : Pl) : crossP a b p = (((decide (p.y < a.y)) != decide (p.y < b.y)) && (if 0 < b.y - a.y then decide (p.x * (b.y - a.y) < meetsN a b p) else decide (meetsN a b p < p.x * (b.y - a.y)))) := by
  rw [Bool.eq_iff_iff]
  simp only [crossP, meets_turn, Bool.and_eq_true, Bool.or_eq_true, decide_eq_true_eq, bne_iff_ne, ne_eq, decide_eq_decide]
  split <;> simp only [decide_eq_true_eq] <;> omega
theorem refE_t {l : List Pl} {p : Pl} {i : Nat} (h : crossP (l.getD i ⟨0, 0⟩) (nextP l i) p = true) : (refE l (i + 1)).countP (crossE p) = (refE l i).countP (crossE p) + 1 := by
  rw [refE_succ, List.countP_append]
  have : crossE p (l.getD i ⟨0, 0⟩, nextP l i) = true := h
  rw [List.countP_singleton, if_pos this]
theorem refE_f {l : List Pl} {p : Pl} {i : Nat} (h : crossP (l.getD i ⟨0, 0⟩) (nextP l i) p = false) : (refE l (i + 1)).countP (crossE p) = (refE l i).countP (crossE p) := by
  rw [refE_succ, List.countP_append]
  have : ¬ crossE p (l.getD i ⟨0, 0⟩, nextP l i) = true := by show ¬ crossP (l.getD i ⟨0, 0⟩) (nextP l i) p = true; rw [h]; simp
  rw [List.countP_singleton, if_neg this]; rfl
theorem inside_bad {l : List Pl} {p : Pl} (h : validP l = false ∨ onMap p = false) : insideP l p = -1 := by
  rcases h with h | h <;> simp [insideP, h]
theorem inside_wrap {l : List Pl} {p : Pl} (hv : validP l = true) (hp : onMap p = true) (h : ∀ j, j < l.length → hitP (l.getD j ⟨0, 0⟩) (nextP l j) p = false) :
    IntKind.i64.wrap (IntKind.i64.wrap (2 * (((refE l l.length).countP (crossE p) : Nat) : Int).tmod 2) - 1) = insideP l p := by
  rw [inside_count hv hp h]
  have e : (((refE l l.length).countP (crossE p) : Nat) : Int).tmod 2 = (((refE l l.length).countP (crossE p) % 2 : Nat) : Int) := rfl
  rw [e, w64 (x := 2 * (((refE l l.length).countP (crossE p) % 2 : Nat) : Int)) (by omega), w64 (by omega)]
theorem minusA_length {a b : List Int} (ha : a.length = 16) (hb : b.length = 16) : (minusA a b).length = 16 := eachA_length _ ha hb
theorem unionA_length {a b : List Int} (ha : a.length = 16) (hb : b.length = 16) : (unionA a b).length = 16 := eachA_length _ ha hb
theorem meetA_length {a b : List Int} (ha : a.length = 16) (hb : b.length = 16) : (meetA a b).length = 16 := eachA_length _ ha hb
end Go.Proofs.Ytpaielaniekdbaa
