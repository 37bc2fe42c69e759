/- A polygon that is divided. -/
import Derived.Test.YtpaielaniekdbaaPL21
namespace Go.Proofs.Ytpaielaniekdbaa
open Go.RowKit
set_option linter.unusedVariables false
set_option linter.unusedSimpArgs false
theorem encP_drop (l : List Pl) (n : Nat) : (encP l).drop n = encP (l.drop n) := by simp [encP, List.map_drop]
theorem encP_take (l : List Pl) (n : Nat) : (encP l).take n = encP (l.take n) := by simp [encP, List.map_take]
theorem encP_app (a b : List Pl) : encP a ++ encP b = encP (a ++ b) := by simp [encP]
theorem encP_app1 (a : List Pl) (p : Pl) : encP a ++ [[V.int .i64 p.x, V.int .i64 p.y]] = encP (a ++ [p]) := by simp [encP]
theorem encP_one (a : List Pl) (p : Pl) : encP a ++ (List.replicate 1 [V.int .i64 0, V.int .i64 0]).set 0 [V.int .i64 p.x, V.int .i64 p.y] = encP (a ++ [p]) := by simp [encP]
def partA (l : List Pl) (i k : Nat) : List Pl := (l.take (k + 1)).drop i
def partB (l : List Pl) (i k : Nat) : List Pl := l.drop k ++ l.take (i + 1)
theorem edges_cut (a b : Pl) (m v : List Pl) : ((edges (a :: m ++ [b])) ++ (edges (b :: v ++ [a]))).Perm ((b, a) :: (a, b) :: edges (a :: m ++ b :: v)) := by
  have h1 : edges (a :: m ++ [b]) = (b, a) :: edgesFrom a (m ++ [b]) := by
    unfold edges; rw [List.cons_append, show lastP (a :: (m ++ [b])) = b from lastP_append (a :: m) [b] (by simp)]; rfl
  have h2 : edges (b :: v ++ [a]) = (a, b) :: edgesFrom b (v ++ [a]) := by
    unfold edges; rw [List.cons_append, show lastP (b :: (v ++ [a])) = a from lastP_append (b :: v) [a] (by simp)]; rfl
  have h3 : (edges (a :: m ++ b :: v)).Perm (edgesFrom a (m ++ [b]) ++ edgesFrom b (v ++ [a])) := by
    have := edges_rot [a] (m ++ b :: v)
    refine this.trans (List.Perm.of_eq ?_)
    have e : m ++ b :: v ++ [a] = (m ++ [b]) ++ (v ++ [a]) := by simp
    unfold edges
    rw [e, lastP_append (m ++ [b]) (v ++ [a]) (by simp), lastP_append v [a] (by simp), edgesFrom_append, if_neg (by simp), lastP_append m [b] (by simp)]
    rfl
  rw [h1, h2]
  have := (h3.symm.cons (a, b)).cons (b, a)
  refine List.Perm.trans ?_ this
  simp only [List.cons_append]
  refine List.Perm.cons _ ?_
  exact List.perm_middle
theorem side_val (p : Pl) (es : List (Pl × Pl)) (h : sideE p (-1) es ≠ 0) : es.any (hitE p) = false ∧ sideE p (-1) es = if es.countP (crossE p) % 2 = 0 then -1 else 1 := by
  unfold sideE at h ⊢
  cases hh : es.any (hitE p) with
  | true => rw [hh] at h; simp at h
  | false => simp
theorem cut_side (p a b : Pl) (m v : List Pl) (h1 : sideP (a :: m ++ b :: v) p ≠ 0) (h2 : sideP (a :: m ++ [b]) p ≠ 0) (h3 : sideP (b :: v ++ [a]) p ≠ 0) :
    (sideP (a :: m ++ b :: v) p = 1) ↔ (sideP (a :: m ++ [b]) p ≠ sideP (b :: v ++ [a]) p) := by
  rw [sideP_E] at h1 h2 h3
  rw [sideP_E, sideP_E, sideP_E]
  rw [(side_val p _ h1).2, (side_val p _ h2).2, (side_val p _ h3).2]
  have hc := (edges_cut a b m v).countP_eq (crossE p)
  rw [List.countP_append, List.countP_cons, List.countP_cons] at hc
  have hs : crossE p (b, a) = crossE p (a, b) := cross_comm a b p
  rw [hs] at hc
  generalize (edges (a :: m ++ b :: v)).countP (crossE p) = n at hc ⊢
  generalize (edges (a :: m ++ [b])).countP (crossE p) = x at hc ⊢
  generalize (edges (b :: v ++ [a])).countP (crossE p) = y at hc ⊢
  have hpar : n % 2 = (x + y) % 2 := by
    rw [hc]; split <;> omega
  rcases Nat.mod_two_eq_zero_or_one x with hx | hx <;> rcases Nat.mod_two_eq_zero_or_one y with hy | hy <;> simp [hpar, Nat.add_mod, hx, hy]
theorem side_rot_iff (u v : List Pl) (p : Pl) : sideP (u ++ v) p = sideP (v ++ u) p := side_rot u v p
theorem cut_law {l : List Pl} {p : Pl} {i k : Nat} (hl : 3 ≤ l.length) (hl2 : l.length ≤ 12) (hon : ∀ q ∈ l, onMap q = true) (hp : onMap p = true) (hk : k < l.length) (h1 : i + 2 ≤ k) (h2 : k ≤ i + (l.length - 2)) :
    validP l = true ∧ validP (partA l i k) = true ∧ validP (partB l i k) = true ∧
    (insideP l p = 0 ∨ insideP (partA l i k) p = 0 ∨ insideP (partB l i k) p = 0 ∨ ((insideP l p = 1) ↔ (insideP (partA l i k) p ≠ insideP (partB l i k) p))) := by
  have hA : (partA l i k).length = k + 1 - i := by simp [partA]; omega
  have hB : (partB l i k).length = l.length - k + (i + 1) := by simp [partB]; omega
  have vl := valid_mk hl hl2 hon
  have vA : validP (partA l i k) = true := valid_mk (by omega) (by omega) fun q hq => hon q (List.mem_of_mem_take (List.mem_of_mem_drop hq))
  have vB : validP (partB l i k) = true := valid_mk (by omega) (by omega) fun q hq => by
    rcases List.mem_append.1 hq with hq | hq
    · exact hon q (List.mem_of_mem_drop hq)
    · exact hon q (List.mem_of_mem_take hq)
  refine ⟨vl, vA, vB, ?_⟩
  have il : insideP l p = sideP l p := by simp [insideP, vl, hp]
  have iA : insideP (partA l i k) p = sideP (partA l i k) p := by simp [insideP, vA, hp]
  have iB : insideP (partB l i k) p = sideP (partB l i k) p := by simp [insideP, vB, hp]
  rw [il, iA, iB]
  by_cases z1 : sideP l p = 0
  · exact .inl z1
  by_cases z2 : sideP (partA l i k) p = 0
  · exact .inr (.inl z2)
  by_cases z3 : sideP (partB l i k) p = 0
  · exact .inr (.inr (.inl z3))
  refine .inr (.inr (.inr ?_))
  -- l = u ++ a :: m ++ b :: w
  have hi : i < l.length := by omega
  have e1 : l = l.take i ++ l.drop i := (List.take_append_drop i l).symm
  have e2 : l.drop i = l[i] :: l.drop (i + 1) := List.drop_eq_getElem_cons hi
  have e3 : l.drop k = l[k] :: l.drop (k + 1) := List.drop_eq_getElem_cons hk
  have e4 : l.drop (i + 1) = (l.take k).drop (i + 1) ++ l.drop k := by
    have : l.drop (i + 1) = (l.take k ++ l.drop k).drop (i + 1) := by rw [List.take_append_drop]
    rw [this, List.drop_append_of_le_length (by simp; omega)]
  have pA : partA l i k = l[i] :: (l.take k).drop (i + 1) ++ [l[k]] := by
    unfold partA
    rw [List.take_add_one, List.getElem?_eq_getElem hk, List.drop_append_of_le_length (by simp; omega), List.drop_eq_getElem_cons (by simp; omega)]
    simp
  have pB : partB l i k = l[k] :: (l.drop (k + 1) ++ l.take i) ++ [l[i]] := by
    unfold partB
    rw [List.take_add_one, List.getElem?_eq_getElem hi, e3]
    simp only [Option.toList_some, List.cons_append, List.append_assoc]
  have pL : sideP l p = sideP (l[i] :: (l.take k).drop (i + 1) ++ l[k] :: (l.drop (k + 1) ++ l.take i)) p := by
    have h0 : sideP l p = sideP (l.drop i ++ l.take i) p := by
      have := side_rot (l.take i) (l.drop i) p
      rw [List.take_append_drop] at this
      exact this
    rw [h0]
    rw [e2, e4, e3]
    simp only [List.cons_append, List.append_assoc]
  rw [pA] at z2 ⊢
  rw [pB] at z3 ⊢
  rw [pL] at z1 ⊢
  exact cut_side p _ _ _ _ z1 z2 z3
theorem cut_bool {l : List Pl} {p : Pl} {i k : Int} (hl : 3 ≤ l.length) (hl2 : l.length ≤ 12) (hon : ∀ q ∈ l, onMap q = true) (hp : onMap p = true) (h0 : 0 ≤ i) (hk : k < l.length) (h1 : ¬ k - i < 2) (h2 : ¬ (l.length : Int) - 2 < k - i) :
    validP l = true ∧ validP ((l.take (k + 1).toNat).drop i.toNat) = true ∧ validP (l.drop k.toNat ++ l.take (i + 1).toNat) = true ∧
    (decide (insideP l p = 0) || decide (insideP ((l.take (k + 1).toNat).drop i.toNat) p = 0) || decide (insideP (l.drop k.toNat ++ l.take (i + 1).toNat) p = 0) ||
      decide (insideP l p = 1) == !decide (insideP ((l.take (k + 1).toNat).drop i.toNat) p = insideP (l.drop k.toNat ++ l.take (i + 1).toNat) p)) = true := by
  have hk0 : (k + 1).toNat = k.toNat + 1 := by omega
  have hi0 : (i + 1).toNat = i.toNat + 1 := by omega
  have h := cut_law (i := i.toNat) (k := k.toNat) hl hl2 hon hp (by omega) (by omega) (by omega)
  unfold partA partB at h
  rw [hk0, hi0]
  obtain ⟨v1, v2, v3, h⟩ := h
  refine ⟨v1, v2, v3, ?_⟩
  rcases h with h | h | h | h
  · rw [h]; simp
  · rw [h]; simp
  · rw [h]; simp
  · have e : decide (insideP l p = 1) = !decide (insideP ((l.take (k.toNat + 1)).drop i.toNat) p = insideP (l.drop k.toNat ++ l.take (i.toNat + 1)) p) := by
      rw [Bool.eq_iff_iff]; simpa using h
    rw [e]; simp
end Go.Proofs.Ytpaielaniekdbaa
