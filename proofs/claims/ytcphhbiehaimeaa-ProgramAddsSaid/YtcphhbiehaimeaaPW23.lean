/- Rows added, and multiplied. -/
import Derived.Test.YtcphhbiehaimeaaPV23
namespace Go.Proofs.Ytcphhbiehaimeaa
open Go.RowKit
set_option linter.unusedVariables false
set_option linter.unusedSimpArgs false
def cellsB (xs : List Bool) : List V := xs.map V.bool
theorem cellsB_length (xs : List Bool) : (cellsB xs).length = xs.length := by simp [cellsB]
theorem cellsB_sc (xs : List Bool) : (cellsB xs).all V.sc = true := by simp [cellsB, V.sc]
theorem cellsB_cl : ∀ (xs : List Bool), V.clL (cellsB xs) = true
  | [] => rfl
  | x :: xs => by simpa [cellsB, V.clL, V.cl] using cellsB_cl xs
theorem cellsB_getD (xs : List Bool) (k : Nat) (h : k < xs.length) : (cellsB xs).getD k .any = V.bool (xs.getD k false) := by simp [cellsB, List.getD, h]
theorem cellsB_dropD (xs : List Bool) (k : Nat) (h : k < xs.length) : (List.drop k (cellsB xs)).getD 0 .any = V.bool (xs.getD k false) := by simp [cellsB, List.getD, h]
theorem cellsB_spl (xs : List Bool) (k : Nat) (b : Bool) (h : k < xs.length) : List.take k (cellsB xs) ++ V.bool b :: List.drop (k + 1) (cellsB xs) = cellsB (xs.set k b) := by
  simp only [cellsB, ← List.map_take, ← List.map_drop]
  rw [← List.map_cons, ← List.map_append, List.set_eq_take_append_cons_drop, if_pos h]
theorem set4 {α : Type} (z a b c d : α) : ((((List.replicate 4 z).set 0 a).set 1 b).set 2 c).set 3 d = [a, b, c, d] := rfl
def isTo (l : List Int) : Nat → List Bool
  | 0 => List.replicate 4 false
  | j + 1 => (isTo l j).set (l.getD j 0).toNat true
theorem isTo_length (l : List Int) : ∀ j, (isTo l j).length = 4
  | 0 => rfl
  | j + 1 => by simp [isTo, isTo_length l j]
theorem isTo_getD {l : List Int} (hl : ∀ j, j < l.length → 0 ≤ l.getD j 0 ∧ l.getD j 0 ≤ 3) {k : Nat} (hk : k < 4) : ∀ j, j ≤ l.length → ((isTo l j).getD k false = true ↔ ∃ i, i < j ∧ l.getD i 0 = k)
  | 0, _ => by
    have : (isTo l 0).getD k false = false := by
      simp only [isTo, List.getD, List.getElem?_replicate]; split <;> rfl
    rw [this]; simp
  | j + 1, hj => by
    have ih := isTo_getD hl hk j (by omega)
    have hr := hl j (by omega)
    have hlen := isTo_length l j
    by_cases e : (l.getD j 0).toNat = k
    · have : (isTo l (j + 1)).getD k false = true := by simp only [isTo, ← e]; exact getD_set_self (by rw [hlen]; omega)
      rw [this]
      simp only [true_iff]
      exact ⟨j, by omega, by omega⟩
    · have : (isTo l (j + 1)).getD k false = (isTo l j).getD k false := by
        show (((isTo l j).set (l.getD j 0).toNat true)[k]?).getD false = ((isTo l j)[k]?).getD false
        rw [List.getElem?_set_ne e]
      rw [this, ih]
      constructor
      · rintro ⟨i, h1, h2⟩; exact ⟨i, by omega, h2⟩
      · rintro ⟨i, h1, h2⟩
        by_cases e2 : i = j
        · subst e2; omega
        · exact ⟨i, by omega, h2⟩
theorem mem_brk {p : Pg} {s x : Int} : ∀ {n : Nat}, x ∈ brkTo p s n ↔ ∃ k : Nat, x = k ∧ k < n ∧ keptB (p.rows.getD k rw0) s = false
  | 0 => by simp [brkTo]
  | n + 1 => by
    have ih := mem_brk (p := p) (s := s) (x := x) (n := n)
    cases h : keptB (p.rows.getD n rw0) s with
    | true =>
      rw [brkTo_t h, ih]
      constructor
      · rintro ⟨k, h1, h2, h3⟩; exact ⟨k, h1, by omega, h3⟩
      · rintro ⟨k, h1, h2, h3⟩
        by_cases e : k = n
        · subst e; rw [h] at h3; cases h3
        · exact ⟨k, h1, by omega, h3⟩
    | false =>
      rw [brkTo_f h, List.mem_append, ih, List.mem_singleton]
      constructor
      · rintro (⟨k, h1, h2, h3⟩ | h1)
        · exact ⟨k, h1, by omega, h3⟩
        · exact ⟨n, h1, by omega, h⟩
      · rintro ⟨k, h1, h2, h3⟩
        by_cases e : k = n
        · subst e; exact .inr h1
        · exact .inl ⟨k, h1, by omega, h3⟩
theorem mem_getD {l : List Int} {x : Int} : x ∈ l ↔ ∃ i, i < l.length ∧ l.getD i 0 = x := by
  constructor
  · intro h
    obtain ⟨i, hi, rfl⟩ := List.getElem_of_mem h
    exact ⟨i, hi, by simp [List.getD, hi]⟩
  · rintro ⟨i, hi, rfl⟩; exact getD_mem hi
/-! #### the rows -/
def addL (m n : Int) (a b : List Int) (v : Nat) : List Int := (List.range v).map fun i => IntKind.i64.wrap (IntKind.i64.wrap (m * a.getD i 0) + IntKind.i64.wrap (n * b.getD i 0))
theorem addL_succ (m n : Int) (a b : List Int) (v : Nat) : addL m n a b (v + 1) = addL m n a b v ++ [IntKind.i64.wrap (IntKind.i64.wrap (m * a.getD v 0) + IntKind.i64.wrap (n * b.getD v 0))] := by simp [addL, List.range_succ]
theorem addL_length (m n : Int) (a b : List Int) (v : Nat) : (addL m n a b v).length = v := by simp [addL]
def mulL (m : Int) (a : List Int) (v : Nat) : List Int := (List.range v).map fun i => IntKind.i64.wrap (IntKind.i64.wrap (m + 1) * a.getD i 0)
theorem mulL_succ (m : Int) (a : List Int) (v : Nat) : mulL m a (v + 1) = mulL m a v ++ [IntKind.i64.wrap (IntKind.i64.wrap (m + 1) * a.getD v 0)] := by simp [mulL, List.range_succ]
theorem mulL_length (m : Int) (a : List Int) (v : Nat) : (mulL m a v).length = v := by simp [mulL]
def addR (m n : Int) (r s : Rw) (v : Nat) : Rw := ⟨0, 0, 0, 0, addL m n r.coef s.coef v, IntKind.i64.wrap (IntKind.i64.wrap (m * r.most) + IntKind.i64.wrap (n * s.most))⟩
def mulR (m : Int) (r : Rw) (v : Nat) : Rw := ⟨0, 0, 0, 0, mulL m r.coef v, IntKind.i64.wrap (IntKind.i64.wrap (m + 1) * r.most)⟩
def smallR (r : Rw) : Prop := (∀ c ∈ r.coef, -4 ≤ c ∧ c ≤ 11) ∧ -4 ≤ r.most ∧ r.most ≤ 25
theorem small_getD {r : Rw} (h : smallR r) (i : Nat) : -4 ≤ r.coef.getD i 0 ∧ r.coef.getD i 0 ≤ 11 := by
  by_cases hi : i < r.coef.length
  · exact h.1 _ (getD_mem hi)
  · rw [show r.coef.getD i 0 = 0 by simp [List.getD, List.getElem?_eq_none (Nat.le_of_not_lt hi)]]; omega
theorem mul_small {m c : Int} (h0 : 0 ≤ m) (h1 : m ≤ 51) (h2 : -4 ≤ c) (h3 : c ≤ 25) : -204 ≤ m * c ∧ m * c ≤ 1275 := by
  have h4 : 0 ≤ m * (c + 4) := Int.mul_nonneg h0 (by omega)
  have h5 : m * (c + 4) ≤ 51 * 29 := Int.mul_le_mul h1 (by omega) (by omega) (by omega)
  have h6 : 0 ≤ m * (25 - c) := Int.mul_nonneg h0 (by omega)
  rw [Int.mul_add] at h4 h5
  rw [Int.mul_sub] at h6
  omega
theorem addL_getD {m n : Int} (hm : 0 ≤ m ∧ m ≤ 50) (hn : 0 ≤ n ∧ n ≤ 50) {r s : Rw} (hr : smallR r) (hs : smallR s) {v i : Nat} (hi : i < v) : (addL m n r.coef s.coef v).getD i 0 = m * r.coef.getD i 0 + n * s.coef.getD i 0 := by
  have h1 := small_getD hr i
  have h2 := small_getD hs i
  have h3 := mul_small hm.1 (by omega) h1.1 (show _ ≤ (25 : Int) by omega)
  have h4 := mul_small hn.1 (by omega) h2.1 (show _ ≤ (25 : Int) by omega)
  simp only [addL, List.getD, List.getElem?_map, List.getElem?_range hi, Option.map_some, Option.getD_some]
  have e1 : r.coef[i]?.getD 0 = r.coef.getD i 0 := rfl
  have e2 : s.coef[i]?.getD 0 = s.coef.getD i 0 := rfl
  rw [e1, e2, w64 (x := m * _) (by omega), w64 (x := n * _) (by omega), w64 (by omega)]
theorem mulL_getD {m : Int} (hm : 0 ≤ m ∧ m ≤ 50) {r : Rw} (hr : smallR r) {v i : Nat} (hi : i < v) : (mulL m r.coef v).getD i 0 = (m + 1) * r.coef.getD i 0 := by
  have h1 := small_getD hr i
  have h3 := mul_small (m := m + 1) (by omega) (by omega) h1.1 (show _ ≤ (25 : Int) by omega)
  simp only [mulL, List.getD, List.getElem?_map, List.getElem?_range hi, Option.map_some, Option.getD_some]
  have e1 : r.coef[i]?.getD 0 = r.coef.getD i 0 := rfl
  rw [e1, w64 (x := m + 1) (by omega), w64 (by omega)]
theorem addR_most {m n : Int} (hm : 0 ≤ m ∧ m ≤ 50) (hn : 0 ≤ n ∧ n ≤ 50) {r s : Rw} (hr : smallR r) (hs : smallR s) (v : Nat) : (addR m n r s v).most = m * r.most + n * s.most ∧ -408 ≤ m * r.most + n * s.most ∧ m * r.most + n * s.most ≤ 2550 := by
  have h3 := mul_small hm.1 (by omega) hr.2.1 hr.2.2
  have h4 := mul_small hn.1 (by omega) hs.2.1 hs.2.2
  simp only [addR]
  rw [w64 (x := m * _) (by omega), w64 (x := n * _) (by omega), w64 (by omega)]
  exact ⟨rfl, by omega, by omega⟩
theorem mulR_most {m : Int} (hm : 0 ≤ m ∧ m ≤ 50) {r : Rw} (hr : smallR r) (v : Nat) : (mulR m r v).most = (m + 1) * r.most ∧ -204 ≤ (m + 1) * r.most ∧ (m + 1) * r.most ≤ 1275 := by
  have h3 := mul_small (m := m + 1) (by omega) (by omega) hr.2.1 hr.2.2
  simp only [mulR]
  rw [w64 (x := m + 1) (by omega), w64 (by omega)]
  exact ⟨rfl, h3⟩
theorem addL_sum {m n : Int} (hm : 0 ≤ m ∧ m ≤ 50) (hn : 0 ≤ n ∧ n ≤ 50) {r s : Rw} (hr : smallR r) (hs : smallR s) {v : Nat} (t : Nat) : ∀ k, k ≤ v → sumG (addL m n r.coef s.coef v) t k = m * sumG r.coef t k + n * sumG s.coef t k
  | 0, _ => by simp [sumG]
  | k + 1, hk => by
    have ih := addL_sum hm hn hr hs (v := v) t k (by omega)
    have hk2 := addL_getD hm hn hr hs (v := v) (i := k) (by omega)
    simp only [sumG, ih, hk2]
    split
    · rw [Int.mul_add, Int.mul_add]; omega
    · simp
theorem mulL_sum {m : Int} (hm : 0 ≤ m ∧ m ≤ 50) {r : Rw} (hr : smallR r) {v : Nat} (t : Nat) : ∀ k, k ≤ v → sumG (mulL m r.coef v) t k = (m + 1) * sumG r.coef t k
  | 0, _ => by simp [sumG]
  | k + 1, hk => by
    have ih := mulL_sum hm hr (v := v) t k (by omega)
    have hk2 := mulL_getD hm hr (v := v) (i := k) (by omega)
    simp only [sumG, ih, hk2]
    split
    · rw [Int.mul_add (m + 1)]
    · simp
def addQ (p : Pg) (m n : Int) (r s : Rw) (v : Nat) : Pg := ⟨p.vars, [r, s, addR m n r s v, mulR m r v], p.gain⟩
theorem addQ_valid {p : Pg} (hv : validB p = true) {v : Nat} (e : p.vars = v) {m n : Int} (hm : 0 ≤ m ∧ m ≤ 50) (hn : 0 ≤ n ∧ n ≤ 50) {r s : Rw} (hr : r ∈ p.rows) (hs : s ∈ p.rows) (hr' : smallR r) (hs' : smallR s) : validB (addQ p m n r s v) = true := by
  obtain ⟨h0, h1, h2, h3, h4, h5⟩ := validB_all hv
  have hh : ∀ q ∈ [r, s, addR m n r s v, mulR m r v], rightB q p.vars = true := by
    intro q hq
    simp only [List.mem_cons, List.not_mem_nil, or_false] at hq
    have old : ∀ q ∈ p.rows, rightB q p.vars = true := fun q hq => by
      obtain ⟨k1, k2, k3⟩ := h5 q hq
      simp only [rightB, Bool.and_eq_true, decide_eq_true_eq, isInB_spec]; exact ⟨k1, k2, k3⟩
    rcases hq with rfl | rfl | rfl | rfl
    · exact old _ hr
    · exact old _ hs
    · have hmo := addR_most hm hn hr' hs' v
      simp only [rightB, Bool.and_eq_true, decide_eq_true_eq, isInB_spec]
      refine ⟨by simp only [addR, addL_length]; omega, coefB_iff.2 fun c hc => ?_, by omega, by omega⟩
      obtain ⟨i, hi, rfl⟩ := mem_getD.1 hc
      simp only [addR, addL_length] at hi
      have := addL_getD hm hn hr' hs' hi
      simp only [addR]
      rw [this]
      have h1 := small_getD hr' i
      have h2 := small_getD hs' i
      have h3 := mul_small hm.1 (by omega) h1.1 (show _ ≤ (25 : Int) by omega)
      have h4 := mul_small hn.1 (by omega) h2.1 (show _ ≤ (25 : Int) by omega)
      omega
    · have hmo := mulR_most hm hr' v
      simp only [rightB, Bool.and_eq_true, decide_eq_true_eq, isInB_spec]
      refine ⟨by simp only [mulR, mulL_length]; omega, coefB_iff.2 fun c hc => ?_, by omega, by omega⟩
      obtain ⟨i, hi, rfl⟩ := mem_getD.1 hc
      simp only [mulR, mulL_length] at hi
      have := mulL_getD hm hr' hi
      simp only [mulR]
      rw [this]
      have h1 := small_getD hr' i
      have h3 := mul_small (m := m + 1) (by omega) (by omega) h1.1 (show _ ≤ (25 : Int) by omega)
      omega
  simp only [validB, addQ, Bool.and_eq_true, decide_eq_true_eq, isInB_spec, List.all_eq_true]
  exact ⟨⟨h0, h1⟩, by simp, hh, decide_eq_true h3, h4⟩
/-- What is broken of the four. -/
theorem adds_end {p : Pg} (hv : validB p = true) {v : Nat} (e : p.vars = v) {m n : Int} (hm : 0 ≤ m ∧ m ≤ 50) (hn : 0 ≤ n ∧ n ≤ 50) {r s : Rw} (hr : r ∈ p.rows) (hs : s ∈ p.rows) (hr' : smallR r) (hs' : smallR s) {t : Nat} (ht : t < 2 ^ v) :
    (∀ j, j < (brokenW (addQ p m n r s v) t).length → 0 ≤ (brokenW (addQ p m n r s v) t).getD j 0 ∧ (brokenW (addQ p m n r s v) t).getD j 0 ≤ 3) ∧
    ∃ b0 b1 b2 : Bool, isTo (brokenW (addQ p m n r s v) t) (brokenW (addQ p m n r s v) t).length = [b0, b1, b2, b0] ∧ ¬ (b0 = false ∧ b1 = false ∧ b2 = true) := by
  have hq := addQ_valid hv e hm hn hr hs hr' hs'
  have eb := broken_in hq e ht
  have hrange : ∀ j, j < (brokenW (addQ p m n r s v) t).length → 0 ≤ (brokenW (addQ p m n r s v) t).getD j 0 ∧ (brokenW (addQ p m n r s v) t).getD j 0 ≤ 3 := by
    intro j hj
    have h1 : (brokenW (addQ p m n r s v) t).getD j 0 ∈ brkTo (addQ p m n r s v) t (addQ p m n r s v).rows.length := by rw [← eb]; exact getD_mem hj
    obtain ⟨k, h2, h3, -⟩ := mem_brk.1 h1
    have : (addQ p m n r s v).rows.length = 4 := rfl
    omega
  refine ⟨hrange, ?_⟩
  generalize hl : brokenW (addQ p m n r s v) t = l at hrange eb ⊢
  have hlen := isTo_length l l.length
  have hmem : ∀ k : Nat, k < 4 → ((isTo l l.length).getD k false = true ↔ keptB ((addQ p m n r s v).rows.getD k rw0) t = false) := fun k hk => by
    rw [isTo_getD hrange hk l.length (Nat.le_refl _), ← mem_getD, eb, mem_brk]
    constructor
    · rintro ⟨k', h1, h2, h3⟩
      have : k' = k := by omega
      subst this; exact h3
    · exact fun h => ⟨k, rfl, hk, h⟩
  have hsum : ∀ k : Nat, k < 4 → (keptB ((addQ p m n r s v).rows.getD k rw0) t = false ↔ ((addQ p m n r s v).rows.getD k rw0).most < sumG ((addQ p m n r s v).rows.getD k rw0).coef t v) := fun k hk => by
    rw [keptB_in hq e (getD_mem (show k < (addQ p m n r s v).rows.length from hk)) ht, decide_eq_false_iff_not]; omega
  have g0 := (hmem 0 (by omega)).trans (hsum 0 (by omega))
  have g1 := (hmem 1 (by omega)).trans (hsum 1 (by omega))
  have g2 := (hmem 2 (by omega)).trans (hsum 2 (by omega))
  have g3 := (hmem 3 (by omega)).trans (hsum 3 (by omega))
  have r0 : (addQ p m n r s v).rows.getD 0 rw0 = r := rfl
  have r1 : (addQ p m n r s v).rows.getD 1 rw0 = s := rfl
  have r2 : (addQ p m n r s v).rows.getD 2 rw0 = addR m n r s v := rfl
  have r3 : (addQ p m n r s v).rows.getD 3 rw0 = mulR m r v := rfl
  rw [r0] at g0; rw [r1] at g1; rw [r2] at g2; rw [r3] at g3
  have e2 : sumG (addR m n r s v).coef t v = m * sumG r.coef t v + n * sumG s.coef t v := addL_sum hm hn hr' hs' t v (Nat.le_refl _)
  have e3 : sumG (mulR m r v).coef t v = (m + 1) * sumG r.coef t v := mulL_sum hm hr' t v (Nat.le_refl _)
  rw [e2, (addR_most hm hn hr' hs' v).1] at g2
  rw [e3, (mulR_most hm hr' v).1] at g3
  generalize isTo l l.length = bs at hlen g0 g1 g2 g3
  match bs, hlen with
  | [b0, b1, b2, b3], _ =>
    simp only [List.getD_cons_zero, List.getD_cons_succ] at g0 g1 g2 g3
    have h03 : b3 = b0 := by
      rw [Bool.eq_iff_iff, g3, g0]
      constructor
      · intro h
        have : 0 < (m + 1) * (sumG r.coef t v - r.most) := by rw [Int.mul_sub]; omega
        have := Int.pos_of_mul_pos_right this (by omega)
        omega
      · intro h
        have : 0 < (m + 1) * (sumG r.coef t v - r.most) := Int.mul_pos (by omega) (by omega)
        rw [Int.mul_sub] at this; omega
    refine ⟨b0, b1, b2, by rw [h03], ?_⟩
    rintro ⟨rfl, rfl, rfl⟩
    have k0 : ¬ r.most < sumG r.coef t v := fun h => by have := g0.2 h; cases this
    have k1 : ¬ s.most < sumG s.coef t v := fun h => by have := g1.2 h; cases this
    have k2 := g2.1 rfl
    have a1 : 0 ≤ m * (r.most - sumG r.coef t v) := Int.mul_nonneg hm.1 (by omega)
    have a2 : 0 ≤ n * (s.most - sumG s.coef t v) := Int.mul_nonneg hn.1 (by omega)
    rw [Int.mul_sub] at a1 a2
    omega
theorem brk4 (p : Pg) (m n : Int) (r s : Rw) (v : Nat) (t : Int) : (brokenW (addQ p m n r s v) t).length ≤ 4 := by
  unfold brokenW
  split
  · exact brkTo_length _ _ 4
  · simp
end Go.Proofs.Ytcphhbiehaimeaa
