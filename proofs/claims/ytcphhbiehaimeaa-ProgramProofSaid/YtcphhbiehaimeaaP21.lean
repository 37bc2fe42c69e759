/- Areas, in plain Lean. -/
import Derived.Test.YtcphhbiehaimeaaAi20
namespace Go.Proofs.Ytcphhbiehaimeaa
open Go.RowKit
def pickW (c n : Int) : Int := if c < 0 then Int.tmod (IntKind.i64.wrap (0 - IntKind.i64.wrap (c + 1))) n else Int.tmod c n
/-- The place of the first that is so, or -1. -/
def idxOf {α : Type} (p : α → Bool) : List α → Int
  | [] => -1
  | x :: xs => if p x then 0 else (let r := idxOf p xs; if r < 0 then -1 else r + 1)
theorem idxOf_ge {α : Type} (p : α → Bool) : ∀ xs : List α, decide (0 ≤ idxOf p xs) = xs.any p
  | [] => by simp [idxOf]
  | x :: xs => by
    have ih := idxOf_ge p xs
    simp only [idxOf, List.any_cons]
    cases hp : p x with
    | true => simp
    | false =>
      simp only [Bool.false_eq_true, if_false, Bool.false_or, ← ih]
      by_cases h : idxOf p xs < 0
      · rw [if_pos h]; simp; omega
      · rw [if_neg h]
        have h1 : 0 ≤ idxOf p xs := by omega
        have h2 : 0 ≤ idxOf p xs + 1 := by omega
        simp [h1, h2]
theorem idxOf_none {α : Type} (p : α → Bool) : ∀ xs : List α, (∀ x ∈ xs, p x = false) → idxOf p xs = -1
  | [], _ => rfl
  | x :: xs, h => by simp [idxOf, h x (by simp), idxOf_none p xs fun y hy => h y (by simp [hy])]
theorem idxOf_at {α : Type} (p : α → Bool) (d : α) : ∀ (xs : List α) (i : Nat), i < xs.length → (∀ j, j < i → p (xs.getD j d) = false) → p (xs.getD i d) = true → idxOf p xs = i
  | [], i, h, _, _ => by simp at h
  | x :: xs, 0, _, _, h => by simp at h; simp [idxOf, h]
  | x :: xs, i + 1, hl, h, hi => by
    have h0 := h 0 (by omega)
    simp at h0
    have ih := idxOf_at p d xs i (by simpa using hl) (fun j hj => by simpa using h (j + 1) (by omega)) (by simpa using hi)
    simp only [idxOf, h0, Bool.false_eq_true, if_false, ih]
    rw [if_neg (by omega)]; omega
theorem getD_mem {α : Type} {d : α} {xs : List α} {i : Nat} (h : i < xs.length) : xs.getD i d ∈ xs := by simp [List.getD, h]
theorem step_false {α : Type} {d : α} {xs : List α} {p : α → Bool} {i : Nat} (h : ∀ j, j < i → p (xs.getD j d) = false) (hi : p (xs.getD i d) = false) : ∀ j, j < i + 1 → p (xs.getD j d) = false := by
  intro j hj
  rcases Nat.lt_or_ge j i with h1 | h1
  · exact h j h1
  · have : j = i := by omega
    subst this; exact hi
theorem all_false {α : Type} (d : α) {xs : List α} {p : α → Bool} {i : Nat} (h : ∀ j, j < i → p (xs.getD j d) = false) (hi : xs.length ≤ i) : ∀ x ∈ xs, p x = false := by
  intro x hx
  obtain ⟨j, hj, rfl⟩ := List.getElem_of_mem hx
  have := h j (by omega)
  simpa [List.getD, hj] using this
theorem w64 {x : Int} (h : -9223372036854775808 ≤ x ∧ x ≤ 9223372036854775807) : IntKind.i64.wrap x = x := by
  unfold IntKind.wrap; simp [IntKind.signed, IntKind.bits]; omega
def validA (a : List Int) : Bool := !(a.any fun x => decide (x < 0) || decide (65535 < x))
def zeros16 : List Int := List.replicate 16 0
/-- The first n of 16 cells are done. -/
def outA (f : Nat → Int) (n : Nat) : List Int := (List.range 16).map fun j => if j < n then f j else 0
theorem outA_length (f : Nat → Int) (n : Nat) : (outA f n).length = 16 := by simp [outA]
theorem outA_zero (f : Nat → Int) : outA f 0 = List.replicate 16 0 := by simp [outA]; rfl
theorem outA_set (f : Nat → Int) {n : Nat} (h : n < 16) : (outA f n).set n (f n) = outA f (n + 1) := by
  apply List.ext_getElem?
  intro j
  simp only [outA, List.getElem?_set, List.length_map, List.length_range, List.getElem?_map]
  by_cases e : n = j
  · subst e; simp [h]
  · by_cases hj : j < 16
    · simp only [e, if_false, List.getElem?_range hj, Option.map_some]
      congr 1
      by_cases h1 : j < n
      · rw [if_pos h1, if_pos (by omega)]
      · rw [if_neg h1, if_neg (by omega)]
    · simp [e, hj]
theorem outA_all (p : Int → Int → Int) {a b : List Int} (ha : a.length = 16) (hb : b.length = 16) : outA (fun j => p (a.getD j 0) (b.getD j 0)) 16 = List.zipWith p a b := by
  apply List.ext_getElem?
  intro j
  simp only [outA, List.getElem?_map, List.getElem?_zipWith]
  by_cases hj : j < 16
  · have h1 : j < a.length := by omega
    have h2 : j < b.length := by omega
    simp [hj, h1, h2, List.getD]
  · have h1 : a[j]? = none := List.getElem?_eq_none (by omega)
    have h3 : (List.range 16)[j]? = none := List.getElem?_eq_none (by simp; omega)
    rw [h1, h3]; rfl
theorem outA_allg (p : Int → Int → Int) {a b : List Int} (ha : a.length = 16) (hb : b.length = 16) : outA (fun j => p (a[j]?.getD 0) (b[j]?.getD 0)) 16 = List.zipWith p a b := outA_all p ha hb
def eachA (p : Int → Int → Int) (a b : List Int) : List Int := if validA a && validA b then List.zipWith p a b else zeros16
theorem eachA_length (p : Int → Int → Int) {a b : List Int} (ha : a.length = 16) (hb : b.length = 16) : (eachA p a b).length = 16 := by
  unfold eachA; split <;> simp [ha, hb, zeros16]
theorem cellsI_inj {a b : List Int} (h : cellsI a = cellsI b) : a = b := by
  have : (cellsI a).map (fun v => match v with | .int _ n => n | _ => 0) = (cellsI b).map (fun v => match v with | .int _ n => n | _ => 0) := by rw [h]
  simpa [cellsI, List.map_map, Function.comp_def] using this
theorem agEq_cells (a b : List Int) : agEq (cellsI a) (cellsI b) = decide (a = b) := by
  unfold agEq
  by_cases h : a = b
  · subst h; simp
  · have h' : ¬ cellsI a = cellsI b := fun e => h (cellsI_inj e)
    simp [h, h']
theorem cellsI_isI (a : List Int) : (cellsI a).all (V.isI .i64) = true := by simp [cellsI, V.isI]
def minusA := eachA (bitsV .andNot .i64)
def unionA := eachA (bitsV .or .i64)
def meetA := eachA (bitsV .and .i64)
def withinA (a b : List Int) : Bool := validA a && (validA b && decide (minusA a b = zeros16))
/-- Cell x of a row. -/
def cellB (r x : Int) : Bool := decide (bitsV .and .i64 (shrW .i64 r x) 1 = 1)
def hasA (a : List Int) (x y : Int) : Bool := validA a && (decide (0 ≤ minV x y) && (decide (maxV x y < 16) && cellB (a.getD y.toNat 0) x))
theorem minV_le (x y : Int) : minV x y ≤ x ∧ minV x y ≤ y := by unfold minV; split <;> omega
theorem maxV_ge (x y : Int) : x ≤ maxV x y ∧ y ≤ maxV x y := by unfold maxV; split <;> omega
theorem ib (k : IntKind) : k = k := rfl
/-! #### how many -/
def onesW (x : Int) : Int :=
  let a := IntKind.u64.wrap (bitsV .and .u64 (shrW .u64 x 1) 6148914691236517205 + bitsV .and .u64 x 6148914691236517205)
  let b := IntKind.u64.wrap (bitsV .and .u64 (shrW .u64 a 2) 3689348814741910323 + bitsV .and .u64 a 3689348814741910323)
  let c := bitsV .and .u64 (IntKind.u64.wrap (shrW .u64 b 4 + b)) 1085102592571150095
  let d := IntKind.u64.wrap (c + shrW .u64 c 8)
  let e := IntKind.u64.wrap (d + shrW .u64 d 16)
  let f := IntKind.u64.wrap (e + shrW .u64 e 32)
  bitsV .and .i64 (IntKind.i64.wrap f) 127
theorem and127 (x : Int) : 0 ≤ bitsV .and .i64 x 127 ∧ bitsV .and .i64 x 127 ≤ 127 := by
  have h : (BitVec.ofInt 64 x &&& BitVec.ofInt 64 127).toNat ≤ 127 := by
    rw [BitVec.toNat_and]; exact Nat.and_le_right
  have e : bitsV .and .i64 x 127 = IntKind.i64.wrap ((BitVec.ofInt 64 x &&& BitVec.ofInt 64 127).toNat : Int) := rfl
  rw [e, w64 (by omega)]
  omega
theorem onesW_range (x : Int) : 0 ≤ onesW x ∧ onesW x ≤ 127 := and127 _
def sumTo (f : Nat → Int) : Nat → Int
  | 0 => 0
  | n + 1 => sumTo f n + f n
theorem sumTo_range {f : Nat → Int} (h : ∀ j, 0 ≤ f j ∧ f j ≤ 127) : ∀ n, 0 ≤ sumTo f n ∧ sumTo f n ≤ 127 * n
  | 0 => by simp [sumTo]
  | n + 1 => by have := sumTo_range h n; have := h n; simp only [sumTo]; omega
def rowOnes (a : List Int) (j : Nat) : Int := onesW (IntKind.u64.wrap (a.getD j 0))
def sizeA (a : List Int) : Int := if validA a then sumTo (rowOnes a) 16 else 0
/-! #### moved -/
def shiftW (r dx : Int) : Int := if 0 ≤ dx then bitsV .and .i64 (shlW .i64 r dx) 65535 else shrW .i64 r (0 - dx)
def outM (a : List Int) (dx dy : Int) (n : Nat) : List Int := (List.range 16).map fun (j : Nat) => if 0 ≤ (j : Int) - dy ∧ (j : Int) - dy < n then shiftW (a.getD ((j : Int) - dy).toNat 0) dx else 0
def moveA (a : List Int) (dx dy : Int) : List Int := if !validA a || decide (minV dx dy ≤ -16) || decide (16 ≤ maxV dx dy) then zeros16 else outM a dx dy 16
theorem outM_length (a : List Int) (dx dy : Int) (n : Nat) : (outM a dx dy n).length = 16 := by simp [outM]
theorem outM_zero (a : List Int) (dx dy : Int) : outM a dx dy 0 = List.replicate 16 0 := by
  simp only [outM]
  rw [show (List.replicate 16 (0 : Int)) = (List.range 16).map fun _ => 0 from rfl]
  refine List.map_congr_left fun j _ => ?_
  rw [if_neg (by omega)]
theorem outM_skip (a : List Int) (dx dy : Int) {n : Nat} (h : (n : Int) + dy < 0 ∨ 16 ≤ (n : Int) + dy) : outM a dx dy (n + 1) = outM a dx dy n := by
  refine List.map_congr_left fun j hj => ?_
  have hj' : j < 16 := by simpa using hj
  by_cases h1 : 0 ≤ (j : Int) - dy ∧ (j : Int) - dy < n
  · rw [if_pos h1, if_pos (by omega)]
  · rw [if_neg h1, if_neg (by omega)]
theorem outM_set (a : List Int) (dx dy : Int) {n : Nat} (h0 : 0 ≤ (n : Int) + dy) (h : (n : Int) + dy < 16) : (outM a dx dy n).set ((n : Int) + dy).toNat (shiftW (a.getD n 0) dx) = outM a dx dy (n + 1) := by
  apply List.ext_getElem?
  intro j
  simp only [outM, List.getElem?_set, List.length_map, List.length_range, List.getElem?_map]
  by_cases e : ((n : Int) + dy).toNat = j
  · have hj : j < 16 := by omega
    have h2 : (j : Int) - dy = n := by omega
    simp only [e, if_true, hj, List.getElem?_range hj, Option.map_some, h2]
    rw [if_pos (by omega)]
    rfl
  · by_cases hj : j < 16
    · simp only [e, if_false, List.getElem?_range hj, Option.map_some]
      congr 1
      by_cases h1 : 0 ≤ (j : Int) - dy ∧ (j : Int) - dy < n
      · rw [if_pos h1, if_pos (by omega)]
      · rw [if_neg h1, if_neg (by omega)]
    · simp [e, hj]
/-! #### places -/
structure Pl where
  x : Int
  y : Int
def encP (l : List Pl) : List (List V) := l.map fun p => [V.int .i64 p.x, V.int .i64 p.y]
theorem encP_length (l : List Pl) : (encP l).length = l.length := by simp [encP]
theorem encP_getD (l : List Pl) (k : Nat) (h : k < l.length) : (encP l).getD k [] = [V.int .i64 (l.getD k ⟨0, 0⟩).x, V.int .i64 (l.getD k ⟨0, 0⟩).y] := by simp [encP, List.getD, h]
def onMap (p : Pl) : Bool := decide (0 ≤ minV p.x p.y) && decide (maxV p.x p.y ≤ 64)
theorem onMap_spec {p : Pl} (h : onMap p = true) : 0 ≤ p.x ∧ p.x ≤ 64 ∧ 0 ≤ p.y ∧ p.y ≤ 64 := by
  simp [onMap] at h
  have := minV_le p.x p.y
  have := maxV_ge p.x p.y
  omega
theorem onMap_mk {p : Pl} (h : 0 ≤ p.x ∧ p.x ≤ 64 ∧ 0 ≤ p.y ∧ p.y ≤ 64) : onMap p = true := by
  have h1 : 0 ≤ minV p.x p.y := by unfold minV; split <;> omega
  have h2 : maxV p.x p.y ≤ 64 := by unfold maxV; split <;> omega
  simp [onMap, h1, h2]
theorem mulB {u v : Int} (h1 : -64 ≤ u) (h2 : u ≤ 64) (h3 : -64 ≤ v) (h4 : v ≤ 64) : -4096 ≤ u * v ∧ u * v ≤ 4096 := by
  have e : (64 - u) * (64 + v) ≥ 0 := Int.mul_nonneg (by omega) (by omega)
  have e2 : (64 + u) * (64 - v) ≥ 0 := Int.mul_nonneg (by omega) (by omega)
  have e3 : (64 - u) * (64 - v) ≥ 0 := Int.mul_nonneg (by omega) (by omega)
  have e4 : (64 + u) * (64 + v) ≥ 0 := Int.mul_nonneg (by omega) (by omega)
  simp only [Int.sub_mul, Int.mul_sub, Int.add_mul, Int.mul_add] at e e2 e3 e4
  omega
def turnP (a b c : Pl) : Int := (b.x - a.x) * (c.y - a.y) - (b.y - a.y) * (c.x - a.x)
theorem turnP_range {a b c : Pl} (ha : onMap a = true) (hb : onMap b = true) (hc : onMap c = true) : -8192 ≤ turnP a b c ∧ turnP a b c ≤ 8192 := by
  have ha := onMap_spec ha
  have hb := onMap_spec hb
  have hc := onMap_spec hc
  have h1 := mulB (u := b.x - a.x) (v := c.y - a.y) (by omega) (by omega) (by omega) (by omega)
  have h2 := mulB (u := b.y - a.y) (v := c.x - a.x) (by omega) (by omega) (by omega) (by omega)
  unfold turnP; omega
theorem turn_wrap {a b c : Pl} (ha : onMap a = true) (hb : onMap b = true) (hc : onMap c = true) :
    IntKind.i64.wrap (IntKind.i64.wrap (IntKind.i64.wrap (b.x - a.x) * IntKind.i64.wrap (c.y - a.y)) - IntKind.i64.wrap (IntKind.i64.wrap (b.y - a.y) * IntKind.i64.wrap (c.x - a.x))) = turnP a b c := by
  have hr := turnP_range ha hb hc
  have ha := onMap_spec ha
  have hb := onMap_spec hb
  have hc := onMap_spec hc
  have h1 := mulB (u := b.x - a.x) (v := c.y - a.y) (by omega) (by omega) (by omega) (by omega)
  have h2 := mulB (u := b.y - a.y) (v := c.x - a.x) (by omega) (by omega) (by omega) (by omega)
  rw [w64 (x := b.x - a.x) (by omega), w64 (x := c.y - a.y) (by omega), w64 (x := b.y - a.y) (by omega), w64 (x := c.x - a.x) (by omega), w64 (x := (b.x - a.x) * (c.y - a.y)) (by omega), w64 (x := (b.y - a.y) * (c.x - a.x)) (by omega)]
  exact w64 (by unfold turnP at hr; omega)
def validP (l : List Pl) : Bool := decide (3 ≤ (l.length : Int)) && (decide ((l.length : Int) ≤ 12) && !(l.any fun p => !onMap p))
theorem validP_len {l : List Pl} (h : validP l = true) : 3 ≤ l.length ∧ l.length ≤ 12 ∧ ∀ p ∈ l, onMap p = true := by
  simp [validP] at h
  exact ⟨by omega, by omega, h.2.2⟩
/-! #### where a place is -/
def nearP (a b p : Pl) : Bool := ((decide (minV a.x b.x ≤ p.x) && decide (p.x ≤ maxV a.x b.x)) && decide (minV a.y b.y ≤ p.y)) && decide (p.y ≤ maxV a.y b.y)
def hitP (a b p : Pl) : Bool := decide (turnP a b p = 0) && nearP a b p
def crossP (a b p : Pl) : Bool := ((decide (a.y ≤ p.y) && decide (p.y < b.y)) && decide (0 < turnP a b p)) || ((decide (b.y ≤ p.y) && decide (p.y < a.y)) && decide (turnP a b p < 0))
def sideGo (p : Pl) (a : Pl) (out : Int) : List Pl → Int
  | [] => out
  | b :: bs => if hitP a b p then 0 else sideGo p b (if crossP a b p then 0 - out else out) bs
def sideP (l : List Pl) (p : Pl) : Int := sideGo p (l.getD (l.length - 1) ⟨0, 0⟩) (-1) l
theorem drop_cons {α : Type} {d : α} {l : List α} {i : Nat} (h : i < l.length) : l.drop i = l.getD i d :: l.drop (i + 1) := by
  rw [List.drop_eq_getElem_cons h]; simp [List.getD, h]
theorem sideGo_hit {p a : Pl} {out : Int} {l : List Pl} {i : Nat} (h : i < l.length) (hit : hitP a (l.getD i ⟨0, 0⟩) p = true) : sideGo p a out (l.drop i) = 0 := by
  rw [drop_cons (d := ⟨0, 0⟩) h]; simp only [sideGo, hit, if_true]
theorem sideGo_cross {p a : Pl} {out : Int} {l : List Pl} {i : Nat} (h : i < l.length) (hit : hitP a (l.getD i ⟨0, 0⟩) p = false) (hc : crossP a (l.getD i ⟨0, 0⟩) p = true) :
    sideGo p (l.getD i ⟨0, 0⟩) (0 - out) (l.drop (i + 1)) = sideGo p a out (l.drop i) := by
  rw [drop_cons (d := ⟨0, 0⟩) h]; simp only [sideGo, hit, hc, if_true, Bool.false_eq_true, if_false]
theorem sideGo_miss {p a : Pl} {out : Int} {l : List Pl} {i : Nat} (h : i < l.length) (hit : hitP a (l.getD i ⟨0, 0⟩) p = false) (hc : crossP a (l.getD i ⟨0, 0⟩) p = false) :
    sideGo p (l.getD i ⟨0, 0⟩) out (l.drop (i + 1)) = sideGo p a out (l.drop i) := by
  rw [drop_cons (d := ⟨0, 0⟩) h]; simp only [sideGo, hit, hc, Bool.false_eq_true, if_false]
def insideP (l : List Pl) (p : Pl) : Int := if validP l && onMap p then sideP l p else -1
/-! #### the cells that are so -/
def rowG (g : Nat → Nat → Bool) (y : Nat) : Nat → Int
  | 0 => 0
  | n + 1 => if g n y = true then bitsV .or .i64 (rowG g y n) (shlW .i64 1 n) else rowG g y n
theorem rowG_succ (g : Nat → Nat → Bool) (y n : Nat) : rowG g y (n + 1) = if g n y = true then bitsV .or .i64 (rowG g y n) (shlW .i64 1 n) else rowG g y n := rfl
def cellsG (g : Nat → Nat → Bool) : List Int := outA (fun j => rowG g j 16) 16
theorem cellsG_length (g : Nat → Nat → Bool) : (cellsG g).length = 16 := outA_length _ _
theorem outA_set0 (f : Nat → Int) {n : Nat} (h : n < 16) : (outA f n).set n 0 = outA f n := by
  apply List.ext_getElem?
  intro j
  simp only [outA, List.getElem?_set, List.length_map, List.length_range, List.getElem?_map]
  by_cases e : n = j
  · subst e; simp [h]
  · simp [e]
theorem outR_zero (g : Nat → Nat → Bool) {y : Nat} (h : y < 16) : (outA (fun j => rowG g j 16) y).set y (rowG g y 0) = outA (fun j => rowG g j 16) y := outA_set0 _ h
theorem getD_set_same (xs : List Int) (k : Nat) (v : Int) (h : k < xs.length) : (xs.set k v).getD k 0 = v := by simp [List.getD, h]
def ctr (x y : Nat) : Pl := ⟨4 * (x : Int) + 2, 4 * (y : Int) + 2⟩
theorem ctr_on {x y : Nat} (hx : x < 16) (hy : y < 16) : onMap (ctr x y) = true := onMap_mk (by simp only [ctr]; omega)
def polyA (l : List Pl) : List Int × Int := if validP l then (cellsG fun x y => decide (0 ≤ sideP l (ctr x y)), 0) else (zeros16, 210)
def nearR (q p : Pl) (r : Int) : Bool := decide ((q.x - p.x) * (q.x - p.x) + (q.y - p.y) * (q.y - p.y) ≤ r * r)
theorem sqB {u : Int} (h1 : -100 ≤ u) (h2 : u ≤ 100) : 0 ≤ u * u ∧ u * u ≤ 10000 := by
  have e : (100 - u) * (100 + u) ≥ 0 := Int.mul_nonneg (by omega) (by omega)
  have e2 : u * u ≥ 0 := by
    rcases Int.le_total 0 u with h | h
    · exact Int.mul_nonneg h h
    · exact Int.mul_nonneg_of_nonpos_of_nonpos h h
  have e3 : 100 * u = u * 100 := Int.mul_comm _ _
  simp only [Int.sub_mul, Int.mul_add] at e
  omega
theorem near_wrap {q p : Pl} {r : Int} (hq : onMap q = true) (hp : onMap p = true) (h0 : 0 ≤ r) (h1 : r ≤ 100) :
    decide (IntKind.i64.wrap (IntKind.i64.wrap (IntKind.i64.wrap (q.x - p.x) * IntKind.i64.wrap (q.x - p.x)) + IntKind.i64.wrap (IntKind.i64.wrap (q.y - p.y) * IntKind.i64.wrap (q.y - p.y))) ≤ IntKind.i64.wrap (r * r)) = nearR q p r := by
  have hq := onMap_spec hq
  have hp := onMap_spec hp
  have e1 := sqB (u := q.x - p.x) (by omega) (by omega)
  have e2 := sqB (u := q.y - p.y) (by omega) (by omega)
  have e3 := sqB (u := r) (by omega) (by omega)
  rw [w64 (x := q.x - p.x) (by omega), w64 (x := q.y - p.y) (by omega), w64 (x := (q.x - p.x) * (q.x - p.x)) (by omega), w64 (x := (q.y - p.y) * (q.y - p.y)) (by omega), w64 (x := r * r) (by omega), w64 (by omega)]
  rfl
def discA (p : Pl) (r : Int) : List Int × Int := if onMap p && (decide (0 ≤ r) && decide (r ≤ 100)) then (cellsG fun x y => nearR (ctr x y) p r, 0) else (zeros16, 210)
theorem discA_bad {p : Pl} {r : Int} (h : (onMap p = false ∨ r < 0) ∨ 100 < r) : discA p r = (zeros16, 210) := by
  unfold discA
  rcases h with (h | h) | h
  · simp [h]
  · have : ¬ 0 ≤ r := by omega
    simp [this]
  · have : ¬ r ≤ 100 := by omega
    simp [this]
theorem discA_ok {p : Pl} {r : Int} (h : onMap p = true) (h0 : 0 ≤ r) (h1 : r ≤ 100) : discA p r = (cellsG fun x y => nearR (ctr x y) p r, 0) := by
  simp [discA, h, h0, h1]
/-! #### made -/
def placeP (p : Pl) : Pl := ⟨pickW p.x 65, pickW p.y 65⟩
def padA (j : Nat) : Pl := ⟨20 * (j : Int), 30 * ((j : Int).tmod 2)⟩
def padP (a : List Pl) (j : Nat) : List Pl := a ++ ((List.range j).drop a.length).map padA
def madeP (l : List Pl) : List Pl := padP ((l.take 9).map placeP) (max 3 ((l.take 9).map placeP).length)
theorem encP_snoc (a : List Pl) (p : Pl) : encP (a ++ [p]) = encP a ++ [[V.int .i64 p.x, V.int .i64 p.y]] := by simp [encP]
theorem take_snoc {α β : Type} (f : α → β) (d : α) {l : List α} {i : Nat} (h : i < l.length) : (l.take (i + 1)).map f = (l.take i).map f ++ [f (l.getD i d)] := by
  rw [List.take_add_one, List.map_append]; simp [List.getD, h]
theorem padP_self (a : List Pl) {j : Nat} (h : j ≤ a.length) : padP a j = a := by simp [padP, List.drop_eq_nil_of_le, h]
theorem padP_snoc (a : List Pl) {j : Nat} (h : a.length ≤ j) : padP a (j + 1) = padP a j ++ [padA j] := by
  simp [padP, List.range_succ, List.drop_append_of_le_length, h]
theorem padP_length (a : List Pl) (j : Nat) : (padP a j).length = max a.length j := by simp [padP]; omega
theorem polyA_length (l : List Pl) : (polyA l).1.length = 16 := by unfold polyA; split <;> simp [cellsG_length, zeros16]
theorem discA_length (p : Pl) (r : Int) : (discA p r).1.length = 16 := by unfold discA; split <;> simp [cellsG_length, zeros16]
theorem pickW_range (c : Int) {n : Int} (hn : 0 < n) (hb : n ≤ 1000) (hc : -9223372036854775808 ≤ c ∧ c ≤ 9223372036854775807) : 0 ≤ pickW c n ∧ pickW c n < n := by
  unfold pickW
  split
  · rename_i h
    rw [w64 (x := c + 1) (by omega), w64 (by omega)]
    exact ⟨Int.tmod_nonneg _ (by omega), Int.tmod_lt_of_pos _ hn⟩
  · exact ⟨Int.tmod_nonneg _ (by omega), Int.tmod_lt_of_pos _ hn⟩
def okI (c : Int) : Prop := -9223372036854775808 ≤ c ∧ c ≤ 9223372036854775807
def okP (p : Pl) : Prop := okI p.x ∧ okI p.y
theorem placeP_on {p : Pl} (h : okP p) : onMap (placeP p) = true := by
  have h1 := pickW_range p.x (n := 65) (by omega) (by omega) h.1
  have h2 := pickW_range p.y (n := 65) (by omega) (by omega) h.2
  exact onMap_mk (by simp only [placeP]; omega)
def rectP (u v : Pl) : List Pl := [u, ⟨v.x, u.y⟩, v, ⟨u.x, v.y⟩]
end Go.Proofs.Ytcphhbiehaimeaa
