/- A polygon moved. -/
import Derived.Test.YtpaielaniekdbaaPG21
namespace Go.Proofs.Ytpaielaniekdbaa
open Go.RowKit
set_option linter.unusedVariables false
set_option linter.unusedSimpArgs false
/-! #### bits moved -/
theorem shlN {a k : Nat} (ha : a < 65536) (hk : k < 16) : shlW .i64 (a : Int) (k : Int) = ((a <<< k : Nat) : Int) := by
  have e : shlW .i64 a k = IntKind.i64.wrap ((a : Int) * 2 ^ (min ((k : Int).toNat) 64)) := rfl
  have e2 : min ((k : Int).toNat) 64 = k := by simp; omega
  have e3 : (2 : Int) ^ k = ((2 ^ k : Nat) : Int) := by simp
  have hp : 2 ^ k ≤ 2 ^ 15 := Nat.pow_le_pow_right (by omega) (by omega)
  have hm : a * 2 ^ k ≤ 65535 * 2 ^ 15 := Nat.mul_le_mul (by omega) hp
  rw [e, e2, e3, ← Int.natCast_mul, Nat.shiftLeft_eq, w64 ⟨Int.le_trans (by decide) (Int.natCast_nonneg _), Int.le_trans (Int.ofNat_le.2 hm) (by decide)⟩]
theorem mask_low {a : Nat} (h : a < 18446744073709551616) : ∃ K : Nat, bitsV .and .i64 (a : Int) 65535 = K ∧ K < 65536 ∧ ∀ i, i < 16 → K.testBit i = a.testBit i := by
  have e : bitsV .and .i64 (a : Int) 65535 = IntKind.i64.wrap (((BitVec.ofInt 64 (a : Int)) &&& (BitVec.ofInt 64 ((65535 : Nat) : Int))).toNat : Int) := rfl
  have hl : ((BitVec.ofInt 64 (a : Int)) &&& (BitVec.ofInt 64 ((65535 : Nat) : Int))).toNat = a &&& 65535 := by
    rw [BitVec.toNat_and, toNat64 (a := 65535) (by omega), BitVec.ofInt_natCast, BitVec.toNat_ofNat, Nat.mod_eq_of_lt (by omega)]
  have hb : a &&& 65535 < 65536 := Nat.lt_of_le_of_lt Nat.and_le_right (by omega)
  refine ⟨a &&& 65535, by rw [e, hl, w64 (by omega)], hb, fun i hi => ?_⟩
  have e6 : (65535 : Nat) = 2 ^ 16 - 1 := rfl
  rw [Nat.testBit_and, e6, Nat.testBit_two_pow_sub_one]
  simp [hi]
theorem shift_bits {N : Nat} (hN : N < 65536) {dx : Int} (h1 : -16 < dx) (h2 : dx < 16) : ∃ K : Nat, shiftW (N : Int) dx = K ∧ K < 65536 ∧ ∀ i : Nat, i < 16 → K.testBit i = (decide (0 ≤ (i : Int) - dx) && (decide ((i : Int) - dx < 16) && N.testBit ((i : Int) - dx).toNat)) := by
  unfold shiftW
  by_cases h : 0 ≤ dx
  · rw [if_pos h]
    obtain ⟨k, rfl⟩ : ∃ k : Nat, dx = k := ⟨dx.toNat, by omega⟩
    have hb : N <<< k < 18446744073709551616 := by
      rw [Nat.shiftLeft_eq]
      have hp : 2 ^ k ≤ 2 ^ 15 := Nat.pow_le_pow_right (by omega) (by omega)
      have hm : N * 2 ^ k ≤ 65535 * 2 ^ 15 := Nat.mul_le_mul (by omega) hp
      omega
    rw [shlN hN (by omega)]
    obtain ⟨K, q1, q2, q3⟩ := mask_low hb
    refine ⟨K, q1, q2, fun i hi => ?_⟩
    rw [q3 i hi, Nat.testBit_shiftLeft]
    have h3 : ((i : Int) - (k : Int) < 16) := by omega
    have h4 : ((i : Int) - (k : Int)).toNat = i - k := by omega
    simp only [h3, h4, decide_true, Bool.true_and]
    congr 1
    exact decide_eq_decide.2 (by omega)
  · rw [if_neg h]
    obtain ⟨k, hk⟩ : ∃ k : Nat, dx = -(k : Int) := ⟨(-dx).toNat, by omega⟩
    subst hk
    have e0 : (0 : Int) - -(k : Int) = (k : Int) := by omega
    rw [e0, shrN (by omega)]
    refine ⟨N / 2 ^ k, rfl, Nat.lt_of_le_of_lt (Nat.div_le_self _ _) hN, fun i hi => ?_⟩
    rw [← Nat.shiftRight_eq_div_pow, Nat.testBit_shiftRight]
    have h3 : (0 : Int) ≤ (i : Int) - -(k : Int) := by omega
    have h4 : ((i : Int) - -(k : Int)).toNat = k + i := by omega
    simp only [h3, h4, decide_true, Bool.true_and]
    by_cases h5 : (i : Int) - -(k : Int) < 16
    · simp only [h5, decide_true, Bool.true_and]
    · simp only [h5, decide_false, Bool.false_and]
      have hp : 2 ^ 16 ≤ 2 ^ (k + i) := Nat.pow_le_pow_right (by omega) (by omega)
      exact Nat.testBit_lt_two_pow (by omega)
theorem outM_getD (a : List Int) (dx dy : Int) {j : Nat} (h : j < 16) : (outM a dx dy 16).getD j 0 = if 0 ≤ (j : Int) - dy ∧ (j : Int) - dy < (16 : Nat) then shiftW (a.getD ((j : Int) - dy).toNat 0) dx else 0 := by
  simp [outM, List.getD, h]
def inR (a : Int) : Bool := decide (0 ≤ a) && decide (a < 16)
def shG (g : Nat → Nat → Bool) (dx dy : Int) (x y : Nat) : Bool := inR ((y : Int) - dy) && (inR ((x : Int) - dx) && g ((x : Int) - dx).toNat ((y : Int) - dy).toNat)
theorem move_G (g : Nat → Nat → Bool) {dx dy : Int} (h1 : -16 < dx) (h2 : dx < 16) (h3 : -16 < dy) (h4 : dy < 16) : moveA (cellsG g) dx dy = cellsG (shG g dx dy) := by
  have e : moveA (cellsG g) dx dy = outM (cellsG g) dx dy 16 := by
    unfold moveA
    have m1 : ¬ minV dx dy ≤ -16 := by unfold minV; split <;> omega
    have m2 : ¬ 16 ≤ maxV dx dy := by unfold maxV; split <;> omega
    simp [cellsG_valid, m1, m2]
  rw [e]
  apply area_eq (outM_length _ _ _ _)
  intro j hj
  rw [outM_getD _ _ _ hj]
  by_cases hr : 0 ≤ (j : Int) - dy ∧ (j : Int) - dy < (16 : Nat)
  · rw [if_pos hr]
    obtain ⟨N, k1, k2, k3⟩ := cellsG_row g (j := ((j : Int) - dy).toNat) (by omega)
    obtain ⟨K, q1, q2, q3⟩ := shift_bits k2 h1 h2
    rw [k1]
    refine ⟨K, q1, q2, fun i hi => ?_⟩
    rw [q3 i hi]
    have hy : inR ((j : Int) - dy) = true := by simp [inR]; omega
    simp only [shG, hy, Bool.true_and]
    by_cases hx : 0 ≤ (i : Int) - dx ∧ (i : Int) - dx < 16
    · rw [k3 _ (by omega)]; simp [inR, Bool.and_assoc]
    · have : inR ((i : Int) - dx) = false := by
        simp [inR]; omega
      simp only [inR] at this ⊢
      rw [← Bool.and_assoc, this]; simp
  · rw [if_neg hr]
    refine ⟨0, rfl, by omega, fun i hi => ?_⟩
    have : inR ((j : Int) - dy) = false := by simp [inR]; omega
    simp [shG, this]
/-! #### how many, moved -/
def sumN (f : Nat → Nat) : Nat → Nat
  | 0 => 0
  | n + 1 => sumN f n + f n
theorem sumN_le {f g : Nat → Nat} : ∀ {n : Nat}, (∀ i, i < n → f i ≤ g i) → sumN f n ≤ sumN g n
  | 0, _ => Nat.le_refl _
  | n + 1, h => by
    have := sumN_le (f := f) (g := g) (n := n) fun i hi => h i (by omega)
    have := h n (by omega)
    simp only [sumN]; omega
theorem cnt_sum (p : Nat → Bool) : ∀ n, cnt p n = sumN (fun i => if p i then 1 else 0) n
  | 0 => rfl
  | n + 1 => by simp only [cnt, sumN, cnt_sum p n]
theorem tot_sum (g : Nat → Nat → Bool) : ∀ n, tot g n = sumN (fun y => cnt (fun x => g x y) 16) n
  | 0 => rfl
  | n + 1 => by simp only [tot, sumN, tot_sum g n]
theorem shift_le (f : Nat → Nat) (v : Int) (h1 : -8 ≤ v) (h2 : v ≤ 8) : sumN (fun y => if inR ((y : Int) - v) then f ((y : Int) - v).toNat else 0) 16 ≤ sumN f 16 := by
  have hv : v = -8 ∨ v = -7 ∨ v = -6 ∨ v = -5 ∨ v = -4 ∨ v = -3 ∨ v = -2 ∨ v = -1 ∨ v = 0 ∨ v = 1 ∨ v = 2 ∨ v = 3 ∨ v = 4 ∨ v = 5 ∨ v = 6 ∨ v = 7 ∨ v = 8 := by omega
  rcases hv with rfl | rfl | rfl | rfl | rfl | rfl | rfl | rfl | rfl | rfl | rfl | rfl | rfl | rfl | rfl | rfl | rfl <;> simp [sumN, inR] <;> omega
theorem tot_shift_le (g : Nat → Nat → Bool) (h v : Int) (h1 : -8 ≤ h) (h2 : h ≤ 8) (h3 : -8 ≤ v) (h4 : v ≤ 8) : tot (shG g h v) 16 ≤ tot g 16 := by
  rw [tot_sum, tot_sum]
  refine Nat.le_trans (sumN_le fun y hy => ?_) (shift_le (fun y => cnt (fun x => g x y) 16) v h3 h4)
  show cnt (fun x => shG g h v x y) 16 ≤ _
  by_cases hr : inR ((y : Int) - v) = true
  · rw [if_pos hr, cnt_sum, cnt_sum]
    refine Nat.le_trans (sumN_le fun x hx => ?_) (shift_le (fun x => if g x ((y : Int) - v).toNat then 1 else 0) h h1 h2)
    show (if shG g h v x y = true then 1 else 0) ≤ _
    simp only [shG, hr, Bool.true_and]
    rcases Bool.eq_false_or_eq_true (inR ((x : Int) - h)) with e | e
    · simp [e]
    · simp [e]
  · have hr' : inR ((y : Int) - v) = false := by simpa using hr
    have : cnt (fun x => shG g h v x y) 16 = cnt (fun _ => false) 16 := cnt_congr fun x _ => by simp [shG, hr']
    rw [this, if_neg hr]; exact Nat.le_refl _
/-! #### a way moved -/
def mvP (h v : Int) (p : Pl) : Pl := ⟨p.x + 4 * h, p.y + 4 * v⟩
theorem turn_mv (h v : Int) (a b p : Pl) : turnP (mvP h v a) (mvP h v b) (mvP h v p) = turnP a b p := by
  have e1 : b.x + 4 * h - (a.x + 4 * h) = b.x - a.x := by omega
  have e2 : p.y + 4 * v - (a.y + 4 * v) = p.y - a.y := by omega
  have e3 : b.y + 4 * v - (a.y + 4 * v) = b.y - a.y := by omega
  have e4 : p.x + 4 * h - (a.x + 4 * h) = p.x - a.x := by omega
  simp only [turnP, mvP, e1, e2, e3, e4]
theorem hit_mv (h v : Int) (a b p : Pl) : hitP (mvP h v a) (mvP h v b) (mvP h v p) = hitP a b p := by
  rw [Bool.eq_iff_iff]
  simp only [hitP, nearP, turn_mv, minV_min, maxV_max, Bool.and_eq_true, decide_eq_true_eq]
  simp only [mvP]
  omega
theorem cross_mv (h v : Int) (a b p : Pl) : crossP (mvP h v a) (mvP h v b) (mvP h v p) = crossP a b p := by
  rw [Bool.eq_iff_iff]
  simp only [crossP, turn_mv, Bool.and_eq_true, Bool.or_eq_true, decide_eq_true_eq]
  simp only [mvP]
  omega
theorem sideGo_mv (h v : Int) (p : Pl) : ∀ (l : List Pl) (a : Pl) (out : Int), sideGo (mvP h v p) (mvP h v a) out (l.map (mvP h v)) = sideGo p a out l
  | [], a, out => rfl
  | b :: bs, a, out => by
    simp only [List.map_cons, sideGo, hit_mv, cross_mv, sideGo_mv h v p bs]
theorem side_mv (h v : Int) (p : Pl) {l : List Pl} (hl : l ≠ []) : sideP (l.map (mvP h v)) (mvP h v p) = sideP l p := by
  have hp : 0 < l.length := List.length_pos_iff.2 hl
  have e : (l.map (mvP h v)).getD ((l.map (mvP h v)).length - 1) ⟨0, 0⟩ = mvP h v (l.getD (l.length - 1) ⟨0, 0⟩) := by
    simp [List.getD, show l.length - 1 < l.length by omega]
  unfold sideP
  rw [e, sideGo_mv]
/-! #### off the map -/
def flipE (f : Pl → Bool) (e : Pl × Pl) : Bool := f e.1 != f e.2
theorem flips (f : Pl → Bool) : ∀ (l : List Pl) (a : Pl), (edgesFrom a l).countP (flipE f) % 2 = if f a != f (if l = [] then a else lastP l) then 1 else 0
  | [], a => by simp [edgesFrom]
  | b :: bs, a => by
    have ih := flips f bs b
    have e : lastP (b :: bs) = if bs = [] then b else lastP bs := by
      cases bs with
      | nil => rfl
      | cons c cs => exact lastP_append [b] (c :: cs) (by simp)
    rw [← e] at ih
    simp only [edgesFrom, List.countP_cons, flipE]
    have hne : ¬ (b :: bs : List Pl) = [] := by simp
    rw [if_neg hne]
    have h1 := Bool.eq_false_or_eq_true (f a)
    have h2 := Bool.eq_false_or_eq_true (f b)
    have h3 := Bool.eq_false_or_eq_true (f (lastP (b :: bs)))
    rcases h1 with h1 | h1 <;> rcases h2 with h2 | h2 <;> rcases h3 with h3 | h3 <;> simp [h1, h2, h3] at ih ⊢ <;> omega
theorem edges_flips (f : Pl → Bool) (l : List Pl) : (edges l).countP (flipE f) % 2 = 0 := by
  unfold edges
  rw [flips]
  by_cases h : l = []
  · subst h; simp
  · rw [if_neg h]; simp
theorem edgesFrom_mem : ∀ {l : List Pl} {a : Pl} {e : Pl × Pl}, e ∈ edgesFrom a l → (e.1 = a ∨ e.1 ∈ l) ∧ e.2 ∈ l
  | [], a, e, h => by simp [edgesFrom] at h
  | b :: bs, a, e, h => by
    simp only [edgesFrom, List.mem_cons] at h
    rcases h with rfl | h
    · exact ⟨.inl rfl, by simp⟩
    · obtain ⟨h1, h2⟩ := edgesFrom_mem h
      refine ⟨.inr ?_, List.mem_cons_of_mem _ h2⟩
      rcases h1 with h1 | h1
      · rw [h1]; simp
      · exact List.mem_cons_of_mem _ h1
theorem edges_mem {l : List Pl} (hl : l ≠ []) {e : Pl × Pl} (h : e ∈ edges l) : e.1 ∈ l ∧ e.2 ∈ l := by
  obtain ⟨h1, h2⟩ := edgesFrom_mem h
  have hp : 0 < l.length := List.length_pos_iff.2 hl
  refine ⟨?_, h2⟩
  rcases h1 with h1 | h1
  · rw [h1]; exact getD_mem (by omega)
  · exact h1
theorem countP_ext {α : Type} {p q : α → Bool} : ∀ {l : List α}, (∀ x ∈ l, p x = q x) → l.countP p = l.countP q
  | [], _ => rfl
  | x :: xs, h => by
    simp only [List.countP_cons, h x (by simp), countP_ext (l := xs) fun y hy => h y (by simp [hy])]
theorem off_side {l : List Pl} (hl : l ≠ []) (h : ∀ p ∈ l, onMap p = true) {p : Pl} (hp : p.x < 0 ∨ 64 < p.x ∨ p.y < 0 ∨ 64 < p.y) : sideP l p = -1 := by
  rw [sideP_E]
  unfold sideE
  have h1 : (edges l).any (hitE p) = false := by
    rw [List.any_eq_false]
    intro e he
    obtain ⟨m1, m2⟩ := edges_mem hl he
    have := onMap_spec (h _ m1)
    have := onMap_spec (h _ m2)
    simp only [hitE, hitP, nearP, minV_min, maxV_max, Bool.and_eq_true, decide_eq_true_eq]
    omega
  have h2 : (edges l).countP (crossE p) % 2 = 0 := by
    by_cases hx : p.x < 0
    · rw [countP_ext (q := flipE fun a => decide (a.y ≤ p.y))]
      · exact edges_flips _ l
      · intro e he
        obtain ⟨m1, m2⟩ := edges_mem hl he
        have k1 := onMap_spec (h _ m1)
        have k2 := onMap_spec (h _ m2)
        have key : (e.1.y ≤ p.y → p.y < e.2.y → 0 < turnP e.1 e.2 p) ∧ (e.2.y ≤ p.y → p.y < e.1.y → turnP e.1 e.2 p < 0) := by
          have q : turnP e.1 e.2 p = (e.2.x - p.x) * (p.y - e.1.y) + (e.1.x - p.x) * (e.2.y - p.y) := by
            simp only [turnP, Int.sub_mul, Int.mul_sub]
            have c1 := Int.mul_comm e.1.x e.2.y
            have c2 := Int.mul_comm e.1.y e.2.x
            have c3 := Int.mul_comm p.x p.y
            have c4 := Int.mul_comm p.x e.1.y
            have c5 := Int.mul_comm p.x e.2.y
            have c6 := Int.mul_comm e.1.y e.1.x
            omega
          rw [q]
          have s1 := mul_sign (e.2.x - p.x) (p.y - e.1.y)
          have s2 := mul_sign (e.1.x - p.x) (e.2.y - p.y)
          constructor
          · intro a1 a2
            have := s2.1.2 (.inl ⟨by omega, by omega⟩)
            have : 0 ≤ (e.2.x - p.x) * (p.y - e.1.y) := Int.mul_nonneg (by omega) (by omega)
            omega
          · intro a1 a2
            have := s1.2.1.2 (.inl ⟨by omega, by omega⟩)
            have : (e.1.x - p.x) * (e.2.y - p.y) ≤ 0 := Int.mul_nonpos_of_nonneg_of_nonpos (by omega) (by omega)
            omega
        rw [Bool.eq_iff_iff]
        simp only [crossE, crossP, flipE, Bool.and_eq_true, Bool.or_eq_true, decide_eq_true_eq, bne_iff_ne, ne_eq, decide_eq_decide]
        omega
    · have : (edges l).countP (crossE p) = 0 := by
        rw [List.countP_eq_zero]
        intro e he
        obtain ⟨m1, m2⟩ := edges_mem hl he
        have k1 := onMap_spec (h _ m1)
        have k2 := onMap_spec (h _ m2)
        have key : 64 < p.x → (e.1.y ≤ p.y → p.y < e.2.y → turnP e.1 e.2 p ≤ 0) ∧ (e.2.y ≤ p.y → p.y < e.1.y → 0 ≤ turnP e.1 e.2 p) := by
          intro hx2
          have q : turnP e.1 e.2 p = (e.2.x - p.x) * (p.y - e.1.y) + (e.1.x - p.x) * (e.2.y - p.y) := by
            simp only [turnP, Int.sub_mul, Int.mul_sub]
            have c1 := Int.mul_comm e.1.x e.2.y
            have c2 := Int.mul_comm e.1.y e.2.x
            have c3 := Int.mul_comm p.x p.y
            have c4 := Int.mul_comm p.x e.1.y
            have c5 := Int.mul_comm p.x e.2.y
            have c6 := Int.mul_comm e.1.y e.1.x
            omega
          rw [q]
          constructor
          · intro a1 a2
            have : (e.2.x - p.x) * (p.y - e.1.y) ≤ 0 := Int.mul_nonpos_of_nonpos_of_nonneg (by omega) (by omega)
            have : (e.1.x - p.x) * (e.2.y - p.y) ≤ 0 := Int.mul_nonpos_of_nonpos_of_nonneg (by omega) (by omega)
            omega
          · intro a1 a2
            have : 0 ≤ (e.2.x - p.x) * (p.y - e.1.y) := Int.mul_nonneg_of_nonpos_of_nonpos (by omega) (by omega)
            have : 0 ≤ (e.1.x - p.x) * (e.2.y - p.y) := Int.mul_nonneg_of_nonpos_of_nonpos (by omega) (by omega)
            omega
        simp only [crossE, crossP, Bool.and_eq_true, Bool.or_eq_true, decide_eq_true_eq]
        omega
      omega
  rw [h1, h2]; simp
theorem move_core {l : List Pl} {h v : Int} (h1 : -8 ≤ h) (h2 : h ≤ 8) (h3 : -8 ≤ v) (h4 : v ≤ 8) (hv : validP l = true) (hw : validP (l.map (mvP h v)) = true) :
    moveA (polyA l).1 h v = (polyA (l.map (mvP h v))).1 := by
  obtain ⟨k1, k2, k3⟩ := validP_len hv
  have hl : l ≠ [] := by intro e; subst e; simp at k1
  simp only [polyA, hv, hw, if_true]
  rw [move_G _ (by omega) (by omega) (by omega) (by omega)]
  apply cellsG_congr
  intro x y hx hy
  have ec : ctr x y = mvP h v ⟨4 * ((x : Int) - h) + 2, 4 * ((y : Int) - v) + 2⟩ := by
    simp only [ctr, mvP]; congr 1 <;> omega
  rw [ec, side_mv h v _ hl]
  by_cases hr : inR ((y : Int) - v) = true ∧ inR ((x : Int) - h) = true
  · simp only [shG, hr.1, hr.2, Bool.true_and]
    have a := hr.1
    have b := hr.2
    simp only [inR, Bool.and_eq_true, decide_eq_true_eq] at a b
    rw [ctr_int (x := (x : Int) - h) (y := (y : Int) - v) (by omega) (by omega)]
  · have e : shG (fun x y => decide (0 ≤ sideP l (ctr x y))) h v x y = false := by
      rcases Bool.eq_false_or_eq_true (inR ((y : Int) - v)) with e1 | e1 <;> rcases Bool.eq_false_or_eq_true (inR ((x : Int) - h)) with e2 | e2 <;> simp [shG, e1, e2] at hr ⊢
    rw [e, off_side hl k3]
    · rfl
    · simp only [inR, Bool.and_eq_true, decide_eq_true_eq] at hr
      show 4 * ((x : Int) - h) + 2 < 0 ∨ 64 < 4 * ((x : Int) - h) + 2 ∨ 4 * ((y : Int) - v) + 2 < 0 ∨ 64 < 4 * ((y : Int) - v) + 2
      omega
theorem moves_law (l : List Pl) (h v : Int) (k1 : 3 ≤ l.length) (k2 : l.length ≤ 9) (hm : ∀ p ∈ l, onMap p = true) (h1 : -8 ≤ h) (h2 : h ≤ 8) (h3 : -8 ≤ v) (h4 : v ≤ 8) :
    (polyA l).2 = 0 ∧ (validP (l.map (mvP h v)) = false → (polyA (l.map (mvP h v))).2 = 210) ∧
    (validP (l.map (mvP h v)) = true → (polyA (l.map (mvP h v))).2 = 0 ∧ (polyA (l.map (mvP h v))).1 = moveA (polyA l).1 h v ∧ sizeA (polyA l).1 = sizeA (polyA (l.map (mvP h v))).1 ∧ moveA (polyA (l.map (mvP h v))).1 (0 - h) (0 - v) = (polyA l).1) := by
  have hv := valid_mk k1 (by omega) hm
  refine ⟨by simp [polyA, hv], fun e => by simp [polyA, e], fun hw => ?_⟩
  have c1 := move_core h1 h2 h3 h4 hv hw
  have back : (l.map (mvP h v)).map (mvP (0 - h) (0 - v)) = l := by
    rw [List.map_map]
    have : (mvP (0 - h) (0 - v) ∘ mvP h v) = id := by
      funext p
      simp only [Function.comp, mvP, id]
      cases p; simp only []; congr 1 <;> omega
    rw [this, List.map_id]
  have c2 := move_core (l := l.map (mvP h v)) (h := 0 - h) (v := 0 - v) (by omega) (by omega) (by omega) (by omega) hw (by rw [back]; exact hv)
  rw [back] at c2
  refine ⟨by simp [polyA, hw], c1.symm, ?_, c2⟩
  have z1 : ∃ g, (polyA l).1 = cellsG g := ⟨fun x y => decide (0 ≤ sideP l (ctr x y)), by simp [polyA, hv]⟩
  have z2 : ∃ g, (polyA (l.map (mvP h v))).1 = cellsG g := ⟨fun x y => decide (0 ≤ sideP (l.map (mvP h v)) (ctr x y)), by simp [polyA, hw]⟩
  obtain ⟨g1, e1⟩ := z1
  obtain ⟨g2, e2⟩ := z2
  rw [e1, e2] at c1 c2 ⊢
  rw [move_G _ (by omega) (by omega) (by omega) (by omega)] at c1 c2
  have t1 := tot_shift_le g1 h v h1 h2 h3 h4
  have t2 := tot_shift_le g2 (0 - h) (0 - v) (by omega) (by omega) (by omega) (by omega)
  have u1 : sizeA (cellsG (shG g1 h v)) = sizeA (cellsG g2) := by rw [c1]
  have u2 : sizeA (cellsG (shG g2 (0 - h) (0 - v))) = sizeA (cellsG g1) := by rw [c2]
  rw [size_G, size_G] at u1 u2 ⊢
  omega
theorem moveA_length (a : List Int) (dx dy : Int) : (moveA a dx dy).length = 16 := by unfold moveA; split <;> simp [zeros16, outM_length]
end Go.Proofs.Ytpaielaniekdbaa
