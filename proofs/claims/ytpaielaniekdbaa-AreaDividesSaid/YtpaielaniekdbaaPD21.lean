/- Areas as sets of cells, second part. -/
import Derived.Test.YtpaielaniekdbaaPC21
namespace Go.Proofs.Ytpaielaniekdbaa
open Go.RowKit
set_option linter.unusedVariables false
set_option linter.unusedSimpArgs false
def cnt (p : Nat → Bool) : Nat → Nat
  | 0 => 0
  | n + 1 => cnt p n + (if p n then 1 else 0)
theorem cnt_front (p : Nat → Bool) : ∀ n, cnt p (n + 1) = (if p 0 then 1 else 0) + cnt (fun i => p (i + 1)) n
  | 0 => by simp [cnt]
  | n + 1 => by
    have := cnt_front p n
    simp only [cnt] at this ⊢
    omega
theorem cnt_congr {p q : Nat → Bool} : ∀ {n : Nat}, (∀ i, i < n → p i = q i) → cnt p n = cnt q n
  | 0, _ => rfl
  | n + 1, h => by simp only [cnt]; rw [cnt_congr fun i hi => h i (by omega), h n (by omega)]
theorem ones_cnt : ∀ (k n : Nat), k ≤ 16 → n < 2 ^ k → onesF n &&& 127 = cnt n.testBit k
  | 0, n, _, h => by
    have : n = 0 := by simpa using h
    subst this; rfl
  | k + 1, n, hk, h => by
    have h16 : 2 ^ (k + 1) ≤ 2 ^ 16 := Nat.pow_le_pow_right (by omega) hk
    have hp : 2 ^ (k + 1) = 2 ^ k * 2 := Nat.pow_succ 2 k
    rw [(ones_step (by omega)).2, ones_cnt k (n / 2) (by omega) (by omega), cnt_front]
    have e : (fun i => n.testBit (i + 1)) = (n / 2).testBit := by funext i; rw [Nat.testBit_succ]
    rw [e, Nat.testBit_zero]
    rcases Nat.mod_two_eq_zero_or_one n with h0 | h0 <;> simp [h0] <;> omega
def tot (g : Nat → Nat → Bool) : Nat → Nat
  | 0 => 0
  | n + 1 => tot g n + cnt (fun x => g x n) 16
theorem tot_congr {g h : Nat → Nat → Bool} : ∀ {n : Nat}, (∀ x y, x < 16 → y < n → g x y = h x y) → tot g n = tot h n
  | 0, _ => rfl
  | n + 1, e => by
    simp only [tot]
    rw [tot_congr fun x y hx hy => e x y hx (by omega), cnt_congr fun i hi => e i n hi (by omega)]
theorem size_G (g : Nat → Nat → Bool) : sizeA (cellsG g) = (tot g 16 : Nat) := by
  have key : ∀ n, n ≤ 16 → sumTo (rowOnes (cellsG g)) n = (tot g n : Nat) := by
    intro n
    induction n with
    | zero => intro _; rfl
    | succ n ih =>
      intro hn
      obtain ⟨N, h1, h2, h3⟩ := cellsG_row g (j := n) (by omega)
      have e : rowOnes (cellsG g) n = ((cnt (fun x => g x n) 16 : Nat) : Int) := by
        unfold rowOnes
        rw [h1, u64_wrap, Nat.mod_eq_of_lt (by omega), onesW_F N (ones_step h2).1, ones_cnt 16 N (by omega) (by omega), cnt_congr h3]
      simp only [sumTo, tot]
      rw [ih (by omega), e]; omega
  simp [sizeA, cellsG_valid, key 16 (by omega)]
theorem cnt_or_and (p q : Nat → Bool) : ∀ n, cnt p n + cnt q n = cnt (fun i => p i || q i) n + cnt (fun i => p i && q i) n
  | 0 => rfl
  | n + 1 => by
    have := cnt_or_and p q n
    simp only [cnt]
    rcases (Bool.eq_false_or_eq_true (p n)) with h1 | h1 <;> rcases (Bool.eq_false_or_eq_true (q n)) with h2 | h2 <;> simp [h1, h2] <;> omega
theorem tot_or_and (g h : Nat → Nat → Bool) : ∀ n, tot g n + tot h n = tot (fun x y => g x y || h x y) n + tot (fun x y => g x y && h x y) n
  | 0 => rfl
  | n + 1 => by
    have := tot_or_and g h n
    have := cnt_or_and (fun x => g x n) (fun x => h x n) 16
    simp only [tot]; omega
theorem cnt_minus (p q : Nat → Bool) : ∀ n, cnt (fun i => p i && !q i) n + cnt (fun i => p i && q i) n = cnt p n
  | 0 => rfl
  | n + 1 => by
    have := cnt_minus p q n
    simp only [cnt]
    rcases (Bool.eq_false_or_eq_true (p n)) with h1 | h1 <;> rcases (Bool.eq_false_or_eq_true (q n)) with h2 | h2 <;> simp [h1, h2] <;> omega
theorem tot_minus (g h : Nat → Nat → Bool) : ∀ n, tot (fun x y => g x y && !h x y) n + tot (fun x y => g x y && h x y) n = tot g n
  | 0 => rfl
  | n + 1 => by
    have := tot_minus g h n
    have := cnt_minus (fun x => g x n) (fun x => h x n) 16
    simp only [tot]; omega
theorem cnt_zero {p : Nat → Bool} : ∀ {n : Nat}, cnt p n = 0 → ∀ i, i < n → p i = false
  | 0, _, i, hi => by omega
  | n + 1, h, i, hi => by
    simp only [cnt] at h
    rcases Nat.lt_or_ge i n with h1 | h1
    · exact cnt_zero (by omega) i h1
    · have : i = n := by omega
      subst this
      cases hp : p i with
      | false => rfl
      | true => simp [hp] at h
theorem tot_zero {g : Nat → Nat → Bool} : ∀ {n : Nat}, tot g n = 0 → ∀ x y, x < 16 → y < n → g x y = false
  | 0, _, x, y, _, hy => by omega
  | n + 1, h, x, y, hx, hy => by
    simp only [tot] at h
    rcases Nat.lt_or_ge y n with h1 | h1
    · exact tot_zero (by omega) x y hx h1
    · have : y = n := by omega
      subst this
      exact cnt_zero (p := fun x => g x y) (by omega) x hx
theorem one_all : (List.range 16).all (fun a => (List.range 16).all fun b => Nat.beq (tot (fun x y => Nat.beq x a && Nat.beq y b) 16) 1) = true := by kernel_rfl
theorem tot_one {a b : Nat} (ha : a < 16) (hb : b < 16) : tot (fun x y => Nat.beq x a && Nat.beq y b) 16 = 1 := by
  have h1 := List.all_eq_true.1 one_all a (by simpa using ha)
  have h2 := List.all_eq_true.1 h1 b (by simpa using hb)
  exact Nat.eq_of_beq_eq_true h2
/-! #### equal areas -/
theorem bits_eq {M N : Nat} (hM : M < 65536) (hN : N < 65536) (h : ∀ i, i < 16 → M.testBit i = N.testBit i) : M = N := by
  apply Nat.eq_of_testBit_eq
  intro i
  rcases Nat.lt_or_ge i 16 with h1 | h1
  · exact h i h1
  · have hp : 2 ^ 16 ≤ 2 ^ i := Nat.pow_le_pow_right (by omega) h1
    rw [Nat.testBit_lt_two_pow (by omega), Nat.testBit_lt_two_pow (by omega)]
theorem getD_of_get {a : List Int} {j : Nat} (h : j < a.length) : a[j] = a.getD j 0 := by
  rw [List.getD_eq_getElem?_getD, List.getElem?_eq_getElem h]; rfl
theorem list16 {a b : List Int} (ha : a.length = 16) (hb : b.length = 16) (h : ∀ j, j < 16 → a.getD j 0 = b.getD j 0) : a = b := by
  apply List.ext_getElem (by omega)
  intro j h1 h2
  rw [getD_of_get h1, getD_of_get h2]
  exact h j (by omega)
/-- An area whose rows have the bits of g. -/
theorem area_eq {a : List Int} (ha : a.length = 16) (g : Nat → Nat → Bool) (h : ∀ j, j < 16 → ∃ N : Nat, a.getD j 0 = N ∧ N < 65536 ∧ ∀ i, i < 16 → N.testBit i = g i j) : a = cellsG g := by
  apply list16 ha (cellsG_length g)
  intro j hj
  obtain ⟨N, h1, h2, h3⟩ := h j hj
  obtain ⟨M, k1, k2, k3⟩ := cellsG_row g hj
  rw [h1, k1, bits_eq h2 k2 fun i hi => by rw [h3 i hi, k3 i hi]]
theorem cellsG_congr {g h : Nat → Nat → Bool} (e : ∀ x y, x < 16 → y < 16 → g x y = h x y) : cellsG g = cellsG h :=
  area_eq (cellsG_length g) h fun j hj => by
    obtain ⟨N, h1, h2, h3⟩ := cellsG_row g hj
    exact ⟨N, h1, h2, fun i hi => by rw [h3 i hi, e i j hi hj]⟩
theorem cellsG_inj {g h : Nat → Nat → Bool} (e : cellsG g = cellsG h) {x y : Nat} (hx : x < 16) (hy : y < 16) : g x y = h x y := by
  obtain ⟨N, h1, h2, h3⟩ := cellsG_row g hy
  obtain ⟨M, k1, k2, k3⟩ := cellsG_row h hy
  rw [e, k1] at h1
  have : M = N := by omega
  subst this
  rw [← h3 x hx, k3 x hx]
theorem zeros_G : zeros16 = cellsG fun _ _ => false :=
  area_eq rfl _ fun j hj => ⟨0, by unfold zeros16; rw [List.getD_eq_getElem?_getD, List.getElem?_replicate, if_pos hj]; rfl, by omega, fun i _ => by simp⟩
def bitG (a : List Int) (x y : Nat) : Bool := (a.getD y 0).toNat.testBit x
theorem rep_G {a : List Int} (ha : a.length = 16) (hv : validA a = true) : a = cellsG (bitG a) :=
  area_eq ha _ fun j hj => by
    have := (valid_iff a).1 hv (a.getD j 0) (getD_mem (by omega))
    exact ⟨(a.getD j 0).toNat, by omega, by omega, fun i _ => rfl⟩
/-! #### sets -/
theorem each_G {p : Int → Int → Int} {f : Bool → Bool → Bool} (hp : ∀ M N : Nat, M < 65536 → N < 65536 → ∃ K : Nat, p M N = K ∧ K < 65536 ∧ ∀ i, i < 16 → K.testBit i = f (M.testBit i) (N.testBit i)) (g h : Nat → Nat → Bool) :
    eachA p (cellsG g) (cellsG h) = cellsG fun x y => f (g x y) (h x y) := by
  apply area_eq (eachA_length p (cellsG_length g) (cellsG_length h))
  intro j hj
  obtain ⟨M, k1, k2, k3⟩ := cellsG_row g hj
  obtain ⟨N, h1, h2, h3⟩ := cellsG_row h hj
  obtain ⟨K, q1, q2, q3⟩ := hp M N k2 h2
  refine ⟨K, ?_, q2, fun i hi => by rw [q3 i hi, k3 i hi, h3 i hi]⟩
  have e : (eachA p (cellsG g) (cellsG h)).getD j 0 = p ((cellsG g).getD j 0) ((cellsG h).getD j 0) := by
    simp only [eachA, cellsG_valid, Bool.and_self, if_true, List.getD_eq_getElem?_getD, List.getElem?_zipWith]
    rw [List.getElem?_eq_getElem (by rw [cellsG_length]; exact hj), List.getElem?_eq_getElem (by rw [cellsG_length]; exact hj)]; rfl
  rw [e, k1, h1, q1]
theorem union_G (g h : Nat → Nat → Bool) : unionA (cellsG g) (cellsG h) = cellsG fun x y => g x y || h x y :=
  each_G (f := fun a b => a || b) (fun M N hM hN => ⟨M ||| N, orN hM hN, Nat.or_lt_two_pow (n := 16) hM hN, fun i _ => Nat.testBit_or M N i⟩) g h
theorem meet_G (g h : Nat → Nat → Bool) : meetA (cellsG g) (cellsG h) = cellsG fun x y => g x y && h x y :=
  each_G (f := fun a b => a && b) (fun M N hM hN => ⟨M &&& N, andN hM hN, Nat.and_lt_two_pow (n := 16) M hN, fun i _ => Nat.testBit_and M N i⟩) g h
theorem andNotN {a b : Nat} (ha : a < 65536) (hb : b < 65536) : ∃ K : Nat, bitsV .andNot .i64 a b = K ∧ K < 65536 ∧ ∀ i, i < 16 → K.testBit i = (a.testBit i && !b.testBit i) := by
  have e : bitsV .andNot .i64 a b = IntKind.i64.wrap (((BitVec.ofInt 64 (a : Int)) &&& ~~~(BitVec.ofInt 64 (b : Int))).toNat : Int) := rfl
  have hl : ((BitVec.ofInt 64 (a : Int)) &&& ~~~(BitVec.ofInt 64 (b : Int))).toNat < 65536 := by
    rw [BitVec.toNat_and]
    have := Nat.and_le_left (n := (BitVec.ofInt 64 (a : Int)).toNat) (m := (~~~(BitVec.ofInt 64 (b : Int))).toNat)
    rw [toNat64 ha] at this ⊢
    omega
  refine ⟨_, by rw [e, w64 (by omega)], hl, fun i hi => ?_⟩
  rw [BitVec.testBit_toNat, BitVec.getLsbD_and, BitVec.getLsbD_not, ← BitVec.testBit_toNat, ← BitVec.testBit_toNat, toNat64 ha, toNat64 hb]
  simp [show i < 64 by omega]
theorem minus_G (g h : Nat → Nat → Bool) : minusA (cellsG g) (cellsG h) = cellsG fun x y => g x y && !h x y :=
  each_G (f := fun a b => a && !b) (fun M N hM hN => andNotN hM hN) g h
theorem within_G {g h : Nat → Nat → Bool} : withinA (cellsG g) (cellsG h) = true ↔ ∀ x y, x < 16 → y < 16 → g x y = true → h x y = true := by
  simp only [withinA, cellsG_valid, Bool.true_and, decide_eq_true_eq, minus_G, zeros_G]
  constructor
  · intro e x y hx hy hg
    have := cellsG_inj e hx hy
    simpa [hg] using this
  · intro e
    apply cellsG_congr
    intro x y hx hy
    have := e x y hx hy
    cases hg : g x y <;> simp_all
theorem has_G (g : Nat → Nat → Bool) {x y : Nat} (hx : x < 16) (hy : y < 16) : hasA (cellsG g) x y = g x y := by
  have := hasA_cellsG g (x := (x : Int)) (y := (y : Int)) (by omega) (by omega)
  simpa using this
end Go.Proofs.Ytpaielaniekdbaa
