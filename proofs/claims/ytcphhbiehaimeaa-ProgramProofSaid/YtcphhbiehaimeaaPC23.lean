/- Choices, sums over them, and the best of them. -/
import Derived.Test.YtcphhbiehaimeaaP23
import Derived.Test.YtcphhbiehaimeaaAi23
namespace Go.Proofs.Ytcphhbiehaimeaa
open Go.RowKit
set_option linter.unusedVariables false
set_option linter.unusedSimpArgs false
theorem enok_int : EnOK (Value.int .i64) (V.int .i64) := ⟨fun x y h => by cases h; rfl, fun x w O ι ρ nx c y h => by cases h; rfl, fun x w O ι ρ nx c => .int ..⟩
theorem toNat64 {a : Nat} (h : a < 65536) : (BitVec.ofInt 64 (a : Int)).toNat = a := by
  rw [BitVec.ofInt_natCast, BitVec.toNat_ofNat, Nat.mod_eq_of_lt (by omega)]
theorem orN {a b : Nat} (ha : a < 65536) (hb : b < 65536) : bitsV .or .i64 a b = ((a ||| b : Nat) : Int) := by
  have h : a ||| b < 2 ^ 16 := Nat.or_lt_two_pow (by omega) (by omega)
  have e : bitsV .or .i64 a b = IntKind.i64.wrap (((BitVec.ofInt 64 (a : Int)) ||| (BitVec.ofInt 64 (b : Int))).toNat : Int) := rfl
  rw [e, BitVec.toNat_or, toNat64 ha, toNat64 hb, w64 (by omega)]
theorem andN {a b : Nat} (ha : a < 65536) (hb : b < 65536) : bitsV .and .i64 a b = ((a &&& b : Nat) : Int) := by
  have h : a &&& b < 2 ^ 16 := Nat.and_lt_two_pow a (by omega)
  have e : bitsV .and .i64 a b = IntKind.i64.wrap (((BitVec.ofInt 64 (a : Int)) &&& (BitVec.ofInt 64 (b : Int))).toNat : Int) := rfl
  rw [e, BitVec.toNat_and, toNat64 ha, toNat64 hb, w64 (by omega)]
theorem shl1 {n : Nat} (h : n < 16) : shlW .i64 1 n = ((2 ^ n : Nat) : Int) := by
  have hp : 2 ^ n < 2 ^ 16 := Nat.pow_lt_pow_right (by omega) h
  have e : shlW .i64 1 n = IntKind.i64.wrap (1 * 2 ^ (min ((n : Int).toNat) 64)) := rfl
  have e2 : min ((n : Int).toNat) 64 = n := by simp; omega
  rw [e, e2, Int.one_mul]
  have e3 : (2 : Int) ^ n = ((2 ^ n : Nat) : Int) := by simp
  rw [e3, w64 ⟨Int.le_trans (by decide) (Int.natCast_nonneg _), Int.le_trans (Int.ofNat_le.2 (Nat.le_of_lt hp)) (by decide)⟩]
theorem shrN {a k : Nat} (h : k < 64) : shrW .i64 a k = ((a / 2 ^ k : Nat) : Int) := by
  have e : shrW .i64 a k = (a : Int).fdiv (2 ^ (min ((k : Int).toNat) 64)) := rfl
  have e2 : min ((k : Int).toNat) 64 = k := by simp; omega
  rw [e, e2]
  have e3 : (2 : Int) ^ k = ((2 ^ k : Nat) : Int) := by simp
  rw [e3, Int.fdiv_eq_ediv_of_nonneg _ (Int.natCast_nonneg _)]; exact (Int.natCast_ediv a (2 ^ k)).symm
theorem cBit_nat {s i : Nat} (hs : s < 65536) (hi : i < 64) : cBit s i = s.testBit i := by
  have h1 : s / 2 ^ i ≤ s := Nat.div_le_self _ _
  unfold cBit
  have e := andN (a := s / 2 ^ i) (b := 1) (by omega) (by omega)
  rw [shrN hi]
  show decide (bitsV .and .i64 ((s / 2 ^ i : Nat) : Int) ((1 : Nat) : Int) = 1) = _
  rw [e, Nat.and_one_is_mod, Nat.testBit_eq_decide_div_mod_eq]
  rw [decide_eq_decide]; omega
theorem fzL_mapI (id : Nat) (o : AObj) (xs : List Int) : V.fzL id o (xs.map (V.int .i64)) = xs.map (V.int .i64) := cellsI_fzL id o xs
theorem uptoL_mapI (n : Nat) (xs : List Int) : V.uptoL n (xs.map (V.int .i64)) = true := cellsI_uptoL n xs
/-! #### sums, exactly -/
def sumG (l : List Int) (s : Nat) : Nat → Int
  | 0 => 0
  | n + 1 => sumG l s n + if s.testBit n then l.getD n 0 else 0
def sumS (l : List Int) (s : Nat) : Int := sumG l s l.length
theorem coefB_iff {l : List Int} : coefB l = true ↔ ∀ x ∈ l, -1000000000 ≤ x ∧ x ≤ 1000000000 := by
  simp only [coefB, List.all_eq_true]
  exact ⟨fun h x hx => isInB_spec.1 (h x hx), fun h x hx => isInB_spec.2 (h x hx)⟩
theorem coef_getD {l : List Int} (h : coefB l = true) (n : Nat) : -1000000000 ≤ l.getD n 0 ∧ l.getD n 0 ≤ 1000000000 := by
  by_cases hn : n < l.length
  · exact coefB_iff.1 h _ (getD_mem hn)
  · have : l.getD n 0 = 0 := by simp [List.getD, List.getElem?_eq_none (Nat.le_of_not_lt hn)]
    rw [this]; omega
theorem chosenG_sum {l : List Int} (hb : coefB l = true) {s : Nat} (hs : s < 65536) : ∀ n : Nat, n ≤ 12 → chosenG l s n = sumG l s n ∧ -((n : Int) * 1000000000) ≤ sumG l s n ∧ sumG l s n ≤ (n : Int) * 1000000000
  | 0, _ => by simp [chosenG, sumG]
  | n + 1, hn => by
    obtain ⟨h1, h2, h3⟩ := chosenG_sum hb hs n (by omega)
    have hc := coef_getD hb n
    simp only [chosenG, sumG, cBit_nat hs (show n < 64 by omega)]
    split
    · rw [h1, w64 (by omega)]; refine ⟨rfl, ?_, ?_⟩ <;> omega
    · rw [h1]; refine ⟨by omega, ?_, ?_⟩ <;> omega
theorem chosenW_sum {l : List Int} (hb : coefB l = true) {s : Nat} (hs : s < 65536) (hl : l.length ≤ 12) : chosenW l s = sumS l s := (chosenG_sum hb hs _ hl).1
theorem sumS_range {l : List Int} (hb : coefB l = true) {s : Nat} (hs : s < 65536) (hl : l.length ≤ 12) : -12000000000 ≤ sumS l s ∧ sumS l s ≤ 12000000000 := by
  have h := chosenG_sum hb hs _ hl
  have : sumS l s = sumG l s l.length := rfl
  omega
theorem validB_all {p : Pg} (h : validB p = true) : 0 ≤ p.vars ∧ p.vars ≤ 12 ∧ p.rows.length ≤ 300 ∧ (p.gain.length : Int) = p.vars ∧ coefB p.gain = true ∧ ∀ r ∈ p.rows, (r.coef.length : Int) = p.vars ∧ coefB r.coef = true ∧ -1000000000000 ≤ r.most ∧ r.most ≤ 1000000000000 := by
  simp only [validB, Bool.and_eq_true, decide_eq_true_eq, isInB_spec, List.all_eq_true, rightB] at h
  exact ⟨h.1.1, h.1.2, by omega, h.2.2.2.1, h.2.2.2.2, fun r hr => ⟨(h.2.2.1 r hr).1, (h.2.2.1 r hr).2.1, (h.2.2.1 r hr).2.2.1, (h.2.2.1 r hr).2.2.2⟩⟩
/-! #### choices -/
def allKept (rows : List Rw) (set : Int) : Bool := rows.all fun r => keptB r set
def chL (rows : List Rw) : Nat → List Int
  | 0 => []
  | n + 1 => if allKept rows n then chL rows n ++ [(n : Int)] else chL rows n
theorem chL_t {rows : List Rw} {n : Nat} (h : allKept rows n = true) : chL rows (n + 1) = chL rows n ++ [(n : Int)] := by simp only [chL, h, if_true]
theorem chL_f {rows : List Rw} {n : Nat} (h : allKept rows n = false) : chL rows (n + 1) = chL rows n := by simp [chL, h]
theorem chL_length (rows : List Rw) : ∀ n, (chL rows n).length ≤ n
  | 0 => Nat.le_refl _
  | n + 1 => by have := chL_length rows n; simp only [chL]; split <;> (try simp) <;> omega
theorem mem_chL {rows : List Rw} {x : Int} : ∀ {n : Nat}, x ∈ chL rows n ↔ ∃ s : Nat, x = s ∧ s < n ∧ allKept rows s = true
  | 0 => by simp [chL]
  | n + 1 => by
    have ih := mem_chL (rows := rows) (x := x) (n := n)
    cases h : allKept rows n with
    | true =>
      rw [chL_t h, List.mem_append, ih, List.mem_singleton]
      constructor
      · rintro (⟨s, h1, h2, h3⟩ | h1)
        · exact ⟨s, h1, by omega, h3⟩
        · exact ⟨n, h1, by omega, h⟩
      · rintro ⟨s, h1, h2, h3⟩
        by_cases e : s = n
        · subst e; exact .inr h1
        · exact .inl ⟨s, h1, by omega, h3⟩
    | false =>
      rw [chL_f h, ih]
      constructor
      · rintro ⟨s, h1, h2, h3⟩; exact ⟨s, h1, by omega, h3⟩
      · rintro ⟨s, h1, h2, h3⟩
        by_cases e : s = n
        · subst e; rw [h] at h3; cases h3
        · exact ⟨s, h1, by omega, h3⟩
def choiceL (p : Pg) : List Int := chL p.rows (2 ^ p.vars.toNat)
theorem vars_pow {p : Pg} (h : validB p = true) : ∃ v : Nat, p.vars = v ∧ v ≤ 12 ∧ shlW .i64 1 (v : Nat) = ((2 ^ v : Nat) : Int) ∧ 2 ^ v ≤ 4096 := by
  obtain ⟨h0, h1, -⟩ := validB_all h
  obtain ⟨v, hv⟩ := Int.eq_ofNat_of_zero_le h0
  have : v ≤ 12 := by omega
  exact ⟨v, hv, this, shl1 (by omega), Nat.le_trans (Nat.pow_le_pow_right (by omega) this) (by decide)⟩
/-! #### the best -/
def bestS (g : List Int) (s : Bool × Int × Int) (x : Int) : Bool × Int × Int := if (!s.1 || decide (s.2.2 < chosenW g x)) = true then (true, x, chosenW g x) else s
def bestW (g : List Int) (xs : List Int) : Bool × Int × Int := xs.foldl (bestS g) (false, 0, 0)
theorem bestW_snoc (g xs : List Int) (x : Int) : bestW g (xs ++ [x]) = bestS g (bestW g xs) x := by simp [bestW]
theorem bestS_t {g : List Int} {s : Bool × Int × Int} {x : Int} (h : (!s.1 || decide (s.2.2 < chosenW g x)) = true) : bestS g s x = (true, x, chosenW g x) := by unfold bestS; rw [if_pos h]
theorem bestS_f {g : List Int} {s : Bool × Int × Int} {x : Int} (h : (!s.1 || decide (s.2.2 < chosenW g x)) = false) : bestS g s x = s := by unfold bestS; rw [h]; rfl
theorem bestW_foldr (g : List Int) (P : List Int → Bool × Int × Int → Prop) (h0 : P [] (false, 0, 0)) (hs : ∀ xs s x, P xs s → P (xs ++ [x]) (bestS g s x)) : ∀ xs, P xs (bestW g xs) := by
  intro xs
  have : ∀ (ys zs : List Int) s, P zs s → P (zs ++ ys) (ys.foldl (bestS g) s) := by
    intro ys
    induction ys with
    | nil => intro zs s h; simpa using h
    | cons y ys ih => intro zs s h; have := ih (zs ++ [y]) _ (hs zs s y h); simpa using this
  exact this xs [] _ h0
/-- What is found is one of them, none is more, and those that are as much stand behind it. -/
theorem bestW_spec (g xs : List Int) : ((bestW g xs).1 = false → xs = [] ∧ bestW g xs = (false, 0, 0)) ∧ ((bestW g xs).1 = true → (bestW g xs).2.1 ∈ xs ∧ (bestW g xs).2.2 = chosenW g (bestW g xs).2.1 ∧ ∀ x ∈ xs, chosenW g x ≤ (bestW g xs).2.2) := by
  refine bestW_foldr g (fun xs s => (s.1 = false → xs = [] ∧ s = (false, 0, 0)) ∧ (s.1 = true → s.2.1 ∈ xs ∧ s.2.2 = chosenW g s.2.1 ∧ ∀ x ∈ xs, chosenW g x ≤ s.2.2)) (by simp) ?_ xs
  rintro xs ⟨f, x0, g0⟩ x ⟨h1, h2⟩
  simp only at h1 h2 ⊢
  cases hc : (!f || decide (g0 < chosenW g x)) with
  | true =>
    rw [bestS_t hc]
    refine ⟨(fun h => (by cases h)), fun _ => ⟨by simp, rfl, fun y hy => ?_⟩⟩
    rcases List.mem_append.1 hy with hy | hy
    · cases hf : f with
      | true =>
        have := (h2 hf).2.2 y hy
        simp [hf] at hc
        simp only; omega
      | false => have := (h1 hf).1; subst this; cases hy
    · rw [List.mem_singleton] at hy; subst hy; exact Int.le_refl _
  | false =>
    rw [bestS_f hc]
    simp only [Bool.or_eq_false_iff, Bool.not_eq_false', decide_eq_false_iff_not] at hc
    obtain ⟨hf, hc⟩ := hc
    subst hf
    refine ⟨(fun h => (by cases h)), fun _ => ?_⟩
    obtain ⟨k1, k2, k3⟩ := h2 rfl
    refine ⟨List.mem_append_left _ k1, k2, fun y hy => ?_⟩
    rcases List.mem_append.1 hy with hy | hy
    · exact k3 y hy
    · rw [List.mem_singleton] at hy; subst hy; simp only; omega
structure Sol where
  found : Bool
  set : Int
  gain : Int
  proof : List Stp
def encSol (s : Sol) : List V := [.bool s.found, .int .i64 s.set, .int .i64 s.gain, .sl 4 (encS s.proof)]
def solveB (p : Pg) : Bool × Int × Int := bestW p.gain (choiceL p)
def solRows (p : Pg) (b : Bool × Int × Int) : List Rw := if b.1 = true then p.rows ++ [goalW p b.2.2] else p.rows
def solveW (p : Pg) : Sol := ⟨(solveB p).1, (solveB p).2.1, (solveB p).2.2, growN (solRows p (solveB p)) p.vars.toNat 0 0 []⟩
theorem solRows_t {p : Pg} {b : Bool × Int × Int} (h : b.1 = true) : solRows p b = p.rows ++ [goalW p b.2.2] := by unfold solRows; rw [if_pos h]
theorem solRows_f {p : Pg} {b : Bool × Int × Int} (h : b.1 = false) : solRows p b = p.rows := by unfold solRows; rw [h]; rfl
theorem encR_takeA (l : List Rw) : List.take l.length (encR l) = encR l := List.take_of_length_le (by rw [encR_length]; exact Nat.le_refl _)
/-! #### without some rows -/
def idxOk (p : Pg) (rows : List Int) (i : Nat) : Bool := isInB (rows.getD i 0) 0 (IntKind.i64.wrap (p.rows.length - 1)) && !(decide (0 < (i : Int)) && decide (rows.getD i 0 ≤ rows.getD (i - 1) 0))
def okTo (p : Pg) (rows : List Int) : Nat → Bool
  | 0 => true
  | n + 1 => okTo p rows n && idxOk p rows n
def okRows (p : Pg) (rows : List Int) : Bool := okTo p rows rows.length
theorem okTo_t {p : Pg} {rows : List Int} {n : Nat} (h : okTo p rows n = true) (h2 : idxOk p rows n = true) : okTo p rows (n + 1) = true := by simp [okTo, h, h2]
theorem okTo_iff {p : Pg} {rows : List Int} : ∀ {n : Nat}, okTo p rows n = true ↔ ∀ i, i < n → idxOk p rows i = true
  | 0 => by simp [okTo]
  | n + 1 => by
    simp only [okTo, Bool.and_eq_true, okTo_iff (n := n)]
    constructor
    · rintro ⟨h1, h2⟩ i hi
      by_cases e : i = n
      · subst e; exact h2
      · exact h1 i (by omega)
    · exact fun h => ⟨fun i hi => h i (by omega), h n (by omega)⟩
theorem okTo_f {p : Pg} {rows : List Int} {i : Nat} (hi : i < rows.length) (h : idxOk p rows i = false) : okRows p rows = false := by
  rw [Bool.eq_false_iff]
  intro h2
  rw [okTo_iff.1 h2 i hi] at h; cases h
theorem idxOk_iff {p : Pg} {rows : List Int} {i : Nat} : idxOk p rows i = true ↔ 0 ≤ rows.getD i 0 ∧ rows.getD i 0 ≤ IntKind.i64.wrap (p.rows.length - 1) ∧ (0 < i → rows.getD (i - 1) 0 < rows.getD i 0) := by
  simp only [idxOk, Bool.and_eq_true, isInB_spec, Bool.not_eq_true', Bool.and_eq_false_iff, decide_eq_false_iff_not]
  omega
theorem idx_no {p : Pg} {rows : List Int} {i : Nat} (h : isInB (rows.getD i 0) 0 (IntKind.i64.wrap (p.rows.length - 1)) = false ∨ 0 < (i : Int) ∧ rows.getD i 0 ≤ rows.getD (i - 1) 0) : idxOk p rows i = false := by
  rcases h with h | h
  · unfold idxOk; rw [h]; rfl
  · unfold idxOk; rw [decide_eq_true h.1, decide_eq_true h.2]; simp
theorem idx_fin {p : Pg} {rows : List Int} {i : Nat} (h : isInB (rows.getD i 0) 0 (IntKind.i64.wrap (p.rows.length - 1)) = true ∧ (¬ 0 < (i : Int) ∨ ¬ rows.getD i 0 ≤ rows.getD (i - 1) 0)) : idxOk p rows i = true := by
  obtain ⟨h1, h2⟩ := h
  unfold idxOk
  rw [h1]
  rcases h2 with h | h <;> rw [decide_eq_false h] <;> simp
theorem okRows_srt {p : Pg} {rows : List Int} (h : okRows p rows = true) : srt rows := by
  have hk := okTo_iff.1 h
  intro i j hij hj
  induction j with
  | zero => omega
  | succ j ih =>
    have h1 := (idxOk_iff.1 (hk (j + 1) hj)).2.2 (by omega)
    simp only [Nat.add_sub_cancel] at h1
    by_cases e : i = j
    · subst e; exact h1
    · have := ih (by omega) (by omega); omega
theorem okRows_len {p : Pg} {rows : List Int} (h : okRows p rows = true) (hv : validB p = true) : rows.length ≤ p.rows.length := by
  have hk := okTo_iff.1 h
  obtain ⟨h0, h1, h2, h3, h4, h5⟩ := validB_all hv
  have key : ∀ i : Nat, i < rows.length → (i : Int) ≤ rows.getD i 0 := by
    intro i
    induction i with
    | zero => intro hi; have := (idxOk_iff.1 (hk 0 hi)).1; simpa using this
    | succ i ih =>
      intro hi
      have h6 := ih (by omega)
      have h7 := (idxOk_iff.1 (hk (i + 1) hi)).2.2 (by omega)
      simp only [Nat.add_sub_cancel] at h7
      omega
  rcases Nat.eq_zero_or_pos rows.length with e | e
  · omega
  · have h6 := key (rows.length - 1) (by omega)
    have h7 := (idxOk_iff.1 (hk (rows.length - 1) (by omega))).2.1
    rw [w64 (by omega)] at h7
    omega
theorem okRows_1000 {p : Pg} {rows : List Int} (h : okRows p rows = true) (hv : validB p = true) : rows.length ≤ 1000 := by
  have := okRows_len h hv
  have := (validB_all hv).2.2.1
  omega
theorem gain_1000 {p : Pg} (hv : validB p = true) : p.gain.length ≤ 1000 := by
  obtain ⟨h0, h1, h2, h3, h4, h5⟩ := validB_all hv; omega
theorem coef_1000 {p : Pg} (hv : validB p = true) {i : Nat} (hi : i < p.rows.length) : (p.rows.getD i rw0).coef.length ≤ 1000 := by
  obtain ⟨h0, h1, h2, h3, h4, h5⟩ := validB_all hv
  have := (h5 _ (getD_mem (d := rw0) hi)).1; omega
def keepTo (p : Pg) (rows : List Int) : Nat → List Rw
  | 0 => []
  | n + 1 => if (n : Int) ∈ rows then keepTo p rows n else keepTo p rows n ++ [p.rows.getD n rw0]
theorem keepTo_t {p : Pg} {rows : List Int} {n : Nat} (h : (n : Int) ∈ rows) : keepTo p rows (n + 1) = keepTo p rows n := by simp only [keepTo, h, if_true]
theorem keepTo_f {p : Pg} {rows : List Int} {n : Nat} (h : ¬ (n : Int) ∈ rows) : keepTo p rows (n + 1) = keepTo p rows n ++ [p.rows.getD n rw0] := by simp only [keepTo, h, if_false]
theorem keepTo_length (p : Pg) (rows : List Int) : ∀ n, (keepTo p rows n).length ≤ n
  | 0 => Nat.le_refl _
  | n + 1 => by have := keepTo_length p rows n; simp only [keepTo]; split <;> (try simp) <;> omega
def withoutW (p : Pg) (rows : List Int) : Pg := ⟨p.vars, keepTo p rows p.rows.length, p.gain⟩
def wthV (p : Pg) (rows : List Int) : List V := if (okRows p rows && validB p) = true then [.agg (encPg (withoutW p rows)), .int .i64 0] else [.agg [.int .i64 0, .nsl, .nsl], .int .i64 230]
theorem wthV_t {p : Pg} {rows : List Int} (h1 : okRows p rows = true) (h2 : validB p = true) : wthV p rows = [.agg (encPg (withoutW p rows)), .int .i64 0] := by unfold wthV; rw [h1, h2]; rfl
theorem wthV_f1 {p : Pg} {rows : List Int} (h1 : okRows p rows = false) : wthV p rows = [.agg [.int .i64 0, .nsl, .nsl], .int .i64 230] := by unfold wthV; rw [h1]; rfl
theorem wthV_f2 {p : Pg} {rows : List Int} (h1 : validB p = false) : wthV p rows = [.agg [.int .i64 0, .nsl, .nsl], .int .i64 230] := by unfold wthV; rw [h1, Bool.and_false]; rfl
/-! #### its proof -/
theorem idx_any {α : Type} {p : α → Bool} {xs : List α} : 0 ≤ idxOf p xs ↔ ∃ x ∈ xs, p x = true := by
  have := idxOf_ge p xs
  rw [← List.any_eq_true, ← this, decide_eq_true_eq]
theorem setBit_nat {s d : Nat} (hs : s < 2 ^ d) (hd : d ≤ 12) : setBit s d = ((s + 2 ^ d : Nat) : Int) := by
  have hp : 2 ^ d ≤ 4096 := Nat.le_trans (Nat.pow_le_pow_right (by omega) hd) (by decide)
  unfold setBit
  rw [shl1 (by omega), orN (by omega) (by omega)]
  congr 1
  have := Nat.two_pow_add_eq_or_of_lt hs 1
  rw [Nat.or_comm, Nat.add_comm]
  simpa using this.symm
theorem infN_of {rows : List Rw} {v : Nat} (hv : v ≤ 12) (hc : ∀ r ∈ rows, r.coef.length = v) : ∀ (n d s : Nat), d + n = v → s < 2 ^ d → (∀ t : Nat, t < 2 ^ v → t % 2 ^ d = s → ∃ r ∈ rows, r.most < chosenW r.coef t) → infN rows n d s
  | 0, d, s, hd, hs, h => by
    have hd' : d = v := by omega
    subst hd'
    obtain ⟨r, hr, hm⟩ := h s hs (Nat.mod_eq_of_lt hs)
    refine idx_any.2 ⟨r, hr, ?_⟩
    have e := hc r hr
    have e2 : leastW r d s = chosenW r.coef s := by
      unfold leastW
      rw [List.drop_eq_nil_of_le (by omega), List.take_of_length_le (by omega)]; rfl
    simp only [overB, decide_eq_true_eq, e2]
    exact hm
  | n + 1, d, s, hd, hs, h => by
    by_cases hi : 0 ≤ idxOf (overB d s) rows
    · exact .inl hi
    · refine .inr ⟨infN_of hv hc n (d + 1) s (by omega) (by rw [Nat.pow_succ]; omega) fun t ht he => h t ht ?_, ?_⟩
      · have : t % 2 ^ (d + 1) % 2 ^ d = t % 2 ^ d := Nat.mod_mod_of_dvd _ (Nat.pow_dvd_pow 2 (by omega))
        rw [← this, he, Nat.mod_eq_of_lt hs]
      · rw [setBit_nat hs (by omega)]
        refine infN_of hv hc n (d + 1) (s + 2 ^ d) (by omega) (by rw [Nat.pow_succ]; omega) fun t ht he => h t ht ?_
        have : t % 2 ^ (d + 1) % 2 ^ d = t % 2 ^ d := Nat.mod_mod_of_dvd _ (Nat.pow_dvd_pow 2 (by omega))
        rw [← this, he, Nat.add_mod_right, Nat.mod_eq_of_lt hs]
theorem negG_all (g : List Int) : negG g g.length = g.map fun x => IntKind.i64.wrap (0 - x) := by simp [negG]
theorem negG_neg {g : List Int} (h : coefB g = true) : negG g g.length = g.map fun x => -x := by
  rw [negG_all]
  refine List.map_congr_left fun x hx => ?_
  have := coefB_iff.1 h x hx
  rw [w64 (by omega)]; omega
theorem sumG_neg (g : List Int) (s : Nat) : ∀ n, sumG (g.map fun x => -x) s n = - sumG g s n
  | 0 => rfl
  | n + 1 => by
    simp only [sumG, sumG_neg g s n]
    have : (g.map fun x => -x).getD n 0 = - g.getD n 0 := by
      simp only [List.getD, List.getElem?_map]
      cases g[n]? <;> simp
    rw [this]
    split <;> omega
theorem coefB_neg {g : List Int} (h : coefB g = true) : coefB (g.map fun x => -x) = true := by
  refine coefB_iff.2 fun x hx => ?_
  obtain ⟨y, hy, rfl⟩ := List.mem_map.1 hx
  have := coefB_iff.1 h y hy
  omega
/-- The row of the goal is broken by those that gain no more. -/
theorem goal_sum {p : Pg} (hv : validB p = true) {s : Nat} (hs : s < 65536) : chosenW (negG p.gain p.gain.length) s = - sumS p.gain s := by
  obtain ⟨h0, h1, h2, h3, h4, h5⟩ := validB_all hv
  rw [negG_neg h4, chosenW_sum (coefB_neg h4) hs (by simp; omega)]
  simp only [sumS, List.length_map, sumG_neg]
theorem goal_most {p : Pg} {g : Int} (h : -100000000000 ≤ g ∧ g ≤ 100000000000) : (goalW p g).most = -(g + 1) := by
  simp only [goalW]
  rw [w64 (x := g + 1) (by omega), w64 (by omega)]; omega
theorem solRows_coef {p : Pg} (hv : validB p = true) (b : Bool × Int × Int) : ∀ r ∈ solRows p b, r.coef.length = p.vars.toNat := by
  obtain ⟨h0, h1, h2, h3, h4, h5⟩ := validB_all hv
  intro r hr
  unfold solRows at hr
  split at hr
  · rcases List.mem_append.1 hr with hr | hr
    · have := (h5 r hr).1; omega
    · rw [List.mem_singleton] at hr; subst hr
      simp only [goalW, negG_length]; omega
  · have := (h5 r hr).1; omega
theorem mem_choiceL {p : Pg} {x : Int} : x ∈ choiceL p ↔ ∃ s : Nat, x = s ∧ s < 2 ^ p.vars.toNat ∧ allKept p.rows s = true := mem_chL
theorem solveB_mem {p : Pg} (h : (solveB p).1 = true) : ∃ s : Nat, (solveB p).2.1 = s ∧ s < 2 ^ p.vars.toNat ∧ allKept p.rows s = true := mem_choiceL.1 ((bestW_spec p.gain (choiceL p)).2 h).1
theorem solveB_gain {p : Pg} (hv : validB p = true) (h : (solveB p).1 = true) : ∃ s : Nat, (solveB p).2.1 = s ∧ s < 2 ^ p.vars.toNat ∧ (solveB p).2.2 = sumS p.gain s ∧ -12000000000 ≤ (solveB p).2.2 ∧ (solveB p).2.2 ≤ 12000000000 := by
  obtain ⟨s, h1, h2, h3⟩ := solveB_mem h
  obtain ⟨v, hv1, hv2, hv3, hv4⟩ := vars_pow hv
  obtain ⟨q0, q1, q2, q3, q4, q5⟩ := validB_all hv
  rw [hv1] at h2
  simp only [Int.toNat_natCast] at h2
  have e : (solveB p).2.2 = sumS p.gain s := by
    have e0 : (solveB p).2.2 = chosenW p.gain (solveB p).2.1 := ((bestW_spec p.gain (choiceL p)).2 h).2.1
    rw [e0, h1, chosenW_sum q4 (by omega) (by omega)]
  have := sumS_range q4 (show s < 65536 by omega) (by omega)
  exact ⟨s, h1, by rw [hv1]; simpa using h2, e, by omega, by omega⟩
theorem keptB_iff {r : Rw} {s : Int} : keptB r s = true ↔ chosenW r.coef s ≤ r.most := by simp [keptB]
theorem solve_inf {p : Pg} (hv : validB p = true) : infN (solRows p (solveB p)) p.vars.toNat 0 0 := by
  obtain ⟨v, hv1, hv2, hv3, hv4⟩ := vars_pow hv
  obtain ⟨q0, q1, q2, q3, q4, q5⟩ := validB_all hv
  have := infN_of (rows := solRows p (solveB p)) (v := v) hv2 (fun r hr => by have := solRows_coef hv _ r hr; rw [this, hv1]; rfl) v 0 0 (by omega) (by simp) fun t ht _ => by
    have hin : ∀ r ∈ p.rows, r ∈ solRows p (solveB p) := fun r hr => by
      unfold solRows; split
      · exact List.mem_append_left _ hr
      · exact hr
    cases hk : allKept p.rows t with
    | false =>
      obtain ⟨r, hr, hb⟩ : ∃ r ∈ p.rows, keptB r t = false := by
        simpa [allKept] using hk
      refine ⟨r, hin r hr, ?_⟩
      have : ¬ chosenW r.coef t ≤ r.most := fun h => by rw [keptB_iff.2 h] at hb; cases hb
      omega
    | true =>
      have hm : (t : Int) ∈ choiceL p := mem_choiceL.2 ⟨t, rfl, by rw [hv1]; exact ht, hk⟩
      cases hf : (solveB p).1 with
      | false => have := ((bestW_spec p.gain (choiceL p)).1 hf).1; rw [this] at hm; cases hm
      | true =>
        have hle := ((bestW_spec p.gain (choiceL p)).2 hf).2.2 _ hm
        obtain ⟨s, hs1, hs2, hs3, hs4, hs5⟩ := solveB_gain hv hf
        refine ⟨goalW p (solveB p).2.2, ?_, ?_⟩
        · unfold solRows; rw [if_pos hf]; simp
        · rw [goal_most (by omega)]
          show _ < chosenW (negG p.gain p.gain.length) t
          rw [goal_sum hv (by omega)]
          rw [chosenW_sum q4 (by omega) (by omega)] at hle
          have e : (solveB p).2.2 = (bestW p.gain (choiceL p)).2.2 := rfl
          omega
  simpa [hv1] using this
end Go.Proofs.Ytcphhbiehaimeaa
