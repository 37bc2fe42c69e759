/- Texts of this proof, put together. -/
import Derived.Test.YtaaongcfeldcoaaDoorKRd
import Derived.Test.YtaaongcfeldcoaaDoorKRe
import Derived.Test.YtaaongcfeldcoaaDoorKRb
import Derived.Test.YtaaongcfeldcoaaDoorKRc
import Derived.Test.YtaaongcfeldcoaaDoorChecked
import Derived.Test.YtaaongcfeldcoaaDoorRows
import Derived.ProofKit
import Derived.LaidMore
import Derived.OpenShut
import Derived.Stop.Joined
namespace Go.Proofs.YtaaongcfeldcoaaDoor
open Go.RowKit
set_option linter.unusedVariables false
set_option linter.unusedSimpArgs false
theorem coefB_no {l : List Int} {i : Nat} (hi : i < l.length) (h : l.getD i 0 < -1000000000 ∨ 1000000000 < l.getD i 0) : coefB l = false := by
  rw [Bool.eq_false_iff]; intro hc
  have := coefB_iff.1 hc _ (getD_mem (d := 0) hi); omega
theorem coefB_yes {l : List Int} (h : ∀ j, j < l.length → -1000000000 ≤ l.getD j 0 ∧ l.getD j 0 ≤ 1000000000) : coefB l = true := by
  refine coefB_iff.2 fun x hx => ?_
  obtain ⟨i, hi, rfl⟩ := List.getElem_of_mem hx
  have := h i hi
  rwa [show l.getD i 0 = l[i] by simp [List.getD, hi]] at this
theorem valid_no {p : Pg} (h : (((p.vars < 0 ∨ 12 < p.vars) ∨ 300 < (p.rows.length : Int)) ∨ ¬ (p.gain.length : Int) = p.vars) ∨ coefB p.gain = false) : validB p = false := by
  rw [Bool.eq_false_iff]; intro hv
  obtain ⟨h0, h1, h2, h3, h4, h5⟩ := validB_all hv
  rcases h with (((h | h) | h) | h) | h
  · omega
  · omega
  · omega
  · exact h h3
  · rw [h4] at h; cases h
theorem valid_row_no {p : Pg} {i : Nat} (hi : i < p.rows.length) (h : rightB (p.rows.getD i rw0) p.vars = false) : validB p = false := by
  rw [Bool.eq_false_iff]; intro hv
  obtain ⟨h0, h1, h2, h3, h4, h5⟩ := validB_all hv
  obtain ⟨k1, k2, k3⟩ := h5 _ (getD_mem (d := rw0) hi)
  have : rightB (p.rows.getD i rw0) p.vars = true := by simp only [rightB, Bool.and_eq_true, decide_eq_true_eq, isInB_spec]; exact ⟨k1, k2, k3⟩
  rw [this] at h; cases h
theorem valid_yes {p : Pg} (h : (((¬ p.vars < 0 ∧ ¬ 12 < p.vars) ∧ ¬ 300 < (p.rows.length : Int)) ∧ (p.gain.length : Int) = p.vars) ∧ coefB p.gain = true) (hr : ∀ j, j < p.rows.length → rightB (p.rows.getD j rw0) p.vars = true) : validB p = true := by
  obtain ⟨⟨⟨⟨a1, a2⟩, a3⟩, a4⟩, a5⟩ := h
  simp only [validB, Bool.and_eq_true, decide_eq_true_eq, isInB_spec]
  exact ⟨⟨by omega, by omega⟩, by omega, (all_getD rw0 _ _).2 hr, a4, a5⟩
theorem choice_shl {p : Pg} (hv : validB p = true) {s : Int} : choiceB p s = true ↔ 0 ≤ s ∧ s < shlW .i64 1 p.vars := by
  obtain ⟨v, hv1, hv2, hv3, hv4⟩ := vars_pow hv
  rw [choice_iff hv hv1, hv1, hv3]
  constructor
  · rintro ⟨n, rfl, hn⟩; omega
  · rintro ⟨h1, h2⟩
    obtain ⟨n, rfl⟩ := Int.eq_ofNat_of_zero_le h1
    exact ⟨n, rfl, by omega⟩
theorem choice_no {p : Pg} {s : Int} (h : (validB p = false ∨ s < 0) ∨ shlW .i64 1 p.vars ≤ s) : choiceB p s = false := by
  cases hv : validB p with
  | false => unfold choiceB; rw [hv]; rfl
  | true =>
    rw [Bool.eq_false_iff]; intro hc
    have := (choice_shl hv).1 hc
    rcases h with (h | h) | h
    · rw [hv] at h; cases h
    · omega
    · omega
theorem choice_yes {p : Pg} {s : Int} (h : (validB p = true ∧ ¬ s < 0) ∧ ¬ shlW .i64 1 p.vars ≤ s) : choiceB p s = true := (choice_shl h.1.1).2 ⟨by omega, by omega⟩
theorem tot_all {l : List Int} (hb : coefB l = true) (hl : l.length ≤ 12) {s : Nat} (hs : s < 65536) : totG l s l.length = chosenW l s := by
  rw [totG_sum hb hs _ hl, chosenW_sum hb hs hl]; rfl
theorem choice_nat {p : Pg} {s : Int} (h : choiceB p s = true) : ∃ n : Nat, s = n ∧ n < 65536 := by
  have hv : validB p = true := by unfold choiceB at h; rw [Bool.and_eq_true] at h; exact h.1
  obtain ⟨v, hv1, hv2, hv3, hv4⟩ := vars_pow hv
  obtain ⟨n, h1, h2⟩ := (choice_iff hv hv1).1 h
  exact ⟨n, h1, by omega⟩
theorem choice_valid {p : Pg} {s : Int} (h : choiceB p s = true) : validB p = true := by unfold choiceB at h; rw [Bool.and_eq_true] at h; exact h.1
theorem tot_gain {p : Pg} {s : Int} (h : choiceB p s = true) : totG p.gain s p.gain.length = gainW p s := by
  obtain ⟨n, rfl, hn⟩ := choice_nat h
  obtain ⟨h0, h1, h2, h3, h4, h5⟩ := validB_all (choice_valid h)
  unfold gainW
  rw [if_pos h, tot_all h4 (by omega) hn]
theorem tot_row {p : Pg} {s : Int} (h : choiceB p s = true) {i : Nat} (hi : i < p.rows.length) : totG (p.rows.getD i rw0).coef s (p.rows.getD i rw0).coef.length = chosenW (p.rows.getD i rw0).coef s := by
  obtain ⟨n, rfl, hn⟩ := choice_nat h
  obtain ⟨h0, h1, h2, h3, h4, h5⟩ := validB_all (choice_valid h)
  obtain ⟨k1, k2, -⟩ := h5 _ (getD_mem (d := rw0) hi)
  exact tot_all k2 (by omega) hn
theorem row_kept {p : Pg} {s : Int} (h : choiceB p s = true) {i : Nat} (hi : i < p.rows.length) : keptB (p.rows.getD i rw0) s = !decide ((p.rows.getD i rw0).most < totG (p.rows.getD i rw0).coef s (p.rows.getD i rw0).coef.length) := by
  rw [tot_row h hi]; unfold keptB
  rw [← decide_not, decide_eq_decide]; omega
theorem keepsB_brk {p : Pg} {s : Int} : keepsB p s = (choiceB p s && decide (((brokenW p s).length : Int) = 0)) := by
  cases h : choiceB p s with
  | false => unfold keepsB; rw [h]; rfl
  | true =>
    obtain ⟨v, hv1, hv2, hv3, hv4⟩ := vars_pow (choice_valid h)
    obtain ⟨n, rfl, hn⟩ := (choice_iff (choice_valid h) hv1).1 h
    rw [broken_in (choice_valid h) hv1 hn, broken_keeps (choice_valid h) hv1 hn, Bool.true_and]
theorem sumW_no {r : Rw} {s : Int} (h : ((12 < (r.coef.length : Int) ∨ rightB r r.coef.length = false) ∨ s < 0) ∨ shlW .i64 1 r.coef.length ≤ s) : sumW r s = 0 := by
  unfold sumW
  cases hr : rightB r r.coef.length with
  | false => simp
  | true =>
    by_cases hl : 12 < (r.coef.length : Int)
    · simp [hl]
    · have hs := (shl_small (k := (r.coef.length : Nat)) (by omega)).1
      have : isInB s 0 (IntKind.i64.wrap (shlW .i64 1 r.coef.length - 1)) = false := by
        rw [hs, Bool.eq_false_iff]; intro h2
        have := isInB_spec.1 h2
        rw [hr] at h
        simp only [Bool.true_eq_false, or_false] at h
        omega
      rw [this]; simp
theorem sumW_yes {r : Rw} {s : Int} (h : ((¬ 12 < (r.coef.length : Int) ∧ rightB r r.coef.length = true) ∧ ¬ s < 0) ∧ ¬ shlW .i64 1 r.coef.length ≤ s) : sumW r s = totG r.coef s r.coef.length := by
  obtain ⟨⟨⟨h1, h2⟩, h3⟩, h4⟩ := h
  have hs := (shl_small (k := (r.coef.length : Nat)) (by omega))
  obtain ⟨n, rfl⟩ := Int.eq_ofNat_of_zero_le (show 0 ≤ s by omega)
  have hc : coefB r.coef = true := by simp only [rightB, Bool.and_eq_true] at h2; exact h2.2.1
  unfold sumW
  rw [h2, decide_eq_false h1, isInB_spec.2 (show 0 ≤ (n : Int) ∧ (n : Int) ≤ _ by rw [hs.1]; omega), tot_all hc (by omega) (by omega)]
  rfl
theorem allKept_no {rows : List Rw} {s : Int} {i : Nat} (hi : i < rows.length) (h : keptB (rows.getD i rw0) s = false) : allKept rows s = false := by
  rw [Bool.eq_false_iff]; intro h2
  have h3 : keptB (rows.getD i rw0) s = true := (all_getD rw0 rows (fun r => keptB r s)).1 h2 i hi
  rw [h] at h3; cases h3
theorem allKept_yes {rows : List Rw} {s : Int} (h : ∀ i, i < rows.length → keptB (rows.getD i rw0) s = true) : allKept rows s = true := (all_getD rw0 rows (fun r => keptB r s)).2 h
/-! #### the least sum, and the plain proof -/
def lrG (c : List Int) (d set : Int) : Nat → Int
  | 0 => 0
  | k + 1 => if (k : Int) < d then IntKind.i64.wrap (lrG c d set k + IntKind.i64.wrap (c.getD k 0 * (shrW .i64 set k).tmod 2)) else if c.getD k 0 < 0 then IntKind.i64.wrap (lrG c d set k + c.getD k 0) else lrG c d set k
theorem lrG_1 {c : List Int} {d set : Int} {k : Nat} (h : (k : Int) < d) : lrG c d set (k + 1) = IntKind.i64.wrap (lrG c d set k + IntKind.i64.wrap (c.getD k 0 * (shrW .i64 set k).tmod 2)) := by simp only [lrG, if_pos h]
theorem lrG_2 {c : List Int} {d set : Int} {k : Nat} (h : ¬ (k : Int) < d) (h2 : c.getD k 0 < 0) : lrG c d set (k + 1) = IntKind.i64.wrap (lrG c d set k + c.getD k 0) := by simp only [lrG, if_neg h, if_pos h2]
theorem lrG_3 {c : List Int} {d set : Int} {k : Nat} (h : ¬ (k : Int) < d) (h2 : ¬ c.getD k 0 < 0) : lrG c d set (k + 1) = lrG c d set k := by simp only [lrG, if_neg h, if_neg h2]
theorem lrG_lst {c : List Int} (hb : coefB c = true) {d s : Nat} (hs : s < 65536) : ∀ k, k ≤ 12 → lrG c d s k = lstG c d s k
  | 0, _ => rfl
  | k + 1, hk => by
    have ih := lrG_lst hb (d := d) hs k (by omega)
    have hr := lstG_range hb d s k
    have hc := coef_getD hb k
    simp only [lstG]
    by_cases h : k < d
    · rw [lrG_1 (by omega), ih, rem_bit (by omega), if_pos h]
      split
      · rw [Int.mul_one, w64 (x := c.getD k 0) (by omega), w64 (by omega)]
      · rw [Int.mul_zero, w64 (x := (0 : Int)) (by omega), w64 (by omega)]
    · rw [if_neg h]
      by_cases hn : c.getD k 0 < 0
      · rw [lrG_2 (by omega) hn, ih, if_pos hn, w64 (by omega)]
      · rw [lrG_3 (by omega) hn, ih, if_neg hn]; omega
theorem lrG_over {rows : List Rw} {v : Nat} (hv : v ≤ 12) (hr : okRws rows v) {d s : Nat} (hd : d ≤ v) (hs : s < 2 ^ d) : ∀ r ∈ rows, decide (r.most < lrG r.coef d s r.coef.length) = overB d s r := fun r hr' => by
  obtain ⟨k1, k2⟩ := hr r hr'
  have hp : 2 ^ d ≤ 2 ^ 12 := Nat.pow_le_pow_right (by omega) (by omega)
  unfold overB
  rw [lrG_lst k2 (by omega) _ (by omega), leastW_lst k2 k1 hv hd hs, k1]
/-! #### the best, from behind -/
def cmb (s t : Bool × Int × Int) : Bool × Int × Int := if t.1 = true then (if (!s.1 || decide (s.2.2 < t.2.2)) = true then t else s) else s
def one (g : List Int) (x : Int) : Bool × Int × Int := (true, x, chosenW g x)
theorem bestS_cmb (g : List Int) (s : Bool × Int × Int) (x : Int) : bestS g s x = cmb s (one g x) := by unfold cmb; rw [if_pos (show (one g x).1 = true from rfl)]; rfl
theorem cmb_assoc (a b c : Bool × Int × Int) : cmb (cmb a b) c = cmb a (cmb b c) := by
  obtain ⟨a1, a2, a3⟩ := a
  obtain ⟨b1, b2, b3⟩ := b
  obtain ⟨c1, c2, c3⟩ := c
  by_cases h1 : a3 < b3 <;> by_cases h2 : b3 < c3 <;> by_cases h3 : a3 < c3 <;> cases a1 <;> cases b1 <;> cases c1 <;> first | (simp [cmb, h1, h2, h3]; done) | (exfalso; omega)
def e0 : Bool × Int × Int := (false, 0, 0)
theorem fold_cmb (g : List Int) : ∀ (xs : List Int) (a b : Bool × Int × Int), xs.foldl (bestS g) (cmb a b) = cmb a (xs.foldl (bestS g) b)
  | [], a, b => rfl
  | x :: xs, a, b => by
    simp only [List.foldl_cons]
    rw [bestS_cmb, cmb_assoc, ← bestS_cmb, fold_cmb g xs a]
def bestR (g xs : List Int) : Bool × Int × Int := xs.foldr (fun x s => cmb (one g x) s) e0
theorem bestR_eq (g : List Int) : ∀ xs, bestR g xs = bestW g xs
  | [] => rfl
  | x :: xs => by
    have ih := bestR_eq g xs
    have e1 : bestW g (x :: xs) = xs.foldl (bestS g) (cmb (one g x) e0) := by
      unfold bestW
      rw [List.foldl_cons]
      congr 1
    rw [e1, fold_cmb]
    unfold bestR at ih ⊢
    rw [List.foldr_cons, ih]; rfl
theorem bestR_drop {g xs : List Int} {i : Nat} (hi : i < xs.length) : bestR g (xs.drop i) = cmb (one g (xs.getD i 0)) (bestR g (xs.drop (i + 1))) := by
  rw [drop_cons (d := 0) hi]; rfl
theorem cmb_t {g : List Int} {x : Int} {s : Bool × Int × Int} (h : s.1 = false ∨ s.2.2 ≤ chosenW g x) : cmb (one g x) s = (true, x, chosenW g x) := by
  obtain ⟨s1, s2, s3⟩ := s
  simp only at h
  cases s1
  · simp [cmb, one]
  · simp only [Bool.true_eq_false, false_or] at h
    have : ¬ chosenW g x < s3 := by omega
    simp [cmb, one, this]
theorem cmb_f {g : List Int} {x : Int} {s : Bool × Int × Int} (h : s.1 = true ∧ ¬ s.2.2 ≤ chosenW g x) : cmb (one g x) s = s := by
  obtain ⟨s1, s2, s3⟩ := s
  obtain ⟨h1, h2⟩ := h
  simp only at h1 h2
  subst h1
  have : chosenW g x < s3 := by omega
  simp [cmb, one, this]
theorem bestR_end {g xs : List Int} {i : Nat} (h : xs.length ≤ i) : bestR g (xs.drop i) = e0 := by rw [List.drop_eq_nil_of_le h]; rfl
end Go.Proofs.YtaaongcfeldcoaaDoor

namespace Go.Proofs.YtaaongcfeldcoaaDoor
open Go.RowKit
set_option linter.unusedVariables false
set_option linter.unusedSimpArgs false
theorem encS_two (a : List Stp) (v no : Int) : encS a ++ (List.replicate 1 [V.int .i64 0, V.int .i64 0, V.int .i64 0, V.nsl]).set 0 [V.int .i64 v, V.int .i64 no, V.int .i64 0, V.nsl] = encS (a ++ [⟨v, no, 0, none⟩]) := by rw [encS_snoc]; rfl
theorem encS_two0 (v no : Int) : (List.replicate 1 [V.int .i64 0, V.int .i64 0, V.int .i64 0, V.nsl]).set 0 [V.int .i64 v, V.int .i64 no, V.int .i64 0, V.nsl] = encS [⟨v, no, 0, none⟩] := rfl
theorem encS_leaf0 (v i : Int) : (List.replicate 1 [V.int .i64 0, V.int .i64 0, V.int .i64 0, V.nsl]).set 0 [V.int .i64 v, V.int .i64 0, V.int .i64 0, V.sl 2 ((List.replicate 1 [V.int .i64 0, V.int .i64 0]).set 0 [V.int .i64 i, V.int .i64 1])] = encS [⟨v, 0, 0, some i⟩] := rfl
theorem encS_set3 (l : List Stp) (k : Nat) (a b c : Int) : (encS l).set k [V.int .i64 a, V.int .i64 b, V.int .i64 c, V.nsl] = encS (l.set k ⟨a, b, c, none⟩) := by rw [encS_set]; rfl
theorem growN_set (rows : List Rw) : ∀ (n d : Nat) (s : Int) (out : List Stp) (i : Nat) (x : Stp), i < out.length → growN rows n d s (out.set i x) = (growN rows n d s out).set i x
  | 0, d, s, out, i, x, h => by simp only [growN]; rw [List.set_append_left _ _ h]
  | n + 1, d, s, out, i, x, h => by
    have h1 := growN_length rows n (d + 1) s (out ++ [⟨d, 0, 0, none⟩])
    simp only [growN]
    split
    · rw [List.set_append_left _ _ h]
    · rw [← List.set_append_left _ _ h, growN_set rows n _ _ _ i x (by simp; omega), growN_set rows n _ _ _ i x (by simp only [List.length_append] at h1; omega)]
      rw [List.length_set, List.length_set, List.set_comm _ _ (show i ≠ out.length by omega)]
def plO (rows : List Rw) (m d : Nat) (s : Int) (out : List Stp) : List Stp := growN rows m (d + 1) s (out ++ [⟨d, (out.length + 1 : Nat), 0, none⟩])
theorem plO_eq (rows : List Rw) (m d : Nat) (s : Int) (out : List Stp) : plO rows m d s out = (growN rows m (d + 1) s (out ++ [⟨d, 0, 0, none⟩])).set out.length ⟨d, (out.length + 1 : Nat), 0, none⟩ := by
  rw [← growN_set rows m _ _ _ _ _ (by simp)]
  unfold plO
  congr 1
  rw [List.set_append_right _ _ (Nat.le_refl _)]
  simp
theorem plO_length (rows : List Rw) (m d : Nat) (s : Int) (out : List Stp) : (plO rows m d s out).length = (growN rows m (d + 1) s (out ++ [⟨d, 0, 0, none⟩])).length := by rw [plO_eq, List.length_set]
theorem plO_at (rows : List Rw) (m d : Nat) (s : Int) (out : List Stp) : (plO rows m d s out).getD out.length stp0 = ⟨d, (out.length + 1 : Nat), 0, none⟩ := by
  have h := growN_length rows m (d + 1) s (out ++ [⟨d, 0, 0, none⟩])
  simp only [List.length_append, List.length_cons, List.length_nil] at h
  rw [plO_eq]; exact getD_set_self (by omega)
theorem plO_fin {rows : List Rw} {m d : Nat} {s : Nat} {out : List Stp} (hs : s < 2 ^ d) (hd : d ≤ 12) (hneg : ¬ 0 ≤ idxOf (overB d s) rows) :
    growN rows m (d + 1) ((s + 2 ^ d : Nat) : Int) ((plO rows m d s out).set out.length ⟨d, (out.length + 1 : Nat), (plO rows m d s out).length, none⟩) = growN rows (m + 1) d s out := by
  have h := growN_length rows m (d + 1) s (out ++ [⟨d, 0, 0, none⟩])
  simp only [List.length_append, List.length_cons, List.length_nil] at h
  rw [plO_length, plO_eq, List.set_set, growN_set rows m _ _ _ _ _ (by omega)]
  simp only [growN, if_neg hneg, setBit_nat hs hd]
  rfl
theorem idx_neg {rows : List Rw} {p : Rw → Bool} (h : ∀ j, j < rows.length → p (rows.getD j rw0) = false) : ¬ 0 ≤ idxOf p rows := by
  rw [idxOf_none p rows (all_false rw0 h (Nat.le_refl _))]; omega
theorem choice_tot {p : Pg} (hv : validB p = true) {k : Nat} (hk : k < (choiceL p).length) : totG p.gain ((choiceL p).getD k 0) p.gain.length = chosenW p.gain ((choiceL p).getD k 0) := by
  obtain ⟨s, h1, h2, -⟩ := mem_choiceL.1 (getD_mem (d := 0) hk)
  obtain ⟨v, hv1, hv2, hv3, hv4⟩ := vars_pow hv
  obtain ⟨h0, h1', h2', h3, h4, h5⟩ := validB_all hv
  rw [hv1] at h2
  simp only [Int.toNat_natCast] at h2
  rw [h1, tot_all h4 (by omega) (by omega)]
theorem best_back {g xs : List Int} {k : Nat} (hk : k < xs.length) (h : (bestR g (xs.drop (k + 1))).1 = false ∨ (bestR g (xs.drop (k + 1))).2.2 ≤ chosenW g (xs.getD k 0)) : bestR g (xs.drop k) = (true, xs.getD k 0, chosenW g (xs.getD k 0)) := by rw [bestR_drop hk, cmb_t h]
theorem best_keep {g xs : List Int} {k : Nat} (hk : k < xs.length) (h : (bestR g (xs.drop (k + 1))).1 = true ∧ ¬ (bestR g (xs.drop (k + 1))).2.2 ≤ chosenW g (xs.getD k 0)) : bestR g (xs.drop k) = bestR g (xs.drop (k + 1)) := by rw [bestR_drop hk, cmb_f h]
theorem best_all (p : Pg) : bestR p.gain ((choiceL p).drop 0) = solveB p := by rw [List.drop_zero, bestR_eq]; rfl
end Go.Proofs.YtaaongcfeldcoaaDoor

namespace Go.Proofs.YtaaongcfeldcoaaDoor
open Go.RowKit
set_option linter.unusedVariables false
set_option linter.unusedSimpArgs false
def atW (rows : List Int) : Nat → Nat
  | 0 => 0
  | n + 1 => if atW rows n < rows.length ∧ rows.getD (atW rows n) 0 = n then atW rows n + 1 else atW rows n
def kpW (p : Pg) (rows : List Int) : Nat → List Rw
  | 0 => []
  | n + 1 => if atW rows n < rows.length ∧ rows.getD (atW rows n) 0 = n then kpW p rows n else kpW p rows n ++ [p.rows.getD n rw0]
theorem atW_t {rows : List Int} {n : Nat} (h : atW rows n < rows.length ∧ rows.getD (atW rows n) 0 = n) (p : Pg) : atW rows (n + 1) = atW rows n + 1 ∧ kpW p rows (n + 1) = kpW p rows n := by
  constructor
  · simp only [atW, if_pos h]
  · simp only [kpW, if_pos h]
theorem atW_f {rows : List Int} {n : Nat} (h : ¬ (atW rows n < rows.length ∧ rows.getD (atW rows n) 0 = n)) (p : Pg) : atW rows (n + 1) = atW rows n ∧ kpW p rows (n + 1) = kpW p rows n ++ [p.rows.getD n rw0] := by
  constructor
  · simp only [atW, if_neg h]
  · simp only [kpW, if_neg h]
theorem atW_le (rows : List Int) : ∀ n, atW rows n ≤ n ∧ atW rows n ≤ rows.length
  | 0 => ⟨Nat.le_refl _, Nat.zero_le _⟩
  | n + 1 => by
    have := atW_le rows n
    simp only [atW]; split <;> omega
theorem kpW_length (p : Pg) (rows : List Int) : ∀ n, (kpW p rows n).length ≤ n
  | 0 => Nat.le_refl _
  | n + 1 => by have := kpW_length p rows n; simp only [kpW]; split <;> (try simp) <;> omega
theorem atW_inv (rows : List Int) : ∀ n j, j < atW rows n → 0 ≤ rows.getD j 0 ∧ rows.getD j 0 < n ∧ (0 < j → rows.getD (j - 1) 0 < rows.getD j 0)
  | 0, j, h => by simp [atW] at h
  | n + 1, j, h => by
    by_cases hc : atW rows n < rows.length ∧ rows.getD (atW rows n) 0 = n
    · rw [(atW_t hc ⟨0, [], []⟩).1] at h
      by_cases hj : j < atW rows n
      · have := atW_inv rows n j hj; omega
      · have e : j = atW rows n := by omega
        rw [e, hc.2]
        refine ⟨by omega, by omega, fun h0 => ?_⟩
        have := atW_inv rows n (atW rows n - 1) (by omega)
        omega
    · rw [(atW_f hc ⟨0, [], []⟩).1] at h
      have := atW_inv rows n j h; omega
theorem atW_ok {p : Pg} (hv : validB p = true) {rows : List Int} (h : atW rows p.rows.length = rows.length) : okRows p rows = true := by
  obtain ⟨h0, h1, h2, h3, h4, h5⟩ := validB_all hv
  refine okTo_iff.2 fun i hi => idxOk_iff.2 ?_
  have := atW_inv rows p.rows.length i (by omega)
  rw [w64 (by omega)]
  exact ⟨this.1, by omega, this.2.2⟩
theorem atW_keep {p : Pg} (hv : validB p = true) {rows : List Int} (h : okRows p rows = true) : ∀ n, n ≤ p.rows.length → (∀ j, j < atW rows n → rows.getD j 0 < n) ∧ (∀ j, atW rows n ≤ j → j < rows.length → (n : Int) ≤ rows.getD j 0) ∧ kpW p rows n = keepTo p rows n
  | 0, _ => ⟨fun j hj => by simp [atW] at hj, fun j _ hj => by have := (idxOk_iff.1 (okTo_iff.1 h j hj)).1; simpa using this, rfl⟩
  | n + 1, hn => by
    obtain ⟨a1, a2, a3⟩ := atW_keep hv h n (by omega)
    have hs := okRows_srt h
    by_cases hc : atW rows n < rows.length ∧ rows.getD (atW rows n) 0 = n
    · obtain ⟨e1, e2⟩ := atW_t hc p
      have hm : (n : Int) ∈ rows := by rw [← hc.2]; exact getD_mem hc.1
      refine ⟨fun j hj => ?_, fun j h1 h2 => ?_, by rw [e2, a3, keepTo_t hm]⟩
      · rw [e1] at hj
        by_cases hj2 : j < atW rows n
        · have := a1 j hj2; omega
        · rw [show j = atW rows n by omega, hc.2]; omega
      · rw [e1] at h1
        have := hs (atW rows n) j (by omega) h2
        omega
    · obtain ⟨e1, e2⟩ := atW_f hc p
      have hm : ¬ (n : Int) ∈ rows := fun hm => by
        obtain ⟨j, hj, hje⟩ : ∃ j, j < rows.length ∧ rows.getD j 0 = (n : Int) := by
          obtain ⟨j, hj, e⟩ := List.getElem_of_mem hm
          exact ⟨j, hj, by rw [← e]; simp [List.getD, hj]⟩
        rcases Nat.lt_or_ge j (atW rows n) with h6 | h6
        · have := a1 j h6; omega
        · rcases Nat.lt_or_ge (atW rows n) j with h7 | h7
          · have h8 := hs (atW rows n) j h7 hj
            have h9 := a2 (atW rows n) (Nat.le_refl _) (by omega)
            omega
          · have : j = atW rows n := by omega
            subst this; exact hc ⟨hj, hje⟩
      refine ⟨fun j hj => by rw [e1] at hj; have := a1 j hj; omega, fun j h1 h2 => ?_, by rw [e2, a3, keepTo_f hm]⟩
      rw [e1] at h1
      have h3 := a2 j h1 h2
      rcases Int.lt_or_eq_of_le h3 with h4 | h4
      · omega
      · exact (hm (h4 ▸ getD_mem h2)).elim
theorem atW_end {p : Pg} (hv : validB p = true) {rows : List Int} (h : okRows p rows = true) : atW rows p.rows.length = rows.length ∧ kpW p rows p.rows.length = keepTo p rows p.rows.length := by
  obtain ⟨h0, h1, h2, h3, h4, h5⟩ := validB_all hv
  obtain ⟨a1, a2, a3⟩ := atW_keep hv h p.rows.length (Nat.le_refl _)
  refine ⟨?_, a3⟩
  have := (atW_le rows p.rows.length).2
  rcases Nat.lt_or_ge (atW rows p.rows.length) rows.length with h6 | h6
  · have h7 := a2 _ (Nat.le_refl _) h6
    have h8 := (idxOk_iff.1 (okTo_iff.1 h _ h6)).2.1
    rw [w64 (by omega)] at h8; omega
  · omega
theorem wth_at {p : Pg} (hv : validB p = true) {rows : List Int} (h : atW rows p.rows.length = rows.length) : wthV p rows = [.agg (encPg ⟨p.vars, kpW p rows p.rows.length, p.gain⟩), .int .i64 0] := by
  have hok := atW_ok hv h
  rw [wthV_t hok hv, (atW_end hv hok).2]; rfl
theorem wth_no {p : Pg} (hv : validB p = true) {rows : List Int} (h : ¬ atW rows p.rows.length = rows.length) : wthV p rows = [.agg [.int .i64 0, .nsl, .nsl], .int .i64 230] := by
  refine wthV_f1 ?_
  rw [Bool.eq_false_iff]; intro hok
  exact h (atW_end hv hok).1
theorem wth_bad {p : Pg} {rows : List Int} (h : validB p = false ∨ (p.rows.length : Int) < rows.length) : wthV p rows = [.agg [.int .i64 0, .nsl, .nsl], .int .i64 230] := by
  cases hv : validB p with
  | false => exact wthV_f2 hv
  | true =>
    refine wthV_f1 ?_
    rw [Bool.eq_false_iff]; intro hok
    have := okRows_len hok hv
    rcases h with h | h
    · rw [hv] at h; cases h
    · omega
/-! #### cut short -/
def cutR (n : Nat) (r : Rw) : Rw := ⟨r.kind, r.a, r.b, r.pl, r.coef.take n, r.most⟩
def fewP (p : Pg) : Pg := ⟨p.vars, (p.rows.take 20).map (cutR 13), p.gain.take 13⟩
theorem take_min {α : Type} (l : List α) (n : Nat) : l.take (minV (l.length : Int) (n : Int)).toNat = l.take n := by
  unfold minV
  split
  · rw [Int.toNat_natCast]
  · rw [Int.toNat_natCast, List.take_length, List.take_of_length_le (by omega)]
theorem cut_succ {l : List Rw} {i : Nat} (n : Nat) (h : i < l.length) : (l.take (i + 1)).map (cutR n) = (l.take i).map (cutR n) ++ [cutR n (l.getD i rw0)] := take_snoc _ _ h
theorem minV_range (l : Nat) (n : Int) (h : 0 ≤ n) : 0 ≤ minV (l : Int) n ∧ minV (l : Int) n ≤ l := by unfold minV; split <;> omega
theorem agEq_self (cs : List V) : agEq cs cs = true := by unfold agEq; simp
theorem few_min (p : Pg) : (p.rows.take (min p.rows.length 20)).map (cutR 13) = (p.rows.take 20).map (cutR 13) := by
  congr 1
  rcases Nat.le_total p.rows.length 20 with h | h
  · rw [Nat.min_eq_left h, List.take_length, List.take_of_length_le h]
  · rw [Nat.min_eq_right h]
end Go.Proofs.YtaaongcfeldcoaaDoor

namespace Go.Proofs.YtaaongcfeldcoaaDoor
open Go.RowKit
set_option linter.unusedVariables false
set_option linter.unusedSimpArgs false
set_option maxRecDepth 100000
attribute [local go_sem] Nat.zero_add Nat.add_zero Nat.mul_one eq_self ne_eq not_true_eq_false not_false_eq_true decide_true decide_false decide_not Bool.false_eq_true List.filter_cons List.filter_nil true_and and_true beq_false beq_true Bool.not_true Bool.not_false Bool.and_true Bool.true_and Option.getD_some Option.getD_none imp_self implies_true Int.toNat_natCast List.cons_append List.nil_append List.map_cons List.map_nil List.length_cons List.length_nil List.getD_cons_zero List.getD_cons_succ List.drop_zero List.drop_succ_cons List.take_succ_cons List.take_zero
attribute [local go_sem] lowN lowQ lowM isAl appF isE isO stpO notIn St.bare evO evDO isEff stp St.get St.slot St.put List.lookup un unL ofVal gof nth pickV pkB_false pkB_true binV unV loadV idxV fldV partV buildV fillV lenV sliV appV appR rowsV winV V.parts V.okp V.sc Mem.look_cons Mem.look_nil V.cl V.clL AObj.clo fzAll exps St.fz Mem.fz V.fz V.fzL AObj.fz Option.isSome_some Option.isSome_none Bool.or_true Bool.true_or Bool.or_false Bool.false_or false_and and_false false_or or_false   arT_29 arT_57  arT_33   arT_112 arT_95  arT_88 boolT_29 boolT_3 boolT_36 boolT_4 boolT_92 flatT_29 flatT_3 flatT_36 flatT_4 flatT_92 intT_3 intT_121  lay_29 lay_73 lay_57 lay_59 lay_3 lay_42 lay_33 lay_35 lay_4  lay_88  lay_92 lay_110 lay_85   okF_14  okF_28    okF_18  okF_21  okF_22                okF_59 okF_60 okF_61  okF_62 okF_63     okF_51 okF_52 okF_53 okF_54  okF_55   okF_56 okF_57 okF_58 okF_32  okF_82 okF_83  okF_84 okF_85 okF_86 okF_87   okF_78 okF_79 okF_80 okF_81  okF_94  okF_40 okF_99 okF_69 okF_68   plT_73 plT_59 plT_35 plT_90 plT_92   slT_29 slT_57  slT_33   slT_112 slT_95  slT_88 stT_73_0   stT_73_3 stT_73_4 stT_73_5 stT_59_0 stT_59_1 stT_59_2 stT_35_0 stT_35_1 stT_35_2 stT_35_3 stT_90_0 stT_90_1 stT_90_2 stT_90_3    zeroT_73 zeroT_59 zeroT_3 zeroT_42 zeroT_33 zeroT_35   zeroT_90 zeroT_92
attribute [local go_sem] List.getElem?_cons_zero List.getElem?_cons_succ List.zip_cons_cons List.zip_nil_left List.zip_nil_right Bool.false_and Bool.and_false List.length_append List.length_set List.length_replicate List.all_cons List.all_nil encI_length encI_getD encR_length encR_getD encRw encPg spl shp AObj.shp rowM isSt isRpS isRd csh AObj.csh forall_const imp_self
attribute [local simp] encI_length encR_length cellsI_length
section
attribute [local go_sem] encS_length encS_getD encSt agEq_self V.isI
set_option maxHeartbeats 4000000 in
theorem c18 (l : List Stp) (hl : l.length ≤ maxLen) : CallsA Tryd.prog 18 [.sl 4 (encS l), .sl 4 (encS l)] (.bool true) := by
  unfold maxLen at hl
  have hq : True := trivial
  refine callsA_of_tr Tryd.func18 rfl (Nat.le_of_ble_eq_true rfl) ?_
  simp only [Tryd.results18, envOf, Nat.reduceAdd]
  refine tr_seq fun K1 hK1 => ?_
  refine tr_region [0, 1] rfl rfl fun K hK => ?_
  refine evR_p ?_
  refine evR_e hK ?_; clear hK K
  refine hK1 _ ?_
  refine tr_seq fun K2 hK2 => ?_
  refine tr_seq fun K3 hK3 => ?_
  refine tr_region [0, 1, 11] rfl rfl fun K hK => ?_
  iterate 5 refine evR_p ?_
  refine evR_e hK ?_; clear hK K
  refine hK3 _ ?_
  refine tr_condB (fun ht1 => ?_) (fun ht1 => ?_)
  · skip
    (first | (exfalso; omega) | (exfalso; simp_all; done) | (have _ := hlf) | (have _ := hi; rcases hlf : (l.getD i stp0).leaf with _ | lf <;> replace hq := And.intro hq hlf) | skip)
    all_goals
      refine tr_seq fun K4 hK4 => ?_
      refine tr_region [4] rfl rfl fun K hK => ?_
      refine evR_p ?_
      refine evR_e hK ?_; clear hK K
      refine hK4 _ ?_
      refine tr_ret ?_
      (try simp only [thenE, inBlkE])
      simp (maxSteps := 4000000) (disch := first | assumption | omega | (simp only [go_sem, *]; done) | (simp only [go_sem, *]; omega)) only [postA, postO, resV1, fzAll, go_sem, hq, Int.reduceToNat, Nat.reduceBEq, Nat.reduceEqDiff, Nat.reduceAdd, Nat.reduceMul, Nat.reduceLeDiff, Nat.reduceLT, Nat.reduceSub, ↓reduceIte, reduceCtorEq]
      all_goals (rfl)
  · skip
    (first | (exfalso; omega) | (exfalso; simp_all; done) | (have _ := hlf) | (have _ := hi; rcases hlf : (l.getD i stp0).leaf with _ | lf <;> replace hq := And.intro hq hlf) | skip)
    all_goals
      refine tr_skip ?_
      (try simp only [thenE, inBlkE])
      refine hK2 _ ?_
      refine tr_seq fun K5 hK5 => ?_
      refine tr_seq fun K6 hK6 => ?_
      refine tr_region [0, 1, 5] rfl rfl fun K hK => ?_
      refine evR_p ?_
      refine evR_e hK ?_; clear hK K
      refine hK6 _ ?_
      refine tr_block ?_
      -- loop 1: live [0, 1, 5]
      refine tr_loopW (fun m σ => ∃ i : Nat, i + m = l.length ∧ σ = ⟨[(0, .sl 4 (encS l)), (1, .sl 4 (encS l)), (5, .int .i64 (i : Nat))], [], 0⟩) (l.length) ?_ ?_
      · exact ⟨_, Wk.refl _, 0, by omega, rfl⟩
      · rintro m σ ⟨i, hi, rfl⟩ KL1 hKL1
        refine tr_seq fun K7 hK7 => ?_
        refine tr_seq fun K8 hK8 => ?_
        refine tr_region [0, 1, 5, 15] rfl rfl fun K hK => ?_
        iterate 4 refine evR_p ?_
        refine evR_e hK ?_; clear hK K
        refine hK8 _ ?_
        refine tr_condB (fun ht2 => ?_) (fun ht2 => ?_)
        · skip
          (first | (exfalso; omega) | (exfalso; simp_all; done) | (have _ := hlf) | (have _ := hi; rcases hlf : (l.getD i stp0).leaf with _ | lf <;> replace hq := And.intro hq hlf) | skip)
          all_goals
            have hil : i < l.length := by omega
            replace hq := And.intro hq (hil)
            refine tr_skip ?_
            (try simp only [thenE, inBlkE])
            refine hK7 _ ?_
            refine tr_seq fun K9 hK9 => ?_
            refine tr_block ?_
            refine tr_seq fun K10 hK10 => ?_
            refine tr_seq fun K11 hK11 => ?_
            refine tr_draw [] [0, 1, 5, 69] mixed rfl (by kernel_rfl) rfl fun K hK => ?_
            iterate 12 refine evD_p ?_
            iterate 11 refine evD_g ?_
            iterate 2 refine evD_p ?_
            iterate 11 refine evD_g ?_
            iterate 2 refine evD_p ?_
            iterate 13 refine evD_g ?_
            refine evD_p ?_
            refine evD_e hK ?_; clear hK K
            refine hK11 _ ?_
            refine tr_condB (fun ht3 => ?_) (fun ht3 => ?_)
            · skip
              (first | (exfalso; omega) | (exfalso; simp_all; done) | (have _ := hlf) | (have _ := hi; rcases hlf : (l.getD i stp0).leaf with _ | lf <;> replace hq := And.intro hq hlf) | skip)
              all_goals
                refine tr_seq fun K12 hK12 => ?_
                refine tr_region [4] rfl rfl fun K hK => ?_
                refine evR_p ?_
                refine evR_e hK ?_; clear hK K
                refine hK12 _ ?_
                refine tr_ret ?_
                (try simp only [thenE, inBlkE])
                simp (maxSteps := 4000000) (disch := first | assumption | omega | (simp only [go_sem, *]; done) | (simp only [go_sem, *]; omega)) only [postA, postO, resV1, fzAll, go_sem, hq, Int.reduceToNat, Nat.reduceBEq, Nat.reduceEqDiff, Nat.reduceAdd, Nat.reduceMul, Nat.reduceLeDiff, Nat.reduceLT, Nat.reduceSub, ↓reduceIte, reduceCtorEq]
                all_goals (rfl)
            · skip
              (first | (exfalso; omega) | (exfalso; simp_all; done) | (have _ := hlf) | (have _ := hi; rcases hlf : (l.getD i stp0).leaf with _ | lf <;> replace hq := And.intro hq hlf) | skip)
              all_goals
                refine tr_skip ?_
                (try simp only [thenE, inBlkE])
                refine hK10 _ ?_
                refine tr_seq fun K13 hK13 => ?_
                refine tr_region [0, 1, 5, 6] rfl rfl fun K hK => ?_
                refine evR_p ?_
                refine evR_e hK ?_; clear hK K
                refine hK13 _ ?_
                refine tr_block ?_
                -- loop 2: live [0, 1, 5, 6]
                refine tr_loopW (fun m σ => ∃ k : Nat, k + m = 1 ∧ σ = ⟨[(0, .sl 4 (encS l)), (1, .sl 4 (encS l)), (5, .int .i64 (i : Nat)), (6, .int .i64 (k : Nat))], [], 0⟩) (1) ?_ ?_
                · exact ⟨_, Wk.refl _, 0, by omega, rfl⟩
                · rintro m2 σ ⟨k, hk, rfl⟩ KL2 hKL2
                  refine tr_seq fun K14 hK14 => ?_
                  refine tr_seq fun K15 hK15 => ?_
                  refine tr_region [0, 1, 5, 6, 77] rfl rfl fun K hK => ?_
                  iterate 8 refine evR_p ?_
                  refine evR_e hK ?_; clear hK K
                  refine hK15 _ ?_
                  refine tr_condB (fun ht4 => ?_) (fun ht4 => ?_)
                  · skip
                    (first | (exfalso; omega) | (exfalso; simp_all; done) | (have _ := hlf) | (have _ := hi; rcases hlf : (l.getD i stp0).leaf with _ | lf <;> replace hq := And.intro hq hlf) | skip)
                    all_goals
                      have hk0 : k = 0 := by omega
                      subst hk0
                      refine tr_skip ?_
                      (try simp only [thenE, inBlkE])
                      refine hK14 _ ?_
                      refine tr_seq fun K16 hK16 => ?_
                      refine tr_block ?_
                      refine tr_seq fun K17 hK17 => ?_
                      refine tr_draw [] [0, 1, 5, 6, 96] mixed rfl (by kernel_rfl) rfl fun K hK => ?_
                      iterate 17 refine evD_p ?_
                      refine evD_e hK ?_; clear hK K
                      refine hK17 _ ?_
                      refine tr_condB (fun ht5 => ?_) (fun ht5 => ?_)
                      · skip
                        (first | (exfalso; omega) | (exfalso; simp_all; done) | (have _ := hlf) | (have _ := hi; rcases hlf : (l.getD i stp0).leaf with _ | lf <;> replace hq := And.intro hq hlf) | skip)
                        all_goals
                          refine tr_seq fun K18 hK18 => ?_
                          refine tr_region [4] rfl rfl fun K hK => ?_
                          refine evR_p ?_
                          refine evR_e hK ?_; clear hK K
                          refine hK18 _ ?_
                          refine tr_ret ?_
                          (try simp only [thenE, inBlkE])
                          simp (maxSteps := 4000000) (disch := first | assumption | omega | (simp only [go_sem, *]; done) | (simp only [go_sem, *]; omega)) only [postA, postO, resV1, fzAll, go_sem, hq, Int.reduceToNat, Nat.reduceBEq, Nat.reduceEqDiff, Nat.reduceAdd, Nat.reduceMul, Nat.reduceLeDiff, Nat.reduceLT, Nat.reduceSub, ↓reduceIte, reduceCtorEq]
                          all_goals (rfl)
                      · skip
                        (first | (exfalso; omega) | (exfalso; simp_all; done) | (have _ := hlf) | (have _ := hi; rcases hlf : (l.getD i stp0).leaf with _ | lf <;> replace hq := And.intro hq hlf) | skip)
                        all_goals
                          refine tr_skip ?_
                          (try simp only [thenE, inBlkE])
                          refine hK16 _ ?_
                          refine tr_region [0, 1, 5, 6] rfl rfl fun K hK => ?_
                          iterate 3 refine evR_p ?_
                          refine evR_e hK ?_; clear hK K
                          refine hKL2 _ ?_
                          exact ⟨m2 - 1, _, by omega, Wk.refl _, 1, by omega, rfl⟩
                  · skip
                    (first | (exfalso; omega) | (exfalso; simp_all; done) | (have _ := hlf) | (have _ := hi; rcases hlf : (l.getD i stp0).leaf with _ | lf <;> replace hq := And.intro hq hlf) | skip)
                    all_goals
                      refine tr_exit ?_
                      simp only [thenE, inBlkE, Nat.reduceEqDiff, ↓reduceIte]
                      refine hK9 _ ?_
                      refine tr_region [0, 1, 5] rfl rfl fun K hK => ?_
                      iterate 3 refine evR_p ?_
                      refine evR_e hK ?_; clear hK K
                      refine hKL1 _ ?_
                      exact ⟨m - 1, _, by omega, Wk.refl _, i + 1, by omega, by rw [w64 (x := (i : Int) + 1) (by omega)]; rfl⟩
        · skip
          (first | (exfalso; omega) | (exfalso; simp_all; done) | (have _ := hlf) | (have _ := hi; rcases hlf : (l.getD i stp0).leaf with _ | lf <;> replace hq := And.intro hq hlf) | skip)
          all_goals
            have hil : i = l.length := by omega
            subst hil
            refine tr_exit ?_
            simp only [thenE, inBlkE, Nat.reduceEqDiff, ↓reduceIte]
            refine hK5 _ ?_
            refine tr_seq fun K19 hK19 => ?_
            refine tr_region [4] rfl rfl fun K hK => ?_
            refine evR_p ?_
            refine evR_e hK ?_; clear hK K
            refine hK19 _ ?_
            refine tr_ret ?_
            (try simp only [thenE, inBlkE])
            simp (maxSteps := 4000000) (disch := first | assumption | omega | (simp only [go_sem, *]; done) | (simp only [go_sem, *]; omega)) only [postA, postO, resV1, fzAll, go_sem, hq, Int.reduceToNat, Nat.reduceBEq, Nat.reduceEqDiff, Nat.reduceAdd, Nat.reduceMul, Nat.reduceLeDiff, Nat.reduceLT, Nat.reduceSub, ↓reduceIte, reduceCtorEq]
            all_goals (rfl)
end

end Go.Proofs.YtaaongcfeldcoaaDoor


namespace Go.Proofs.YtaaongcfeldcoaaDoor
open Go.RowKit
set_option linter.unusedVariables false
set_option linter.unusedSimpArgs false
def pg0 : Pg := ⟨0, [], []⟩
def encPs (l : List Pg) : List (List V) := l.map encPg
theorem encPs_length (l : List Pg) : (encPs l).length = l.length := by simp [encPs]
theorem encPs_getD (l : List Pg) (k : Nat) (h : k < l.length) : (encPs l).getD k [] = encPg (l.getD k pg0) := by simp [encPs, List.getD, h]
def encL (l : List (List Int)) : List (List V) := l.map fun x => [V.sl 1 (encI x)]
theorem encL_length (l : List (List Int)) : (encL l).length = l.length := by simp [encL]
theorem encL_getD (l : List (List Int)) (k : Nat) (h : k < l.length) : (encL l).getD k [] = [V.sl 1 (encI (l.getD k []))] := by simp [encL, List.getD, h]
def okPg (p : Pg) : Prop := p.rows.length ≤ 20 ∧ p.gain.length ≤ 13 ∧ ∀ r ∈ p.rows, r.coef.length ≤ 13
theorem okPg_max {p : Pg} (h : okPg p) : p.rows.length ≤ maxLen ∧ p.gain.length ≤ maxLen ∧ ∀ r ∈ p.rows, r.coef.length ≤ maxLen := by
  unfold maxLen
  exact ⟨by have := h.1; omega, by have := h.2.1; omega, fun r hr => by have := h.2.2 r hr; omega⟩
theorem okPg_few (p : Pg) : okPg (fewP p) := by
  refine ⟨by simp [fewP]; omega, by simp [fewP]; omega, fun r hr => ?_⟩
  obtain ⟨s, -, rfl⟩ := List.mem_map.1 hr
  simp [cutR]; omega
theorem okPg_made {p : Pg} (hv : validB p = true) (h8 : p.rows.length ≤ 8) : okPg p := by
  obtain ⟨h0, h1, h2, h3, h4, h5⟩ := validB_all hv
  exact ⟨by omega, by omega, fun r hr => by have := (h5 r hr).1; omega⟩
theorem okPg_bent {p : Pg} (h : okPg p) (k : Nat) (r : Rw) : okPg ⟨p.vars, p.rows.set k (cutR 13 r), p.gain⟩ := by
  refine ⟨by simpa using h.1, h.2.1, fun s hs => ?_⟩
  rcases List.mem_or_eq_of_mem_set hs with h1 | rfl
  · exact h.2.2 s h1
  · simp [cutR]; omega
theorem okPg_without {p : Pg} (h : okPg p) (l : List Int) : okPg (withoutW p l) := by
  refine ⟨Nat.le_trans (keepTo_length p l _) h.1, h.2.1, fun r hr => ?_⟩
  obtain ⟨i, hi, rfl, -⟩ := keepTo_mem hr
  exact h.2.2 _ (getD_mem hi)
theorem okPg_0 : okPg pg0 := ⟨by simp [pg0], by simp [pg0], by simp [pg0]⟩
theorem proof_max {p : Pg} (hv : validB p = true) : (solveW p).proof.length ≤ maxLen := by
  obtain ⟨h0, h1, -⟩ := validB_all hv
  have hn := growN_length (solRows p (solveB p)) p.vars.toNat 0 0 []
  have hp : 2 ^ (p.vars.toNat + 1) ≤ 2 ^ 13 := Nat.pow_le_pow_right (by omega) (by omega)
  show (growN _ _ _ _ _).length ≤ _
  simp only [List.length_nil] at hn
  unfold maxLen; omega
theorem sameTo_self (l : List Rw) : ∀ n, sameTo l l n = true
  | 0 => rfl
  | n + 1 => by simp [sameTo, sameTo_self l n, sameRw]
theorem sameB_self (p : Pg) : sameB p p = true := by simp [sameB, sameTo_self]
theorem wth_or (p : Pg) (l : List Int) : wthV p l = [.agg (encPg (withoutW p l)), .int .i64 0] ∨ wthV p l = [.agg [.int .i64 0, .nsl, .nsl], .int .i64 230] := by
  unfold wthV; split
  · exact .inl rfl
  · exact .inr rfl
theorem bool_or (b : Bool) : b = true ∨ b = false := by cases b <;> simp
theorem brk_max (p : Pg) (h : okPg p) (s : Int) : (brokenW p s).length ≤ maxLen := by
  unfold brokenW maxLen
  have := brkTo_length p s p.rows.length
  have := h.1
  split
  · omega
  · simp
theorem cellsI_mapL (g : Nat → Nat) : ∀ xs : List Int, V.mapL g (cellsI xs) = cellsI xs
  | [] => rfl
  | x :: xs => by simpa [cellsI, V.mapL, V.map] using cellsI_mapL g xs
theorem cellsI_domL (p q : Nat → Bool) : ∀ xs : List Int, V.domL p q (cellsI xs) = true
  | [] => rfl
  | x :: xs => by simpa [cellsI, V.domL, V.dom] using cellsI_domL p q xs
end Go.Proofs.YtaaongcfeldcoaaDoor

namespace Go.Proofs.YtaaongcfeldcoaaDoor
open Go.RowKit
set_option linter.unusedVariables false
set_option linter.unusedSimpArgs false
set_option maxRecDepth 100000
attribute [local go_sem] Nat.zero_add Nat.add_zero Nat.mul_one eq_self ne_eq not_true_eq_false not_false_eq_true decide_true decide_false decide_not Bool.false_eq_true List.filter_cons List.filter_nil true_and and_true beq_false beq_true Bool.not_true Bool.not_false Bool.and_true Bool.true_and Option.getD_some Option.getD_none imp_self implies_true Int.toNat_natCast List.cons_append List.nil_append List.map_cons List.map_nil List.length_cons List.length_nil List.getD_cons_zero List.getD_cons_succ List.drop_zero List.drop_succ_cons List.take_succ_cons List.take_zero
attribute [local go_sem] lowN lowQ lowM isAl appOwn unw appF isE isO stpO notIn St.bare evO evDO isEff stp St.get St.slot St.put List.lookup un unL ofVal gof nth pickV pkB_false pkB_true binV unV loadV idxV fldV partV buildV fillV lenV sliV appV appR rowsV winV V.parts V.okp V.sc Mem.look_cons Mem.look_nil V.cl V.clL AObj.clo fzAll exps St.fz Mem.fz V.fz V.fzL AObj.fz Option.isSome_some Option.isSome_none Bool.or_true Bool.true_or Bool.or_false Bool.false_or false_and and_false false_or or_false arT_112 arT_22 arT_23 arT_27 arT_28 arT_29 arT_33 arT_52 arT_57 arT_65 arT_76 arT_77 arT_84 arT_88 arT_9 arT_95 boolT_133 boolT_29 boolT_3 boolT_36 boolT_4 boolT_70 boolT_92 flatT_133 flatT_29 flatT_3 flatT_36 flatT_4 flatT_70 flatT_92 intT_121 intT_142 intT_144 intT_145 intT_3 intT_5 lay_110 lay_145 lay_22 lay_23 lay_25 lay_27 lay_28 lay_29 lay_3 lay_31 lay_33 lay_35 lay_4 lay_42 lay_51 lay_56 lay_57 lay_59 lay_70 lay_73 lay_77 lay_79 lay_81 lay_83 lay_84 lay_85 lay_88 lay_92 lay_94 lay_95 okF_10 okF_100 okF_101 okF_102 okF_103 okF_104 okF_105 okF_11 okF_12 okF_122 okF_123 okF_124 okF_125 okF_126 okF_127 okF_13 okF_14 okF_15 okF_16 okF_17 okF_18 okF_19 okF_20 okF_21 okF_22 okF_23 okF_24 okF_25 okF_26 okF_27 okF_28 okF_29 okF_3 okF_30 okF_31 okF_32 okF_33 okF_34 okF_35 okF_36 okF_37 okF_38 okF_39 okF_4 okF_40 okF_41 okF_42 okF_43 okF_44 okF_45 okF_46 okF_47 okF_48 okF_49 okF_5 okF_50 okF_51 okF_52 okF_53 okF_54 okF_55 okF_56 okF_57 okF_58 okF_59 okF_6 okF_60 okF_61 okF_62 okF_63 okF_64 okF_65 okF_66 okF_67 okF_68 okF_69 okF_7 okF_70 okF_71 okF_72 okF_73 okF_74 okF_75 okF_76 okF_77 okF_78 okF_79 okF_8 okF_80 okF_81 okF_82 okF_83 okF_84 okF_85 okF_86 okF_87 okF_88 okF_89 okF_9 okF_90 okF_91 okF_92 okF_93 okF_94 okF_95 okF_96 okF_97 okF_98 okF_99 plT_31 plT_35 plT_51 plT_56 plT_59 plT_70 plT_73 plT_90 plT_92 plT_95 slT_112 slT_22 slT_23 slT_27 slT_28 slT_29 slT_33 slT_52 slT_57 slT_65 slT_76 slT_77 slT_88 slT_95 stT_25_0 stT_25_1 stT_25_2 stT_25_3 stT_25_4 stT_31_0 stT_31_1 stT_31_2 stT_31_3 stT_35_0 stT_35_1 stT_35_2 stT_35_3 stT_51_0 stT_51_1 stT_56_0 stT_56_1 stT_56_2 stT_56_3 stT_59_0 stT_59_1 stT_59_2 stT_73_0 stT_73_3 stT_73_4 stT_73_5 stT_79_0 stT_79_1 stT_79_2 stT_83_0 stT_90_0 stT_90_1 stT_90_2 stT_90_3 strT_76 strT_77 strT_84 strT_9 zeroT_112 zeroT_145 zeroT_3 zeroT_31 zeroT_33 zeroT_35 zeroT_42 zeroT_51 zeroT_56 zeroT_57 zeroT_59 zeroT_70 zeroT_73 zeroT_79 zeroT_83 zeroT_90 zeroT_92 zeroT_95
attribute [local go_sem] List.getElem?_cons_zero List.getElem?_cons_succ List.zip_cons_cons List.zip_nil_left List.zip_nil_right Bool.false_and Bool.and_false List.length_append List.length_set List.length_replicate List.all_cons List.all_nil encI_length encI_getD encR_length encR_getD encRw encPg spl shp AObj.shp rowM isSt isRpS isRd csh AObj.csh forall_const imp_self
attribute [local go_sem] encHr encOf encSp encP2 encSps_length encOfs_length encP2s_length encSps_getD encOfs_getD encP2s_getD
attribute [local simp] encI_length encR_length cellsI_length encSps_length encOfs_length encP2s_length
section
attribute [local go_sem] encSol encS_length
set_option maxHeartbeats 4000000 in
theorem k4a (fr : Int) (rs : List P2) (os : List Of) (ap mu : Int) (hrl : rs.length ≤ maxLen) (hol : os.length ≤ maxLen) (hrk : ∀ p ∈ rs, okP2 p) (hok : ∀ o ∈ os, okO o) (hf : okI fr) (pr s : Int) (hp : okI pr) (hs : okI s) (hx : (bestH (withH (madeH fr rs os ap mu) (pickW pr 6))).found = true) : CallsA Tryd.prog 4 [.agg [.int .i64 fr, .sl 2 (encP2s rs), .sl 4 (encOfs os), .int .i64 ap, .int .i64 mu], .int .i64 pr, .int .i64 s] (.bool true) := by
  have hpn := pickW_rng pr (n := 6) (by omega) (by omega) hp
  have hk9 := k9 fr rs os ap mu hrl hol hrk hf
  have hv := made_validH (ap := ap) (mu := mu) hf hrk hok
  have hn9 : 0 ≤ pickW pr 6 ∧ pickW pr 6 ≤ 11 := by omega
  generalize madeH fr rs os ap mu = M at hk9 hv hx
  have hV := validH_all hv
  have hr : M.rooms.length ≤ maxLen := by have := hV.rl; unfold maxLen; omega
  have ho : M.offers.length ≤ maxLen := by have := hV.ol; unfold maxLen; omega
  have ha : M.apart.length ≤ maxLen := by have := hV.al; unfold maxLen; omega
  have hm : M.must.length ≤ maxLen := by have := hV.ml; unfold maxLen; omega
  have holM := hV.ol
  have hrlM := hV.rl
  have hpv := progH_valid hV
  have hwv := with_valid hv hn9
  have hwp := progH_valid (validH_all hwv)
  have hnb : isInB (pickW pr 6) 0 11 = true := isInB_spec.2 hn9
  have hcc := cho_ok holM hs
  have hkc := kept_t hv hcc
  have hkl := keptW_len M (choW M s) 12
  obtain ⟨b1, b2, b3⟩ := rf_found hv hn9 hx
  have hkd := kept_t hv b1
  have hkm := keptW_len M (bestH (withH M (pickW pr 6))).set 12
  have hrf := ref_f hv hnb hx
  have hq := And.intro hv (And.intro hx (And.intro b1 (And.intro b2 (b3))))
  refine callsA_of_tr Tryd.func4 rfl (Nat.le_of_ble_eq_true rfl) ?_
  simp only [Tryd.results4, envOf, Nat.reduceAdd]
  refine tr_seq fun K1 hK1 => ?_
  refine tr_region [1, 2, 3] rfl rfl fun K hK => ?_
  iterate 2 refine evR_p ?_
  refine evR_e hK ?_; clear hK K
  refine hK1 _ ?_
  refine tr_seq fun K2 hK2 => ?_
  refine tr_seq fun K3 hK3 => ?_
  refine tr_region [1, 2, 3, 25] rfl rfl fun K hK => ?_
  refine evR_c (hc := k8) (k := ?_)
  refine evR_p ?_
  refine evR_e hK ?_; clear hK K
  refine hK3 _ ?_
  refine tr_condB (fun ht1 => ?_) (fun ht1 => ?_)
  · skip
    (first | (exfalso; omega) | (exfalso; simp_all; done) | skip)
    all_goals
      refine tr_seq fun K4 hK4 => ?_
      refine tr_region [6] rfl rfl fun K hK => ?_
      refine evR_p ?_
      refine evR_e hK ?_; clear hK K
      refine hK4 _ ?_
      refine tr_ret ?_
      (try simp only [thenE, inBlkE])
      simp (maxSteps := 4000000) (disch := first | assumption | omega | (simp only [go_sem, *]; done) | (simp only [go_sem, *]; omega)) only [postA, postO, resV1, fzAll, go_sem, hq, Int.reduceToNat, Nat.reduceBEq, Nat.reduceEqDiff, Nat.reduceAdd, Nat.reduceMul, Nat.reduceLeDiff, Nat.reduceLT, Nat.reduceSub, ↓reduceIte, reduceCtorEq]
      all_goals (simp_all)
  · skip
    (first | (exfalso; omega) | (exfalso; simp_all; done) | skip)
    all_goals
      refine tr_skip ?_
      (try simp only [thenE, inBlkE])
      refine hK2 _ ?_
      refine tr_seq fun K5 hK5 => ?_
      refine tr_region [1, 2, 7] rfl rfl fun K hK => ?_
      refine evR_p ?_
      refine evR_c (hc := hk9) (k := ?_)
      iterate 2 refine evR_p ?_
      refine evR_e hK ?_; clear hK K
      refine hK5 _ ?_
      refine tr_seq fun K6 hK6 => ?_
      refine tr_region [2, 7, 8] rfl rfl fun K hK => ?_
      refine evR_p ?_
      refine evR_c (hc := (c12 pr 6 (by omega))) (k := ?_)
      refine evR_p ?_
      refine evR_e hK ?_; clear hK K
      refine hK6 _ ?_
      refine tr_seq fun K7 hK7 => ?_
      refine tr_region [2, 7, 8, 9, 10, 11] rfl rfl fun K hK => ?_
      iterate 2 refine evR_p ?_
      refine evR_c (hc := (hrf ▸ k15 M hr ho ha hm (pickW pr 6))) (k := ?_)
      iterate 7 refine evR_p ?_
      refine evR_e hK ?_; clear hK K
      refine hK7 _ ?_
      refine tr_seq fun K8 hK8 => ?_
      refine tr_region [2, 7, 8, 9, 10, 11, 12] rfl rfl fun K hK => ?_
      iterate 2 refine evR_p ?_
      refine evR_c (hc := (k16 M hv (pickW pr 6))) (k := ?_)
      iterate 2 refine evR_p ?_
      refine evR_e hK ?_; clear hK K
      refine hK8 _ ?_
      refine tr_seq fun K9 hK9 => ?_
      refine tr_region [2, 7, 8, 9, 10, 11, 13, 14] rfl rfl fun K hK => ?_
      refine evR_p ?_
      refine evR_c (hc := (k10 (withH M (pickW pr 6)) hwv)) (k := ?_)
      iterate 6 refine evR_p ?_
      refine evR_e hK ?_; clear hK K
      refine hK9 _ ?_
      refine tr_seq fun K10 hK10 => ?_
      refine tr_region [7, 8, 9, 10, 11, 13, 14, 15] rfl rfl fun K hK => ?_
      iterate 2 refine evR_p ?_
      refine evR_c (hc := (k11 M holM s)) (k := ?_)
      refine evR_p ?_
      refine evR_e hK ?_; clear hK K
      refine hK10 _ ?_
      refine tr_seq fun K11 hK11 => ?_
      refine tr_region [7, 8, 9, 10, 11, 13, 14, 15, 16, 17] rfl rfl fun K hK => ?_
      iterate 2 refine evR_p ?_
      refine evR_c (hc := (hkc ▸ k17 M hr ho ha hm (choW M s))) (k := ?_)
      iterate 5 refine evR_p ?_
      refine evR_e hK ?_; clear hK K
      refine hK11 _ ?_
      refine tr_seq fun K12 hK12 => ?_
      refine tr_region [7, 8, 9, 10, 11, 13, 14, 15, 16, 17, 18] rfl rfl fun K hK => ?_
      refine evR_p ?_
      refine evR_e hK ?_; clear hK K
      refine hK12 _ ?_
      refine tr_seq fun K13 hK13 => ?_
      refine tr_seq fun K14 hK14 => ?_
      refine tr_region [7, 8, 9, 10, 11, 13, 14, 15, 16, 17, 18, 19] rfl rfl fun K hK => ?_
      refine evR_p ?_
      refine evR_e hK ?_; clear hK K
      refine hK14 _ ?_
      refine tr_block ?_
      -- loop 1: live [7, 8, 9, 10, 11, 13, 14, 15, 16, 17, 18, 19]
      refine tr_loopW (fun m σ => ∃ i : Nat, i + m = (keptW M (choW M s) 12).length ∧ σ = ⟨[(7, .ptr 1 0), (8, .int .i64 (pickW pr 6)), (9, .nsl), (10, .bool false), (11, .int .i64 0), (13, .ptr 3 0), (14, .int .i64 0), (15, .int .i64 (choW M s)), (16, .sl 1 (encI (keptW M (choW M s) 12))), (17, .int .i64 0), (18, .bool (hasT (keptW M (choW M s) 12) (pickW pr 6) i)), (19, .int .i64 (i : Nat))], [(3, .cells [.bool true, .int .i64 (bestH (withH M (pickW pr 6))).set, .int .i64 (bestH (withH M (pickW pr 6))).gain, .sl 4 (encS (bestH (withH M (pickW pr 6))).proof)]), (2, .cells (encHr (withH M (pickW pr 6)))), (1, .cells (encHr M)), (0, .cells [.int .i64 fr, .sl 2 (encP2s rs), .sl 4 (encOfs os), .int .i64 ap, .int .i64 mu])], 4⟩) ((keptW M (choW M s) 12).length) ?_ ?_
      · exact ⟨_, Wk.refl _, 0, by omega, rfl⟩
      · rintro m σ ⟨i, hi, rfl⟩ KL1 hKL1
        refine tr_seq fun K15 hK15 => ?_
        refine tr_seq fun K16 hK16 => ?_
        refine tr_region [7, 8, 9, 10, 11, 13, 14, 15, 16, 17, 18, 19, 57] rfl rfl fun K hK => ?_
        iterate 4 refine evR_p ?_
        refine evR_e hK ?_; clear hK K
        refine hK16 _ ?_
        refine tr_condB (fun ht2 => ?_) (fun ht2 => ?_)
        · skip
          (first | (exfalso; omega) | (exfalso; simp_all; done) | skip)
          all_goals
            have hil : i < (keptW M (choW M s) 12).length := by omega
            replace hq := And.intro hq (hil)
            refine tr_skip ?_
            (try simp only [thenE, inBlkE])
            refine hK15 _ ?_
            refine tr_seq fun K17 hK17 => ?_
            refine tr_block ?_
            refine tr_region [7, 8, 9, 10, 11, 13, 14, 15, 16, 17, 18, 19] rfl rfl fun K hK => ?_
            iterate 2 refine evR_p ?_
            iterate 6 refine evR_g ?_
            iterate 2 refine evR_p ?_
            refine evR_e hK ?_; clear hK K
            refine hK17 _ ?_
            refine tr_region [7, 8, 9, 10, 11, 13, 14, 15, 16, 17, 18, 19] rfl rfl fun K hK => ?_
            iterate 3 refine evR_p ?_
            refine evR_e hK ?_; clear hK K
            refine hKL1 _ ?_
            exact ⟨m - 1, _, by omega, Wk.refl _, i + 1, by omega, by rw [w64 (x := (i : Int) + 1) (by omega)]; rfl⟩
        · skip
          (first | (exfalso; omega) | (exfalso; simp_all; done) | skip)
          all_goals
            have hil : i = (keptW M (choW M s) 12).length := by omega
            subst hil
            refine tr_exit ?_
            simp only [thenE, inBlkE, Nat.reduceEqDiff, ↓reduceIte]
            refine hK13 _ ?_
            refine tr_seq fun K18 hK18 => ?_
            refine tr_seq fun K19 hK19 => ?_
            refine tr_region [7, 8, 9, 10, 13, 15, 18, 84] rfl rfl fun K hK => ?_
            iterate 3 refine evR_p ?_
            iterate 2 refine evR_g ?_
            iterate 2 refine evR_p ?_
            iterate 2 refine evR_g ?_
            iterate 2 refine evR_p ?_
            iterate 4 refine evR_g ?_
            refine evR_p ?_
            refine evR_e hK ?_; clear hK K
            refine hK19 _ ?_
            refine tr_condB (fun ht3 => ?_) (fun ht3 => ?_)
            · skip
              (first | (exfalso; omega) | (exfalso; simp_all; done) | skip)
              all_goals
                refine tr_seq fun K20 hK20 => ?_
                refine tr_region [6] rfl rfl fun K hK => ?_
                refine evR_p ?_
                refine evR_e hK ?_; clear hK K
                refine hK20 _ ?_
                refine tr_ret ?_
                (try simp only [thenE, inBlkE])
                simp (maxSteps := 4000000) (disch := first | assumption | omega | (simp only [go_sem, *]; done) | (simp only [go_sem, *]; omega)) only [postA, postO, resV1, fzAll, go_sem, hq, Int.reduceToNat, Nat.reduceBEq, Nat.reduceEqDiff, Nat.reduceAdd, Nat.reduceMul, Nat.reduceLeDiff, Nat.reduceLT, Nat.reduceSub, ↓reduceIte, reduceCtorEq]
                all_goals (simp_all)
            · skip
              (first | (exfalso; omega) | (exfalso; simp_all; done) | skip)
              all_goals
                refine tr_skip ?_
                (try simp only [thenE, inBlkE])
                refine hK18 _ ?_
                refine tr_seq fun K21 hK21 => ?_
                refine tr_seq fun K22 hK22 => ?_
                refine tr_region [7, 8, 9, 13, 15, 18, 85] rfl rfl fun K hK => ?_
                refine evR_p ?_
                refine evR_e hK ?_; clear hK K
                refine hK22 _ ?_
                refine tr_condB (fun ht4 => ?_) (fun ht4 => ?_)
                · skip
                  (first | (exfalso; omega) | (exfalso; simp_all; done) | skip)
                  all_goals
                    refine tr_seq fun K23 hK23 => ?_
                    refine tr_region [6] rfl rfl fun K hK => ?_
                    iterate 3 refine evR_p ?_
                    refine evR_c (hc := (c18 (bestH (withH M (pickW pr 6))).proof (proof_max hwp))) (k := ?_)
                    refine evR_p ?_
                    iterate 4 refine evR_g ?_
                    refine evR_gc (hc := (k12 M hr ho ha hm (choW M s))) (k := ?_)
                    iterate 2 refine evR_g ?_
                    iterate 2 refine evR_p ?_
                    refine evR_e hK ?_; clear hK K
                    refine hK23 _ ?_
                    refine tr_ret ?_
                    (try simp only [thenE, inBlkE])
                    simp (maxSteps := 4000000) (disch := first | assumption | omega | (simp only [go_sem, *]; done) | (simp only [go_sem, *]; omega)) only [postA, postO, resV1, fzAll, go_sem, hq, Int.reduceToNat, Nat.reduceBEq, Nat.reduceEqDiff, Nat.reduceAdd, Nat.reduceMul, Nat.reduceLeDiff, Nat.reduceLT, Nat.reduceSub, ↓reduceIte, reduceCtorEq]
                    all_goals (simp_all)
                · skip
                  (first | (exfalso; omega) | (exfalso; simp_all; done) | skip)
                  all_goals
                    refine tr_skip ?_
                    (try simp only [thenE, inBlkE])
                    refine hK21 _ ?_
                    refine tr_seq fun K24 hK24 => ?_
                    refine tr_region [7, 8, 9, 13, 20, 21] rfl rfl fun K hK => ?_
                    iterate 3 refine evR_p ?_
                    refine evR_c (hc := (hkd ▸ k17 M hr ho ha hm (bestH (withH M (pickW pr 6))).set)) (k := ?_)
                    iterate 5 refine evR_p ?_
                    refine evR_e hK ?_; clear hK K
                    refine hK24 _ ?_
                    refine tr_seq fun K25 hK25 => ?_
                    refine tr_region [7, 8, 9, 13, 20, 21, 22] rfl rfl fun K hK => ?_
                    refine evR_p ?_
                    refine evR_e hK ?_; clear hK K
                    refine hK25 _ ?_
                    refine tr_seq fun K26 hK26 => ?_
                    refine tr_seq fun K27 hK27 => ?_
                    refine tr_region [7, 8, 9, 13, 20, 21, 22, 23] rfl rfl fun K hK => ?_
                    refine evR_p ?_
                    refine evR_e hK ?_; clear hK K
                    refine hK27 _ ?_
                    refine tr_block ?_
                    -- loop 2: live [7, 8, 9, 13, 20, 21, 22, 23]
                    refine tr_loopW (fun m σ => ∃ i : Nat, i + m = (keptW M (bestH (withH M (pickW pr 6))).set 12).length ∧ σ = ⟨[(7, .ptr 1 0), (8, .int .i64 (pickW pr 6)), (9, .nsl), (13, .ptr 3 0), (20, .sl 1 (encI (keptW M (bestH (withH M (pickW pr 6))).set 12))), (21, .int .i64 0), (22, .bool (hasT (keptW M (bestH (withH M (pickW pr 6))).set 12) (pickW pr 6) i)), (23, .int .i64 (i : Nat))], [(3, .cells [.bool true, .int .i64 (bestH (withH M (pickW pr 6))).set, .int .i64 (bestH (withH M (pickW pr 6))).gain, .sl 4 (encS (bestH (withH M (pickW pr 6))).proof)]), (2, .cells (encHr (withH M (pickW pr 6)))), (1, .cells (encHr M)), (0, .cells [.int .i64 fr, .sl 2 (encP2s rs), .sl 4 (encOfs os), .int .i64 ap, .int .i64 mu])], 4⟩) ((keptW M (bestH (withH M (pickW pr 6))).set 12).length) ?_ ?_
                    · exact ⟨_, Wk.refl _, 0, by omega, rfl⟩
                    · rintro m2 σ ⟨i, hi, rfl⟩ KL2 hKL2
                      refine tr_seq fun K28 hK28 => ?_
                      refine tr_seq fun K29 hK29 => ?_
                      refine tr_region [7, 8, 9, 13, 20, 21, 22, 23, 109] rfl rfl fun K hK => ?_
                      iterate 4 refine evR_p ?_
                      refine evR_e hK ?_; clear hK K
                      refine hK29 _ ?_
                      refine tr_condB (fun ht5 => ?_) (fun ht5 => ?_)
                      · skip
                        (first | (exfalso; omega) | (exfalso; simp_all; done) | skip)
                        all_goals
                          have hil : i < (keptW M (bestH (withH M (pickW pr 6))).set 12).length := by omega
                          replace hq := And.intro hq (hil)
                          refine tr_skip ?_
                          (try simp only [thenE, inBlkE])
                          refine hK28 _ ?_
                          refine tr_seq fun K30 hK30 => ?_
                          refine tr_block ?_
                          refine tr_region [7, 8, 9, 13, 20, 21, 22, 23] rfl rfl fun K hK => ?_
                          iterate 2 refine evR_p ?_
                          iterate 6 refine evR_g ?_
                          iterate 2 refine evR_p ?_
                          refine evR_e hK ?_; clear hK K
                          refine hK30 _ ?_
                          refine tr_region [7, 8, 9, 13, 20, 21, 22, 23] rfl rfl fun K hK => ?_
                          iterate 3 refine evR_p ?_
                          refine evR_e hK ?_; clear hK K
                          refine hKL2 _ ?_
                          exact ⟨m2 - 1, _, by omega, Wk.refl _, i + 1, by omega, by rw [w64 (x := (i : Int) + 1) (by omega)]; rfl⟩
                      · skip
                        (first | (exfalso; omega) | (exfalso; simp_all; done) | skip)
                        all_goals
                          have hil : i = (keptW M (bestH (withH M (pickW pr 6))).set 12).length := by omega
                          subst hil
                          refine tr_exit ?_
                          simp only [thenE, inBlkE, Nat.reduceEqDiff, ↓reduceIte]
                          refine hK26 _ ?_
                          refine tr_seq fun K31 hK31 => ?_
                          refine tr_region [6] rfl rfl fun K hK => ?_
                          iterate 3 refine evR_p ?_
                          refine evR_g ?_
                          iterate 2 refine evR_p ?_
                          iterate 3 refine evR_g ?_
                          refine evR_gc (hc := (k12 M hr ho ha hm (bestH (withH M (pickW pr 6))).set)) (k := ?_)
                          iterate 2 refine evR_p ?_
                          iterate 3 refine evR_g ?_
                          iterate 2 refine evR_p ?_
                          refine evR_e hK ?_; clear hK K
                          refine hK31 _ ?_
                          refine tr_ret ?_
                          (try simp only [thenE, inBlkE])
                          simp (maxSteps := 4000000) (disch := first | assumption | omega | (simp only [go_sem, *]; done) | (simp only [go_sem, *]; omega)) only [postA, postO, resV1, fzAll, go_sem, hq, Int.reduceToNat, Nat.reduceBEq, Nat.reduceEqDiff, Nat.reduceAdd, Nat.reduceMul, Nat.reduceLeDiff, Nat.reduceLT, Nat.reduceSub, ↓reduceIte, reduceCtorEq]
                          all_goals (simp_all)
end

section
attribute [local go_sem] encSol encS_length
set_option maxHeartbeats 4000000 in
theorem k4b (fr : Int) (rs : List P2) (os : List Of) (ap mu : Int) (hrl : rs.length ≤ maxLen) (hol : os.length ≤ maxLen) (hrk : ∀ p ∈ rs, okP2 p) (hok : ∀ o ∈ os, okO o) (hf : okI fr) (pr s : Int) (hp : okI pr) (hs : okI s) (hx : (bestH (withH (madeH fr rs os ap mu) (pickW pr 6))).found = false) : CallsA Tryd.prog 4 [.agg [.int .i64 fr, .sl 2 (encP2s rs), .sl 4 (encOfs os), .int .i64 ap, .int .i64 mu], .int .i64 pr, .int .i64 s] (.bool true) := by
  have hpn := pickW_rng pr (n := 6) (by omega) (by omega) hp
  have hk9 := k9 fr rs os ap mu hrl hol hrk hf
  have hv := made_validH (ap := ap) (mu := mu) hf hrk hok
  have hn9 : 0 ≤ pickW pr 6 ∧ pickW pr 6 ≤ 11 := by omega
  generalize madeH fr rs os ap mu = M at hk9 hv hx
  have hV := validH_all hv
  have hr : M.rooms.length ≤ maxLen := by have := hV.rl; unfold maxLen; omega
  have ho : M.offers.length ≤ maxLen := by have := hV.ol; unfold maxLen; omega
  have ha : M.apart.length ≤ maxLen := by have := hV.al; unfold maxLen; omega
  have hm : M.must.length ≤ maxLen := by have := hV.ml; unfold maxLen; omega
  have holM := hV.ol
  have hrlM := hV.rl
  have hpv := progH_valid hV
  have hwv := with_valid hv hn9
  have hwp := progH_valid (validH_all hwv)
  have hnb : isInB (pickW pr 6) 0 11 = true := isInB_spec.2 hn9
  have hcc := cho_ok holM hs
  have hkc := kept_t hv hcc
  have hkl := keptW_len M (choW M s) 12
  have b1 := rf_none hv hn9 hx hcc
  have hrf := ref_t hv hnb hx
  have hq := And.intro hv (And.intro hx (b1))
  refine callsA_of_tr Tryd.func4 rfl (Nat.le_of_ble_eq_true rfl) ?_
  simp only [Tryd.results4, envOf, Nat.reduceAdd]
  refine tr_seq fun K1 hK1 => ?_
  refine tr_region [1, 2, 3] rfl rfl fun K hK => ?_
  iterate 2 refine evR_p ?_
  refine evR_e hK ?_; clear hK K
  refine hK1 _ ?_
  refine tr_seq fun K2 hK2 => ?_
  refine tr_seq fun K3 hK3 => ?_
  refine tr_region [1, 2, 3, 25] rfl rfl fun K hK => ?_
  refine evR_c (hc := k8) (k := ?_)
  refine evR_p ?_
  refine evR_e hK ?_; clear hK K
  refine hK3 _ ?_
  refine tr_condB (fun ht1 => ?_) (fun ht1 => ?_)
  · skip
    (first | (exfalso; omega) | (exfalso; simp_all; done) | skip)
    all_goals
      refine tr_seq fun K4 hK4 => ?_
      refine tr_region [6] rfl rfl fun K hK => ?_
      refine evR_p ?_
      refine evR_e hK ?_; clear hK K
      refine hK4 _ ?_
      refine tr_ret ?_
      (try simp only [thenE, inBlkE])
      simp (maxSteps := 4000000) (disch := first | assumption | omega | (simp only [go_sem, *]; done) | (simp only [go_sem, *]; omega)) only [postA, postO, resV1, fzAll, go_sem, hq, Int.reduceToNat, Nat.reduceBEq, Nat.reduceEqDiff, Nat.reduceAdd, Nat.reduceMul, Nat.reduceLeDiff, Nat.reduceLT, Nat.reduceSub, ↓reduceIte, reduceCtorEq]
      all_goals (simp_all)
  · skip
    (first | (exfalso; omega) | (exfalso; simp_all; done) | skip)
    all_goals
      refine tr_skip ?_
      (try simp only [thenE, inBlkE])
      refine hK2 _ ?_
      refine tr_seq fun K5 hK5 => ?_
      refine tr_region [1, 2, 7] rfl rfl fun K hK => ?_
      refine evR_p ?_
      refine evR_c (hc := hk9) (k := ?_)
      iterate 2 refine evR_p ?_
      refine evR_e hK ?_; clear hK K
      refine hK5 _ ?_
      refine tr_seq fun K6 hK6 => ?_
      refine tr_region [2, 7, 8] rfl rfl fun K hK => ?_
      refine evR_p ?_
      refine evR_c (hc := (c12 pr 6 (by omega))) (k := ?_)
      refine evR_p ?_
      refine evR_e hK ?_; clear hK K
      refine hK6 _ ?_
      refine tr_seq fun K7 hK7 => ?_
      refine tr_region [2, 7, 8, 9, 10, 11] rfl rfl fun K hK => ?_
      iterate 2 refine evR_p ?_
      refine evR_c (hc := (hrf ▸ k15 M hr ho ha hm (pickW pr 6))) (k := ?_)
      iterate 7 refine evR_p ?_
      refine evR_e hK ?_; clear hK K
      refine hK7 _ ?_
      refine tr_seq fun K8 hK8 => ?_
      refine tr_region [2, 7, 8, 9, 10, 11, 12] rfl rfl fun K hK => ?_
      iterate 2 refine evR_p ?_
      refine evR_c (hc := (k16 M hv (pickW pr 6))) (k := ?_)
      iterate 2 refine evR_p ?_
      refine evR_e hK ?_; clear hK K
      refine hK8 _ ?_
      refine tr_seq fun K9 hK9 => ?_
      refine tr_region [2, 7, 8, 9, 10, 11, 13, 14] rfl rfl fun K hK => ?_
      refine evR_p ?_
      refine evR_c (hc := (k10 (withH M (pickW pr 6)) hwv)) (k := ?_)
      iterate 6 refine evR_p ?_
      refine evR_e hK ?_; clear hK K
      refine hK9 _ ?_
      refine tr_seq fun K10 hK10 => ?_
      refine tr_region [7, 8, 9, 10, 11, 13, 14, 15] rfl rfl fun K hK => ?_
      iterate 2 refine evR_p ?_
      refine evR_c (hc := (k11 M holM s)) (k := ?_)
      refine evR_p ?_
      refine evR_e hK ?_; clear hK K
      refine hK10 _ ?_
      refine tr_seq fun K11 hK11 => ?_
      refine tr_region [7, 8, 9, 10, 11, 13, 14, 15, 16, 17] rfl rfl fun K hK => ?_
      iterate 2 refine evR_p ?_
      refine evR_c (hc := (hkc ▸ k17 M hr ho ha hm (choW M s))) (k := ?_)
      iterate 5 refine evR_p ?_
      refine evR_e hK ?_; clear hK K
      refine hK11 _ ?_
      refine tr_seq fun K12 hK12 => ?_
      refine tr_region [7, 8, 9, 10, 11, 13, 14, 15, 16, 17, 18] rfl rfl fun K hK => ?_
      refine evR_p ?_
      refine evR_e hK ?_; clear hK K
      refine hK12 _ ?_
      refine tr_seq fun K13 hK13 => ?_
      refine tr_seq fun K14 hK14 => ?_
      refine tr_region [7, 8, 9, 10, 11, 13, 14, 15, 16, 17, 18, 19] rfl rfl fun K hK => ?_
      refine evR_p ?_
      refine evR_e hK ?_; clear hK K
      refine hK14 _ ?_
      refine tr_block ?_
      -- loop 1: live [7, 8, 9, 10, 11, 13, 14, 15, 16, 17, 18, 19]
      refine tr_loopW (fun m σ => ∃ i : Nat, i + m = (keptW M (choW M s) 12).length ∧ σ = ⟨[(7, .ptr 1 0), (8, .int .i64 (pickW pr 6)), (9, .sl 4 (encS (bestH (withH M (pickW pr 6))).proof)), (10, .bool true), (11, .int .i64 0), (13, .ptr 3 0), (14, .int .i64 0), (15, .int .i64 (choW M s)), (16, .sl 1 (encI (keptW M (choW M s) 12))), (17, .int .i64 0), (18, .bool (hasT (keptW M (choW M s) 12) (pickW pr 6) i)), (19, .int .i64 (i : Nat))], [(3, .cells [.bool false, .int .i64 (bestH (withH M (pickW pr 6))).set, .int .i64 (bestH (withH M (pickW pr 6))).gain, .sl 4 (encS (bestH (withH M (pickW pr 6))).proof)]), (2, .cells (encHr (withH M (pickW pr 6)))), (1, .cells (encHr M)), (0, .cells [.int .i64 fr, .sl 2 (encP2s rs), .sl 4 (encOfs os), .int .i64 ap, .int .i64 mu])], 4⟩) ((keptW M (choW M s) 12).length) ?_ ?_
      · exact ⟨_, Wk.refl _, 0, by omega, rfl⟩
      · rintro m σ ⟨i, hi, rfl⟩ KL1 hKL1
        refine tr_seq fun K15 hK15 => ?_
        refine tr_seq fun K16 hK16 => ?_
        refine tr_region [7, 8, 9, 10, 11, 13, 14, 15, 16, 17, 18, 19, 57] rfl rfl fun K hK => ?_
        iterate 4 refine evR_p ?_
        refine evR_e hK ?_; clear hK K
        refine hK16 _ ?_
        refine tr_condB (fun ht2 => ?_) (fun ht2 => ?_)
        · skip
          (first | (exfalso; omega) | (exfalso; simp_all; done) | skip)
          all_goals
            have hil : i < (keptW M (choW M s) 12).length := by omega
            replace hq := And.intro hq (hil)
            refine tr_skip ?_
            (try simp only [thenE, inBlkE])
            refine hK15 _ ?_
            refine tr_seq fun K17 hK17 => ?_
            refine tr_block ?_
            refine tr_region [7, 8, 9, 10, 11, 13, 14, 15, 16, 17, 18, 19] rfl rfl fun K hK => ?_
            iterate 2 refine evR_p ?_
            iterate 6 refine evR_g ?_
            iterate 2 refine evR_p ?_
            refine evR_e hK ?_; clear hK K
            refine hK17 _ ?_
            refine tr_region [7, 8, 9, 10, 11, 13, 14, 15, 16, 17, 18, 19] rfl rfl fun K hK => ?_
            iterate 3 refine evR_p ?_
            refine evR_e hK ?_; clear hK K
            refine hKL1 _ ?_
            exact ⟨m - 1, _, by omega, Wk.refl _, i + 1, by omega, by rw [w64 (x := (i : Int) + 1) (by omega)]; rfl⟩
        · skip
          (first | (exfalso; omega) | (exfalso; simp_all; done) | skip)
          all_goals
            have hil : i = (keptW M (choW M s) 12).length := by omega
            subst hil
            refine tr_exit ?_
            simp only [thenE, inBlkE, Nat.reduceEqDiff, ↓reduceIte]
            refine hK13 _ ?_
            refine tr_seq fun K18 hK18 => ?_
            refine tr_seq fun K19 hK19 => ?_
            refine tr_region [7, 8, 9, 10, 13, 15, 18, 84] rfl rfl fun K hK => ?_
            iterate 3 refine evR_p ?_
            iterate 2 refine evR_g ?_
            iterate 2 refine evR_p ?_
            iterate 2 refine evR_g ?_
            iterate 2 refine evR_p ?_
            iterate 4 refine evR_g ?_
            refine evR_p ?_
            refine evR_e hK ?_; clear hK K
            refine hK19 _ ?_
            refine tr_condB (fun ht3 => ?_) (fun ht3 => ?_)
            · skip
              (first | (exfalso; omega) | (exfalso; simp_all; done) | skip)
              all_goals
                refine tr_seq fun K20 hK20 => ?_
                refine tr_region [6] rfl rfl fun K hK => ?_
                refine evR_p ?_
                refine evR_e hK ?_; clear hK K
                refine hK20 _ ?_
                refine tr_ret ?_
                (try simp only [thenE, inBlkE])
                simp (maxSteps := 4000000) (disch := first | assumption | omega | (simp only [go_sem, *]; done) | (simp only [go_sem, *]; omega)) only [postA, postO, resV1, fzAll, go_sem, hq, Int.reduceToNat, Nat.reduceBEq, Nat.reduceEqDiff, Nat.reduceAdd, Nat.reduceMul, Nat.reduceLeDiff, Nat.reduceLT, Nat.reduceSub, ↓reduceIte, reduceCtorEq]
                all_goals (simp_all)
            · skip
              (first | (exfalso; omega) | (exfalso; simp_all; done) | skip)
              all_goals
                refine tr_skip ?_
                (try simp only [thenE, inBlkE])
                refine hK18 _ ?_
                refine tr_seq fun K21 hK21 => ?_
                refine tr_seq fun K22 hK22 => ?_
                refine tr_region [7, 8, 9, 13, 15, 18, 85] rfl rfl fun K hK => ?_
                refine evR_p ?_
                refine evR_e hK ?_; clear hK K
                refine hK22 _ ?_
                refine tr_condB (fun ht4 => ?_) (fun ht4 => ?_)
                · skip
                  (first | (exfalso; omega) | (exfalso; simp_all; done) | skip)
                  all_goals
                    refine tr_seq fun K23 hK23 => ?_
                    refine tr_region [6] rfl rfl fun K hK => ?_
                    iterate 3 refine evR_p ?_
                    refine evR_c (hc := (c18 (bestH (withH M (pickW pr 6))).proof (proof_max hwp))) (k := ?_)
                    refine evR_p ?_
                    iterate 4 refine evR_g ?_
                    refine evR_gc (hc := (k12 M hr ho ha hm (choW M s))) (k := ?_)
                    iterate 2 refine evR_g ?_
                    iterate 2 refine evR_p ?_
                    refine evR_e hK ?_; clear hK K
                    refine hK23 _ ?_
                    refine tr_ret ?_
                    (try simp only [thenE, inBlkE])
                    simp (maxSteps := 4000000) (disch := first | assumption | omega | (simp only [go_sem, *]; done) | (simp only [go_sem, *]; omega)) only [postA, postO, resV1, fzAll, go_sem, hq, Int.reduceToNat, Nat.reduceBEq, Nat.reduceEqDiff, Nat.reduceAdd, Nat.reduceMul, Nat.reduceLeDiff, Nat.reduceLT, Nat.reduceSub, ↓reduceIte, reduceCtorEq]
                    all_goals (simp_all)
                · skip
                  (first | (exfalso; omega) | (exfalso; simp_all; done) | skip)
                  all_goals
                    refine tr_skip ?_
                    (try simp only [thenE, inBlkE])
                    refine hK21 _ ?_
                    refine tr_seq fun K24 hK24 => ?_
                    refine tr_region [7, 8, 9, 13, 20, 21] rfl rfl fun K hK => ?_
                    iterate 3 refine evR_p ?_
                    refine evR_c (hc := (k17 M hr ho ha hm (bestH (withH M (pickW pr 6))).set)) (k := ?_)
                    iterate 5 refine evR_p ?_
                    refine evR_e hK ?_; clear hK K
                    refine hK24 _ ?_
                    refine tr_seq fun K25 hK25 => ?_
                    refine tr_region [7, 8, 9, 13, 20, 21, 22] rfl rfl fun K hK => ?_
                    refine evR_p ?_
                    refine evR_e hK ?_; clear hK K
                    refine hK25 _ ?_
                    refine tr_seq fun K26 hK26 => ?_
                    refine tr_seq fun K27 hK27 => ?_
                    refine tr_region [7, 8, 9, 13, 20, 21, 22, 23] rfl rfl fun K hK => ?_
                    refine evR_p ?_
                    refine evR_e hK ?_; clear hK K
                    refine hK27 _ ?_
                    refine tr_block ?_
                    -- loop 2: live [7, 8, 9, 13, 20, 21, 22, 23]
                    refine tr_loopW (fun m σ => ∃ i : Nat, i + m = (keptW M (bestH (withH M (pickW pr 6))).set 12).length ∧ σ = ⟨[(7, .ptr 1 0), (8, .int .i64 (pickW pr 6)), (9, .nsl), (13, .ptr 3 0), (20, .sl 1 (encI (keptW M (bestH (withH M (pickW pr 6))).set 12))), (21, .int .i64 0), (22, .bool (hasT (keptW M (bestH (withH M (pickW pr 6))).set 12) (pickW pr 6) i)), (23, .int .i64 (i : Nat))], [(3, .cells [.bool false, .int .i64 (bestH (withH M (pickW pr 6))).set, .int .i64 (bestH (withH M (pickW pr 6))).gain, .sl 4 (encS (bestH (withH M (pickW pr 6))).proof)]), (2, .cells (encHr (withH M (pickW pr 6)))), (1, .cells (encHr M)), (0, .cells [.int .i64 fr, .sl 2 (encP2s rs), .sl 4 (encOfs os), .int .i64 ap, .int .i64 mu])], 4⟩) ((keptW M (bestH (withH M (pickW pr 6))).set 12).length) ?_ ?_
                    · exact ⟨_, Wk.refl _, 0, by omega, rfl⟩
                    · rintro m2 σ ⟨i, hi, rfl⟩ KL2 hKL2
                      refine tr_seq fun K28 hK28 => ?_
                      refine tr_seq fun K29 hK29 => ?_
                      refine tr_region [7, 8, 9, 13, 20, 21, 22, 23, 109] rfl rfl fun K hK => ?_
                      iterate 4 refine evR_p ?_
                      refine evR_e hK ?_; clear hK K
                      refine hK29 _ ?_
                      refine tr_condB (fun ht5 => ?_) (fun ht5 => ?_)
                      · skip
                        (first | (exfalso; omega) | (exfalso; simp_all; done) | skip)
                        all_goals
                          have hil : i < (keptW M (bestH (withH M (pickW pr 6))).set 12).length := by omega
                          replace hq := And.intro hq (hil)
                          refine tr_skip ?_
                          (try simp only [thenE, inBlkE])
                          refine hK28 _ ?_
                          refine tr_seq fun K30 hK30 => ?_
                          refine tr_block ?_
                          refine tr_region [7, 8, 9, 13, 20, 21, 22, 23] rfl rfl fun K hK => ?_
                          iterate 2 refine evR_p ?_
                          iterate 6 refine evR_g ?_
                          iterate 2 refine evR_p ?_
                          refine evR_e hK ?_; clear hK K
                          refine hK30 _ ?_
                          refine tr_region [7, 8, 9, 13, 20, 21, 22, 23] rfl rfl fun K hK => ?_
                          iterate 3 refine evR_p ?_
                          refine evR_e hK ?_; clear hK K
                          refine hKL2 _ ?_
                          exact ⟨m2 - 1, _, by omega, Wk.refl _, i + 1, by omega, by rw [w64 (x := (i : Int) + 1) (by omega)]; rfl⟩
                      · skip
                        (first | (exfalso; omega) | (exfalso; simp_all; done) | skip)
                        all_goals
                          have hil : i = (keptW M (bestH (withH M (pickW pr 6))).set 12).length := by omega
                          subst hil
                          refine tr_exit ?_
                          simp only [thenE, inBlkE, Nat.reduceEqDiff, ↓reduceIte]
                          refine hK26 _ ?_
                          refine tr_seq fun K31 hK31 => ?_
                          refine tr_region [6] rfl rfl fun K hK => ?_
                          iterate 3 refine evR_p ?_
                          refine evR_g ?_
                          iterate 2 refine evR_p ?_
                          iterate 3 refine evR_g ?_
                          refine evR_gc (hc := (k12 M hr ho ha hm (bestH (withH M (pickW pr 6))).set)) (k := ?_)
                          iterate 2 refine evR_p ?_
                          iterate 3 refine evR_g ?_
                          iterate 2 refine evR_p ?_
                          refine evR_e hK ?_; clear hK K
                          refine hK31 _ ?_
                          refine tr_ret ?_
                          (try simp only [thenE, inBlkE])
                          simp (maxSteps := 4000000) (disch := first | assumption | omega | (simp only [go_sem, *]; done) | (simp only [go_sem, *]; omega)) only [postA, postO, resV1, fzAll, go_sem, hq, Int.reduceToNat, Nat.reduceBEq, Nat.reduceEqDiff, Nat.reduceAdd, Nat.reduceMul, Nat.reduceLeDiff, Nat.reduceLT, Nat.reduceSub, ↓reduceIte, reduceCtorEq]
                          all_goals (simp_all)
end
theorem k4 (fr : Int) (rs : List P2) (os : List Of) (ap mu : Int) (hrl : rs.length ≤ maxLen) (hol : os.length ≤ maxLen) (hrk : ∀ p ∈ rs, okP2 p) (hok : ∀ o ∈ os, okO o) (hf : okI fr) (pr s : Int) (hp : okI pr) (hs : okI s) : CallsA Tryd.prog 4 [.agg [.int .i64 fr, .sl 2 (encP2s rs), .sl 4 (encOfs os), .int .i64 ap, .int .i64 mu], .int .i64 pr, .int .i64 s] (.bool true) := by
  cases hx : (bestH (withH (madeH fr rs os ap mu) (pickW pr 6))).found with
  | false => exact k4b fr rs os ap mu hrl hol hrk hok hf pr s hp hs hx
  | true => exact k4a fr rs os ap mu hrl hol hrk hok hf pr s hp hs hx

end Go.Proofs.YtaaongcfeldcoaaDoor


namespace Go.Proofs.YtaaongcfeldcoaaDoor
open Go.ChangeShapes Go.WideShapes Go.ChangeAt Go.RowKit
set_option linter.unusedVariables false
set_option linter.unusedSimpArgs false

section
variable {H : Type} {enc : TypeId × Value → H} {P : Program} {w : World}

/-- The fields of a struct of n cells from the cell 'off' on. -/
def DecFs (enc : TypeId × Value → H) (P : Program) (w : World) {α : Type} (n off : Nat) (fs : List Field) (ec : α → List V) (Q : α → Prop) : Prop :=
  ∀ (fuel : Nat) (cs : List Value), cs.length = n → (∀ f ∈ fs, ∃ x, DataW.trod enc P w 0 (fun _ => true) true fuel f.type ((cs.drop f.offset).take (P.cellsOf f.type)) = some x) → ∃ a, Q a ∧ Rd w (cs.drop off) (ec a)

theorem decFs_nil {n : Nat} : DecFs enc P w n n [] (fun _ : Unit => []) fun _ => True := by
  intro fuel cs hl _
  exact ⟨(), trivial, by rw [List.drop_eq_nil_of_le (by omega)]; exact Rd.nil⟩
theorem decFs_cons {α β : Type} {n off : Nat} {f : Field} {fs : List Field} {m : Nat} {ea : α → List V} {eb : β → List V} {Qa : α → Prop} {Qb : β → Prop}
    (ho : f.offset = off) (hm : P.cellsOf f.type = m) (ha : Dec enc P w f.type ea Qa) (hb : DecFs enc P w n (off + m) fs eb Qb) :
    DecFs enc P w n off (f :: fs) (fun p : α × β => ea p.1 ++ eb p.2) fun p => Qa p.1 ∧ Qb p.2 := by
  intro fuel cs hl h
  obtain ⟨x, hx⟩ := h f (by simp)
  obtain ⟨a, qa, ra⟩ := ha _ _ _ hx
  obtain ⟨b, qb, rb⟩ := hb fuel cs hl fun g hg => h g (List.mem_cons_of_mem _ hg)
  refine ⟨(a, b), ⟨qa, qb⟩, ?_⟩
  have := ra.append rb
  rw [ho, hm] at this
  have e : List.take m (List.drop off cs) ++ List.drop (off + m) cs = List.drop off cs := by
    rw [← List.drop_drop, List.take_append_drop]
  rw [e] at this
  exact this
theorem dec_struct {α : Type} {t : TypeId} {fs : Array Field} {n : Nat} {ec : α → List V} {Q : α → Prop} (ht : P.underlying t = some (.struct fs)) (hn : P.cellsOf t = n) (h : DecFs enc P w n 0 fs.toList ec Q) : Dec enc P w t ec Q := by
  intro fuel cs x hx
  obtain ⟨xs, k, rfl, rfl, hl, hxl, hi⟩ := DataW.trod_struct ht hx
  obtain ⟨a, qa, ra⟩ := h k cs (by rw [hl, hn]) fun f hf => by
    obtain ⟨i, hil, rfl⟩ := List.mem_iff_getElem.1 hf
    have hil' : i < fs.size := by simpa using hil
    have := hi i fs[i] (by simp [hil'])
    rw [List.getElem?_eq_getElem (by omega)] at this
    exact ⟨_, by simpa using this⟩
  exact ⟨a, qa, by simpa using ra⟩

theorem rel_row {α : Type} {e : TypeId} {sz n : Nat} {ec : α → List V} {Q : α → Prop} (hs : P.cellsOf e = sz) (hd : Dec enc P w e ec Q) {b off len cap : Nat} (hl : len ≤ cap) (hm : cap ≤ maxLen)
    (hel : ∀ i, i < len → ∃ cs' x, w.cells? 0 ((⟨b, off, none⟩ : Addr).add (i * P.cellsOf e)) (P.cellsOf e) = some cs' ∧ DataW.trod enc P w 0 (fun _ => true) true n e cs' = some x) :
    ∃ asx : List α, (∀ a ∈ asx, Q a) ∧ asx.length = len ∧ Rel w (fun _ => False) (fun _ => 0) (fun _ => undef) 0 true (.sl sz (asx.map ec)) (.slice (some ⟨b, off, none⟩) len cap) := by
  obtain ⟨asx, k1, k2, k3⟩ := hd.choose (fun i => ((w.cells? 0 ((⟨b, off, none⟩ : Addr).add (i * P.cellsOf e)) (P.cellsOf e)).getD [])) len fun i hi => by
    obtain ⟨cs', x, q1, q2⟩ := hel i hi
    rw [q1]; exact ⟨_, _, q2⟩
  refine ⟨asx, k2, k1, ?_⟩
  have rows : ∀ i (hi : i < asx.length), ((asx.map ec).getD i []) = ec asx[i] := fun i hi => by simp [List.getD, hi]
  have key : ∀ i (hi : i < asx.length), ∃ cs', Rd w cs' (ec asx[i]) ∧ cs'.length = sz ∧ ∀ j, j < sz → w.cell? ⟨b, off + (i * sz + j), none⟩ = some (cs'.getD j undef) := fun i hi => by
    obtain ⟨cs', x, q1, q2⟩ := hel i (by omega)
    have := k3 i hi
    simp only [q1, Option.getD_some] at this
    obtain ⟨hl', hc'⟩ := cells_get q1
    rw [hs] at hl' hc'
    refine ⟨cs', this, hl', fun j hj => ?_⟩
    rw [← hc' j hj]
    congr 1
    unfold Addr.add
    by_cases hi0 : i * sz = 0
    · by_cases hj0 : j = 0 <;> simp [hi0, hj0]
    · by_cases hj0 : j = 0 <;> simp [hi0, hj0, Nat.add_assoc]
  refine .sl true sz (asx.map ec) b off len cap (fun i j => ((w.cell? ⟨b, off + (i * sz + j), none⟩).getD undef)) (by simp [k1]) hl hm ?_ ?_ ?_ ?_
  · intro i hi
    have hi' : i < asx.length := by simpa using hi
    obtain ⟨cs', q1, q2, q3⟩ := key i hi'
    rw [rows i hi', q1.1, q2]
  · intro i j hi hj
    have hi' : i < asx.length := by simpa using hi
    obtain ⟨cs', q1, q2, q3⟩ := key i hi'
    rw [rows i hi']
    exact (q1.2 j (by rw [q1.1]; omega)).1
  · intro i j hi hj
    have hi' : i < asx.length := by simpa using hi
    obtain ⟨cs', q1, q2, q3⟩ := key i hi'
    simp only [q3 j hj, Option.getD_some]
    exact ⟨trivial, id⟩
  · intro i j hi hj
    have hi' : i < asx.length := by simpa using hi
    obtain ⟨cs', q1, q2, q3⟩ := key i hi'
    rw [rows i hi']
    simp only [q3 j hj, Option.getD_some]
    exact (q1.2 j (by rw [q1.1]; omega)).2

/-- A slice within. -/
theorem dec_slice {α : Type} {t e : TypeId} {sz : Nat} {ec : α → List V} {Q : α → Prop} (ht : P.underlying t = some (.slice e)) (hs : P.cellsOf e = sz) (hz : 0 < sz) (hd : Dec enc P w e ec Q) :
    Dec enc P w t (fun asx : List α => [.sl sz (asx.map ec)]) fun asx => asx.length ≤ maxLen ∧ ∀ a ∈ asx, Q a := by
  intro fuel cs x hf
  rcases Deep.open_slice ht hf with ⟨rfl, -⟩ | ⟨a, len, cap, m, n, D, Pl, rfl, -, hl, hm, hme, -, hel⟩
  · exact ⟨[], ⟨by simp, fun a ha => by simp at ha⟩, Rd.one rfl (.slnil _ _ _)⟩
  · simp only [if_true] at hme
    subst hme
    by_cases hc : m = 0
    · have : len = 0 := by omega
      subst hc; subst this
      exact ⟨[], ⟨by simp, fun a ha => by simp at ha⟩, Rd.one rfl (.slnil _ _ _)⟩
    · have hsp : a.spot = none := by
        obtain ⟨cs', q1, -⟩ := hel 0 (by omega)
        obtain ⟨-, hc'⟩ := cells_get q1
        have := hc' 0 (by omega)
        simp only [Nat.zero_mul, Addr.add, if_true] at this
        unfold World.cell? at this
        split at this
        · split at this
          · cases this
          · simpa using ‹¬ a.spot.isSome = true›
        · cases this
      obtain ⟨b, off, spot⟩ := a
      simp only at hsp
      subst hsp
      obtain ⟨asx, q, e1, hr⟩ := rel_row hs hd hl hm fun i hi => by
        obtain ⟨cs', q1, q2⟩ := hel i (by omega)
        exact ⟨cs', _, q1, q2⟩
      exact ⟨asx, ⟨by omega, q⟩, Rd.one rfl hr⟩
end
end Go.Proofs.YtaaongcfeldcoaaDoor

namespace Go.Proofs.YtaaongcfeldcoaaDoor
open Go.ChangeShapes Go.WideShapes Go.ChangeAt Go.RowKit
set_option linter.unusedVariables false
set_option maxRecDepth 100000
theorem Tryd.own : ownKnob Tryd.prog.godebug = none := by kernel_rfl
theorem Tryd.laidOut : laidOutB Tryd.prog = true := by kernel_rfl
def laid1 : List (String × DataW Unit) := [("aircheck/plan.conditions", Rows.laid_aircheck_plan_conditions)]
theorem g0 : Tryd.prog.globalNamed "aircheck/plan.conditions" = some 0 := by kernel_rfl
/-- The door's own heap meets the condition. -/
theorem door_met (os : Os) (args : Array Value) : laidMetH Tryd.prog laid1 ((World.doorLaid Tryd.prog 400 os).forCall (fun _ _ => 0) ⟨#[], args, []⟩).memory :=
  laidMetH_of_parts3 (fuel := 8) (laidMet_of_run' 8 (by kernel_rfl) (by kernel_rfl)) (by kernel_rfl) (by kernel_rfl)
def nameC (k : UInt8) : List UInt8 := [97, 105, 114, 99, 104, 101, 99, 107, 47, 112, 108, 97, 110, 46, 99, 111, 110, 100, 105, 116, 105, 111, 110, 115, 36, k]
theorem laidC : (Rows.laid_aircheck_plan_conditions : DataW Unit) = .iface "func table" (.agg ([49, 50, 51, 52].map fun k => .agg [.iface "func" (.lit (.string (nameC k)))])) := by kernel_rfl
theorem outC : (DataW.agg ([49, 50, 51, 52].map fun k => .agg [.iface "func" (.lit (.string (nameC k)))]) : DataW Unit).funcsOut = .agg ([49, 50, 51, 52].map fun k => .agg [.held (nameC k)]) := by kernel_rfl
theorem fn_cell {w : World} {base : Nat} {sp : Nat → Bool} {fuel n m0 : Nat} {e t : TypeId} {ps rs : Array TypeId} {va : Bool} {cs : List Value} {m : List MemPlace} {ks : List UInt8} {P : Program} {ta : TypeId} {fn : String} {fo : Nat}
    (ha : P.underlying ta = some (.array n e)) (he : ∃ f : Field, P.underlying e = some (.struct #[f]) ∧ f.type = t ∧ f.offset = 0) (hc : P.cellsOf e = 1) (hct : P.cellsOf t = 1) (hf : P.underlying t = some (.func ps rs va))
    (h : DataW.trod (funcToken P) P w base sp true fuel ta cs = some (.agg (ks.map fun k => .agg [.held (nameC k)]), m)) (i : Nat) (hi : i < n) (f0 : FuncId)
    (hone : ((List.range P.funcs.size).filter fun f => (P.funcs[f]?).any (·.name.toUTF8.data.toList == nameC (ks.getD i 0))) = [f0]) : cs[i]? = some (.func (.func f0) #[] #[]) := by
  obtain ⟨xs, m1, rfl, hx, hl, hn, hel⟩ := DataW.trod_array ha h
  simp only [Prod.mk.injEq, DataW.agg.injEq] at hx
  have h1 := hel i hi
  rw [hc, Nat.mul_one, List.getElem?_eq_getElem (by omega)] at h1
  obtain ⟨f, hu, hty, hoff⟩ := he
  obtain ⟨y0, n0, e1, e2, e3⟩ := trod_struct1 hu h1
  have h2 : (List.map (fun k => (DataW.agg [.held (nameC k)] : DataW (List UInt8))) ks)[i]? = some (.agg [y0.1]) := by
    rw [hx.1, List.getElem?_map, List.getElem?_eq_getElem (by omega), Option.map_some, e1]
  rw [List.getElem?_map] at h2
  obtain ⟨k2, h3, h4⟩ := Option.map_eq_some_iff.1 h2
  have h5 : y0.1 = .held (nameC k2) := by
    simp only [DataW.agg.injEq, List.cons.injEq, and_true] at h4; exact h4.symm
  have h6 : ks.getD i 0 = k2 := by simp [List.getD, h3]
  rw [hc] at e2
  obtain ⟨v, hv⟩ : ∃ v, (cs.drop i).take 1 = [v] := List.length_eq_one_iff.1 e2
  rw [hoff, hty, hct, hv] at e3
  have e4 : DataW.trod (funcToken P) P w base sp true n0 t [v] = some (.held (nameC k2), y0.2) := by
    have : y0 = (.held (nameC k2), y0.2) := by rw [← h5]
    rw [← this]; simpa using e3
  rw [h6] at hone
  have hvf := func_of_trod hf hone e4
  have h7 : ((cs.drop i).take 1)[0]? = some v := by rw [hv]; rfl
  rw [← hvf]
  simpa [List.getElem?_take, List.getElem?_drop] using h7
theorem gtc_of_laid {W : World} (h : laidMetH Tryd.prog laid1 W) : GTC W fun _ => False := by
  intro g hg
  have hg1 : g = 0 := by
    unfold gtab at hg
    by_cases e : g = 0
    · exact e
    · rw [if_neg e] at hg; exact (hg rfl).elim
  subst hg1
  obtain ⟨g1, t1, cs1, f1, p1, hg1, ht1, hv1, hd1⟩ := h.funcs (n := "aircheck/plan.conditions") (d := .agg ([49, 50, 51, 52].map fun k => .agg [.iface "func" (.lit (.string (nameC k)))])) (by
    rw [← laidC]; exact List.mem_singleton.2 rfl)
  obtain rfl := Option.some.inj (g0.symm.trans hg1)
  obtain rfl := Option.some.inj ((show (Tryd.prog.globals[0]?).map (·.type) = some 84 by kernel_rfl).symm.trans ht1)
  rw [outC] at hd1
  have hc := fun i hi f0 hone => fn_cell (fn := "") (fo := 0) (m0 := 0) Tryd.underlying84 ⟨_, Tryd.underlying83, rfl, rfl⟩ (by kernel_rfl) (by kernel_rfl) Tryd.underlying81 hd1 i hi f0 hone
  have h0 := hc 0 (by omega) 122 (by kernel_rfl)
  have h1 := hc 1 (by omega) 124 (by kernel_rfl)
  have h2 := hc 2 (by omega) 125 (by kernel_rfl)
  have h3 := hc 3 (by omega) 126 (by kernel_rfl)
  refine .ep true (gtab 0) 0 0 (fun j => .func (.func (condF j)) #[] #[]) (fun j hj => ?_) (fun j hj => ?_) (fun j hj => ?_)
  · match j, hj with
    | 0, _ => rfl
    | 1, _ => rfl
    | 2, _ => rfl
    | 3, _ => rfl
  · rw [Nat.zero_add]
    refine ⟨?_, id⟩
    rw [World.var?_cell hg1 hv1 j]
    match j, hj with
    | 0, _ => simpa [condF] using h0
    | 1, _ => simpa [condF] using h1
    | 2, _ => simpa [condF] using h2
    | 3, _ => simpa [condF] using h3
  · match j, hj with
    | 0, _ => exact .fn _ _ [] #[] rfl (fun i hi => by simp at hi)
    | 1, _ => exact .fn _ _ [] #[] rfl (fun i hi => by simp at hi)
    | 2, _ => exact .fn _ _ [] #[] rfl (fun i hi => by simp at hi)
    | 3, _ => exact .fn _ _ [] #[] rfl (fun i hi => by simp at hi)
end Go.Proofs.YtaaongcfeldcoaaDoor

namespace Go.Proofs.YtaaongcfeldcoaaDoor
open Go.ChangeShapes Go.WideShapes Go.ChangeAt Go.RowKit
structure Nb where
  fr : Int
  rs : List P2
  os : List Of
  ap : Int
  mu : Int
def encNb (x : Nb) : List V := [.int .i64 x.fr, .sl 2 (encP2s x.rs), .sl 4 (encOfs x.os), .int .i64 x.ap, .int .i64 x.mu]
section
variable {H : Type} {enc : TypeId × Value → H} {w : World}
theorem okI_of_wf {n : Int} (h : (Lit.int .i64 n).wf = true) : okI n := by
  simp [Lit.wf, IntKind.min, IntKind.max, IntKind.signed, IntKind.bits] at h
  unfold okI; omega
theorem decP2 : Dec enc Tryd.prog w 95 encP2 okP2 :=
  (dec_array (n := 2) (sz := 1) Tryd.underlying95 (by kernel_rfl) (by kernel_rfl) (dec_int Tryd.underlying3)).turn (fun xs => ⟨xs.getD 0 0, xs.getD 1 0⟩) fun xs h => by
    obtain ⟨h1, h2⟩ := h
    match xs, h1 with
    | [x, y], _ => exact ⟨rfl, okI_of_wf (h2 x (by simp)), okI_of_wf (h2 y (by simp))⟩
theorem decQ4 : Dec enc Tryd.prog w 112 encOf okO :=
  (dec_array (n := 4) (sz := 1) Tryd.underlying112 (by kernel_rfl) (by kernel_rfl) (dec_int Tryd.underlying3)).turn (fun xs => ⟨xs.getD 0 0, xs.getD 1 0, xs.getD 2 0, xs.getD 3 0⟩) fun xs h => by
    obtain ⟨h1, h2⟩ := h
    match xs, h1 with
    | [x, y, z, u], _ => exact ⟨rfl, okI_of_wf (h2 x (by simp)), okI_of_wf (h2 y (by simp)), okI_of_wf (h2 z (by simp)), okI_of_wf (h2 u (by simp))⟩
def okNb (x : Nb) : Prop := okI x.fr ∧ (x.rs.length ≤ maxLen ∧ ∀ p ∈ x.rs, okP2 p) ∧ (x.os.length ≤ maxLen ∧ ∀ o ∈ x.os, okO o)
theorem decNb : Dec enc Tryd.prog w 25 encNb okNb :=
  (dec_struct (n := 5) Tryd.underlying25 (by kernel_rfl)
    (decFs_cons (m := 1) rfl (by kernel_rfl) (dec_int Tryd.underlying3) (decFs_cons (m := 1) rfl (by kernel_rfl) (dec_slice (sz := 2) Tryd.underlying22 (by kernel_rfl) (by decide) decP2) (decFs_cons (m := 1) rfl (by kernel_rfl) (dec_slice (sz := 4) Tryd.underlying23 (by kernel_rfl) (by decide) decQ4)
      (decFs_cons (m := 1) rfl (by kernel_rfl) (dec_int Tryd.underlying3) (decFs_cons (m := 1) rfl (by kernel_rfl) (dec_int Tryd.underlying3) decFs_nil)))))).turn
    (fun x => ⟨x.1, x.2.1, x.2.2.1, x.2.2.2.1, x.2.2.2.2.1⟩) fun x h => ⟨rfl, okI_of_wf h.1, h.2.1, h.2.2.1⟩
end
end Go.Proofs.YtaaongcfeldcoaaDoor
