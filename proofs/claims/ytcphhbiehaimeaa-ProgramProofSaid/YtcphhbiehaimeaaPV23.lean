/- Rows turned around and renamed. -/
import Derived.Test.YtcphhbiehaimeaaPU23
namespace Go.Proofs.Ytcphhbiehaimeaa
open Go.RowKit
set_option linter.unusedVariables false
set_option linter.unusedSimpArgs false
theorem encR_set (l : List Rw) (k : Nat) (a b c d m : Int) (cf : List Int) : (encR l).set k [V.int .i64 a, V.int .i64 b, V.int .i64 c, V.int .i64 d, V.sl 1 (encI cf), V.int .i64 m] = encR (l.set k ⟨a, b, c, d, cf, m⟩) := by simp [encR, List.map_set, encRw]
theorem encR_app (a b : List Rw) : encR a ++ encR b = encR (a ++ b) := by simp [encR]
theorem encR_drop (l : List Rw) (n : Nat) : (encR l).drop n = encR (l.drop n) := by simp [encR, List.map_drop]
theorem encR_take (l : List Rw) (n : Nat) : (encR l).take n = encR (l.take n) := by simp [encR, List.map_take]
def nmTo (l : List Rw) (nm : List Int) : Nat → List Rw
  | 0 => l
  | n + 1 => (nmTo l nm n).set n ⟨nm.getD 0 0, nm.getD 1 0, nm.getD 2 0, nm.getD 3 0, ((nmTo l nm n).getD n rw0).coef, ((nmTo l nm n).getD n rw0).most⟩
theorem nmTo_length (l : List Rw) (nm : List Int) : ∀ n, (nmTo l nm n).length = l.length
  | 0 => rfl
  | n + 1 => by simp [nmTo, nmTo_length l nm n]
theorem nmTo_same (l : List Rw) (nm : List Int) : ∀ n j, ((nmTo l nm n).getD j rw0).coef = (l.getD j rw0).coef ∧ ((nmTo l nm n).getD j rw0).most = (l.getD j rw0).most
  | 0, j => ⟨rfl, rfl⟩
  | n + 1, j => by
    have ih := nmTo_same l nm n
    by_cases hn : n < l.length
    · by_cases e : j = n
      · subst e
        simp only [nmTo]
        rw [getD_set_self (by rw [nmTo_length]; exact hn)]
        exact ih j
      · have : ((nmTo l nm (n + 1)).getD j rw0) = (nmTo l nm n).getD j rw0 := by
          simp only [nmTo, List.getD, List.getElem?_set_ne (show n ≠ j by omega)]
        rw [this]; exact ih j
    · have : nmTo l nm (n + 1) = nmTo l nm n := by
        simp only [nmTo]
        exact List.set_eq_of_length_le (by rw [nmTo_length]; omega)
      rw [this]; exact ih j
theorem keptB_same {r s : Rw} (h : r.coef = s.coef ∧ r.most = s.most) (set : Int) : keptB r set = keptB s set := by unfold keptB; rw [h.1, h.2]
theorem all_getD {α : Type} (d : α) (l : List α) (p : α → Bool) : l.all p = true ↔ ∀ i, i < l.length → p (l.getD i d) = true := by
  rw [List.all_eq_true]
  constructor
  · exact fun h i hi => h _ (getD_mem hi)
  · intro h x hx
    obtain ⟨i, hi, rfl⟩ := List.getElem_of_mem hx
    have := h i hi
    rwa [show l.getD i d = l[i] by simp [List.getD, hi]] at this
/-- Rows turned around, under other names. -/
def turnR (rows : List Rw) (k : Nat) (nm : List Int) : List Rw := nmTo (rows.drop k ++ rows.take k) nm (rows.drop k ++ rows.take k).length
theorem turn_len (rows : List Rw) (k : Nat) : (rows.drop k ++ rows.take k).length = rows.length := by simp; omega
theorem turn_mem (rows : List Rw) (k : Nat) (r : Rw) : r ∈ rows.drop k ++ rows.take k ↔ r ∈ rows := by
  rw [List.mem_append, Or.comm, ← List.mem_append, List.take_append_drop]
theorem turnR_all (rows : List Rw) (k : Nat) (nm : List Int) (p : Rw → Bool) (hp : ∀ r s : Rw, r.coef = s.coef ∧ r.most = s.most → p r = p s) : (turnR rows k nm).all p = rows.all p := by
  have h1 : (turnR rows k nm).all p = (rows.drop k ++ rows.take k).all p := by
    rw [Bool.eq_iff_iff, all_getD rw0, all_getD rw0]
    unfold turnR
    rw [nmTo_length]
    have key : ∀ i, p ((nmTo (rows.drop k ++ rows.take k) nm (rows.drop k ++ rows.take k).length).getD i rw0) = p ((rows.drop k ++ rows.take k).getD i rw0) := fun i => hp _ _ (nmTo_same _ nm _ i)
    simp only [key]
  rw [h1, Bool.eq_iff_iff, List.all_eq_true, List.all_eq_true]
  exact ⟨fun h r hr => h r ((turn_mem rows k r).2 hr), fun h r hr => h r ((turn_mem rows k r).1 hr)⟩
def turnPg (p : Pg) (k : Nat) (nm : List Int) : Pg := ⟨p.vars, turnR p.rows k nm, p.gain⟩
theorem turn_valid {p : Pg} (hv : validB p = true) (k : Nat) (nm : List Int) : validB (turnPg p k nm) = true := by
  have e : (turnR p.rows k nm).length = p.rows.length := by unfold turnR; rw [nmTo_length, turn_len]
  have e2 : (turnR p.rows k nm).all (fun r => rightB r p.vars) = p.rows.all (fun r => rightB r p.vars) := turnR_all _ _ _ _ fun r s h => by unfold rightB; rw [h.1, h.2]
  have : validB (turnPg p k nm) = validB p := by
    have e3 : decide (((turnR p.rows k nm).length : Int) ≤ 300) = decide ((p.rows.length : Int) ≤ 300) := by rw [e]
    show (isInB p.vars 0 12 && (decide (((turnR p.rows k nm).length : Int) ≤ 300) && ((turnR p.rows k nm).all (fun r => rightB r p.vars) && (decide ((p.gain.length : Int) = p.vars) && coefB p.gain)))) = _
    rw [e3, e2]; rfl
  rw [this]; exact hv
theorem turn_choices (p : Pg) (k : Nat) (nm : List Int) : choiceL (turnPg p k nm) = choiceL p := by
  have key : ∀ s : Int, allKept (turnR p.rows k nm) s = allKept p.rows s := fun s => turnR_all _ _ _ _ fun r s' h => keptB_same h s
  have : ∀ n, chL (turnR p.rows k nm) n = chL p.rows n := by
    intro n
    induction n with
    | zero => rfl
    | succ n ih => simp only [chL, key, ih]
  exact this _
theorem turn_solve (p : Pg) (k : Nat) (nm : List Int) : (solveW (turnPg p k nm)).found = (solveW p).found ∧ (solveW (turnPg p k nm)).set = (solveW p).set ∧ (solveW (turnPg p k nm)).gain = (solveW p).gain := by
  have : solveB (turnPg p k nm) = solveB p := by unfold solveB; rw [turn_choices]; rfl
  simp only [solveW, this, and_self]
theorem pick_nat {c : Int} (hc : okI c) {n : Nat} (h0 : 0 < n) (hn : n ≤ 1000) : ∃ k : Nat, pickW c (n : Nat) = k ∧ k < n := by
  have := pickW_range c (n := (n : Nat)) (by omega) (by omega) hc
  obtain ⟨k, hk⟩ := Int.eq_ofNat_of_zero_le this.1
  exact ⟨k, hk, by omega⟩
theorem choice_max {p : Pg} (hv : validB p = true) : (choiceL p).length ≤ maxLen ∧ (choiceL p).length ≤ 4096 := by
  obtain ⟨v, hv1, hv2, hv3, hv4⟩ := vars_pow hv
  have h := chL_length p.rows (2 ^ p.vars.toNat)
  rw [hv1] at h
  simp only [Int.toNat_natCast] at h
  have : (choiceL p).length ≤ 2 ^ v := by unfold choiceL; rw [hv1]; exact h
  unfold maxLen; omega
end Go.Proofs.Ytcphhbiehaimeaa
