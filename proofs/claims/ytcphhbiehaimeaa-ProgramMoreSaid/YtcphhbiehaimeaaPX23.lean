/- More rows, fewer choices. -/
import Derived.Test.YtcphhbiehaimeaaPV23
namespace Go.Proofs.Ytcphhbiehaimeaa
open Go.RowKit
set_option linter.unusedVariables false
set_option linter.unusedSimpArgs false
/-! #### lists that grow -/
theorem chL_srt (rows : List Rw) : ∀ n, srt (chL rows n) ∧ ∀ x ∈ chL rows n, x < (n : Int)
  | 0 => ⟨fun i j _ h => by simp [chL] at h, by simp [chL]⟩
  | n + 1 => by
    obtain ⟨h1, h2⟩ := chL_srt rows n
    cases h : allKept rows n with
    | false => rw [chL_f h]; exact ⟨h1, fun x hx => by have := h2 x hx; omega⟩
    | true =>
      rw [chL_t h]
      refine ⟨fun i j hij hj => ?_, fun x hx => ?_⟩
      · by_cases hj2 : j < (chL rows n).length
        · have e1 : (chL rows n ++ [(n : Int)]).getD i 0 = (chL rows n).getD i 0 := by simp [List.getD, List.getElem?_append_left (show i < (chL rows n).length by omega)]
          have e2 : (chL rows n ++ [(n : Int)]).getD j 0 = (chL rows n).getD j 0 := by simp [List.getD, List.getElem?_append_left hj2]
          rw [e1, e2]; exact h1 i j hij hj2
        · have hj3 : j = (chL rows n).length := by simp at hj; omega
          subst hj3
          have e1 : (chL rows n ++ [(n : Int)]).getD i 0 = (chL rows n).getD i 0 := by simp [List.getD, List.getElem?_append_left hij]
          have e2 : (chL rows n ++ [(n : Int)]).getD (chL rows n).length 0 = n := by simp [List.getD]
          rw [e1, e2]; exact h2 _ (getD_mem hij)
      · rcases List.mem_append.1 hx with hx | hx
        · have := h2 x hx; omega
        · rw [List.mem_singleton] at hx; omega
theorem choice_srt (p : Pg) : srt (choiceL p) := (chL_srt p.rows _).1
theorem srt_lt {l : List Int} (h : srt l) {i j : Nat} (hi : i < l.length) (hj : j < l.length) : l.getD i 0 < l.getD j 0 ↔ i < j := by
  constructor
  · intro hl
    rcases Nat.lt_or_ge i j with h1 | h1
    · exact h1
    · have := srt_le h h1 hi; omega
  · exact fun hl => h i j hl hj
/-- Among the first n of a, those that r keeps. -/
def cntK (r : Rw) (a : List Int) (n : Nat) : List Int := (a.take n).filter fun s => keptB r s
theorem cntK_t {r : Rw} {a : List Int} {n : Nat} (hn : n < a.length) (h : keptB r (a.getD n 0) = true) : cntK r a (n + 1) = cntK r a n ++ [a.getD n 0] := by
  have e : a[n] = a.getD n 0 := by simp [List.getD, hn]
  unfold cntK
  rw [List.take_add_one, List.getElem?_eq_getElem hn, List.filter_append]
  simp only [Option.toList_some, List.filter_cons, List.filter_nil, e, h, if_true]
theorem cntK_f {r : Rw} {a : List Int} {n : Nat} (hn : n < a.length) (h : keptB r (a.getD n 0) = false) : cntK r a (n + 1) = cntK r a n := by
  have e : a[n] = a.getD n 0 := by simp [List.getD, hn]
  unfold cntK
  rw [List.take_add_one, List.getElem?_eq_getElem hn, List.filter_append]
  simp [List.filter_cons, e]
  exact h
theorem cntK_all (r : Rw) (a : List Int) : cntK r a a.length = a.filter fun s => keptB r s := by unfold cntK; rw [List.take_length]
theorem cntK_pre (r : Rw) (a : List Int) {n : Nat} (hn : n < a.length) (h : keptB r (a.getD n 0) = true) : (cntK r a n).length < (a.filter fun s => keptB r s).length ∧ (a.filter fun s => keptB r s).getD (cntK r a n).length 0 = a.getD n 0 := by
  have e : a.filter (fun s => keptB r s) = cntK r a (n + 1) ++ (a.drop (n + 1)).filter fun s => keptB r s := by
    unfold cntK; rw [← List.filter_append, List.take_append_drop]
  rw [e, cntK_t hn h]
  constructor
  · simp
  · simp [List.getD]
theorem chL_more (rows : List Rw) (r : Rw) : ∀ n, chL (rows ++ [r]) n = (chL rows n).filter fun s => keptB r s
  | 0 => rfl
  | n + 1 => by
    have e : allKept (rows ++ [r]) n = (allKept rows n && keptB r n) := by simp [allKept]
    simp only [chL, e, chL_more rows r n]
    cases h1 : allKept rows n <;> cases h2 : keptB r (n : Int) <;> simp [h1, h2]
/-! #### a further row -/
def moreP (p : Pg) (r : Rw) : Pg := ⟨p.vars, p.rows ++ [r], p.gain⟩
theorem more_choices (p : Pg) (r : Rw) : choiceL (moreP p r) = (choiceL p).filter fun s => keptB r s := chL_more p.rows r _
theorem more_valid {p : Pg} (hv : validB p = true) {r : Rw} (hr : rightB r p.vars = true) (hl : p.rows.length < 300) : validB (moreP p r) = true := by
  obtain ⟨h0, h1, h2, h3, h4, h5⟩ := validB_all hv
  have hh : ∀ q ∈ p.rows ++ [r], rightB q p.vars = true := fun q hq => by
    rcases List.mem_append.1 hq with hq | hq
    · obtain ⟨k1, k2, k3⟩ := h5 q hq
      simp only [rightB, Bool.and_eq_true, decide_eq_true_eq, isInB_spec]; exact ⟨k1, k2, k3⟩
    · rw [List.mem_singleton] at hq; subst hq; exact hr
  simp only [validB, moreP, Bool.and_eq_true, decide_eq_true_eq, isInB_spec, List.all_eq_true]
  exact ⟨⟨h0, h1⟩, decide_eq_true (show ((p.rows ++ [r]).length : Int) ≤ 300 by simp; omega), hh, decide_eq_true h3, h4⟩
theorem more_solve {p : Pg} (hv : validB p = true) {r : Rw} : (solveW (moreP p r)).found = true → (solveW p).found = true ∧ (solveW (moreP p r)).gain ≤ (solveW p).gain := by
  intro hf
  have s1 := bestW_spec p.gain (choiceL (moreP p r))
  have s2 := bestW_spec p.gain (choiceL p)
  have e1 : bestW p.gain (choiceL (moreP p r)) = solveB (moreP p r) := rfl
  have e2 : bestW p.gain (choiceL p) = solveB p := rfl
  rw [e1] at s1
  rw [e2] at s2
  have hf' : (solveB (moreP p r)).1 = true := hf
  obtain ⟨k1, k2, k3⟩ := s1.2 hf'
  rw [more_choices, List.mem_filter] at k1
  have hfp : (solveB p).1 = true := by
    cases h : (solveB p).1 with
    | true => rfl
    | false => rw [(s2.1 h).1] at k1; cases k1.1
  refine ⟨hfp, ?_⟩
  show (solveB (moreP p r)).2.2 ≤ (solveB p).2.2
  rw [k2]; exact (s2.2 hfp).2.2 _ k1.1
/-! #### without some -/
def bitL (b : Int) : Nat → List Int
  | 0 => []
  | n + 1 => if decide ((shrW .i64 b n).tmod 2 = 1) = true then bitL b n ++ [(n : Int)] else bitL b n
theorem bitL_t {b : Int} {n : Nat} (h : (shrW .i64 b n).tmod 2 = 1) : bitL b (n + 1) = bitL b n ++ [(n : Int)] := by simp only [bitL, h, decide_true, if_true]
theorem bitL_f {b : Int} {n : Nat} (h : ¬ (shrW .i64 b n).tmod 2 = 1) : bitL b (n + 1) = bitL b n := by simp only [bitL, h, decide_false, Bool.false_eq_true, if_false]
theorem bitL_length (b : Int) : ∀ n, (bitL b n).length ≤ n
  | 0 => Nat.le_refl _
  | n + 1 => by have := bitL_length b n; simp only [bitL]; split <;> (try simp) <;> omega
theorem bitL_lt (b : Int) : ∀ n, srt (bitL b n) ∧ ∀ x ∈ bitL b n, 0 ≤ x ∧ x < (n : Int)
  | 0 => ⟨fun i j _ h => by simp [bitL] at h, by simp [bitL]⟩
  | n + 1 => by
    obtain ⟨h1, h2⟩ := bitL_lt b n
    by_cases h : (shrW .i64 b n).tmod 2 = 1
    · rw [bitL_t h]
      refine ⟨fun i j hij hj => ?_, fun x hx => ?_⟩
      · by_cases hj2 : j < (bitL b n).length
        · have e1 : (bitL b n ++ [(n : Int)]).getD i 0 = (bitL b n).getD i 0 := by simp [List.getD, List.getElem?_append_left (show i < (bitL b n).length by omega)]
          have e2 : (bitL b n ++ [(n : Int)]).getD j 0 = (bitL b n).getD j 0 := by simp [List.getD, List.getElem?_append_left hj2]
          rw [e1, e2]; exact h1 i j hij hj2
        · have hj3 : j = (bitL b n).length := by simp at hj; omega
          subst hj3
          have e1 : (bitL b n ++ [(n : Int)]).getD i 0 = (bitL b n).getD i 0 := by simp [List.getD, List.getElem?_append_left hij]
          have e2 : (bitL b n ++ [(n : Int)]).getD (bitL b n).length 0 = n := by simp [List.getD]
          rw [e1, e2]; exact (h2 _ (getD_mem hij)).2
      · rcases List.mem_append.1 hx with hx | hx
        · have := h2 x hx; omega
        · rw [List.mem_singleton] at hx; omega
    · rw [bitL_f h]; exact ⟨h1, fun x hx => by have := h2 x hx; omega⟩
theorem okRows_of {p : Pg} (hv : validB p = true) {l : List Int} (hs : srt l) (hr : ∀ x ∈ l, 0 ≤ x ∧ x < (p.rows.length : Int)) : okRows p l = true := by
  obtain ⟨h0, h1, h2, h3, h4, h5⟩ := validB_all hv
  refine okTo_iff.2 fun i hi => idxOk_iff.2 ?_
  have := hr _ (getD_mem (d := 0) hi)
  rw [w64 (by omega)]
  refine ⟨this.1, by omega, fun h => hs (i - 1) i (by omega) hi⟩
theorem keepTo_mem {p : Pg} {l : List Int} {r : Rw} : ∀ {n : Nat}, r ∈ keepTo p l n → ∃ i : Nat, i < n ∧ r = p.rows.getD i rw0 ∧ ¬ (i : Int) ∈ l
  | 0, h => by simp [keepTo] at h
  | n + 1, h => by
    by_cases hm : (n : Int) ∈ l
    · rw [keepTo_t hm] at h
      obtain ⟨i, h1, h2⟩ := keepTo_mem h
      exact ⟨i, by omega, h2⟩
    · rw [keepTo_f hm] at h
      rcases List.mem_append.1 h with h | h
      · obtain ⟨i, h1, h2⟩ := keepTo_mem h
        exact ⟨i, by omega, h2⟩
      · rw [List.mem_singleton] at h; exact ⟨n, by omega, h, hm⟩
theorem without_valid {p : Pg} (hv : validB p = true) (l : List Int) : validB (withoutW p l) = true := by
  obtain ⟨h0, h1, h2, h3, h4, h5⟩ := validB_all hv
  have hh : ∀ q ∈ keepTo p l p.rows.length, rightB q p.vars = true := fun q hq => by
    obtain ⟨i, hi, rfl, -⟩ := keepTo_mem hq
    obtain ⟨k1, k2, k3⟩ := h5 _ (getD_mem (d := rw0) hi)
    simp only [rightB, Bool.and_eq_true, decide_eq_true_eq, isInB_spec]; exact ⟨k1, k2, k3⟩
  have hl := keepTo_length p l p.rows.length
  simp only [validB, withoutW, Bool.and_eq_true, decide_eq_true_eq, isInB_spec, List.all_eq_true]
  exact ⟨⟨h0, h1⟩, decide_eq_true (show ((keepTo p l p.rows.length).length : Int) ≤ 300 by omega), hh, decide_eq_true h3, h4⟩
theorem without_more {p : Pg} (l : List Int) {x : Int} (h : x ∈ choiceL p) : x ∈ choiceL (withoutW p l) := by
  obtain ⟨s, h1, h2, h3⟩ := mem_choiceL.1 h
  refine mem_choiceL.2 ⟨s, h1, h2, ?_⟩
  simp only [allKept, List.all_eq_true] at h3 ⊢
  intro r hr
  obtain ⟨i, hi, rfl, -⟩ := keepTo_mem hr
  exact h3 _ (getD_mem hi)
/-- How many rows are left. -/
theorem keepTo_count {p : Pg} {b : Int} {m : Nat} : ∀ {n : Nat}, n ≤ m → (keepTo p (bitL b m) n).length + (bitL b n).length = n
  | 0, _ => by simp [keepTo, bitL]
  | n + 1, h => by
    have ih := keepTo_count (p := p) (b := b) (m := m) (n := n) (by omega)
    have hmem : ∀ m, n < m → ((n : Int) ∈ bitL b m ↔ (shrW .i64 b n).tmod 2 = 1) := by
      intro m
      induction m with
      | zero => intro h; omega
      | succ m ihm =>
        intro h
        by_cases e : n = m
        · subst e
          by_cases h2 : (shrW .i64 b n).tmod 2 = 1
          · rw [bitL_t h2]; simp [h2]
          · rw [bitL_f h2]
            have := (bitL_lt b n).2
            constructor
            · intro h3; have := this _ h3; omega
            · exact fun h3 => (h2 h3).elim
        · have ih2 := ihm (by omega)
          by_cases h2 : (shrW .i64 b m).tmod 2 = 1
          · rw [bitL_t h2, List.mem_append, ih2, List.mem_singleton]
            constructor
            · rintro (h3 | h3)
              · exact h3
              · omega
            · exact fun h3 => .inl h3
          · rw [bitL_f h2]; exact ih2
    have hm := hmem m (by omega)
    by_cases h2 : (shrW .i64 b n).tmod 2 = 1
    · rw [keepTo_t (hm.2 h2), bitL_t h2]; simp; omega
    · rw [keepTo_f (fun h3 => h2 (hm.1 h3)), bitL_f h2]; simp; omega
theorem merge_at {c : List Int} (hc : srt c) {w : Nat} {x : Int} (h : ∀ j, j < w → c.getD j 0 < x) (hx : x ∈ c) (hn : ¬ ((w : Int) < c.length ∧ c.getD w 0 < x)) : w < c.length ∧ c.getD w 0 = x := by
  obtain ⟨i, hi, e⟩ : ∃ i, i < c.length ∧ c.getD i 0 = x := by
    obtain ⟨i, hi, rfl⟩ := List.getElem_of_mem hx
    exact ⟨i, hi, by simp [List.getD, hi]⟩
  have hwi : w ≤ i := by
    rcases Nat.lt_or_ge i w with h1 | h1
    · have := h i h1; omega
    · exact h1
  have := srt_le hc hwi hi
  refine ⟨by omega, ?_⟩
  rcases Int.lt_or_le (c.getD w 0) x with h1 | h1
  · exact (hn ⟨by omega, h1⟩).elim
  · omega
theorem more_at {p : Pg} (hv : validB p = true) {v : Nat} (e : p.vars = v) {r : Rw} (hr : rightB r p.vars = true) (hl : p.rows.length < 300) {k : Nat} (hk : k < (choiceL p).length) :
    (¬ r.most < sumW r ((choiceL p).getD k 0) → (cntK r (choiceL p) k).length < (choiceL (moreP p r)).length ∧ (choiceL (moreP p r)).getD (cntK r (choiceL p) k).length 0 = (choiceL p).getD k 0 ∧ (cntK r (choiceL p) (k + 1)).length = (cntK r (choiceL p) k).length + 1) ∧
    (r.most < sumW r ((choiceL p).getD k 0) → cntK r (choiceL p) (k + 1) = cntK r (choiceL p) k) := by
  obtain ⟨s, h1, h2, -⟩ := mem_choiceL.1 (getD_mem (d := 0) hk)
  have hq := more_valid hv hr hl
  have hs : s < 2 ^ v := by rw [e] at h2; simpa using h2
  have hm := sum_in hq (v := v) e (r := r) (by simp [moreP]) hs
  have hkb : keptB r ((choiceL p).getD k 0) = decide (sumW r ((choiceL p).getD k 0) ≤ r.most) := by
    rw [h1]; unfold keptB; rw [hm.1, hm.2.1]
  rw [more_choices]
  constructor
  · intro h
    have hkt : keptB r ((choiceL p).getD k 0) = true := by rw [hkb, decide_eq_true_eq]; omega
    obtain ⟨k1, k2⟩ := cntK_pre r _ hk hkt
    exact ⟨k1, k2, by rw [cntK_t hk hkt]; simp⟩
  · intro h
    exact cntK_f hk (by rw [hkb, decide_eq_false_iff_not]; omega)
theorem more_end (p : Pg) (r : Rw) : (cntK r (choiceL p) (choiceL p).length).length = (choiceL (moreP p r)).length := by rw [cntK_all, more_choices]
theorem made_one {v : Int} {t : T3} {g : List Int} : (madeW v [t] g).rows.length = 1 ∧ (madeW v [t] g).vars = pickW v 9 := by
  constructor
  · simp [madeW, rowsM_length]
  · rfl
end Go.Proofs.Ytcphhbiehaimeaa
