/- Values that are built. -/
import Derived.Laws.Tables
import Derived.Test.YtcphhbiehaimeaaAi6
namespace Go.Proofs.Ytcphhbiehaimeaa
open Go.RowKit
set_option linter.unusedVariables false
set_option linter.unusedSimpArgs false

def V.okp : V → Bool
  | .agg _ => true
  | v => v.sc

def CellsR (w : World) (O : Nat → Prop) (ι : Nat → Nat) (ρ : Nat → Value) (nx : Nat) (c : Bool) (cs : List V) (vs : Array Value) : Prop :=
  vs.size = cs.length ∧ (∀ i, i < cs.length → (cs.getD i .any).sc = true) ∧ ∀ i, i < cs.length → Rel w O ι ρ nx c (cs.getD i .any) (vs.getD i undef)

section
variable {w : World} {O : Nat → Prop} {ι : Nat → Nat} {ρ : Nat → Value} {nx : Nat}

theorem cells_one {x : Value} (h : x.oneCell' = true) : x.cells = #[x] := by cases x <;> first | rfl | (cases h)

theorem parts_rel {c : Bool} {v : V} {x : Value} (h : Rel w O ι ρ nx c v x) (hv : v.okp = true) : CellsR w O ι ρ nx c v.parts x.cells := by
  by_cases hs : v.sc = true
  · have h1 := h.sc_one hs
    have hp : v.parts = [v] := by cases v <;> first | rfl | (cases hs)
    rw [cells_one h1, hp]
    refine ⟨rfl, fun i hi => ?_, fun i hi => ?_⟩ <;> (simp at hi; subst hi)
    · simpa using hs
    · simpa using h
  · cases h with
    | agg _ cs vs hl hs' hr => exact ⟨hl, hs', hr⟩
    | _ => simp_all [V.okp, V.sc]

def spl (cs : List V) (off : Nat) (new : List V) : List V := cs.take off ++ (new ++ cs.drop (off + new.length))

theorem spl_length {cs new : List V} {off : Nat} (h : off + new.length ≤ cs.length) : (spl cs off new).length = cs.length := by
  simp [spl]; omega
theorem spl_getD {cs new : List V} {off : Nat} (h : off + new.length ≤ cs.length) (k : Nat) :
    (spl cs off new).getD k .any = if off ≤ k ∧ k < off + new.length then new.getD (k - off) .any else cs.getD k .any := by
  unfold spl
  have hl : (cs.take off).length = off := by simp; omega
  by_cases h1 : k < off
  · rw [if_neg (by omega)]
    simp [List.getD, List.getElem?_append_left (show k < (cs.take off).length by omega), List.getElem?_take, h1]
  · by_cases h2 : k < off + new.length
    · rw [if_pos (by omega)]
      simp only [List.getD]
      rw [List.getElem?_append_right (by omega), hl, List.getElem?_append_left (by omega)]
    · rw [if_neg (by omega)]
      simp only [List.getD]
      rw [List.getElem?_append_right (by omega), hl, List.getElem?_append_right (by omega), List.getElem?_drop]
      congr 2; omega

theorem setFold_get (off : Nat) : ∀ (l : List Value) (n : Nat) (cells : Array Value),
    ((l.zipIdx n).foldl (fun cs (p : Value × Nat) => cs.setIfInBounds (off + p.2) p.1) cells).size = cells.size ∧
    ∀ k, ((l.zipIdx n).foldl (fun cs (p : Value × Nat) => cs.setIfInBounds (off + p.2) p.1) cells)[k]? =
      if off + n ≤ k ∧ k < off + n + l.length ∧ k < cells.size then l[k - off - n]? else cells[k]?
  | [], n, cells => ⟨rfl, fun k => by simp; omega⟩
  | x :: l, n, cells => by
    obtain ⟨h1, h2⟩ := setFold_get off l (n + 1) (cells.setIfInBounds (off + n) x)
    simp only [List.zipIdx_cons, List.foldl_cons]
    refine ⟨by rw [h1]; simp, fun k => ?_⟩
    rw [h2 k]
    simp only [Array.size_setIfInBounds, List.length_cons]
    by_cases hk : off + n = k
    · subst hk
      rw [if_neg (by omega)]
      by_cases hlt : off + n < cells.size
      · rw [if_pos (by omega)]
        have : off + n - off - n = 0 := by omega
        simp [this, hlt]
      · rw [if_neg (by omega)]
        simp [hlt]
    · by_cases hc : off + (n + 1) ≤ k ∧ k < off + (n + 1) + l.length ∧ k < cells.size
      · rw [if_pos hc, if_pos (by omega)]
        have : k - off - n = (k - off - (n + 1)) + 1 := by omega
        rw [this]; simp
      · rw [if_neg hc, if_neg (by omega), Array.getElem?_setIfInBounds_ne hk]

theorem fold_eq (off : Nat) (nv cells : Array Value) :
    nv.zipIdx.foldl (fun cs (p : Value × Nat) => cs.setIfInBounds (off + p.2) p.1) cells = (nv.toList.zipIdx 0).foldl (fun cs (p : Value × Nat) => cs.setIfInBounds (off + p.2) p.1) cells := by
  rw [← Array.foldl_toList, Array.toList_zipIdx]

theorem CellsR.spl {c : Bool} {cs new : List V} {vs nv : Array Value} {off : Nat} (h : CellsR w O ι ρ nx c cs vs) (hn : CellsR w O ι ρ nx c new nv) (hoff : off + new.length ≤ cs.length) :
    CellsR w O ι ρ nx c (spl cs off new) (nv.zipIdx.foldl (fun cs (p : Value × Nat) => cs.setIfInBounds (off + p.2) p.1) vs) := by
  rw [fold_eq]
  obtain ⟨h1, h2⟩ := setFold_get off nv.toList 0 vs
  have hl := spl_length hoff
  have hnl : nv.toList.length = new.length := by simpa using hn.1
  refine ⟨by rw [h1, hl]; exact h.1, fun i hi => ?_, fun i hi => ?_⟩
  · rw [hl] at hi; rw [spl_getD hoff]
    split
    · exact hn.2.1 _ (by omega)
    · exact h.2.1 _ hi
  · rw [hl] at hi; rw [spl_getD hoff]
    rw [Array.getD_eq_getD_getElem?, h2 i]
    have := h.1
    split
    · rename_i hc
      rw [if_pos (by omega)]
      have h3 := hn.2.2 (i - off) (by omega)
      rw [Array.getD_eq_getD_getElem?] at h3
      have e : i - off - 0 = i - off := by omega
      rw [e]; simpa using h3
    · rename_i hc
      rw [if_neg (by omega)]
      have h3 := h.2.2 i hi
      rwa [Array.getD_eq_getD_getElem?] at h3

/-- Parts laid into cells. -/
def fillV (pl : List (Nat × Nat)) (cs : List V) : List (Nat × V) → (List V → Prop) → Prop
  | [], K => K cs
  | (i, v) :: rest, K =>
    match pl[i]? with
    | some (off, size) => v.okp = true ∧ v.parts.length = size ∧ off + size ≤ cs.length ∧ fillV pl (spl cs off v.parts) rest K
    | none => False

theorem fillV_sound {c : Bool} {pl : List (Nat × Nat)} {place : Nat → Option (Nat × Nat)} (hpl : ∀ i p, pl[i]? = some p → place i = some p) :
    ∀ {ps : List (Nat × V)} {xs : List (Nat × Value)} {cs : List V} {vs : Array Value} {K : List V → Prop}, fillV pl cs ps K → CellsR w O ι ρ nx c cs vs → xs.length = ps.length →
    (∀ i, i < ps.length → (xs.getD i default).1 = (ps.getD i default).1 ∧ Rel w O ι ρ nx c (ps.getD i default).2 (xs.getD i default).2) →
    ∃ vs' cs', Instr.fill place vs xs = some vs' ∧ CellsR w O ι ρ nx c cs' vs' ∧ K cs'
  | [], [], cs, vs, K, h, hc, _, _ => ⟨vs, cs, rfl, hc, h⟩
  | [], x :: xs, cs, vs, K, h, hc, hl, _ => by simp at hl
  | p :: ps, [], cs, vs, K, h, hc, hl, _ => by simp at hl
  | (i, v) :: ps, (i', x) :: xs, cs, vs, K, h, hc, hl, hr => by
    have h0 := hr 0 (by simp)
    simp at h0
    obtain ⟨rfl, h0⟩ := h0
    unfold fillV at h
    split at h
    · rename_i off size hp
      obtain ⟨h1, h2, h3, h4⟩ := h
      have hpr := parts_rel h0 h1
      have hcs := hc.spl hpr (by rw [h2]; exact h3)
      obtain ⟨vs', cs', h5, h6, h7⟩ := fillV_sound hpl h4 hcs (by simpa using hl) (fun j hj => by simpa using hr (j + 1) (by simpa using hj))
      refine ⟨vs', cs', ?_, h6, h7⟩
      unfold Instr.fill
      have hcond : (decide (x.cells.size ≠ size) || decide (off + x.cells.size > vs.size)) = false := by
        rw [hpr.1, h2, hc.1]; simp; omega
      simp only [hpl _ _ hp, hcond]
      exact h5
    · exact h.elim

def plT (P : Program) (t : TypeId) : Option (List (Nat × Nat)) :=
  match P.underlying t with
  | some (.array n e) => (P.info? e).map fun ie => (List.range n).map fun i => (i * ie.size, ie.size)
  | some (.struct fields) => fields.toList.mapM (fun f => (P.info? f.type).map fun i => (f.offset, i.size))
  | _ => none

theorem CellsR.zero {P : Program} {t : TypeId} {zs : List V} (c : Bool) (h : zeroT P t = some zs) (hs : zs.all V.sc = true) : ∃ i z, P.info? t = some i ∧ i.zero = some z ∧ CellsR w O ι ρ nx c zs z.cells := by
  unfold zeroT at h
  cases hi : P.info? t with
  | none => simp [hi] at h
  | some i =>
    cases hz : i.zero with
    | none => simp [hi, hz] at h
    | some z =>
      simp [hi, hz] at h
      subst h
      refine ⟨i, z, rfl, hz, by simp, fun j hj => ?_, fun j hj => ?_⟩
      · simp at hj
        have := List.all_eq_true.1 hs (ofVal z.cells[j]) (List.mem_map.2 ⟨_, by simp, rfl⟩)
        simpa [List.getD, hj] using this
      · simp at hj
        simp only [List.getD, List.getElem?_map, Array.getElem?_toList, Array.getElem?_eq_getElem hj, Option.map_some, Option.getD_some, Array.getD, dif_pos hj]
        exact .const ..

/-- A struct or an array, of its parts. -/
def buildV (z : Option (List V)) (pl : Option (List (Nat × Nat))) (ps : List (Nat × V)) (K : V → Prop) : Prop :=
  match z, pl with
  | some zs, some pl => zs.all V.sc = true ∧ fillV pl zs ps fun cs => K (.agg cs)
  | _, _ => False

theorem CellsR.agg {c : Bool} {cs : List V} {vs : Array Value} (h : CellsR w O ι ρ nx c cs vs) : Rel w O ι ρ nx c (.agg cs) (.agg vs) := .agg _ _ _ h.1 h.2.1 h.2.2

theorem buildV_sound {P : Program} {c : Bool} {t : TypeId} {ps : List (Nat × V)} {xs : Array (Nat × Value)} {K : V → Prop} (h : buildV (zeroT P t) (plT P t) ps K) (hl : xs.size = ps.length)
    (hr : ∀ i, i < ps.length → (xs.toList.getD i default).1 = (ps.getD i default).1 ∧ Rel w O ι ρ nx c (ps.getD i default).2 (xs.toList.getD i default).2) :
    ∃ v x, (Instr.build t xs).run P w = .ok x w ∧ Rel w O ι ρ nx c v x ∧ K v := by
  unfold buildV at h
  split at h
  · rename_i zs pl hz hp
    obtain ⟨i, z, hi, hzz, hc⟩ := CellsR.zero (w := w) (O := O) (ι := ι) (ρ := ρ) (nx := nx) c hz h.1
    unfold plT at hp
    split at hp
    · rename_i n e hu
      cases hie : P.info? e with
      | none => simp [hie] at hp
      | some ie =>
        simp [hie] at hp; subst hp
        obtain ⟨vs', cs', h1, h2, h3⟩ := fillV_sound (place := fun i => some (i * ie.size, ie.size)) (fun j p hj => by
          rw [List.getElem?_map] at hj
          cases hr : (List.range n)[j]? with
          | none => simp [hr] at hj
          | some k => have := (List.getElem?_eq_some_iff.1 hr); simp at this; simp [hr] at hj; rw [← hj, ← this.2]) h.2 hc (by simpa using hl) hr
        exact ⟨_, _, run_build w t xs vs' (by simp [Program.built, hi, hu, hzz, hie, h1]), h2.agg, h3⟩
    · rename_i fields hu
      obtain ⟨vs', cs', h1, h2, h3⟩ := fillV_sound (place := (pl.toArray[·]?)) (fun j p hj => by simpa using hj) h.2 hc (by simpa using hl) hr
      refine ⟨_, _, run_build w t xs vs' ?_, h2.agg, h3⟩
      simp only [Program.built, hi, hu, hzz, hp]; exact h1
    · cases hp
  · exact h.elim

/-- The rows of a new slice. -/
def rowsV (size : Nat) (rows : List (List V)) : List (Nat × V) → (List (List V) → Prop) → Prop
  | [], K => K rows
  | (i, v) :: rest, K => v.okp = true ∧ v.cl = true ∧ v.parts.length = size ∧ i < rows.length ∧ rowsV size (rows.set i v.parts) rest K

theorem rowsV_sound {size : Nat} : ∀ {ps : List (Nat × V)} {xs : List (Nat × Value)} {rows : List (List V)} {vs : Array Value} {K : List (List V) → Prop}, rowsV size rows ps K →
    RowsR w O ι ρ nx size rows vs.toList → xs.length = ps.length → (∀ i, i < ps.length → (xs.getD i default).1 = (ps.getD i default).1 ∧ Rel w O ι ρ nx false (ps.getD i default).2 (xs.getD i default).2) →
    ∃ vs' rows', Instr.fill (fun i => some (i * size, size)) vs xs = some vs' ∧ RowsR w O ι ρ nx size rows' vs'.toList ∧ rows'.length = rows.length ∧ K rows'
  | [], [], rows, vs, K, h, hc, _, _ => ⟨vs, rows, rfl, hc, rfl, h⟩
  | [], x :: xs, rows, vs, K, h, hc, hl, _ => by simp at hl
  | p :: ps, [], rows, vs, K, h, hc, hl, _ => by simp at hl
  | (i, v) :: ps, (i', x) :: xs, rows, vs, K, h, hc, hl, hr => by
    have h0 := hr 0 (by simp)
    simp at h0
    obtain ⟨rfl, h0⟩ := h0
    obtain ⟨h1, hcl, h2, h3, h4⟩ := h
    have hpr := parts_rel (h0.of_cl hcl true) h1
    have hidx := Nat.mul_le_mul_right size h3
    rw [Nat.succ_mul] at hidx
    have hvl : vs.size = rows.length * size := by have := hc.1; simpa using this
    obtain ⟨hf1, hf2⟩ := setFold_get (i' * size) x.cells.toList 0 vs
    have hxs : x.cells.toList.length = size := by have := hpr.1; simp; omega
    have hnew : RowsR w O ι ρ nx size (rows.set i' v.parts) ((x.cells.toList.zipIdx 0).foldl (fun cs (p : Value × Nat) => cs.setIfInBounds (i' * size + p.2) p.1) vs).toList := by
      have eget : ∀ r, (rows.set i' v.parts).getD r [] = if r = i' then v.parts else rows.getD r [] := fun r => by
        simp only [List.getD, List.getElem?_set]
        by_cases hri : r = i'
        · subst hri; simp [h3]
        · simp [hri, Ne.symm hri]
      refine ⟨by simp [hf1, hvl], fun r hr' => ?_, fun r j hr' hj => ?_, fun r j hr' hj => ?_⟩ <;> (simp at hr'; rw [eget])
      · split
        · exact h2
        · exact hc.2.1 r hr'
      · split
        · exact hpr.2.1 j (by omega)
        · exact hc.2.2.1 r j hr' hj
      · have hk := cellIdx hr' hj
        simp only [List.getD, Array.getElem?_toList]
        rw [hf2]
        split
        · rename_i e; subst e
          rw [if_pos (by omega)]
          have e1 : r * size + j - r * size - 0 = j := by omega
          have := hpr.2.2 j (by omega)
          rw [e1]
          simpa [Array.getD_eq_getD_getElem?, List.getD] using this
        · rename_i hne
          have hne2 : ¬ (i' * size + 0 ≤ r * size + j ∧ r * size + j < i' * size + 0 + x.cells.toList.length ∧ r * size + j < vs.size) := by
            rintro ⟨ha, hb, -⟩
            rw [hxs] at hb
            rcases Nat.lt_or_gt_of_ne hne with hlt | hgt
            · have := Nat.mul_le_mul_right size (show r + 1 ≤ i' by omega); rw [Nat.succ_mul] at this; omega
            · have := Nat.mul_le_mul_right size (show i' + 1 ≤ r by omega); rw [Nat.succ_mul] at this; omega
          rw [if_neg hne2]
          have := hc.2.2.2 r j hr' hj
          simpa [List.getD] using this
    obtain ⟨vs', rows', h5, h6, h7, h8⟩ := rowsV_sound h4 hnew (by simpa using hl) (fun j hj => by simpa using hr (j + 1) (by simpa using hj))
    refine ⟨vs', rows', ?_, h6, by simpa using h7, h8⟩
    unfold Instr.fill
    have hcond : (decide (x.cells.size ≠ size) || decide (i' * size + x.cells.size > vs.size)) = false := by
      have : x.cells.size = size := by simpa using hxs
      rw [this, hvl]; simp; omega
    simp only [hcond]
    rw [← fold_eq] at h5
    exact h5

end
end Go.Proofs.Ytcphhbiehaimeaa
