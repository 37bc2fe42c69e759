/- The step is sound: addresses, slices, calls. -/
import Derived.Test.YtcphhbiehaimeaaAi10
namespace Go.Proofs.Ytcphhbiehaimeaa
open Go.RowKit
set_option linter.unusedVariables false
set_option linter.unusedSimpArgs false

section
variable {P : Program} {cx : Cx} {σ : St} {ι : Nat → Nat} {ρ : Nat → Value} {a : Act} {w : World} {K : V → St → Prop} {Q : Exit → Act → World → Prop} {o : Oper} {g : Option Bool}

theorem take_upd {α : Type} (cur ys : List α) (A M : Nat) (h : A + ys.length ≤ M) (h2 : M ≤ cur.length) :
    (cur.take A ++ ys ++ cur.drop (A + ys.length)).take M = (cur.take M).take A ++ ys ++ (cur.take M).drop (A + ys.length) := by
  have e : (cur.take A ++ ys).length = A + ys.length := by simp; omega
  rw [List.take_append, List.take_of_length_le (by rw [e]; exact h), e, List.take_take, Nat.min_eq_left (by omega), List.drop_take]
theorem sound_store {T : TypeId} {x y : Operand} (ho : o.op = .store T x y) (h : SR cx σ ι ρ a w) (hg : g.getD true = true) (hs : stp P σ g (.store T x y) K) : o.wp P a w (Nx cx o a K) Q := by
  simp only [stp] at hs
  obtain ⟨hgn, hs⟩ := hs
  obtain ⟨vx, hx, hs⟩ := un1 h hg hs
  obtain ⟨v, hv, hs⟩ := un1 h hg hs
  split at hs
  · rename_i n ag id off hl hsx
    split at hs
    · rename_i cs hlook
      obtain ⟨hok, hlen, hoff, hk⟩ := hs
      obtain ⟨vals, e, h1, h2, h3, h4⟩ := look_obj h hlook
      have hc := parts_rel hv hok
      have hsz := (lay_spec (w := w) hl).2.1
      have hone : ∀ u ∈ (a.eval y).cells.toList, u.oneCell' = true := by
        intro u hu
        obtain ⟨k, hk, rfl⟩ := List.getElem_of_mem hu
        have hk' : k < v.parts.length := by have := hc.1; simp at hk; omega
        have := (hc.2.2 k hk').sc_one (hc.2.1 k hk')
        simpa [Array.getD, show k < (a.eval y).cells.size by simpa using hk] using this
      unfold MR at hx
      generalize hxe : a.eval x = xv at hx
      cases hx with
      | ptr _ _ hid =>
        have hcl : (a.eval y).cells.toList.length = v.parts.length := by simpa using hc.1
        have hst := run_storeCells_at P (ι id) off e (a.eval y).cells.toList 0 vals w h1 (by rw [hcl]; omega) hone
        have hoff' : off + v.parts.length ≤ cs.length := by omega
        have hnew : CellsR w (OO cx.X σ.mem ι ρ) ι ρ σ.nx false (spl cs off v.parts) (vals.toList.take off ++ (a.eval y).cells.toList ++ vals.toList.drop (off + v.parts.length)).toArray := by
          have hsl := spl_length hoff'
          have hge : ∀ k, (vals.toList.take off ++ (a.eval y).cells.toList ++ vals.toList.drop (off + v.parts.length)).toArray.getD k undef =
              if off ≤ k ∧ k < off + v.parts.length then (a.eval y).cells.getD (k - off) undef else vals.getD k undef := by
            intro k
            rw [Array.getD_eq_getD_getElem?, List.append_assoc]
            simp only [List.getElem?_toArray]
            have htl : (vals.toList.take off).length = off := by simp; omega
            by_cases k1 : k < off
            · rw [if_neg (by omega), List.getElem?_append_left (by omega), List.getElem?_take, if_pos k1, Array.getElem?_toList, ← Array.getD_eq_getD_getElem?]
            · rw [List.getElem?_append_right (by omega), htl]
              by_cases k2 : k < off + v.parts.length
              · rw [if_pos (by omega), List.getElem?_append_left (by omega), Array.getElem?_toList, ← Array.getD_eq_getD_getElem?]
              · rw [if_neg (by omega), List.getElem?_append_right (by omega), List.getElem?_drop, hcl, Array.getElem?_toList, Array.getD_eq_getD_getElem?]
                congr 2; omega
          refine ⟨by rw [hsl]; simp; have := hc.1; omega, fun i hi => ?_, fun i hi => ?_⟩ <;> (rw [hsl] at hi; rw [spl_getD hoff'])
          · split
            · exact hc.2.1 _ (by omega)
            · exact h3 i hi
          · rw [hge]
            split
            · exact hc.2.2 _ (by omega)
            · exact h4 i hi
        obtain ⟨m1, m2⟩ := h.ml.store (Mem.look_mem hlook) _ (spl cs off v.parts) hnew.1 hnew.2.1 hnew.2.2
        have hrun : (execOp a.eval o).run P w = .ok .skip (w.setRow (ι id) (vals.toList.take off ++ (a.eval y).cells.toList ++ vals.toList.drop (off + v.parts.length)).toArray) := by
          have hne : ¬ (a.eval y).cells.size ≠ n := by rw [hc.1, hlen]; simp
          have e0 : off + 0 + (a.eval y).cells.toList.length = off + v.parts.length := by rw [hcl]; omega
          rw [e0, Nat.add_zero] at hst
          simp only [execOp, ho, hxe, Instr.storeAt, Instr.sureAddr, Sem.run_bind, Sem.run_pure, Result.andThen_ok, storeVar, hsz, if_neg hne, hst]
        unfold Oper.wp
        rw [hrun]
        exact ⟨.any, _, ι, ρ, undef, hk, rfl, h.step m1 m2, .any ..⟩
    · exact hs.elim
  · rename_i n ag id z i j hl hsx
    split at hs
    · rename_i e z' rows hlook
      obtain ⟨rfl, hi, hok, hcl0, hlen, hj, hk⟩ := hs
      obtain ⟨xs, hown, hrow⟩ := OR_row.1 (look_obj h hlook)
      have hc := parts_rel hv hok
      have hsz := (lay_spec (w := w) hl).2.1
      have hone : ∀ u ∈ (a.eval y).cells.toList, u.oneCell' = true := by
        intro u hu
        obtain ⟨k, hk, rfl⟩ := List.getElem_of_mem hu
        have hk' : k < v.parts.length := by have := hc.1; simp at hk; omega
        have := (hc.2.2 k hk').sc_one (hc.2.1 k hk')
        simpa [Array.getD, show k < (a.eval y).cells.size by simpa using hk] using this
      have hpc : V.clL v.parts = true := by
        cases v <;> first | exact hcl0 | (simp [V.parts, V.clL]; exact hcl0) | (simp [V.parts, V.clL, V.cl])
      unfold MR at hx
      generalize hxe : a.eval x = xv at hx
      cases hx with
      | rp _ _ _ _ b hid hb =>
        have hcl : (a.eval y).cells.toList.length = v.parts.length := by simpa using hc.1
        rcases hown.2 with ⟨h1, h2⟩ | ⟨g, cap, cur, h1, hb0, hg, hle, hcm, hcs, htk⟩
        · rw [h1] at hb; cases hb
        have hgb : g = b := by rw [h1] at hb; simpa [Value.ownBlock] using hb
        subst hgb
        have hbnd : (i + 1) * z' ≤ rows.length * z' := Nat.mul_le_mul_right _ hi
        have hcapz : rows.length * z' ≤ cap * z' := Nat.mul_le_mul_right _ hle
        rw [Nat.succ_mul] at hbnd
        have hst := run_storeCells_at P g (i * z' + j) e (a.eval y).cells.toList 0 cur w hg (by rw [hcl]; omega) hone
        have hnew : RowsR w (OO cx.X σ.mem ι ρ) ι ρ σ.nx z' (rows.set i (spl (rows.getD i []) j v.parts)) (xs.take (i * z' + j) ++ (a.eval y).cells.toList ++ xs.drop (i * z' + j + (a.eval y).cells.toList.length)) := by
          refine flat_upd hrow hi (by omega) hcl hc.2.1 fun k hk => ?_
          have := (hc.2.2 k hk).of_cl (V.clL_getD hpc k) true
          simpa [List.getD, Array.getD_eq_getD_getElem?] using this
        obtain ⟨m1, m2⟩ := h.ml.storeRow (Mem.look_mem hlook) (g := g) (by rw [h1]; rfl) (cur.toList.take (i * z' + j) ++ (a.eval y).cells.toList ++ cur.toList.drop (i * z' + j + (a.eval y).cells.toList.length)).toArray
          (rows' := rows.set i (spl (rows.getD i []) j v.parts)) (xs' := xs.take (i * z' + j) ++ (a.eval y).cells.toList ++ xs.drop (i * z' + j + (a.eval y).cells.toList.length)) (by
            rw [h1]
            refine ⟨hnew.1, .inr ⟨g, cap, _, by rw [List.length_set], Nat.zero_le _, setRow_heap w _ _ _ _ _ hg, by rw [List.length_set]; exact hle, hcm, ?_, ?_⟩⟩
            · simp only [List.size_toArray, List.length_append, List.length_take, List.length_drop, Array.length_toList]
              have hcz := hc.1
              rw [Nat.min_eq_left (show i * z' + j ≤ cur.size by omega)]; omega
            · have hxl := hown.1
              rw [List.length_set]
              rw [← htk]
              have hct : cur.toList.length = cap * z' := by rw [Array.length_toList, hcs]
              rw [← Array.length_toList] at hcs
              exact take_upd cur.toList (a.eval y).cells.toList (i * z' + j) (rows.length * z') (by rw [hcl]; omega) (by omega)) hnew
        have hrun : (execOp a.eval o).run P w = .ok .skip (w.setRow g (cur.toList.take (i * z' + j) ++ (a.eval y).cells.toList ++ cur.toList.drop (i * z' + j + (a.eval y).cells.toList.length)).toArray) := by
          have hne : ¬ (a.eval y).cells.size ≠ n := by rw [hc.1, hlen]; simp
          rw [Nat.add_zero] at hst
          simp only [execOp, ho, hxe, Instr.storeAt, Instr.sureAddr, Sem.run_bind, Sem.run_pure, Result.andThen_ok, storeVar, hsz, if_neg hne, hst]
        unfold Oper.wp
        rw [hrun]
        exact ⟨.any, _, ι, ρ, undef, hk, rfl, h.step m1 m2, .any ..⟩
    · exact hs.elim
  · exact hs.elim

theorem sound_makeFunc {f : FuncId} {first caps : Array Operand} (ho : o.op = .makeFunc (.func f) first caps) (h : SR cx σ ι ρ a w) (hg : g.getD true = true) (hs : stp P σ g (.makeFunc (.func f) first caps) K) : o.wp P a w (Nx cx o a K) Q := by
  simp only [stp] at hs
  obtain ⟨rfl, hs⟩ := hs
  obtain ⟨vs, hl, hr, hk⟩ := unL_run h hg hs
  refine nx_pure h (x := .func (.func f) #[] (caps.map a.eval)) (by simp [execOp, ho, Instr.makeFunc]) hk (.fn _ _ _ _ (by simp at hl; simp [hl]) fun i hi => ?_)
  have := hr i hi
  simpa [List.getD, Array.getD_eq_getD_getElem?, MR] using this

theorem sl_one {O : Nat → Prop} {nx : Nat} {c : Bool} {cs : List V} {b off n : Nat} {xs : Nat → Value} (hs : ∀ j, j < cs.length → (cs.getD j .any).sc = true)
    (hx : ∀ j, j < cs.length → w.cell? ⟨b, off + j, none⟩ = some (xs j) ∧ ¬ O b) (h : ∀ j, j < cs.length → Rel w O ι ρ nx true (cs.getD j .any) (xs j)) (hn : n = cs.length) (hm : n ≤ maxLen) :
    Rel w O ι ρ nx c (.sl 1 (cs.map fun v => [v])) (.slice (some ⟨b, off, none⟩) n n) := by
  have eg : ∀ i, i < cs.length → ((cs.map fun v => [v]).getD i []) = [cs.getD i .any] := fun i hi => by simp [List.getD, hi]
  refine .sl _ _ _ _ _ _ _ (fun i j => xs i) (by simpa using hn) (Nat.le_refl _) hm (fun i hi => ?_) (fun i j hi hj => ?_) (fun i j hi hj => ?_) (fun i j hi hj => ?_) <;> simp only [List.length_map] at hi
  · rw [eg i hi]; rfl
  · have : j = 0 := by omega
    subst this; rw [eg i hi]; simpa using hs i hi
  · have : j = 0 := by omega
    subst this; simpa using hx i hi
  · have : j = 0 := by omega
    subst this; rw [eg i hi]; simpa using h i hi

theorem Rel.sl_nil_or {O : Nat → Prop} {nx : Nat} {c : Bool} {esz : Nat} {rows : List (List V)} {x : Value} (h : Rel w O ι ρ nx c (.sl esz rows) x) :
    (x = .slice none 0 0 ∧ rows = []) ∨ ∃ b off cap, x = .slice (some ⟨b, off, none⟩) rows.length cap ∧ rows.length ≤ cap := by
  cases h with
  | slnil => exact .inl ⟨rfl, rfl⟩
  | sl _ _ _ b off len cap xs hl hc => subst hl; exact .inr ⟨b, off, cap, rfl, hc⟩

/-- A part of a slice. -/
theorem Rel.sl_part {O : Nat → Prop} {nx : Nat} {c : Bool} {esz : Nat} {rows : List (List V)} {b off cap cap' l h : Nat} (hl : l ≤ h) (hh : h ≤ rows.length) (hcap : h - l ≤ cap') (hm : cap' ≤ maxLen) (hr : Rel w O ι ρ nx c (.sl esz rows) (.slice (some ⟨b, off, none⟩) rows.length cap)) :
    Rel w O ι ρ nx c (.sl esz ((rows.take h).drop l)) (.slice (some ⟨b, off + l * esz, none⟩) (h - l) cap') := by
  cases hr with
  | sl _ _ _ _ _ _ _ xs _ hc _ hz hs hx hrr =>
    have eg : ∀ i, i < h - l → ((rows.take h).drop l).getD i [] = rows.getD (l + i) [] := fun i hi => by simp [List.getD, List.getElem?_take, show l + i < h by omega]
    have hlen : ((rows.take h).drop l).length = h - l := by simp; omega
    refine .sl _ _ _ _ _ _ _ (fun i j => xs (l + i) j) hlen.symm hcap hm (fun i hi => ?_) (fun i j hi hj => ?_) (fun i j hi hj => ?_) (fun i j hi hj => ?_) <;> rw [hlen] at hi
    · rw [eg i hi]; exact hz _ (by omega)
    · rw [eg i hi]; exact hs _ _ (by omega) hj
    · have := hx (l + i) j (by omega) hj
      have e : off + l * esz + (i * esz + j) = off + ((l + i) * esz + j) := by rw [Nat.add_mul]; omega
      rw [e]; exact this
    · rw [eg i hi]; exact hrr _ _ (by omega) hj

theorem Rel.sl_empty {O : Nat → Prop} {nx : Nat} {c : Bool} {esz b off cap : Nat} (hm : cap ≤ maxLen) : Rel w O ι ρ nx c (.sl esz []) (.slice (some ⟨b, off, none⟩) 0 cap) :=
  .sl _ _ _ _ _ _ _ (fun _ _ => undef) rfl (Nat.zero_le _) hm (by simp) (by simp) (by simp) (by simp)

theorem Rel.cap_le {O : Nat → Prop} {nx : Nat} {c : Bool} {esz : Nat} {rows : List (List V)} {ad : Addr} {len cap : Nat} (h : Rel w O ι ρ nx c (.sl esz rows) (.slice (some ad) len cap)) : cap ≤ maxLen := by
  cases h; assumption

/-- s[l:h], and what it stands for. -/
theorem run_slice_sl {O : Nat → Prop} {nx : Nat} {c : Bool} {T : TypeId} {e : TypeId} {z bytes : Nat} (hT : slT P T = some (e, z, bytes)) {rows : List (List V)} {x : Value} (hr : Rel w O ι ρ nx c (.sl z rows) x)
    (lo hi : Option Value) (l h : Nat) (hlo : (lo = none ∧ l = 0) ∨ ∃ k, lo = some (.int k l)) (hhi : (hi = none ∧ h = rows.length) ∨ ∃ k, hi = some (.int k h)) (hlh : l ≤ h) (hh : h ≤ rows.length) :
    ∃ y, (Instr.sliceAt T x lo hi none).run P w = .ok y w ∧ Rel w O ι ρ nx c (.sl z ((rows.take h).drop l)) y := by
  obtain ⟨hu, inf, hinf, hsz, -⟩ := slT_spec hT
  rcases hr.sl_nil_or with ⟨rfl, rfl⟩ | ⟨b, off, cap, rfl, hc⟩
  · have h0 : h = 0 := by simpa using hh
    have l0 : l = 0 := by omega
    subst h0; subst l0
    refine ⟨.slice none 0 0, ?_, by simpa using Rel.slnil c z⟩
    rcases hlo with ⟨rfl, -⟩ | ⟨k, rfl⟩ <;> rcases hhi with ⟨rfl, -⟩ | ⟨k', rfl⟩ <;>
      simp [Instr.sliceAt, Instr.slice, run_underlying hu, Instr.sliceBounds, Instr.sliceBound, asIntOf, sizeOf, typeInfo, hinf]
  · have hbr : (Instr.sliceBounds true rows.length cap lo hi none).run P w = .ok (l, h, cap) w := by
      rcases hlo with ⟨rfl, rfl⟩ | ⟨k, rfl⟩ <;> rcases hhi with ⟨rfl, rfl⟩ | ⟨k', rfl⟩
      · simp [Instr.sliceBounds]
      · have : (0 : Int) ≤ h ∧ (h : Int) ≤ cap := by omega
        simp [Instr.sliceBounds, Instr.sliceBound, asIntOf, this]
        omega
      · have : (0 : Int) ≤ l ∧ (l : Int) ≤ rows.length := by omega
        simp [Instr.sliceBounds, Instr.sliceBound, asIntOf, this]
        omega
      · simp [Instr.sliceBounds, Instr.sliceBound, asIntOf, show (h : Nat) ≤ cap by omega, hlh]
    refine ⟨.slice (if cap = l then some ⟨b, off, none⟩ else some ⟨b, off + l * z, none⟩) (h - l) (cap - l), ?_, ?_⟩
    · simp only [Instr.sliceAt, Instr.slice, run_underlying hu, Sem.run_bind, Result.andThen_ok, hbr, sizeOf, typeInfo, run_program, hinf, Sem.run_pure, hsz, Option.map_some, addr_add]
    · have hm := hr.cap_le
      by_cases hcl : cap = l
      · rw [if_pos hcl]
        have : h - l = 0 := by omega
        have hd : (rows.take h).drop l = [] := List.drop_eq_nil_of_le (by simp; omega)
        rw [hd, this]
        exact Rel.sl_empty (by omega)
      · rw [if_neg hcl]
        exact Rel.sl_part hlh hh (by omega) (by omega) hr

theorem sound_slice {T : TypeId} {x : Operand} {lo hi mx : Option Operand} (ho : o.op = .slice T x lo hi mx) (h : SR cx σ ι ρ a w) (hg : g.getD true = true) (hs : stp P σ g (.slice T x lo hi mx) K) : o.wp P a w (Nx cx o a K) Q := by
  cases mx with
  | some m =>
    cases lo with
    | some l => exact hs.elim
    | none =>
      cases hi with
      | none => exact hs.elim
      | some hh =>
        simp only [stp] at hs
        obtain ⟨vx, hx, hs1⟩ := un1 h hg hs
        obtain ⟨vh, hvh, hs2⟩ := un1 h hg hs1
        obtain ⟨vm, hvm, hs3⟩ := un1 h hg hs2
        clear hs hs1 hs2
        rename _ => hs
        split at hs
        · rename_i e c by' esz rows k1 n1 k2 n2 hT
          obtain ⟨rfl, rfl, h0, h1, hk⟩ := hs
          obtain ⟨hu, inf, hinf, hsz, -⟩ := slT_spec hT
          have e1 : a.eval hh = .int k1 n1 := hvh.int_inv
          have e2 : a.eval m = .int k2 n1 := hvm.int_inv
          obtain ⟨n, rfl⟩ := Int.eq_ofNat_of_zero_le h0
          have hn : n ≤ rows.length := by omega
          unfold MR at hx
          rcases hx.sl_nil_or with ⟨hx1, rfl⟩ | ⟨b, off, cap, hx1, hc⟩
          · have : n = 0 := by simpa using hn
            subst this
            refine nx_pure h (x := .slice none 0 0) ?_ hk (by simpa [MR] using Rel.slc false c [] none 0 (.slnil _ _))
            simp [execOp, ho, hx1, e1, e2, Instr.sliceAt, Instr.slice, run_underlying hu, Instr.sliceBounds, Instr.sliceBound, asIntOf, sizeOf, typeInfo, hinf]
          · have hbr : (Instr.sliceBounds true rows.length cap none (some (.int k1 n)) (some (.int k2 n))).run P w = .ok (0, n, n) w := by
              have : (n : Int) ≤ cap := by omega
              simp [Instr.sliceBounds, Instr.sliceBound, asIntOf, this, show n ≤ cap by omega]
            have hp := Rel.sl_part (l := 0) (h := n) (cap' := n) (Nat.zero_le _) hn (by omega) (by rw [hx1] at hx; have := hx.cap_le; omega) (by rw [hx1] at hx; exact hx)
            simp only [Nat.zero_mul, Nat.add_zero, Nat.sub_zero, List.drop_zero] at hp
            refine nx_pure h (x := .slice (some ⟨b, off, none⟩) n n) ?_ hk (.slc _ _ _ _ _ (by simpa using hp))
            simp only [execOp, ho, hx1, e1, e2, Option.map_none, Option.map_some, Instr.sliceAt, Instr.slice, run_underlying hu, Sem.run_bind, Result.andThen_ok, hbr, sizeOf, typeInfo, run_program, hinf, Sem.run_pure, hsz, addr_add]
            simp
        · exact hs.elim
  | none =>
  simp only [stp] at hs
  obtain ⟨vx, hx, hs⟩ := un1 h hg hs
  split at hs
  · rename_i id n e' c har
    split at hs
    · rename_i cs hlook
      obtain ⟨hgn, hlo, hhi, rfl, hcs, hcl, hmx, hk⟩ := hs
      obtain ⟨hu, inf, hinf, hsz⟩ := arT_spec har
      have hlo' : lo = none := by simpa using hlo
      have hhi' : hi = none := by simpa using hhi
      subst hlo'; subst hhi'
      have hfz := h.fz (o := .cells cs) hlook hcl
      have hx' := Rel.fz (o := .cells cs) h.ml (Mem.look_mem hlook) hcl hx
      simp only [V.fz, if_true] at hx'
      generalize hxe : a.eval x = xv at hx hx'
      cases hx with
      | ptr _ _ hid =>
        refine wp_val (x := .slice (some ⟨ι id, 0, none⟩) n n) (w' := w) ?_ ⟨_, _, ι, ρ, _, hk, rfl, hfz, ?_⟩
        · simp [execOp, ho, hxe, Instr.sliceAt, run_underlying hu, Instr.sureAddr, Instr.sliceBounds, sizeOf, typeInfo, hinf, addr_add]
        · cases hx' with
          | ep _ _ _ _ xs hs' hxx hrr =>
            simp only [List.drop_zero] at hs' hxx hrr
            exact sl_one hs' hxx hrr (by simpa using hcs.symm) hmx
    · exact hs.elim
  · rename_i es n e' c har
    obtain ⟨hlo, hhi, rfl, hcs, hmx, hk⟩ := hs
    obtain ⟨hu, inf, hinf, hsz⟩ := arT_spec har
    have hlo' : lo = none := by simpa using hlo
    have hhi' : hi = none := by simpa using hhi
    subst hlo'; subst hhi'
    unfold MR at hx
    generalize hxe : a.eval x = xv at hx
    cases hx with
    | ep _ _ b off xs hs' hxx hrr =>
      refine nx_pure h (x := .slice (some ⟨b, off, none⟩) n n) ?_ hk (sl_one hs' hxx hrr hcs.symm hmx)
      simp [execOp, ho, hxe, Instr.sliceAt, run_underlying hu, Instr.sureAddr, Instr.sliceBounds, sizeOf, typeInfo, hinf, addr_add]
  · have hget : ∀ (op : Option Operand) (k : IntKind) (n : Int), op.map σ.get = some (.int k n) → op.map a.eval = some (.int k n) := by
      intro op k n e
      cases op with
      | none => cases e
      | some y =>
        have := h.get y
        simp only [Option.map_some, Option.some.injEq] at e
        rw [e] at this
        simp [this.int_inv]
    have hnone : ∀ (op : Option Operand), op.map σ.get = none → op.map a.eval = none := by
      intro op e; cases op with
      | none => rfl
      | some y => cases e
    unfold sliV at hs
    split at hs
    · rename_i e z by' esz rows hT hlo hhi _ _
      obtain ⟨rfl, hk⟩ := hs
      obtain ⟨y, h1, h2⟩ := run_slice_sl hT hx (lo.map a.eval) (hi.map a.eval) 0 rows.length (.inl ⟨hnone _ hlo, rfl⟩) (.inl ⟨hnone _ hhi, rfl⟩) (Nat.zero_le _) (Nat.le_refl _)
      exact nx_pure h (x := y) (by simp [execOp, ho, h1]) hk (by simpa [MR] using h2)
    · rename_i e z by' esz rows k l hT hlo hhi _ _
      obtain ⟨rfl, h0, h1', hk⟩ := hs
      obtain ⟨y, h1, h2⟩ := run_slice_sl hT hx (lo.map a.eval) (hi.map a.eval) l.toNat rows.length (.inr ⟨k, by rw [hget _ _ _ hlo, Int.toNat_of_nonneg h0]⟩) (.inl ⟨hnone _ hhi, rfl⟩) (by omega) (Nat.le_refl _)
      exact nx_pure h (x := y) (by simp [execOp, ho, h1]) hk (by simpa [MR] using h2)
    · rename_i e z by' esz rows k l hT hlo hhi _ _
      obtain ⟨rfl, h0, h1', hk⟩ := hs
      obtain ⟨y, h1, h2⟩ := run_slice_sl hT hx (lo.map a.eval) (hi.map a.eval) 0 l.toNat (.inl ⟨hnone _ hlo, rfl⟩) (.inr ⟨k, by rw [hget _ _ _ hhi, Int.toNat_of_nonneg h0]⟩) (by omega) (by omega)
      exact nx_pure h (x := y) (by simp [execOp, ho, h1]) hk (by simpa [MR] using h2)
    · rename_i e z by' esz rows k l k' l' hT hlo hhi _ _
      obtain ⟨rfl, h0, h1', h2', hk⟩ := hs
      obtain ⟨y, h1, h2⟩ := run_slice_sl hT hx (lo.map a.eval) (hi.map a.eval) l.toNat l'.toNat (.inr ⟨k, by rw [hget _ _ _ hlo, Int.toNat_of_nonneg h0]⟩) (.inr ⟨k', by rw [hget _ _ _ hhi, Int.toNat_of_nonneg (by omega)]⟩) (by omega) (by omega)
      exact nx_pure h (x := y) (by simp [execOp, ho, h1]) hk h2
    · exact hs.elim

end
end Go.Proofs.Ytcphhbiehaimeaa
