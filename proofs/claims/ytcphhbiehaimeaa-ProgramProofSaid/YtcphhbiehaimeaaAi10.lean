/- The step is sound: all operations. -/
import Derived.Test.YtcphhbiehaimeaaAi9
namespace Go.Proofs.Ytcphhbiehaimeaa
open Go.RowKit
set_option linter.unusedVariables false
set_option linter.unusedSimpArgs false

section
variable {P : Program} {cx : Cx} {σ : St} {ι : Nat → Nat} {ρ : Nat → Value} {a : Act} {w : World} {K : V → St → Prop} {Q : Exit → Act → World → Prop} {o : Oper} {g : Option Bool}

theorem un1 (h : SR cx σ ι ρ a w) (hg : g.getD true = true) {x : Operand} {K : V → Prop} (hu : un g (σ.get x) K) : ∃ v, MR cx σ.mem σ.nx ι ρ w v (a.eval x) ∧ K v := un_sound hg hu (h.get x)

theorem sound_move {x : Operand} (ho : o.op = .move x) (h : SR cx σ ι ρ a w) (hg : g.getD true = true) (hs : un g (σ.get x) fun v => K v σ) : o.wp P a w (Nx cx o a K) Q := by
  obtain ⟨v, hr, hk⟩ := un1 h hg hs
  exact nx_pure h (x := a.eval x) (by simp [execOp, ho]) hk hr
theorem sound_assign {x : Operand} (ho : o.op = .assign x) (h : SR cx σ ι ρ a w) (hg : g.getD true = true) (hs : un g (σ.get x) fun v => K v σ) : o.wp P a w (Nx cx o a K) Q := by
  obtain ⟨v, hr, hk⟩ := un1 h hg hs
  exact nx_pure h (x := a.eval x) (by simp [execOp, ho]) hk hr

theorem sound_pick {c x y : Operand} (ho : o.op = .pick c x y) (h : SR cx σ ι ρ a w) (hg : g.getD true = true) (hs : stp P σ g (.pick c x y) K) : o.wp P a w (Nx cx o a K) Q := by
  simp only [stp] at hs
  obtain ⟨vc, hrc, hs⟩ := un1 h hg hs
  split at hs
  · rename_i t
    obtain ⟨va, hs, hra⟩ := un_sound' hs (h.get x)
    obtain ⟨vb, hs, hrb⟩ := un_sound' hs (h.get y)
    obtain ⟨v, hr, hk⟩ := pickV_sound hs (x := a.eval x) (y := a.eval y) (fun ht => hra (by simp [hg, ht])) (fun ht => hrb (by simp [hg, ht]))
    refine nx_pure h (x := if t then a.eval x else a.eval y) ?_ hk hr
    have hc := hrc.bool_inv
    simp [execOp, ho, hc, asBool]
  · exact hs.elim

theorem run_zero {t : TypeId} {i : TypeInfo} {z : Value} (hi : P.info? t = some i) (hz : i.zero = some z) : (zeroValue t).run P w = .ok z w := by simp [zeroValue, typeInfo, hi, hz]

theorem sound_alloc {T : TypeId} (ho : o.op = .alloc T) (h : SR cx σ ι ρ a w) (hs : stp P σ g (.alloc T) K) : o.wp P a w (Nx cx o a K) Q := by
  simp only [stp] at hs
  obtain ⟨hgn, hs⟩ := hs
  split at hs
  · rename_i cs hz
    obtain ⟨i, z, hi, hzz, hc⟩ := CellsR.zero (w := w) (O := OO cx.X σ.mem ι ρ) (ι := ι) (ρ := ρ) (nx := σ.nx) false hz hs.1
    obtain ⟨h1, h2⟩ := h.ml.newVar z.cells T cs hc.1 hc.2.1 hc.2.2
    refine nx_new h (x := .pointer (some ⟨w.heap.size, 0, none⟩)) ?_ h1 h2 hs.2 ?_
    · simp [execOp, ho, Instr.alloc, run_zero hi hzz, newVar, newRow]
    · have := Rel.ptr (w := w.alloc (.cells z.cells T)) (O := OO cx.X ((σ.nx, .cells cs) :: σ.mem) (fun id => if id = σ.nx then w.heap.size else ι id) ρ) (ι := fun id => if id = σ.nx then w.heap.size else ι id) (ρ := ρ) (nx := σ.nx + 1) σ.nx 0 (by omega)
      simpa [MR] using this
  · exact hs.elim

theorem sound_box {T : TypeId} {x : Operand} (ho : o.op = .box T x) (h : SR cx σ ι ρ a w) (hg : g.getD true = true) (hs : stp P σ g (.box T x) K) : o.wp P a w (Nx cx o a K) Q := by
  simp only [stp] at hs
  obtain ⟨hgn, hs⟩ := hs
  obtain ⟨v, hr, hok, hk⟩ := un1 h hg hs
  have hc := parts_rel hr hok
  obtain ⟨h1, h2⟩ := h.ml.newVar (a.eval x).cells T v.parts hc.1 hc.2.1 hc.2.2
  refine nx_new h (x := .pointer (some ⟨w.heap.size, 0, none⟩)) ?_ h1 h2 hk ?_
  · simp [execOp, ho, Instr.box, newVar, newRow]
  · have := Rel.ptr (w := w.alloc (.cells (a.eval x).cells T)) (O := OO cx.X ((σ.nx, .cells v.parts) :: σ.mem) (fun id => if id = σ.nx then w.heap.size else ι id) ρ) (ι := fun id => if id = σ.nx then w.heap.size else ι id) (ρ := ρ) (nx := σ.nx + 1) σ.nx 0 (by omega)
    simpa [MR] using this

theorem zip_rel {ps : List (Nat × Operand)} {vs : List V} (hl : vs.length = (ps.map (·.2)).length) (hr : ∀ i, i < vs.length → MR cx σ.mem σ.nx ι ρ w (vs.getD i .any) (((ps.map (·.2)).map a.eval).getD i undef)) :
    ∀ i, i < ((ps.map (·.1)).zip vs).length → ((ps.map fun ((i, x) : Nat × Operand) => (i, a.eval x)).getD i default).1 = (((ps.map (·.1)).zip vs).getD i default).1 ∧
      Rel w (OO cx.X σ.mem ι ρ) ι ρ σ.nx false (((ps.map (·.1)).zip vs).getD i default).2 ((ps.map fun ((i, x) : Nat × Operand) => (i, a.eval x)).getD i default).2 := by
  intro i hi
  have h1 : i < ps.length := by simp at hi; omega
  have h2 : i < vs.length := by simp at hi; omega
  have := hr i h2
  simp only [List.getD, List.getElem?_map, List.getElem?_eq_getElem h1, List.getElem?_eq_getElem h2, Option.map_some, Option.getD_some] at this
  have e1 : ((ps.map (·.1)).zip vs)[i]? = some (ps[i].1, vs[i]) := by simp [List.getElem?_zip_eq_some, h1, h2]
  simp only [List.getD, e1, List.getElem?_map, List.getElem?_eq_getElem h1, Option.map_some, Option.getD_some]
  exact ⟨trivial, this⟩

theorem sound_build {T : TypeId} {ps : Array (Nat × Operand)} (ho : o.op = .build T ps) (h : SR cx σ ι ρ a w) (hg : g.getD true = true) (hs : stp P σ g (.build T ps) K) : o.wp P a w (Nx cx o a K) Q := by
  simp only [stp] at hs
  rw [show (ps.toList.map fun p => σ.get p.2) = (ps.toList.map (·.2)).map σ.get by simp [List.map_map, Function.comp_def]] at hs
  obtain ⟨vs, hl, hr, hs⟩ := unL_run h hg hs
  have hz := zip_rel (cx := cx) (σ := σ) (ι := ι) (ρ := ρ) (a := a) (w := w) hl hr
  obtain ⟨v, x, h1, h2, h3⟩ := buildV_sound (w := w) (O := OO cx.X σ.mem ι ρ) (ι := ι) (ρ := ρ) (nx := σ.nx) (c := false) (xs := ps.map fun ((i, x) : Nat × Operand) => (i, a.eval x)) hs (by simp at hl; simp [hl]) (fun i hi => by simpa using hz i hi)
  refine nx_pure h (x := x) ?_ h3 h2
  simp [execOp, ho, h1]

theorem sound_buildSlice {T : TypeId} {len : Nat} {ps : Array (Nat × Operand)} (ho : o.op = .buildSlice T len ps) (h : SR cx σ ι ρ a w) (hg : g.getD true = true) (hs : stp P σ g (.buildSlice T len ps) K) : o.wp P a w (Nx cx o a K) Q := by
  simp only [stp] at hs
  split at hs
  · rename_i e z by' hsl
    obtain ⟨hu, inf, hinf, hsz, hby⟩ := slT_spec hsl
    split at hs
    · rename_i zs hz
      obtain ⟨hsc, hcl, hzl, hz0, hroom, hs⟩ := hs
      obtain ⟨i, zv, hi, hzz, hc⟩ := CellsR.zero (w := w) (O := OO cx.X σ.mem ι ρ) (ι := ι) (ρ := ρ) (nx := σ.nx) false hz hsc
      rw [show (ps.toList.map fun p => σ.get p.2) = (ps.toList.map (·.2)).map σ.get by simp [List.map_map, Function.comp_def]] at hs
      obtain ⟨vs, hl, hr, hs⟩ := unL_run h hg hs
      have hzz' := zip_rel (cx := cx) (σ := σ) (ι := ι) (ρ := ρ) (a := a) (w := w) hl hr
      have hsize : zv.cells.size = z := by rw [hc.1, hzl]
      have hbase : RowsR w (OO cx.X σ.mem ι ρ) ι ρ σ.nx z (List.replicate len zs) ((Array.range (len * z)).map (zv.cells[· % zv.cells.size]!)).toList := by
        have eg : ∀ i, i < len → (List.replicate len zs).getD i [] = zs := fun i hi => by simp [List.getD, hi]
        refine ⟨by simp, fun i hi => ?_, fun i j hi hj => ?_, fun i j hi hj => ?_⟩ <;> (simp at hi; rw [eg i hi])
        · exact hzl
        · exact hc.2.1 j (by omega)
        · have hk := cellIdx hi hj
          have e2 : (i * z + j) % z = j := by rw [Nat.mul_comm, Nat.mul_add_mod, Nat.mod_eq_of_lt hj]
          have := ((hc.2.2 j (by omega)).of_cl (V.clL_getD hcl j) true)
          have hj' : j < zv.cells.size := by omega
          have e3 : ((Array.range (len * z)).map (zv.cells[· % zv.cells.size]!)).toList.getD (i * z + j) undef = zv.cells.getD j undef := by
            have e4 : zv.cells[j]! = zv.cells[j] := getElem!_pos zv.cells j hj'
            have e5 : zv.cells.getD j undef = zv.cells[j] := by unfold Array.getD; rw [dif_pos hj']; rfl
            rw [e5, ← e4]; simp [List.getD, hk, hsize, e2]
          rw [e3]; exact this
      obtain ⟨vs', rows', h1, h2, h3, h4⟩ := rowsV_sound (xs := (ps.toList.map fun ((i, x) : Nat × Operand) => (i, a.eval x))) hs hbase (by simp at hl; simp [hl]) hzz'
      have hcs : vs'.size = len * z := by have := h2.1; rw [h3] at this; simpa using this
      have hlen : rows'.length = len := by rw [h3]; simp
      have hrow : (w.alloc (.cells vs' e)).ownsRow 0 e z (.slice (some ⟨w.heap.size, 0, none⟩) len len) rows'.length vs'.toList := by
        have h1 : len * 1 ≤ len * z := Nat.mul_le_mul_left _ hz0
        refine ⟨by simp [hcs, hlen], .inr ⟨w.heap.size, len, vs', by rw [hlen], by omega, heap_alloc_new w _, by omega, by simp only [maxLen]; omega, hcs, ?_⟩⟩
        rw [hlen]; exact List.take_of_length_le (by simp [hcs])
      have hrun : (execOp a.eval o).run P w = .ok (.value (.slice (some ⟨w.heap.size, 0, none⟩) len len)) (w.alloc (.cells vs' e)) := by
        have hn0 : ¬ len * z > 2 ^ 24 := by omega
        have hps : (ps.map fun ((i, x) : Nat × Operand) => (i, a.eval x)).toList = ps.toList.map fun ((i, x) : Nat × Operand) => (i, a.eval x) := by simp
        simp only [execOp, ho, Instr.buildSlice]
        simp only [Sem.run_bind, run_underlying hu, Result.andThen_ok, sizeOf, typeInfo, run_program, hinf, Sem.run_pure, hsz, if_neg hn0]
        by_cases h0 : len * z = 0
        · have hf : Instr.fill (fun i => some (i * z, z)) #[] (ps.toList.map fun ((i, x) : Nat × Operand) => (i, a.eval x)) = some vs' := by rw [← h1, h0, show Array.range 0 = #[] from rfl, Array.map_empty]
          simp only [h0, if_true, Sem.run_bind, Sem.run_pure, Result.andThen_ok, show Array.range 0 = #[] from rfl, Array.map_empty]
          rw [hps, hf]
          simp [newRow]
        · simp only [h0, if_false, Sem.run_bind, run_zero hi hzz, Sem.run_pure, Result.andThen_ok]
          rw [hps]
          rw [h1]
          simp [newRow]
      rcases h4 with ⟨-, h4⟩ | h4 | h4
      · obtain ⟨m1, m2⟩ := h.ml.new vs' e (fun id => ι id) (fun id => if id = σ.nx then .slice (some ⟨w.heap.size, 0, none⟩) len len else ρ id) (fun id hid => ⟨rfl, if_neg (by omega)⟩) (.row e z rows')
          (fun b hb => by simpa [blk, Value.ownBlock, eq_comm] using hb) fun O hO hk => OR_row.2 ⟨vs'.toList, by simpa using hrow, h2.mono hk⟩
        · refine nx_new h (x := .slice (some ⟨w.heap.size, 0, none⟩) len len) hrun m1 m2 h4 ?_
          · have := Rel.own (w := w.alloc (.cells vs' e)) (O := OO cx.X ((σ.nx, .row e z rows') :: σ.mem) (fun id => ι id) (fun id => if id = σ.nx then .slice (some ⟨w.heap.size, 0, none⟩) len len else ρ id)) (ι := fun id => ι id)
              (ρ := fun id => if id = σ.nx then .slice (some ⟨w.heap.size, 0, none⟩) len len else ρ id) (nx := σ.nx + 1) σ.nx (by omega) (by simp [Value.oneCell'])
            simpa [MR] using this
      · obtain ⟨m1, m2⟩ := h.ml.below ((Below.refl w.heap.size w).alloc (Nat.le_refl _) (.cells vs' e))
        refine nx_new h (x := .slice (some ⟨w.heap.size, 0, none⟩) len len) hrun m1 m2 h4 ?_
        have h5 := h2.mono m2
        have hnew : (w.alloc (.cells vs' e)).heap[w.heap.size]? = some (.cells vs' e (0, 0)) := heap_alloc_new w _
        refine .sl false z rows' w.heap.size 0 len len (fun i j => vs'.toList.getD (i * z + j) undef) hlen.symm (Nat.le_refl _) (by
          have h1 : len * 1 ≤ len * z := Nat.mul_le_mul_left _ hz0
          simp only [maxLen]; omega) h5.2.1 h5.2.2.1 (fun i j hi hj => ⟨?_, fun hO => ?_⟩) h5.2.2.2
        · have hk := cellIdx hi hj
          rw [hlen] at hk
          have hk' : i * z + j < vs'.size := by omega
          unfold World.cell?
          simp only [hnew, Option.isSome_none, Bool.false_eq_true, if_false, Nat.zero_add]
          simp [List.getD, hk']
        · rcases hO with hx | ⟨q, hq, hb⟩
          · have := h.ml.xlt _ hx
            have := h.ml.size
            omega
          · have := (h.ml.own q hq _ hb).1
            omega
      · obtain ⟨m1, m2⟩ := h.ml.below ((Below.refl w.heap.size w).alloc (Nat.le_refl _) (.cells vs' e))
        refine nx_new h (x := .slice (some ⟨w.heap.size, 0, none⟩) len len) hrun m1 m2 h4 ?_
        have h5 := h2.mono m2
        have hnew : (w.alloc (.cells vs' e)).heap[w.heap.size]? = some (.cells vs' e (0, 0)) := heap_alloc_new w _
        refine .slc _ _ _ _ _ ?_
        refine .sl false z rows' w.heap.size 0 len len (fun i j => vs'.toList.getD (i * z + j) undef) hlen.symm (Nat.le_refl _) (by
          have h1 : len * 1 ≤ len * z := Nat.mul_le_mul_left _ hz0
          simp only [maxLen]; omega) h5.2.1 h5.2.2.1 (fun i j hi hj => ⟨?_, fun hO => ?_⟩) h5.2.2.2
        · have hk := cellIdx hi hj
          rw [hlen] at hk
          have hk' : i * z + j < vs'.size := by omega
          unfold World.cell?
          simp only [hnew, Option.isSome_none, Bool.false_eq_true, if_false, Nat.zero_add]
          simp [List.getD, hk']
        · rcases hO with hx | ⟨q, hq, hb⟩
          · have := h.ml.xlt _ hx
            have := h.ml.size
            omega
          · have := (h.ml.own q hq _ hb).1
            omega
    · exact hs.elim
  · exact hs.elim

theorem sound_load {T : TypeId} {x : Operand} (ho : o.op = .load T x) (h : SR cx σ ι ρ a w) (hg : g.getD true = true) (hs : stp P σ g (.load T x) K) : o.wp P a w (Nx cx o a K) Q := by
  simp only [stp] at hs
  obtain ⟨v, hr, hs⟩ := un1 h hg hs
  obtain ⟨v', y, h1, h2, h3⟩ := loadV_sound h.ml hs hr
  exact nx_pure h (x := y) (by simp [execOp, ho, h1]) h3 h2

theorem sound_binOp {op : BinOp} {T u : TypeId} {x y : Operand} (ho : o.op = .binOp op T x y u) (h : SR cx σ ι ρ a w) (hg : g.getD true = true) (hs : stp P σ g (.binOp op T x y u) K) : o.wp P a w (Nx cx o a K) Q := by
  simp only [stp] at hs
  obtain ⟨vx, hx, hs⟩ := un1 h hg hs
  obtain ⟨vy, hy, hs⟩ := un1 h hg hs
  obtain ⟨v, z, h1, h2, h3⟩ := binV_sound (ox := x) (oy := y) hs hx hy
  refine nx_pure h (x := z) ?_ h3 h2
  simp only [Sem.run_bind] at h1
  simp only [execOp, ho, Sem.run_bind]
  cases hq : Sem.run P (eqGuard op T x y (a.eval x) (a.eval y)) w with
  | ok u w1 => rw [hq] at h1; simp only [Result.andThen_ok] at h1 ⊢; rw [h1]; rfl
  | halt e w1 => rw [hq] at h1; cases h1

theorem sound_unOp {op : UnOp} {T : TypeId} {x : Operand} (ho : o.op = .unOp op T x) (h : SR cx σ ι ρ a w) (hg : g.getD true = true) (hs : stp P σ g (.unOp op T x) K) : o.wp P a w (Nx cx o a K) Q := by
  simp only [stp] at hs
  obtain ⟨vx, hx, hs⟩ := un1 h hg hs
  unfold unV at hs
  split at hs
  · have e := hx.int_inv; exact nx_pure h (by simp [execOp, ho, e, Op.unary, Op.intArith]) hs (.int ..)
  · have e := hx.bool_inv; exact nx_pure h (by simp [execOp, ho, e, Op.unary]) hs (.bool ..)
  · exact hs.elim

theorem intT_spec {t : TypeId} {k : IntKind} (h : intT P t = some k) : P.underlying t = some (.int k) := by
  unfold intT at h; split at h <;> simp_all

theorem sound_convert {T U : TypeId} {x : Operand} (ho : o.op = .convert T U x) (h : SR cx σ ι ρ a w) (hg : g.getD true = true) (hs : stp P σ g (.convert T U x) K) : o.wp P a w (Nx cx o a K) Q := by
  simp only [stp] at hs
  obtain ⟨vx, hx, hs⟩ := un1 h hg hs
  split at hs
  · rename_i k0 k k' n h1 h2
    have e := hx.int_inv
    exact nx_pure h (by simp [execOp, ho, e, convert, run_underlying (intT_spec h1), run_underlying (intT_spec h2), Conv.intToInt]) hs (.int ..)
  · exact hs.elim

end
end Go.Proofs.Ytcphhbiehaimeaa
