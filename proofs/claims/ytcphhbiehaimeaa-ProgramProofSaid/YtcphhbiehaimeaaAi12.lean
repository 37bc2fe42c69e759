/- The step is sound: the last operations, and all in one. -/
import Derived.Test.YtcphhbiehaimeaaAi11
import Derived.Laws.MakeOwn
namespace Go.Proofs.Ytcphhbiehaimeaa
open Go.RowKit
set_option linter.unusedVariables false
set_option linter.unusedSimpArgs false

section
variable {P : Program} {cx : Cx} {σ : St} {ι : Nat → Nat} {ρ : Nat → Value} {a : Act} {w : World} {K : V → St → Prop} {Q : Exit → Act → World → Prop} {o : Oper} {g : Option Bool}

theorem sound_fieldAddr {T : TypeId} {x : Operand} {f : Nat} (ho : o.op = .fieldAddr T x f) (h : SR cx σ ι ρ a w) (hg : g.getD true = true) (hs : stp P σ g (.fieldAddr T x f) K) : o.wp P a w (Nx cx o a K) Q := by
  simp only [stp] at hs
  obtain ⟨vx, hx, hs⟩ := un1 h hg hs
  obtain ⟨v, z, h1, h2, h3⟩ := fldV_sound hs hx
  exact nx_pure h (x := z) (by simp [execOp, ho, h1]) h3 h2

theorem sound_indexAddr {T : TypeId} {x i : Operand} (ho : o.op = .indexAddr T x i) (h : SR cx σ ι ρ a w) (hg : g.getD true = true) (hs : stp P σ g (.indexAddr T x i) K) : o.wp P a w (Nx cx o a K) Q := by
  simp only [stp] at hs
  obtain ⟨vx, hx, hs⟩ := un1 h hg hs
  obtain ⟨vi, hi, hs⟩ := un1 h hg hs
  obtain ⟨v, z, h1, h2, h3⟩ := idxV_sound h.ml (idxV_shp hs) hx hi
  exact nx_pure h (x := z) (by simp [execOp, ho, h1]) h3 h2

theorem Rel.agg_shape {O : Nat → Prop} {nx : Nat} {c : Bool} {cs : List V} {x : Value} (h : Rel w O ι ρ nx c (.agg cs) x) : ∃ vs, x = .agg vs := by cases h; exact ⟨_, rfl⟩

theorem partV_sound {O : Nat → Prop} {nx : Nat} {c : Bool} {t : TypeId} {off : Nat} {v : V} {x : Value} {K : V → Prop} (h : partV (lay P t) off v K) (hr : Rel w O ι ρ nx c v x) :
    ∃ vs v' z, x = .agg vs ∧ (part t vs off).run P w = .ok z w ∧ Rel w O ι ρ nx c v' z ∧ K v' := by
  unfold partV at h
  split at h
  · rename_i n ag cs hl
    obtain ⟨vs, rfl⟩ := hr.agg_shape
    obtain ⟨z, h1, h2⟩ := run_part hl h.1 hr
    exact ⟨vs, _, z, rfl, h1, h2, h.2⟩
  · exact h.elim

theorem sound_field {T : TypeId} {x : Operand} {f : Nat} (ho : o.op = .field T x f) (h : SR cx σ ι ρ a w) (hg : g.getD true = true) (hs : stp P σ g (.field T x f) K) : o.wp P a w (Nx cx o a K) Q := by
  simp only [stp] at hs
  obtain ⟨vx, hx, hs⟩ := un1 h hg hs
  split at hs
  · rename_i off c ag hst
    obtain ⟨fs, fd, hu, hf, hoff, hl⟩ := stT_spec hst
    rw [← hl] at hs
    obtain ⟨vs, v', z, e, h1, h2, h3⟩ := partV_sound hs hx
    refine nx_pure h (x := z) ?_ h3 h2
    simp [execOp, ho, e, Instr.field, run_underlying hu, hf, asAgg, hoff, h1]
  · exact hs.elim

theorem sound_index {T : TypeId} {x i : Operand} (ho : o.op = .index T x i) (h : SR cx σ ι ρ a w) (hg : g.getD true = true) (hs : stp P σ g (.index T x i) K) : o.wp P a w (Nx cx o a K) Q := by
  simp only [stp] at hs
  obtain ⟨vx, hx, hs⟩ := un1 h hg hs
  obtain ⟨vi, hi, hs⟩ := un1 h hg hs
  split at hs
  · rename_i len e c k n har
    obtain ⟨hu, inf, hinf, hsz⟩ := arT_spec har
    obtain ⟨h0, h1', hs⟩ := hs
    obtain ⟨vs, v', z, e', h1, h2, h3⟩ := partV_sound hs hx
    have ei := hi.int_inv
    refine nx_pure h (x := z) ?_ h3 h2
    simp [execOp, ho, e', ei, Instr.index, asIntOf, run_underlying hu, h0, h1', sizeOf, typeInfo, hinf, hsz, h1]
  · exact hs.elim

theorem sound_extract {x : Operand} {i : Nat} (ho : o.op = .extract x i) (h : SR cx σ ι ρ a w) (hg : g.getD true = true) (hs : stp P σ g (.extract x i) K) : o.wp P a w (Nx cx o a K) Q := by
  simp only [stp] at hs
  obtain ⟨vx, hx, hs⟩ := un1 h hg hs
  split at hs
  · rename_i ts
    unfold MR at hx
    generalize hxe : a.eval x = xv at hx
    cases hx with
    | tup _ _ vs hl hr =>
      have hi : i < vs.size := by rw [hl]; exact hs.1
      refine nx_pure h (x := vs.getD i undef) ?_ hs.2 (hr i hs.1)
      simp [execOp, ho, hxe, Instr.extract, hi, Array.getD]
  · exact hs.elim

theorem list1 {α : Type} {xs : Array α} {x : α} (h : xs.toList = [x]) : xs = #[x] := by apply Array.toList_inj.1; simpa using h
theorem list2 {α : Type} {xs : Array α} {x y : α} (h : xs.toList = [x, y]) : xs = #[x, y] := by apply Array.toList_inj.1; simpa using h

theorem sound_len {args : Array Operand} {ts : Array TypeId} (ho : o.op = .call { callee := .builtin .len, args := args, argTypes := ts }) (h : SR cx σ ι ρ a w) (hg : g.getD true = true)
    (hs : stp P σ g (.call { callee := .builtin .len, args := args, argTypes := ts }) K) : o.wp P a w (Nx cx o a K) Q := by
  simp only [stp] at hs
  split at hs
  · rename_i x t hx1 ht1
    obtain ⟨vx, hx, hs⟩ := un1 h hg hs
    have e1 := list1 hx1
    have e2 := list1 ht1
    subst e1; subst e2
    replace hs := lenV_shp hs
    unfold lenV at hs
    split at hs
    · rename_i q _ _ esz rows hT
      obtain ⟨hu, -⟩ := slT_spec hT
      rcases hx.sl_nil_or with ⟨e, rfl⟩ | ⟨b, off, cap, e, -⟩
      · exact nx_pure h (x := .int .i64 0) (by simp [execOp, ho, resolve, invoke, builtin, Builtin.len_, e, run_underlying hu, goInt]) hs (by simpa [MR] using Rel.int (w := w) (O := OO cx.X σ.mem ι ρ) (ι := ι) (ρ := ρ) (nx := σ.nx) false .i64 0)
      · exact nx_pure h (x := .int .i64 rows.length) (by simp [execOp, ho, resolve, invoke, builtin, Builtin.len_, e, run_underlying hu, goInt]) hs (.int ..)
    · rename_i q _ _ hT
      obtain ⟨hu, -⟩ := slT_spec hT
      have e : a.eval x = .slice none 0 0 := by unfold MR at hx; generalize a.eval x = y at hx ⊢; cases hx; rfl
      exact nx_pure h (x := .int .i64 0) (by simp [execOp, ho, resolve, invoke, builtin, Builtin.len_, e, run_underlying hu, goInt]) hs (.int ..)
    · rename_i q _ _ id hT
      obtain ⟨hu, -⟩ := slT_spec hT
      split at hs
      · rename_i e' z rows hl
        obtain ⟨xs, h1, h2⟩ := OR_row.1 (look_obj h hl)
        unfold MR at hx
        generalize hxe : a.eval x = y at hx
        cases hx with
        | own _ hid h1' =>
          refine nx_pure h (x := .int .i64 rows.length) ?_ hs (.int ..)
          rcases h1.2 with hn | ⟨g', cap, cur, hv, -⟩
          · rw [hn.1] at hxe
            simp [execOp, ho, resolve, invoke, builtin, Builtin.len_, hxe, run_underlying hu, goInt, hn.2]
          · rw [hv] at hxe
            simp [execOp, ho, resolve, invoke, builtin, Builtin.len_, hxe, run_underlying hu, goInt]
      · exact hs.elim
    · exact hs.elim
  · exact hs.elim

theorem sound_min {args : Array Operand} {ts : Array TypeId} (ho : o.op = .call { callee := .builtin .min, args := args, argTypes := ts }) (h : SR cx σ ι ρ a w) (hg : g.getD true = true)
    (hs : stp P σ g (.call { callee := .builtin .min, args := args, argTypes := ts }) K) : o.wp P a w (Nx cx o a K) Q := by
  simp only [stp] at hs
  split at hs
  · rename_i x y hx1
    obtain ⟨vx, hx, hs⟩ := un1 h hg hs
    obtain ⟨vy, hy, hs⟩ := un1 h hg hs
    have e1 := list2 hx1
    subst e1
    split at hs
    · rename_i k p k' q _
      have e1 := hx.int_inv
      have e2 := hy.int_inv
      refine nx_pure h (x := .int k (minV p q)) ?_ hs (.int ..)
      simp [execOp, ho, resolve, invoke, builtin, e1, e2, run_min_int2, minV]
    · exact hs.elim
  · exact hs.elim

theorem sound_max {args : Array Operand} {ts : Array TypeId} (ho : o.op = .call { callee := .builtin .max, args := args, argTypes := ts }) (h : SR cx σ ι ρ a w) (hg : g.getD true = true)
    (hs : stp P σ g (.call { callee := .builtin .max, args := args, argTypes := ts }) K) : o.wp P a w (Nx cx o a K) Q := by
  simp only [stp] at hs
  split at hs
  · rename_i x y hx1
    obtain ⟨vx, hx, hs⟩ := un1 h hg hs
    obtain ⟨vy, hy, hs⟩ := un1 h hg hs
    have e1 := list2 hx1
    subst e1
    split at hs
    · rename_i k p k' q _
      have e1 := hx.int_inv
      have e2 := hy.int_inv
      refine nx_pure h (x := .int k (maxV p q)) ?_ hs (.int ..)
      simp [execOp, ho, resolve, invoke, builtin, e1, e2, run_max_int2, maxV]
    · exact hs.elim
  · exact hs.elim

theorem sound_append {args : Array Operand} {ts : Array TypeId} (ho : o.op = .call { callee := .builtin .append, args := args, argTypes := ts }) (h : SR cx σ ι ρ a w) (hg : g.getD true = true)
    (hs : stp P σ g (.call { callee := .builtin .append, args := args, argTypes := ts }) K) : o.wp P a w (Nx cx o a K) Q := by
  simp only [stp] at hs
  split at hs
  · rename_i s x t t' hx1 ht1
    obtain ⟨hgn, rfl, hs⟩ := hs
    obtain ⟨vs, hsr, hs⟩ := un1 h hg hs
    obtain ⟨vx, hxr, hs⟩ := un1 h hg hs
    have e1 := list2 hx1
    have e2 := list2 ht1
    subst e1; subst e2
    unfold appV at hs
    split at hs
    · rename_i e z bytes hT
      obtain ⟨hu, inf, hinf, hsz, hby⟩ := slT_spec hT
      obtain ⟨hz0, hb0, hzero, hs⟩ := hs
      split at hs
      · rename_i rows' hx
        have hX := appR_sound h hx hxr
        have hzz : ∃ zv, inf.zero = some zv ∧ zv.cells.size = z := by
          simp only [zeroT, hinf, Option.bind_some] at hzero
          cases hz : inf.zero with
          | none => simp [hz] at hzero
          | some zv => simp [hz] at hzero; exact ⟨zv, rfl, hzero⟩
        obtain ⟨zv, hzv, hzs⟩ := hzz
        have main : ∀ {σ1 : St} {ι1 : Nat → Nat} {ρ1 : Nat → Value} (_ : SR cx σ1 ι1 ρ1 a w) (_ : Kp cx σ.mem σ.nx ι ρ w σ1.mem σ1.nx ι1 ρ1 w) {id : Nat} {rows : List (List V)} (_ : (id, AObj.row e z rows) ∈ σ1.mem)
            (_ : a.eval s = ρ1 id) (_ : (rows.length + rows'.length) * bytes ≤ 140737488355328) (_ : K (.own σ1.nx) ⟨σ1.env, (σ1.nx, .row e z (rows ++ rows')) :: σ1.mem.filter (·.1 ≠ id), σ1.nx + 1⟩), o.wp P a w (Nx cx o a K) Q := by
          intro σ1 ι1 ρ1 h1 hk1 id rows hmem hse hbytes hK
          obtain ⟨xs, hown, hrows⟩ := OR_row.1 (h1.ml.obj _ hmem)
          have hmx : rows.length + rows'.length ≤ maxLen := by
            have := Nat.mul_le_mul_left (rows.length + rows'.length) hb0
            simp only [maxLen]; omega
          rcases hX with ⟨hxe, rfl⟩ | ⟨b, off, n, c, news, hxe, rfl, hnr, hnc⟩
          · have hr : (Builtin.append_ #[t, t] o.type #[ρ1 id, .slice none 0 0]).run P w = .ok (ρ1 id) w := run_append_owned_none w 0 t o.type e inf z hu hinf (ρ1 id) rows.length xs hown
            obtain ⟨m1, m2, m3⟩ := h1.ml.regrow hmem (w' := w) (v' := ρ1 id) (rows' := rows ++ []) (xs' := xs) ⟨rfl, rfl, rfl, Nat.le_refl _, fun _ _ _ => rfl⟩ (by simpa using hown) (fun b hb => .inl hb) (by simpa using hrows)
            refine nx_new h1 (x := ρ1 id) ?_ m1 m2 hK m3
            simp [execOp, ho, resolve, invoke, builtin, hse, hxe, hr]
          · have hn1 : RowsR w (OO cx.X σ1.mem ι1 ρ1) ι1 ρ1 σ1.nx z rows' news := hnr.mono hk1
            obtain ⟨v', w', hr, ho', hg', hb'⟩ := run_append_blk (P := P) w t o.type e inf zv z bytes hu hinf hzv hsz hby hzs hz0 (ρ1 id) rows.length xs hown ⟨b, off, none⟩ rows'.length c news hn1.1
              (fun j u hj => by rw [addr_add]; exact hnc j u hj) hn1.one hmx hbytes
            obtain ⟨m1, m2, m3⟩ := h1.ml.regrow hmem (rows' := rows ++ rows') (xs' := xs ++ news) hg' (by simpa using ho') hb' (hrows.append hn1)
            refine nx_new h1 (x := v') ?_ m1 m2 hK m3
            simp [execOp, ho, resolve, invoke, builtin, hse, hxe, hr]
        split at hs
        · obtain ⟨hbytes, hK⟩ := hs
          have hse : a.eval s = .slice none 0 0 := by unfold MR at hsr; generalize a.eval s = y at hsr ⊢; cases hsr; rfl
          obtain ⟨m1, m2⟩ := h.ml.addNil e z
          have hfil : (σ.mem.filter (·.1 ≠ σ.nx)) = σ.mem := List.filter_eq_self.2 fun p hp => by have := h.ml.lt p hp; simp; omega
          refine main (h.step m1 m2) m2 (id := σ.nx) (rows := []) (by simp) (by simp [hse]) (by simpa using hbytes) ?_
          have e : ((σ.nx, AObj.row e z []) :: σ.mem).filter (·.1 ≠ σ.nx) = σ.mem := by rw [List.filter_cons_of_neg (by simp), hfil]
          simp only [e, List.nil_append]
          exact hK
        · rename_i id
          split at hs
          · rename_i e' z' rows hl
            obtain ⟨rfl, rfl, hbytes, hK⟩ := hs
            refine main h .refl (Mem.look_mem hl) ?_ hbytes hK
            unfold MR at hsr
            generalize a.eval s = y at hsr ⊢
            cases hsr; rfl
          · exact hs.elim
        · rename_i z2 rows _
          obtain ⟨rfl, hpos, hbytes, hK⟩ := hs
          obtain ⟨m1, m2⟩ := h.ml.addNil e z2
          have hfil : (σ.mem.filter (·.1 ≠ σ.nx)) = σ.mem := List.filter_eq_self.2 fun p hp => by have := h.ml.lt p hp; simp; omega
          have efil : ((σ.nx, AObj.row e z2 []) :: σ.mem).filter (·.1 ≠ σ.nx) = σ.mem := by rw [List.filter_cons_of_neg (by simp), hfil]
          unfold MR at hsr
          generalize hse : a.eval s = sv at hsr
          cases hsr with
          | slc _ _ _ ad n hsl =>
            cases hsl with
            | slnil =>
              refine main (h.step m1 m2) m2 (id := σ.nx) (rows := []) (by simp) (by simp [hse]) (by simpa using hbytes) ?_
              simp only [efil, List.nil_append]
              exact hK
            | sl _ _ _ b off _ _ xs hl hc hm hz hs' hx' hr' =>
              have hsl2 : Rel w (OO cx.X σ.mem ι ρ) ι ρ σ.nx false (.sl z2 rows) (.slice (some ⟨b, off, none⟩) n n) := .sl _ _ _ _ _ _ _ xs hl hc hm hz hs' hx' hr'
              obtain ⟨hn, xs0, hrow, hcell⟩ := hsl2.sl_rows
              subst hn
              rcases hX with ⟨hxe, rfl⟩ | ⟨b', off', n', c', news, hxe, rfl, hnr, hnc⟩
              · simp at hpos
              · have hmx : rows.length + rows'.length ≤ maxLen := by
                  have := Nat.mul_le_mul_left (rows.length + rows'.length) hb0
                  simp only [maxLen]; omega
                obtain ⟨v', w', hr, ho', hg', hb'⟩ := run_append_full (P := P) w t o.type e inf zv z2 bytes hu hinf hzv hsz hby hzs ⟨b, off, none⟩ rows.length xs0 hrow.1 (fun j u hj => by rw [addr_add]; exact hcell j u hj)
                  ⟨b', off', none⟩ rows'.length c' news hnr.1 (fun j u hj => by rw [addr_add]; exact hnc j u hj) hpos hmx hbytes
                have hrr : RowsR w (OO cx.X σ.mem ι ρ) ι ρ σ.nx z2 (rows ++ rows') (xs0 ++ news) := hrow.append hnr
                have h1 := h.step m1 m2
                obtain ⟨q1, q2, q3⟩ := h1.ml.regrow (id := σ.nx) (e := e) (z := z2) (rows := []) (by simp) (rows' := rows ++ rows') (xs' := xs0 ++ news) (w' := w') (v' := v') (by simpa [Value.ownBlock] using hg') (by simpa using ho') (fun b hb => .inr (hb' b hb)) (hrr.mono m2)
                refine nx_new h1 (x := v') ?_ q1 q2 ?_ q3
                · simp [execOp, ho, resolve, invoke, builtin, hse, hxe, hr]
                · simp only [efil]; exact hK
        · exact hs.elim
      · exact hs.elim
    · exact hs.elim
  · exact hs.elim

theorem appd {vs caps : List V} {xs ys : Array Value} {O : Nat → Prop} {nx : Nat} {c : Bool} (h1 : xs.size = vs.length) (h2 : ys.size = caps.length)
    (h : ∀ i, i < vs.length → Rel w O ι ρ nx c (vs.getD i .any) (xs.getD i undef)) (h' : ∀ i, i < caps.length → Rel w O ι ρ nx c (caps.getD i .any) (ys.getD i undef)) :
    ∀ i, i < (vs ++ caps).length → Rel w O ι ρ nx c ((vs ++ caps).getD i .any) ((xs ++ ys).getD i undef) := by
  intro i hi
  rw [List.length_append] at hi
  by_cases hlt : i < vs.length
  · have := h i hlt
    simpa [List.getD, List.getElem?_append_left hlt, Array.getD_eq_getD_getElem?, Array.getElem?_append_left (show i < xs.size by omega)] using this
  · have := h' (i - vs.length) (by omega)
    have e : i - xs.size = i - vs.length := by omega
    simpa [List.getD, List.getElem?_append_right (show vs.length ≤ i by omega), Array.getD_eq_getD_getElem?, Array.getElem?_append_right (show xs.size ≤ i by omega), e] using this

theorem sound_call {f : Operand} {args : Array Operand} {ts : Array TypeId} (ho : o.op = .call { callee := .value f, args := args, argTypes := ts }) (h : SR cx σ ι ρ a w) (hg : g.getD true = true)
    (hs : stp P σ g (.call { callee := .value f, args := args, argTypes := ts }) K) : o.wp P a w (Nx cx o a K) Q := by
  simp only [stp] at hs
  have key : ∀ {σ' : St}, SR cx σ' ι ρ a w → (un g (σ'.get f) fun vf => match vf with
      | .fn f caps => unL g (args.toList.map σ'.get) fun vs => okF P f = true ∧ V.clL (vs ++ caps) = true ∧ ∃ r, CallsA P f (vs ++ caps) r ∧ K r σ'
      | _ => False) → o.wp P a w (Nx cx o a K) Q := by
    intro σ' h' hs'
    obtain ⟨vf, hf', hs'⟩ := un1 h' hg hs'
    split at hs'
    · rename_i fid caps
      obtain ⟨vs, hl, hr, hok, hcl, r, hcall, hk⟩ := unL_run h' hg hs'
      unfold MR at hf'
      generalize hfe : a.eval f = fv at hf'
      cases hf' with
      | fn _ _ _ cvs hcl' hcr =>
        have hrun : (execOp a.eval o).run P w = .ok (.enter fid (args.map a.eval ++ cvs)) w := by
          simp [execOp, ho, resolve, hfe, Deferred.ofValue, invoke, okF_spec hok]
        have hlen : args.size = vs.length := by simp at hl; omega
        have hall := appd (w := w) (O := OO cx.X σ'.mem ι ρ) (ι := ι) (ρ := ρ) (nx := σ'.nx) (c := false) (xs := args.map a.eval) (ys := cvs) (by simpa using hlen) hcl' (fun i hi => by
          have := hr i hi
          simpa [List.getD, Array.getD_eq_getD_getElem?, MR] using this) hcr
        have hc := hcall w (OO cx.X σ'.mem ι ρ) (args.map a.eval ++ cvs) (fun b hb => by
            rcases hb with hb | ⟨p, hp, hb⟩
            · exact Nat.lt_of_lt_of_le (h'.ml.xlt b hb) h'.ml.size
            · exact (h'.ml.own p hp b hb).1)
          (by simp [hcl', hlen]) (fun i hi => (((hall i hi).of_cl (V.clL_getD hcl i) true).free rfl true))
        unfold Oper.wp
        rw [hrun]
        refine hc.mono ?_
        rintro e w' ⟨x, rfl, hb, hrx⟩
        obtain ⟨m1, m2⟩ := h'.ml.below hb
        exact ⟨r, σ', ι, ρ, x, hk, rfl, ⟨m1, fun t => m2 _ _ _ (h'.env t)⟩, hrx.free rfl false⟩
    · exact hs'.elim
  cases g with
  | none => exact key (h.fzAll _) hs
  | some b => exact key h hs

theorem sound_makeSlice {T : TypeId} {l c : Operand} (ho : o.op = .makeSlice T l c) (h : SR cx σ ι ρ a w) (hg : g.getD true = true) (hs : stp P σ g (.makeSlice T l c) K) : o.wp P a w (Nx cx o a K) Q := by
  simp only [stp] at hs
  obtain ⟨hgn, rfl, hs⟩ := hs
  obtain ⟨vn, hn, hs1⟩ := un1 h hg hs
  clear hs
  rename _ => hs
  split at hs
  · rename_i e z by' k n hsl
    obtain ⟨hu, inf, hinf, hsz, hby⟩ := slT_spec hsl
    split at hs
    · rename_i zs hz
      obtain ⟨hsc, hcl, hzl, hz0, hb0, h0, hbytes, hk⟩ := hs
      have hzero : ∃ zv, inf.zero = some zv := by
        simp only [zeroT, hinf, Option.bind_some] at hz
        cases hzz : inf.zero with
        | none => simp [hzz] at hz
        | some zv => exact ⟨zv, rfl⟩
      obtain ⟨zv0, hzv0⟩ := hzero
      obtain ⟨i, zv, hi, hzz, hc⟩ := CellsR.zero (w := w) (O := OO cx.X σ.mem ι ρ) (ι := ι) (ρ := ρ) (nx := σ.nx) false hz hsc
      have hie : i = inf := by rw [hinf] at hi; cases hi; rfl
      subst hie
      obtain ⟨m, rfl⟩ := Int.eq_ofNat_of_zero_le h0
      simp only [Int.toNat_natCast] at hk
      have hmb : m * by' ≤ 140737488355328 := by
        have : ((m * by' : Nat) : Int) ≤ 140737488355328 := by rw [Int.natCast_mul]; exact hbytes
        omega
      have hm : m ≤ 140737488355328 := by
        have := Nat.mul_le_mul_left m hb0
        omega
      have e1 : a.eval l = .int k m := by unfold MR at hn; exact hn.int_inv
      have hsize : zv.cells.size = z := by rw [hc.1, hzl]
      have hrun0 := run_make (P := P) w T e i zv hu hinf hzz k k m m (by omega) (Int.le_refl _) (by rw [hby, Int.mul_comm]; omega) (by omega)
      rw [Int.toNat_natCast, hsz] at hrun0
      have hbase : RowsR w (OO cx.X σ.mem ι ρ) ι ρ σ.nx z (List.replicate m zs) (madeCells zv.cells (m * z)).toList := by
        have eg : ∀ i, i < m → (List.replicate m zs).getD i [] = zs := fun i hi => by simp [List.getD, hi]
        refine ⟨by simp [madeCells], fun i hi => ?_, fun i j hi hj => ?_, fun i j hi hj => ?_⟩ <;> (simp at hi; rw [eg i hi])
        · exact hzl
        · exact hc.2.1 j (by omega)
        · have hk := cellIdx hi hj
          have e2 : (i * z + j) % z = j := by rw [Nat.mul_comm, Nat.mul_add_mod, Nat.mod_eq_of_lt hj]
          have := ((hc.2.2 j (by omega)).of_cl (V.clL_getD hcl j) true)
          have hj' : j < zv.cells.size := by omega
          have e3 : (madeCells zv.cells (m * z)).toList.getD (i * z + j) undef = zv.cells.getD j undef := by
            have e4 : zv.cells[j]! = zv.cells[j] := getElem!_pos zv.cells j hj'
            have e5 : zv.cells.getD j undef = zv.cells[j] := by unfold Array.getD; rw [dif_pos hj']; rfl
            rw [e5, ← e4]; simp [madeCells, List.getD, hk, hsize, e2]
          rw [e3]; exact this
      have hrow : (w.alloc (.cells (madeCells zv.cells (m * z)) e)).ownsRow 0 e z (.slice (some ⟨w.heap.size, 0, none⟩) m m) (List.replicate m zs).length (madeCells zv.cells (m * z)).toList := by
        refine ⟨by simp [size_madeCells], .inr ⟨w.heap.size, m, _, by simp, by omega, heap_alloc_new w _, by simp, by simp only [maxLen]; omega, size_madeCells _ _, ?_⟩⟩
        rw [List.length_replicate]; exact List.take_of_length_le (by simp [size_madeCells])
      obtain ⟨m1, m2⟩ := h.ml.new (madeCells zv.cells (m * z)) e (fun id => ι id) (fun id => if id = σ.nx then .slice (some ⟨w.heap.size, 0, none⟩) m m else ρ id) (fun id hid => ⟨rfl, if_neg (by omega)⟩) (.row e z (List.replicate m zs))
        (fun b hb => by simpa [blk, Value.ownBlock, eq_comm] using hb) fun O hO hk => OR_row.2 ⟨_, by simpa using hrow, hbase.mono hk⟩
      refine nx_new h (x := .slice (some ⟨w.heap.size, 0, none⟩) m m) ?_ m1 m2 hk ?_
      · simp [execOp, ho, e1, hrun0]
      · have := Rel.own (w := w.alloc (.cells (madeCells zv.cells (m * z)) e)) (O := OO cx.X ((σ.nx, .row e z (List.replicate m zs)) :: σ.mem) (fun id => ι id) (fun id => if id = σ.nx then .slice (some ⟨w.heap.size, 0, none⟩) m m else ρ id)) (ι := fun id => ι id)
          (ρ := fun id => if id = σ.nx then .slice (some ⟨w.heap.size, 0, none⟩) m m else ρ id) (nx := σ.nx + 1) σ.nx (by omega) (by simp [Value.oneCell'])
        simpa [MR] using this
    · exact hs.elim
  · exact hs.elim

theorem stp_sound (h : SR cx σ ι ρ a w) (hg : g.getD true = true) (hs : stp P σ g o.op K) : o.wp P a w (Nx cx o a K) Q := by
  generalize ho : o.op = op at hs
  cases op
  case move => exact sound_move ho h hg hs
  case assign => exact sound_assign ho h hg hs
  case pick => exact sound_pick ho h hg hs
  case alloc => exact sound_alloc ho h hs
  case box => exact sound_box ho h hg hs
  case build => exact sound_build ho h hg hs
  case buildSlice => exact sound_buildSlice ho h hg hs
  case load => exact sound_load ho h hg hs
  case store => exact sound_store ho h hg hs
  case binOp => exact sound_binOp ho h hg hs
  case unOp => exact sound_unOp ho h hg hs
  case convert => exact sound_convert ho h hg hs
  case makeFunc fn first caps => cases fn <;> first | exact sound_makeFunc ho h hg hs | exact hs.elim
  case slice => exact sound_slice ho h hg hs
  case fieldAddr => exact sound_fieldAddr ho h hg hs
  case field => exact sound_field ho h hg hs
  case indexAddr => exact sound_indexAddr ho h hg hs
  case index => exact sound_index ho h hg hs
  case extract => exact sound_extract ho h hg hs
  case makeSlice => exact sound_makeSlice ho h hg hs
  case call c =>
    obtain ⟨callee, args, ts⟩ := c
    cases callee with
    | value f => exact sound_call ho h hg hs
    | invoke r m => exact hs.elim
    | builtin b => cases b <;> first | exact sound_len ho h hg hs | exact sound_min ho h hg hs | exact sound_max ho h hg hs | exact sound_append ho h hg hs | exact hs.elim
  all_goals exact hs.elim

end
end Go.Proofs.Ytcphhbiehaimeaa
