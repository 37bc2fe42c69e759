/- The step is sound. -/
import Derived.Test.YtcphhbiehaimeaaAi8
namespace Go.Proofs.Ytcphhbiehaimeaa
open Go.RowKit
set_option linter.unusedVariables false
set_option linter.unusedSimpArgs false

def Nx (cx : Cx) (o : Oper) (a : Act) (K : V → St → Prop) (a' : Act) (w' : World) : Prop :=
  ∃ v σ' ι' ρ' x, K v σ' ∧ a' = a.put o.dst x ∧ SR cx σ' ι' ρ' a w' ∧ MR cx σ'.mem σ'.nx ι' ρ' w' v x

section
variable {P : Program} {cx : Cx} {σ : St} {ι : Nat → Nat} {ρ : Nat → Value} {a : Act} {w : World} {K : V → St → Prop} {Q : Exit → Act → World → Prop} {o : Oper} {g : Option Bool}

theorem un_sound' {O : Nat → Prop} {nx : Nat} {c : Bool} {v : V} {x : Value} {K : V → Prop} (h : un g v K) (hr : Rel w O ι ρ nx c v x) : ∃ v', K v' ∧ (g.getD true = true → Rel w O ι ρ nx c v' x) := by
  unfold un at h
  split at h
  · rename_i g' v'
    cases hr with
    | gd _ _ _ _ hr _ => exact ⟨v', h.2, fun hg => hr (h.1 hg)⟩
  · cases hr with
    | eq _ _ _ hr => exact ⟨_, h, fun _ => hr⟩
  · exact ⟨_, h, fun _ => hr⟩

theorem SR.get (h : SR cx σ ι ρ a w) (x : Operand) : MR cx σ.mem σ.nx ι ρ w (σ.get x) (a.eval x) := by
  cases x with
  | tmp t =>
    have := h.env t
    unfold tv at this
    simp only [St.get]
    split
    · rename_i ht; rw [if_pos ht] at this; exact this
    · exact .any ..
  | const v => exact .const ..
  | func f => exact .fn _ _ _ _ rfl (by simp)
  | global n => exact .any ..

theorem SR.step (h : SR cx σ ι ρ a w) {mem' : Mem} {nx' : Nat} {ι' : Nat → Nat} {ρ' : Nat → Value} {w' : World} (hm : ML cx mem' nx' ι' ρ' w') (hk : Kp cx σ.mem σ.nx ι ρ w mem' nx' ι' ρ' w') :
    SR cx ⟨σ.env, mem', nx'⟩ ι' ρ' a w' := ⟨hm, fun t => hk _ _ _ (h.env t)⟩

theorem wp_val {x : Value} {w' : World} {next : Act → World → Prop} (hrun : (execOp a.eval o).run P w = .ok (.value x) w') (h : next (a.put o.dst x) w') : o.wp P a w next Q := by
  unfold Oper.wp; rw [hrun]; exact h

theorem nx_pure (h : SR cx σ ι ρ a w) {x : Value} (hrun : (execOp a.eval o).run P w = .ok (.value x) w) {v : V} (hk : K v σ) (hr : MR cx σ.mem σ.nx ι ρ w v x) : o.wp P a w (Nx cx o a K) Q :=
  wp_val hrun ⟨v, σ, ι, ρ, x, hk, rfl, h, hr⟩

theorem nx_new (h : SR cx σ ι ρ a w) {x : Value} {w' : World} (hrun : (execOp a.eval o).run P w = .ok (.value x) w') {v : V} {mem' : Mem} {nx' : Nat} {ι' : Nat → Nat} {ρ' : Nat → Value}
    (hm : ML cx mem' nx' ι' ρ' w') (hkp : Kp cx σ.mem σ.nx ι ρ w mem' nx' ι' ρ' w') (hk : K v ⟨σ.env, mem', nx'⟩) (hr : MR cx mem' nx' ι' ρ' w' v x) : o.wp P a w (Nx cx o a K) Q :=
  wp_val hrun ⟨v, _, ι', ρ', x, hk, rfl, h.step hm hkp, hr⟩

theorem slot_fz (σ : St) (id : Nat) (o : AObj) (t : Nat) : (σ.fz id o).slot t = (σ.slot t).fz id o := by
  unfold St.slot St.fz
  simp only
  have : ∀ (l : List (Nat × V)), (l.map fun p => (p.1, p.2.fz id o)).lookup t = (l.lookup t).map fun v => v.fz id o := by
    intro l
    induction l with
    | nil => rfl
    | cons p l ih =>
      obtain ⟨q, v⟩ := p
      simp only [List.map_cons, List.lookup_cons]
      cases t == q <;> simp [ih]
  rw [this]
  cases σ.env.lookup t <;> simp [V.fz]

theorem SR.fz (h : SR cx σ ι ρ a w) {id : Nat} {o : AObj} (hl : σ.mem.look id = some o) (hc : o.clo = true) : SR cx (σ.fz id o) ι ρ a w :=
  ⟨h.ml.fz (Mem.look_mem hl) hc, fun t => by rw [slot_fz]; exact Rel.fz h.ml (Mem.look_mem hl) hc (h.env t)⟩

theorem SR.fzAll : ∀ (vs : List V) {σ : St} (_ : SR cx σ ι ρ a w), SR cx (fzAll σ vs) ι ρ a w
  | [], σ, h => h
  | v :: vs, σ, h => by
    unfold Proofs.Ytcphhbiehaimeaa.fzAll
    split
    · exact h
    · rename_i id vs' heq
      cases heq
      split
      · rename_i e z rows hl; exact SR.fzAll vs (h.fz hl rfl)
      · exact SR.fzAll vs h
    · rename_i id off vs' heq
      cases heq
      split
      · rename_i cs hl
        split
        · rename_i hc; exact SR.fzAll vs (h.fz hl hc)
        · exact SR.fzAll vs h
      · exact SR.fzAll vs h
    · rename_i heq; cases heq; exact SR.fzAll vs h

theorem okF_spec {f : FuncId} (h : okF P f = true) (args : Array Value) : (callFunc f args).run P w = .ok (.enter f args) w := by
  unfold okF at h
  split at h
  · rename_i fn hf
    simp at h
    obtain ⟨h1, h2⟩ := h
    have hn : fn.body ≠ none := by intro e; rw [e] at h2; cases h2
    simp [callFunc, hf, h1, hn]
  · cases h

theorem unL_run (h : SR cx σ ι ρ a w) (hg : g.getD true = true) {xs : List Operand} {K : List V → Prop} (hu : unL g (xs.map σ.get) K) :
    ∃ vs, vs.length = xs.length ∧ (∀ i, i < vs.length → MR cx σ.mem σ.nx ι ρ w (vs.getD i .any) ((xs.map a.eval).getD i undef)) ∧ K vs := by
  obtain ⟨vs, h1, h2, h3⟩ := unL_sound (w := w) (O := OO cx.X σ.mem ι ρ) (ι := ι) (ρ := ρ) (nx := σ.nx) (c := false) hg hu (xs := xs.map a.eval) (by simp) (fun i hi => by
    have hi' : i < xs.length := by simpa using hi
    have := h.get xs[i]
    simpa [List.getD, hi', MR] using this)
  simp only [List.length_map] at h1 h2
  exact ⟨vs, h1, fun i hi => h2 i (by omega), h3⟩

theorem look_obj (h : SR cx σ ι ρ a w) {id : Nat} {o : AObj} (hl : σ.mem.look id = some o) : OR w (OO cx.X σ.mem ι ρ) ι ρ σ.nx id o := h.ml.obj _ (Mem.look_mem hl)

theorem minV_eq (x y : Int) : (if y < x then y else x) = minV x y := rfl

/-- What is appended: its cells, or nothing. -/
theorem appR_sound (h : SR cx σ ι ρ a w) {x : V} {z : Nat} {rows : List (List V)} (hx : appR σ.mem x z = some rows) {y : Value} (hr : MR cx σ.mem σ.nx ι ρ w x y) :
    (y = .slice none 0 0 ∧ rows = []) ∨ ∃ b off n c xs, y = .slice (some ⟨b, off, none⟩) n c ∧ n = rows.length ∧ RowsR w (OO cx.X σ.mem ι ρ) ι ρ σ.nx z rows xs ∧ ∀ j u, xs[j]? = some u → w.cell? ⟨b, off + j, none⟩ = some u := by
  unfold appR at hx
  split at hx
  · split at hx
    · rename_i e; subst e
      cases hx
      unfold MR at hr
      have hr' := hr
      cases hr with
      | slnil => exact .inl ⟨rfl, rfl⟩
      | sl _ _ _ b off len cap xs hl hc hm hz hs hxx hrr =>
        obtain ⟨h1, xs, h2, h3⟩ := hr'.sl_rows
        refine .inr ⟨b, off, len, cap, xs, rfl, h1, ⟨h2.1, h2.2.1, h2.2.2.1, h2.2.2.2⟩, h3⟩
    · cases hx
  · cases hx; cases hr; exact .inl ⟨rfl, rfl⟩
  · rename_i id
    split at hx
    · rename_i e' esz rows' hl
      split at hx
      · rename_i e; subst e
        cases hx
        obtain ⟨xs, h1, h2⟩ := OR_row.1 (look_obj h hl)
        cases hr with
        | own _ hid h1' =>
          rcases h1.2 with hn | ⟨g', cap, cur, hv, -, hg, hle, hcap, hcs, htake⟩
          · exact .inl ⟨hn.1, List.eq_nil_of_length_eq_zero hn.2⟩
          · refine .inr ⟨g', 0, _, cap, xs, hv, rfl, h2, fun j u hj => ?_⟩
            have := h1.cells (g := g') (by rw [hv]; rfl) j u hj
            rwa [addr_add] at this
      · cases hx
    · cases hx
  · cases hx

end
end Go.Proofs.Ytcphhbiehaimeaa
