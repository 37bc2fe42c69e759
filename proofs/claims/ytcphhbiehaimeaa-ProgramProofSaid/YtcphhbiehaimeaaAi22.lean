/- Loops over functions: the side of the loop. -/
import Derived.Test.YtcphhbiehaimeaaAi20m
import Derived.RangeFuncRecord
namespace Go.Proofs.Ytcphhbiehaimeaa
open Go.RowKit
set_option linter.unusedVariables false
set_option linter.unusedSimpArgs false

/-- The worlds of reference follow each other. -/
structure Lbs (a b : Cx) : Prop where
  X : b.X = a.X
  os : b.w0.os = a.w0.os
  tape : b.w0.tape = a.w0.tape
  output : b.w0.output = a.w0.output
  size : a.w0.heap.size ≤ b.w0.heap.size
  old : ∀ k, k < a.w0.heap.size → ¬ a.D k → b.w0.heap[k]? = a.w0.heap[k]?
  d : ∀ k, k < a.w0.heap.size → b.D k → a.D k

section
variable {cx : Cx} {mem : Mem} {nx : Nat} {ι : Nat → Nat} {ρ : Nat → Value} {w : World}

def ownB (mem : Mem) (ι : Nat → Nat) (ρ : Nat → Value) (b : Nat) : Prop := ∃ p ∈ mem, blk ι ρ p = some b

theorem ML.reb {a b : Cx} (hL : Lbs a b) (hx : ∀ k, a.X k → k < a.w0.heap.size) (h : ML b mem nx ι ρ w) : ML a mem nx ι ρ w := by
  refine ⟨h.os.trans hL.os, h.tape.trans hL.tape, h.output.trans hL.output, Nat.le_trans hL.size h.size, fun i hi hd => ?_, h.keys, h.lt, fun p hp k hk => ?_, h.inj, hx, fun p hp => ?_⟩
  · rw [h.old i (Nat.lt_of_lt_of_le hi hL.size) (fun hb => hd (hL.d i hi hb))]; exact hL.old i hi hd
  · have := h.own p hp k hk
    refine ⟨this.1, ?_, by rw [← hL.X]; exact this.2.2⟩
    by_cases hi : k < a.w0.heap.size
    · right
      rcases this.2.1 with h1 | h1
      · have := hL.size; omega
      · exact hL.d k hi h1
    · left; omega
  · have := h.obj p hp; rw [hL.X] at this; exact this

/-- The call's own blocks hold cells. -/
theorem ML.own_cells (h : ML cx mem nx ι ρ w) {b : Nat} (hb : ownB mem ι ρ b) {o : Obj} (ho : w.heap[b]? = some o) : o.isCells = true := by
  obtain ⟨⟨i, ob⟩, hp, hpb⟩ := hb
  have hob := h.obj _ hp
  cases ob with
  | cells cs =>
    obtain ⟨vals, e, h1, _⟩ := hob
    simp [blk] at hpb
    simp only at h1
    rw [hpb, ho] at h1
    cases h1; rfl
  | row e z rows =>
    obtain ⟨xs, h1, _⟩ := hob
    simp only [blk] at hpb
    rcases h1.2 with ⟨hv, _⟩ | ⟨g, cap, cur, hv, _, hg, _⟩
    · simp only at hv; rw [hv] at hpb; cases hpb
    · simp only at hv; rw [hv] at hpb
      simp [Value.ownBlock] at hpb
      rw [hpb, ho] at hg
      cases hg; rfl
theorem cells_of_cell' {a : Addr} {x : Value} (h : w.cell? a = some x) : ∃ o, w.heap[a.block]? = some o ∧ o.isCells = true := by
  unfold World.cell? at h
  cases ho : w.heap[a.block]? with
  | none => simp [ho] at h
  | some o => exact ⟨o, rfl, by cases o <;> simp_all [Obj.isCells]⟩

/-- The world, turned where no cells lie, as the new world of reference. -/
theorem ML.at (h : ML cx mem nx ι ρ w) (w2 : World) (hos : w2.os = w.os) (htape : w2.tape = w.tape) (hout : w2.output = w.output) (hsz : w.heap.size ≤ w2.heap.size)
    (hb : ∀ (k : Nat) (o : Obj), w.heap[k]? = some o → o.isCells = true → w2.heap[k]? = some o) (hlow : ∀ k, k < cx.w0.heap.size → w2.heap[k]? = w.heap[k]?) (r : Option Nat) (df : List Deferred) (G : Nat → Value) :
    ML ⟨w2, ownB mem ι ρ, cx.X, r, df, G⟩ mem nx ι ρ w2 ∧ Lbs cx ⟨w2, ownB mem ι ρ, cx.X, r, df, G⟩ ∧ ∀ c v x, Rel w (OO cx.X mem ι ρ) ι ρ nx c v x → Rel w2 (OO cx.X mem ι ρ) ι ρ nx c v x := by
  have hk : ∀ c v x, Rel w (OO cx.X mem ι ρ) ι ρ nx c v x → Rel w2 (OO cx.X mem ι ρ) ι ρ nx c v x := fun c v x hr =>
    hr.mono (fun a y hy hno => by
      obtain ⟨o, h1, h2⟩ := cells_of_cell' hy
      exact ⟨cell_of_block hy (by rw [hb _ _ h1 h2, h1]), hno⟩) (fun _ _ => ⟨rfl, rfl⟩) (Nat.le_refl _)
  have hown : ∀ p ∈ mem, ∀ b, blk ι ρ p = some b → w2.heap[b]? = w.heap[b]? := fun p hp b hpb => by
    have hlt := (h.own p hp b hpb).1
    have hs : w.heap[b]? = some w.heap[b] := Array.getElem?_eq_getElem hlt
    rw [hb b _ hs (h.own_cells ⟨p, hp, hpb⟩ hs), hs]
  refine ⟨⟨rfl, rfl, rfl, Nat.le_refl _, fun _ _ _ => rfl, h.keys, h.lt, fun p hp b hpb => ?_, h.inj, fun b hx => ?_, fun p hp => ?_⟩, ⟨rfl, hos.trans h.os, htape.trans h.tape, hout.trans h.output, Nat.le_trans h.size hsz, fun k hk' hd => ?_, fun k hk' hd => ?_⟩, hk⟩
  · have := h.own p hp b hpb; exact ⟨Nat.lt_of_lt_of_le this.1 hsz, .inr ⟨p, hp, hpb⟩, this.2.2⟩
  · have := h.xlt b hx; have := h.size; exact Nat.lt_of_lt_of_le (by omega) hsz
  · exact OR.mono hk rfl rfl (fun b hpb => hown p hp b hpb) (h.obj p hp)
  · rw [hlow k hk']; exact h.old k hk' hd
  · obtain ⟨p, hp, hpb⟩ := hd
    have := (h.own p hp k hpb).2.1
    rcases this with h1 | h1
    · omega
    · exact h1

/-- A step of others: new blocks, and one block without cells beyond the world of reference. -/
theorem SF.grownBy {N : Nat} {σ : St} {a : Act} {w' : World} {row : Option Nat} (h : SF N cx σ ι ρ a w) (hg : w.grownBy w' row) (hr : ∀ r, row = some r → cx.w0.heap.size ≤ r ∧ ∃ o : Obj, w.heap[r]? = some o ∧ o.isCells = false) : SF N cx σ ι ρ a w' := by
  have hm := h.sr.ml
  have hblk : ∀ b, b < w.heap.size → (∀ o, w.heap[b]? = some o → o.isCells = true) → w'.heap[b]? = w.heap[b]? := fun b hb hc => by
    refine hg.block b hb fun e => ?_
    obtain ⟨_, o, h1, h2⟩ := hr b e.symm
    rw [hc o h1] at h2; cases h2
  have hk : ∀ c v x, Rel w (OO cx.X σ.mem ι ρ) ι ρ σ.nx c v x → Rel w' (OO cx.X σ.mem ι ρ) ι ρ σ.nx c v x := fun c v x hrel =>
    hrel.mono (fun a y hy hno => by
      obtain ⟨o, h1, h2⟩ := cells_of_cell' hy
      exact ⟨cell_of_block hy (hblk _ (some_lt h1) fun o' h3 => by rw [h1] at h3; cases h3; exact h2), hno⟩) (fun _ _ => ⟨rfl, rfl⟩) (Nat.le_refl _)
  refine ⟨⟨⟨hg.os.trans hm.os, hg.tape.trans hm.tape, hg.output.trans hm.output, Nat.le_trans hm.size hg.size, fun b hb0 hd => ?_, hm.keys, hm.lt, fun p hp b hpb => ?_, hm.inj, hm.xlt, fun p hp => ?_⟩, fun t => hk _ _ _ (h.sr.env t)⟩, h.size, h.defers⟩
  · rw [hg.block b (Nat.lt_of_lt_of_le hb0 hm.size) (fun e => by have := (hr b e.symm).1; omega)]; exact hm.old b hb0 hd
  · have := hm.own p hp b hpb; exact ⟨Nat.lt_of_lt_of_le this.1 hg.size, this.2⟩
  · exact OR.mono hk rfl rfl (fun b hpb => hblk b (hm.own p hp b hpb).1 fun o ho => hm.own_cells ⟨p, hp, hpb⟩ ho) (hm.obj p hp)
end

/-- What a round keeps of what lay below B, outside of X. -/
structure KpX (B : Nat) (X : Nat → Prop) (w w' : World) : Prop where
  os : w'.os = w.os
  tape : w'.tape = w.tape
  output : w'.output = w.output
  size : w.heap.size ≤ w'.heap.size
  old : ∀ k, k < B → ¬ X k → w'.heap[k]? = w.heap[k]?
theorem KpX.trans {B : Nat} {X : Nat → Prop} {a b c : World} (h : KpX B X a b) (k : KpX B X b c) : KpX B X a c :=
  ⟨k.os.trans h.os, k.tape.trans h.tape, k.output.trans h.output, Nat.le_trans h.size k.size, fun i hi hX => (k.old i hi hX).trans (h.old i hi hX)⟩

/-- Function f, that has caught caps, hands out what S says, as an iterator. -/
def SeqA {α : Type} (P : Program) (ev : α → Value) (f : FuncId) (caps : List V) (S : List α → Prop) (n : Nat) : Prop :=
  ∀ (w : World) (X : Nat → Prop) (cvs : Array Value), (∀ b, X b → b < w.heap.size) → cvs.size = caps.length →
    (∀ i, i < caps.length → Rel w X (fun _ => 0) (fun _ => undef) 0 true (caps.getD i .any) (cvs.getD i undef)) →
    SeqStopsK (Fr none) 0 P f cvs (fun x => #[ev x]) (KpX w.heap.size X) S (fun _ => True) n w

/-- The walk of a round. -/
def CR (P : Program) (N : Nat) : Ctl P N where
  S := fun a => a.r ≠ none
  L := fun a b => a = b
  Y := fun _ _ _ => False
  refl := fun _ => rfl
  trans := fun h k => h.trans k
  pres := fun h k => h ▸ k
  hr := fun h => by rw [h]
  ys := fun _ _ h => h.elim

/-- At a round's begin: the slots are those of the loop's; ghosts of them are kept. -/
def St.rd (σ : St) (tp : Nat) (v : V) : St := ⟨(tp, v) :: (σ.env.filter (fun p => Nat.blt p.1 2000000) ++ σ.env.map fun p => (2000000 + p.1, p.2)), σ.mem, σ.nx⟩
def St.bk (σ : St) : St := ⟨σ.env.filterMap fun p => if Nat.ble 2000000 p.1 = true then some (p.1 - 2000000, p.2) else none, σ.mem, σ.nx⟩

theorem lookup_filterK (q : Nat → Bool) : ∀ (env : List (Nat × V)) (t : Nat), (env.filter (fun p => q p.1)).lookup t = if q t = true then env.lookup t else none
  | [], t => by simp
  | (k, v) :: env, t => by
    simp only [List.filter_cons, List.lookup_cons]
    by_cases e : t = k
    · subst e
      by_cases hq : q t = true
      · simp [hq]
      · simp [hq, lookup_filterK q env t]
    · have e1 : (t == k) = false := by simpa using e
      rw [e1]
      split
      · simp only [List.lookup_cons, e1]; exact lookup_filterK q env t
      · exact lookup_filterK q env t
theorem lookup_shift (B : Nat) : ∀ (env : List (Nat × V)) (t : Nat), (env.map fun p => (B + p.1, p.2)).lookup t = if B ≤ t then env.lookup (t - B) else none
  | [], t => by simp
  | (k, v) :: env, t => by
    simp only [List.map_cons, List.lookup_cons, lookup_shift B env t]
    by_cases e : t = B + k
    · subst e; simp
    · have e1 : (t == B + k) = false := by simpa using e
      rw [e1]
      by_cases ht : B ≤ t
      · have e2 : (t - B == k) = false := by simp; omega
        simp [ht, e2]
      · simp [ht]
theorem lookup_bk (B : Nat) : ∀ (env : List (Nat × V)) (t : Nat), (env.filterMap fun p => if Nat.ble B p.1 = true then some (p.1 - B, p.2) else none).lookup t = env.lookup (B + t)
  | [], t => by simp
  | (k, v) :: env, t => by
    simp only [List.filterMap_cons, List.lookup_cons]
    by_cases hk : B ≤ k
    · have : Nat.ble B k = true := Nat.ble_eq_true_of_le hk
      simp only [this, if_true, List.lookup_cons]
      by_cases e : t = k - B
      · have e2 : (B + t == k) = true := by simp; omega
        have e1 : (t == k - B) = true := by simpa using e
        simp [e1, e2]
      · have e1 : (t == k - B) = false := by simpa using e
        have e2 : (B + t == k) = false := by simp; omega
        rw [e1, e2]; exact lookup_bk B env t
    · have : ¬ Nat.ble B k = true := fun h => hk (Nat.le_of_ble_eq_true h)
      have e2 : (B + t == k) = false := by simp; omega
      simp only [if_neg this, e2]
      exact lookup_bk B env t
theorem slot_bk (σ : St) (t : Nat) : σ.bk.slot t = σ.slot (2000000 + t) := by
  unfold St.slot St.bk
  rw [lookup_bk]
theorem lookup_rd (B : Nat) (env : List (Nat × V)) (t : Nat) : ((env.filter (fun p => Nat.blt p.1 B) ++ env.map fun p => (B + p.1, p.2)).lookup t) = if t < B then env.lookup t else env.lookup (t - B) := by
  rw [lookup_app, lookup_shift, lookup_filterK (fun k => Nat.blt k B)]
  by_cases ht : t < B
  · have : Nat.blt t B = true := by simpa [Nat.blt_eq] using ht
    have h2 : ¬ B ≤ t := by omega
    simp only [this, if_true, if_pos ht, if_neg h2]
    cases env.lookup t <;> rfl
  · have : ¬ Nat.blt t B = true := by simpa [Nat.blt_eq] using ht
    have h2 : B ≤ t := by omega
    simp only [if_neg this, if_neg ht, if_pos h2]
theorem slot_rd (σ : St) (tp : Nat) (v : V) (t : Nat) : (σ.rd tp v).slot t = if t = tp then v else if t < 2000000 then σ.slot t else σ.slot (t - 2000000) := by
  unfold St.slot St.rd
  simp only [List.lookup_cons]
  by_cases e : t = tp
  · subst e; simp
  · have e1 : (t == tp) = false := by simpa using e
    rw [e1, if_neg e]
    simp only [lookup_rd]
    split <;> rfl

theorem SF.mlcx {N : Nat} {a b : Cx} {σ : St} {ι : Nat → Nat} {ρ : Nat → Value} {c : Act} {w : World} (h : SF N a σ ι ρ c w) (hm : ML b σ.mem σ.nx ι ρ w) (hX : b.X = a.X) {c' : Act} (hs : c'.tmps.size = N) (hd : c'.defers = b.df)
    {σ' : St} (he : σ'.mem = σ.mem) (hn : σ'.nx = σ.nx) (hv : ∀ t, MR a σ.mem σ.nx ι ρ w (σ'.slot t) (tv b c' t)) : SF N b σ' ι ρ c' w := by
  refine ⟨⟨by rw [he, hn]; exact hm, fun t => ?_⟩, hs, hd⟩
  have := hv t
  unfold MR at this ⊢
  rw [he, hn, hX]; exact this

section
variable {P : Program} {N : Nat}
/-- **A loop over a function.** Inv: between two rounds. -/
theorem tr_rangeFunc {α : Type} {g : Operand} {tp : Tmp} {assign body : Code} {σ : St} {Ψ : Exit → St → Prop} {ev : α → Value} {en : α → V} {f : FuncId} {caps : List V} {S : List α → Prop} {n : Nat}
    (hit : SeqA P ev f caps S n) (hen : ∀ (x : α) (w : World) (O : Nat → Prop) (ι : Nat → Nat) (ρ : Nat → Value) (nx : Nat) (c : Bool), Rel w O ι ρ nx c (en x) (ev x))
    (hg : σ.get g = .fn f caps) (hcl : V.clL caps = true) (hok : okF P f = true) (htp : (decide (tp < N) && decide (tp < 1000000)) = true) (Inv : List α → St → Prop) (kp : List Nat) (h0 : Inv [] (σ.norm kp))
    (round : ∀ (pre : List α) (x : α) (σ1 : St), Inv pre σ1 → pre.length < n → ∀ K : St → Prop, (∀ σ', (∃ σ'', Wk N σ'.bk σ'' ∧ Inv (pre ++ [x]) σ'') → K σ') → ∀ K1 : St → Prop, (∀ σ', Tr (CR P N) body σ' (thenE K fun _ _ => False) → K1 σ') →
      Tr (CR P N) assign (σ1.rd tp (en x)) (thenE K1 fun _ _ => False))
    (done : ∀ (xs : List α) (σ' : St), S xs → Inv xs σ' → Ψ .normal σ') : Tr (C0 P N) (.rangeFunc g #[tp] assign body) σ Ψ := by
  intro cx ι ρ a w hr hf
  replace hr : cx.r = none := hr
  have htp' : tp < N ∧ tp < 1000000 := by simpa using htp
  have hge := hf.sr.get g
  rw [hg] at hge
  unfold MR at hge
  obtain ⟨cvs, hae, hcs, hcr⟩ : ∃ cvs : Array Value, a.eval g = .func (.func f) #[] cvs ∧ cvs.size = caps.length ∧ ∀ i, i < caps.length → Rel w (OO cx.X σ.mem ι ρ) ι ρ σ.nx false (caps.getD i .any) (cvs.getD i undef) := by
    generalize a.eval g = y at hge
    cases hge with
    | fn _ _ _ cvs h1 h2 => exact ⟨cvs, rfl, h1, h2⟩
  obtain ⟨hmI, hLI, -⟩ := hf.sr.ml.at w rfl rfl rfl (Nat.le_refl _) (fun _ _ h _ => h) (fun _ _ => rfl) none cx.df cx.G
  have hxI : ∀ b, OO cx.X σ.mem ι ρ b → b < w.heap.size := fun b hb => by
    rcases hb with hb | ⟨p, hp, hb⟩
    · exact Nat.lt_of_lt_of_le (hf.sr.ml.xlt b hb) hf.sr.ml.size
    · exact (hf.sr.ml.own p hp b hb).1
  have hseq := hit w (OO cx.X σ.mem ι ρ) cvs hxI hcs (fun i hi => ((hcr i hi).of_cl (V.clL_getD hcl i) true).free rfl true)
  obtain ⟨cxI, hcxI⟩ : ∃ c : Cx, (⟨w, ownB σ.mem ι ρ, cx.X, none, cx.df, cx.G⟩ : Cx) = c := ⟨_, rfl⟩
  have eI0 : cxI.w0 = w := by rw [← hcxI]
  have eID : cxI.D = ownB σ.mem ι ρ := by rw [← hcxI]
  have eIX : cxI.X = cx.X := by rw [← hcxI]
  have eIG : cxI.G = cx.G := by rw [← hcxI]
  have eId : cxI.df = cx.df := by rw [← hcxI]
  rw [hcxI] at hmI hLI
  have hIx : ∀ b, cxI.X b → b < cxI.w0.heap.size := fun b hb => by rw [eI0]; exact hxI b (.inl (by rw [← eIX]; exact hb))
  have hfI : SF N cxI σ ι ρ a w := hf.mlcx hmI eIX hf.size (by rw [eId]; exact hf.defers) rfl rfl (fun t => by
    have e1 : tv cxI a t = tv cx a t := by unfold tv; rw [eIG]
    rw [e1]; exact hf.sr.env t)
  rw [hr]
  refine wpIn_rangeFunc ?_
  intro fn hfn
  obtain ⟨rec, hrec⟩ : ∃ rec : LoopState → Option Code → Loop, rec = fun st pe => { state := st, pending := pe, fn, tmps := a.tmps, params := #[tp], assign, body, defers := w.heap.size } := ⟨_, rfl⟩
  obtain ⟨W1, hW1⟩ : ∃ W1, (w.alloc (.deferred (some []))).alloc (.loop (rec .ready none)) = W1 := ⟨_, rfl⟩
  have hsz1 : W1.heap.size = w.heap.size + 2 := by rw [← hW1]; simp
  have hL1 : W1.heap[w.heap.size + 1]? = some (.loop (rec .ready none)) := by
    rw [← hW1]; have := World.alloc_heap_new (w.alloc (.deferred (some []))) (.loop (rec .ready none)); rwa [World.size_alloc] at this
  have hK1 : W1.heap[w.heap.size]? = some (.deferred (some [])) := by
    rw [← hW1]; exact (Below.heap_alloc _ _ _ (by simp)).trans (World.alloc_heap_new w _)
  have hB1 : Below w.heap.size w W1 := by
    rw [← hW1]; exact ((Below.refl _ w).alloc (Nat.le_refl _) _).alloc (by simp) _
  have hg1 : w.grownBy W1 none := ⟨hB1.os, hB1.tape, hB1.output, hB1.size, fun k hk _ => hB1.block k hk⟩
  refine ⟨w.heap.size + 1, [mrk w.heap.size], W1, { target := .fn (.func f) cvs, args := #[.func (.yield (w.heap.size + 1)) #[] #[]] }, W1, f,
    #[.func (.yield (w.heap.size + 1)) #[] #[]] ++ cvs, W1, ?_, ?_, fun _ _ => trivial, ?_, (fun h => by simp [Fr] at h), ?_⟩
  · rw [← hW1, hrec]; exact run_enterLoop_outer _ _ _ _ _
  · simp only [resolve, hae]
    simp [go_sem]
  · simp [invoke, okF_spec hok]
  refine (hseq (w.heap.size + 1)
    (fun pre W => (∃ σ' ι' ρ', Inv pre σ' ∧ SF N cxI σ' ι' ρ' a W) ∧ W.heap[w.heap.size + 1]? = some (.loop (rec .ready none)) ∧ W.heap[w.heap.size]? = some (.deferred (some [])))
    (fun _ _ => False) W1 hB1 ?_ (fun _ _ _ _ h _ _ => h) ?_ ⟨⟨σ.norm kp, ι, ρ, h0, ⟨(hfI.grownBy hg1 (fun r e => by cases e)).sr.norm kp, hfI.size, hfI.defers⟩⟩, hL1, hK1⟩).mono ?_
  · -- what lies stays through a step of the iterator's
    rintro s A B row ⟨⟨σ1, ι1, ρ1, h1, h2⟩, h3, h4⟩ hg' hr'
    have hnc : ∀ r, row = some r → cxI.w0.heap.size ≤ r ∧ ∃ o : Obj, A.heap[r]? = some o ∧ o.isCells = false := fun r e => by
      obtain ⟨hB, o, ho, hw⟩ := hr' r e
      exact ⟨by rw [eI0]; omega, o, ho, Obj.not_cells_of_walk hw⟩
    exact ⟨⟨σ1, ι1, ρ1, h1, h2.grownBy hg' hnc⟩, (grownBy_keeps hg' (fun r e => (hr' r e).2) h3 rfl).trans h3, (grownBy_keeps hg' (fun r e => (hr' r e).2) h4 rfl).trans h4⟩
  · -- a round
    rintro pre x W ⟨⟨σ1, ι1, ρ1, hi, hs⟩, hl, hk⟩ hlen
    have hy := run_yield (P := P) (args := #[ev x]) hl (by rw [hrec]; rfl)
    rw [hrec] at hy
    have htm : Array.foldl (fun tmps (x : Tmp × Value) => tmps.setIfInBounds x.fst x.snd) a.tmps (Array.zip #[tp] #[ev x]) = a.tmps.setIfInBounds tp (ev x) := by simp
    replace hy : Sem.run P (Instr.yield (w.heap.size + 1) #[ev x]) W = Result.ok (Next.round (w.heap.size + 1) fn (a.tmps.setIfInBounds tp (ev x)) assign body) W := by rw [← htm]; exact hy
    refine ⟨fn, _, assign, body, hy, roundIn_of_wpIn hfn ?_⟩
    obtain ⟨hm1, hLb1, -⟩ := hs.sr.ml.at W rfl rfl rfl (Nat.le_refl _) (fun _ _ h _ => h) (fun _ _ => rfl) (some (w.heap.size + 1)) [] (fun t => if 2000000 ≤ t then tv cx a (t - 2000000) else cx.G t)
    have hlS : w.heap.size + 1 < W.heap.size := some_lt hl
    have hS1 : SF N ⟨W, ownB σ1.mem ι1 ρ1, cxI.X, some (w.heap.size + 1), [], fun t => if 2000000 ≤ t then tv cx a (t - 2000000) else cx.G t⟩ (σ1.rd tp (en x)) ι1 ρ1 { tmps := a.tmps.setIfInBounds tp (ev x), defers := [] } W := by
      refine hs.mlcx hm1 rfl (by simp [hf.size]) rfl rfl rfl fun t => ?_
      have hvt := hs.sr.env t
      rw [slot_rd]
      by_cases e : t = tp
      · subst e
        rw [if_pos rfl]
        have : tv (⟨W, ownB σ1.mem ι1 ρ1, cxI.X, some (w.heap.size + 1), [], fun t => if 2000000 ≤ t then tv cx a (t - 2000000) else cx.G t⟩ : Cx) { tmps := a.tmps.setIfInBounds t (ev x), defers := [] } t = ev x := by
          unfold tv
          rw [if_pos htp'.2]
          have h2 : t < a.tmps.size := by rw [hf.size]; exact htp'.1
          simp [Array.getD, h2]
        rw [this]
        exact hen x _ _ _ _ _ _
      · rw [if_neg e]
        by_cases h2 : t < 2000000
        · rw [if_pos h2]
          have : tv (⟨W, ownB σ1.mem ι1 ρ1, cxI.X, some (w.heap.size + 1), [], fun t => if 2000000 ≤ t then tv cx a (t - 2000000) else cx.G t⟩ : Cx) { tmps := a.tmps.setIfInBounds tp (ev x), defers := [] } t = tv cxI a t := by
            unfold tv
            split
            · rw [Array.getD_eq_getD_getElem?, Array.getElem?_setIfInBounds_ne (Ne.symm e), ← Array.getD_eq_getD_getElem?]
            · simp only []
              rw [if_neg (by omega), eIG]
          rw [this]; exact hvt
        · rw [if_neg h2]
          have h3 := hs.sr.env (t - 2000000)
          have : tv (⟨W, ownB σ1.mem ι1 ρ1, cxI.X, some (w.heap.size + 1), [], fun t => if 2000000 ≤ t then tv cx a (t - 2000000) else cx.G t⟩ : Cx) { tmps := a.tmps.setIfInBounds tp (ev x), defers := [] } t = tv cxI a (t - 2000000) := by
            have h4 : ¬ t < 1000000 := by omega
            have e2 : tv cxI a (t - 2000000) = tv cx a (t - 2000000) := by unfold tv; rw [eIG]
            rw [e2]
            show (if t < 1000000 then _ else _) = _
            rw [if_neg h4]
            simp only []
            rw [if_pos (by omega)]
          rw [this]; exact h3
    have hA := round pre x σ1 hi hlen _ (fun σ' h => h) _ (fun σ' h => h) _ _ _ _ _ (by simp [CR]) hS1
    refine Code.wpIn_mono (fun e a1 w1 hq => ?_) hA
    obtain ⟨cx1, σ2, ι2, ρ2, rfl, hb, hs2⟩ := hq
    cases e with
    | normal =>
      have hl1 : w1.heap[w.heap.size + 1]? = some (.loop (rec .ready none)) := by
        rw [hs2.sr.ml.old _ hlS (fun hd => by have := hs.sr.ml.own_cells hd hl; cases this)]; exact hl
      have hkS : w.heap.size < W.heap.size := some_lt hk
      have hk1 : w1.heap[w.heap.size]? = some (.deferred (some [])) := by
        rw [hs2.sr.ml.old _ hkS (fun hd => by have := hs.sr.ml.own_cells hd hk; cases this)]; exact hk
      refine ⟨_, run_beginRound hl1 (by rw [hrec]), ?_⟩
      have hmI1 := hs2.sr.ml.reb hLb1 hIx
      obtain ⟨W2, hW2⟩ : ∃ W2, w1.putObj (w.heap.size + 1) (.loop { rec .ready none with state := .busy }) = W2 := ⟨_, rfl⟩
      have h2o : ∀ k, k ≠ w.heap.size + 1 → W2.heap[k]? = w1.heap[k]? := fun k hk => by rw [← hW2]; exact World.putObj_heap_other hk
      have hl2 : W2.heap[w.heap.size + 1]? = some (.loop { rec .ready none with state := .busy }) := by rw [← hW2]; exact World.putObj_heap_same (some_lt hl1)
      have hk2 : W2.heap[w.heap.size]? = some (.deferred (some [])) := (h2o _ (by omega)).trans hk1
      have hsz2 : W2.heap.size = w1.heap.size := by rw [← hW2]; simp
      rw [hW2]
      obtain ⟨hm2, hLb2, hkp2⟩ := hmI1.at W2 (by rw [← hW2]; rfl) (by rw [← hW2]; rfl) (by rw [← hW2]; rfl) (by omega) (fun k o h1 h2 => by
          by_cases e : k = w.heap.size + 1
          · subst e; rw [hl1] at h1; cases h1; cases h2
          · rw [h2o k e]; exact h1) (fun k hk => h2o k (by rw [eI0] at hk; omega)) (some (w.heap.size + 1)) [] (fun t => if 2000000 ≤ t then tv cx a (t - 2000000) else cx.G t)
      have hS2 : SF N ⟨W2, ownB σ2.mem ι2 ρ2, cxI.X, some (w.heap.size + 1), [], fun t => if 2000000 ≤ t then tv cx a (t - 2000000) else cx.G t⟩ σ2 ι2 ρ2 a1 W2 :=
        ⟨⟨hm2, fun t => hkp2 _ _ _ (hs2.sr.env t)⟩, hs2.size, hs2.defers⟩
      have hBo := hb _ _ _ _ _ (by simp [CR]) hS2
      refine Code.wpIn_mono (fun e a3 W3 hq => ?_) hBo
      obtain ⟨cx3, σ3, ι3, ρ3, rfl, hc, hs3⟩ := hq
      cases e with
      | normal =>
        obtain ⟨σ4, hw4, hi4⟩ := hc
        have hl3 : W3.heap[w.heap.size + 1]? = some (.loop { rec .ready none with state := .busy }) := by
          rw [hs3.sr.ml.old _ (some_lt hl2) (fun hd => by have := hmI1.own_cells hd hl1; cases this)]; exact hl2
        have hk3 : W3.heap[w.heap.size]? = some (.deferred (some [])) := by
          rw [hs3.sr.ml.old _ (some_lt hk2) (fun hd => by have := hmI1.own_cells hd hk1; cases this)]; exact hk2
        have hend := run_endRound (P := P) none hl3
        refine ⟨_, _, hend, .inl ⟨by simp, ?_, ?_⟩⟩
        · have hmI3 := hs3.sr.ml.reb hLb2 hIx
          have hS3 : SF N cxI σ3.bk ι3 ρ3 a W3 := by
            refine hs3.mlcx hmI3 rfl hf.size (by rw [eId]; exact hf.defers) rfl rfl fun t => ?_
            have h5 := hs3.sr.env (2000000 + t)
            rw [slot_bk]
            have : tv (⟨W2, ownB σ2.mem ι2 ρ2, cxI.X, some (w.heap.size + 1), [], fun t => if 2000000 ≤ t then tv cx a (t - 2000000) else cx.G t⟩ : Cx) a3 (2000000 + t) = tv cxI a t := by
              have e2 : tv cxI a t = tv cx a t := by unfold tv; rw [eIG]
              rw [e2]
              show (if 2000000 + t < 1000000 then _ else _) = _
              rw [if_neg (by omega)]
              simp only []
              rw [if_pos (by omega), Nat.add_sub_cancel_left]
            rw [this] at h5; exact h5
          obtain ⟨ι4, ρ4, hS4⟩ := hw4 _ _ _ _ _ hS3
          refine ⟨⟨σ4, ι4, ρ4, hi4, hS4.turn hl3 rfl (by rw [eI0]; omega)⟩, ?_, ?_⟩
          · have := World.putObj_heap_same (w := W3) (o := .loop (rec .ready none)) (some_lt hl3)
            rw [hrec] at this ⊢
            exact this
          · exact (World.putObj_heap_other (by omega)).trans hk3
        · have hmI3 := hs3.sr.ml.reb hLb2 hIx
          have hmW := hs.sr.ml
          refine ⟨hmI3.os.trans hmW.os.symm, hmI3.tape.trans hmW.tape.symm, hmI3.output.trans hmW.output.symm, ?_, fun k hk hX => ?_⟩
          · have e1 := hs2.sr.ml.size
            have e2 := hs3.sr.ml.size
            simp only at e1 e2
            simp only [World.putObj_size]
            omega
          · have hnd : ¬ cxI.D k := fun hd => hX (.inr (by rw [eID] at hd; exact hd))
            have e1 := hmI3.old k (by rw [eI0]; exact hk) hnd
            have e2 := hmW.old k (by rw [eI0]; exact hk) hnd
            exact ((World.putObj_heap_other (by omega)).trans e1).trans e2.symm
      | _ => exact hc.elim
    | _ => exact hb.elim
  · -- behind the iterator
    rintro e W2 ⟨⟨v, rfl⟩, (⟨xs, hS, ⟨σ2, ι2, ρ2, hi2, hs2⟩, hl2, hk2⟩ | ⟨pre, -, hf2⟩)⟩
    · have hend := run_endLoop (P := P) hl2 (by rw [hrec]; simp)
      refine ⟨_, _, hend, ?_⟩
      rw [hrec]
      simp only
      have hW3e : ∃ W3, W2.putObj (w.heap.size + 1) (.loop { rec .ready none with state := .exhausted }) = W3 := ⟨_, rfl⟩
      obtain ⟨W3, hW3⟩ := hW3e
      have hS3 : SF N cxI σ2 ι2 ρ2 a W3 := by rw [← hW3]; exact hs2.turn hl2 rfl (by rw [eI0]; omega)
      have hk3 : W3.heap[w.heap.size]? = some (.deferred (some [])) := by rw [← hW3]; exact (World.putObj_heap_other (by omega)).trans hk2
      have hgoal : ∃ cx' σ' ι' ρ', Ltr cx cx' ∧ Ψ .normal σ' ∧ SF N cx' σ' ι' ρ' { a with defers := mrk w.heap.size :: a.defers } W3 := by
        have hmc := hS3.sr.ml.reb hLI hf.sr.ml.xlt
        obtain ⟨hm4, hLb4, hkp4⟩ := hmc.at W3 rfl rfl rfl (Nat.le_refl _) (fun _ _ h _ => h) (fun _ _ => rfl) none (mrk w.heap.size :: cx.df) cx.G
        refine ⟨⟨W3, ownB σ2.mem ι2 ρ2, cx.X, none, mrk w.heap.size :: cx.df, cx.G⟩, σ2, ι2, ρ2, ⟨hr.symm, rfl, rfl, hLb4.os, hLb4.tape, hLb4.output, hLb4.size, hLb4.old, hLb4.d, [w.heap.size], rfl, by simp, fun D hD => ?_⟩, done xs σ2 hS hi2, ⟨⟨hm4, fun t => ?_⟩, hf.size, by simp [hf.defers]⟩⟩
        · rw [List.mem_singleton] at hD
          subst hD
          exact ⟨hf.sr.ml.size, hk3, fun hd => by have := hmc.own_cells hd hk3; cases this⟩
        · have h5 := hS3.sr.env t
          have e1 : tv cxI a t = tv (⟨W3, ownB σ2.mem ι2 ρ2, cx.X, none, mrk w.heap.size :: cx.df, cx.G⟩ : Cx) { a with defers := mrk w.heap.size :: a.defers } t := by unfold tv; rw [eIG]
          rw [e1] at h5
          unfold MR at h5 ⊢
          rw [eIX] at h5
          exact h5
      rw [hrec] at hW3
      subst hW3
      exact hgoal
    · exact hf2.elim

end
end Go.Proofs.Ytcphhbiehaimeaa
