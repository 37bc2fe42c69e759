/- Texts of this proof, put together. -/
import Derived.Test.YtfamkbofdamkkaaGreatDoorKUb
import Derived.RangeFuncRecord
import Derived.RecoverIn
import Derived.OneCell
namespace Go.Proofs.YtfamkbofdamkkaaGreatDoor
open Go.RowKit
set_option linter.unusedVariables false
set_option linter.unusedSimpArgs false

/-- The worlds of reference follow each other. -/
structure Lbs (a b : Cx) : Prop where
 X : b.X = a.X
 os : b.w0.os = a.w0.os
 tape : b.w0.tape = a.w0.tape
 output : b.w0.output = a.w0.output
 size : a.w0.heap.size ≤ b.w0.heap.size
 old : ∀ k, k < a.w0.heap.size → ¬ a.D k → b.w0.heap[k]? = a.w0.heap[k]?
 d : ∀ k, k < a.w0.heap.size → b.D k → a.D k

section
variable {cx : Cx} {mem : Mem} {nx : Nat} {ι : Nat → Nat} {ρ : Nat → Value} {w : World}

def ownB (mem : Mem) (ι : Nat → Nat) (ρ : Nat → Value) (b : Nat) : Prop := ∃ p ∈ mem, blk ι ρ p = some b

theorem ML.reb {a b : Cx} (hL : Lbs a b) (hx : XL a.w0 a.D a.X) (h : ML b mem nx ι ρ w) : ML a mem nx ι ρ w := by
 refine ⟨h.os.trans hL.os, h.tape.trans hL.tape, h.output.trans hL.output, Nat.le_trans hL.size h.size, fun i hi hd => ?_, h.keys, h.lt, fun p hp k hk => ?_, h.inj, hx, fun p hp => ?_⟩
 ·
  rw [h.old i (Nat.lt_of_lt_of_le hi hL.size) (fun hb => hd (hL.d i hi hb))]; exact hL.old i hi hd
 ·
  have := h.own p hp k hk
  refine ⟨this.1, ?_, by rw [← hL.X]; exact this.2.2⟩
  by_cases hi : k < a.w0.heap.size
  ·
   right
   rcases this.2.1 with h1 | h1
   ·
    have := hL.size; omega
   ·
    exact hL.d k hi h1
  ·
   left; omega
 ·
  have := h.obj p hp; rw [hL.X] at this; exact this

/-- The call's own blocks hold cells. -/
theorem ML.own_cells (h : ML cx mem nx ι ρ w) {b : Nat} (hb : ownB mem ι ρ b) {o : Obj} (ho : w.heap[b]? = some o) : isDataO o = true := by
 obtain ⟨⟨i, ob⟩, hp, hpb⟩ := hb
 have hob := h.obj _ hp
 cases ob with
 | cells cs =>
  obtain ⟨vals, e, h1, _⟩ := hob
  simp [blk] at hpb
  simp only at h1
  rw [hpb, ho] at h1
  cases h1; rfl
 | row e z rows =>
  obtain ⟨xs, h1, _⟩ := hob
  simp only [blk] at hpb
  rcases h1.2 with ⟨hv, _⟩ | ⟨g, cap, cur, hv, _, hg, _⟩
  ·
   simp only at hv; rw [hv] at hpb; cases hpb
  ·
   simp only at hv; rw [hv] at hpb
   simp [Value.ownBlock] at hpb
   rw [hpb, ho] at hg
   cases hg; rfl
 | orow e z rows =>
  obtain ⟨xs, h1, _⟩ := hob
  simp only [blk] at hpb
  rcases h1.2 with ⟨hv, _⟩ | ⟨g, cap, cur, hv, _, hg, _⟩
  ·
   simp only at hv; rw [hv] at hpb; cases hpb
  ·
   simp only at hv; rw [hv] at hpb
   simp [Value.ownBlock] at hpb
   rw [hpb, ho] at hg
   cases hg; rfl
 | dict es =>
  obtain ⟨arr, clk, h1, _⟩ := hob
  simp [blk] at hpb
  simp only at h1
  rw [hpb, ho] at h1
  cases h1; rfl
theorem data_of_vu {a : Addr} {x : Value ⊕ (Array MapEntry × Nat)} (h : vu? w a = some x) : ∃ o, w.heap[a.block]? = some o ∧ isDataO o = true := by
 unfold vu? World.cell? at h
 cases ho : w.heap[a.block]? with
 | none => rw [ho] at h; cases h
 | some o =>
  refine ⟨o, rfl, ?_⟩
  rw [ho] at h
  cases o <;> first | rfl | cases h

/-- The world, turned where no cells lie, as the new world of reference. -/
theorem ML.at (h : ML cx mem nx ι ρ w) (w2 : World) (hos : w2.os = w.os) (htape : w2.tape = w.tape) (hout : w2.output = w.output) (hsz : w.heap.size ≤ w2.heap.size)
  (hb : ∀ (k : Nat) (o : Obj), w.heap[k]? = some o → isDataO o = true → w2.heap[k]? = some o) (hlow : ∀ k, k < cx.w0.heap.size → w2.heap[k]? = w.heap[k]?) (r : Option Nat) (df : List Deferred) (G : Nat → Value) :
  ML ⟨w2, ownB mem ι ρ, cx.X, r, df, G⟩ mem nx ι ρ w2 ∧ Lbs cx ⟨w2, ownB mem ι ρ, cx.X, r, df, G⟩ ∧ ∀ c v x, Rel w (OO cx.X mem ι ρ) ι ρ nx c v x → Rel w2 (OO cx.X mem ι ρ) ι ρ nx c v x := by
 have hk : ∀ c v x, Rel w (OO cx.X mem ι ρ) ι ρ nx c v x → Rel w2 (OO cx.X mem ι ρ) ι ρ nx c v x := fun c v x hr =>
  hr.mono (fun a y hy hno => by
   obtain ⟨o, h1, h2⟩ := data_of_vu hy
   exact ⟨vu_of_block hy (by rw [hb _ _ h1 h2, h1]), hno⟩) (fun _ _ => ⟨rfl, rfl⟩) (Nat.le_refl _)
 have hown : ∀ p ∈ mem, ∀ b, blk ι ρ p = some b → w2.heap[b]? = w.heap[b]? := fun p hp b hpb => by
  have hlt := (h.own p hp b hpb).1
  have hs : w.heap[b]? = some w.heap[b] := Array.getElem?_eq_getElem hlt
  rw [hb b _ hs (h.own_cells ⟨p, hp, hpb⟩ hs), hs]
 refine ⟨⟨rfl, rfl, rfl, Nat.le_refl _, fun _ _ _ => rfl, h.keys, h.lt, fun p hp b hpb => ?_, h.inj, ⟨fun b hx => ?_, h.gtc.mono fun a x hc hn => ?_⟩, fun p hp => ?_⟩, ⟨rfl, hos.trans h.os, htape.trans h.tape, hout.trans h.output, Nat.le_trans h.size hsz, fun k hk' hd => ?_, fun k hk' hd => ?_⟩, hk⟩
 ·
  have := h.own p hp b hpb; exact ⟨Nat.lt_of_lt_of_le this.1 hsz, .inr ⟨p, hp, hpb⟩, this.2.2⟩
 ·
  have := h.xlt.lt b hx; have := h.size; exact Nat.lt_of_lt_of_le (by omega) hsz
 ·
  obtain ⟨o, h1, h2⟩ := data_of_vu hc
  exact ⟨vu_of_block hc (by rw [hb _ _ h1 h2, h1]), fun ho => hn (ho.elim .inr .inl)⟩
 ·
  exact OR.mono hk rfl rfl (fun b hpb => hown p hp b hpb) (h.obj p hp)
 ·
  rw [hlow k hk']; exact h.old k hk' hd
 ·
  obtain ⟨p, hp, hpb⟩ := hd
  have := (h.own p hp k hpb).2.1
  rcases this with h1 | h1
  ·
   omega
  ·
   exact h1

/-- A step of others: new blocks, and one block without cells beyond the world of reference. -/
theorem SF.grownBy {N : Nat} {σ : St} {a : Act} {w' : World} {row : Option Nat} (h : SF N cx σ ι ρ a w) (hg : w.grownBy w' row) (hr : ∀ r, row = some r → cx.w0.heap.size ≤ r ∧ ∃ o : Obj, w.heap[r]? = some o ∧ isDataO o = false) : SF N cx σ ι ρ a w' := by
 have hm := h.sr.ml
 have hblk : ∀ b, b < w.heap.size → (∀ o, w.heap[b]? = some o → isDataO o = true) → w'.heap[b]? = w.heap[b]? := fun b hb hc => by
  refine hg.block b hb fun e => ?_
  obtain ⟨_, o, h1, h2⟩ := hr b e.symm
  rw [hc o h1] at h2; cases h2
 have hk : ∀ c v x, Rel w (OO cx.X σ.mem ι ρ) ι ρ σ.nx c v x → Rel w' (OO cx.X σ.mem ι ρ) ι ρ σ.nx c v x := fun c v x hrel =>
  hrel.mono (fun a y hy hno => by
   obtain ⟨o, h1, h2⟩ := data_of_vu hy
   exact ⟨vu_of_block hy (hblk _ (some_lt h1) fun o' h3 => by rw [h1] at h3; cases h3; exact h2), hno⟩) (fun _ _ => ⟨rfl, rfl⟩) (Nat.le_refl _)
 refine ⟨⟨⟨hg.os.trans hm.os, hg.tape.trans hm.tape, hg.output.trans hm.output, Nat.le_trans hm.size hg.size, fun b hb0 hd => ?_, hm.keys, hm.lt, fun p hp b hpb => ?_, hm.inj, hm.xlt, fun p hp => ?_⟩, fun t => hk _ _ _ (h.sr.env t)⟩, h.size, h.defers⟩
 ·
  rw [hg.block b (Nat.lt_of_lt_of_le hb0 hm.size) (fun e => by have := (hr b e.symm).1; omega)]; exact hm.old b hb0 hd
 ·
  have := hm.own p hp b hpb; exact ⟨Nat.lt_of_lt_of_le this.1 hg.size, this.2⟩
 ·
  exact OR.mono hk rfl rfl (fun b hpb => hblk b (hm.own p hp b hpb).1 fun o ho => hm.own_cells ⟨p, hp, hpb⟩ ho) (hm.obj p hp)
end

/-- What an iterator's own steps leave alone: data (cells, maps). -/
def AbidesI {β : Type} (B : Nat) (J : β → World → Prop) : Prop :=
 ∀ s W W' row, J s W → W.grownBy W' row → (∀ r, row = some r → B ≤ r ∧ ∃ o : Obj, W.heap[r]? = some o ∧ isDataO o = false ∧ o.isWalk = true) → J s W'

/-- What a round keeps of what lay below B, outside of X. -/
structure KpX (B : Nat) (X : Nat → Prop) (w w' : World) : Prop where
 os : w'.os = w.os
 tape : w'.tape = w.tape
 output : w'.output = w.output
 size : w.heap.size ≤ w'.heap.size
 old : ∀ k, k < B → ¬ X k → w'.heap[k]? = w.heap[k]?
theorem KpX.trans {B : Nat} {X : Nat → Prop} {a b c : World} (h : KpX B X a b) (k : KpX B X b c) : KpX B X a c :=
 ⟨k.os.trans h.os, k.tape.trans h.tape, k.output.trans h.output, Nat.le_trans h.size k.size, fun i hi hX => (k.old i hi hX).trans (h.old i hi hX)⟩

/-- Function f, that has caught caps, hands out what S says, as an iterator. -/
def SeqA {α : Type} (P : Program) (ev : α → Value) (f : FuncId) (caps : List V) (S : List α → Prop) (n : Nat) : Prop :=
 ∀ (w : World) (X : Nat → Prop) (cvs : Array Value), XL w (fun _ => False) X → cvs.size = caps.length →
  (∀ i, i < caps.length → Rel w X (fun _ => 0) (fun _ => undef) 0 true (caps.getD i .any) (cvs.getD i undef)) →
  ∀ (l : Nat) (J Jx : List α → World → Prop) (W : World), Below w.heap.size w W → AbidesI W.heap.size J → AbidesI W.heap.size Jx → (∀ pre W1, Jx pre W1 → GTC W1 fun _ => False) →
  (∀ pre x W1, J pre W1 → pre.length < n → YieldAt (Fr none) (0 - 1) P l #[ev x] W1 fun e W' =>
   (e = .returned (.bool true) ∧ J (pre ++ [x]) W' ∧ KpX w.heap.size X W1 W') ∨ (e = .returned (.bool false) ∧ Jx (pre ++ [x]) W')) →
  J [] W → CallsIn (Fr none) 0 P f (#[.func (.yield l) #[] #[]] ++ cvs) W fun e W' => (∃ v, e = .returned v) ∧ ((∃ xs, S xs ∧ J xs W') ∨ (∃ pre : List α, True ∧ Jx pre W'))

/-- The walk of a round. -/
def CR (P : Program) (N : Nat) : Ctl P N where
 S := fun a => a.r ≠ none
 L := fun a b => a = b
 Y := fun _ _ _ => False
 refl := fun _ => rfl
 trans := fun h k => h.trans k
 pres := fun h k => h ▸ k
 hr := fun h => by rw [h]
 ys := fun _ _ h => h.elim

/-- At a round's begin: the slots are those of the loop's; ghosts of them are kept. -/
def St.rd (σ : St) (tp : Nat) (v : V) : St := ⟨(tp, v) :: (σ.env.filter (fun p => Nat.blt p.1 2000000) ++ σ.env.map fun p => (2000000 + p.1, p.2)), σ.mem, σ.nx⟩
def St.bk (σ : St) : St := ⟨σ.env.filterMap fun p => if Nat.ble 2000000 p.1 = true then some (p.1 - 2000000, p.2) else none, σ.mem, σ.nx⟩

theorem lookup_filterK (q : Nat → Bool) : ∀ (env : List (Nat × V)) (t : Nat), (env.filter (fun p => q p.1)).lookup t = if q t = true then env.lookup t else none
 | [], t => by simp
 | (k, v) :: env, t => by
  simp only [List.filter_cons, List.lookup_cons]
  by_cases e : t = k
  ·
   subst e
   by_cases hq : q t = true
   ·
    simp [hq]
   ·
    simp [hq, lookup_filterK q env t]
  ·
   have e1 : (t == k) = false := by simpa using e
   rw [e1]
   split
   ·
    simp only [List.lookup_cons, e1]; exact lookup_filterK q env t
   ·
    exact lookup_filterK q env t
theorem lookup_shift (B : Nat) : ∀ (env : List (Nat × V)) (t : Nat), (env.map fun p => (B + p.1, p.2)).lookup t = if B ≤ t then env.lookup (t - B) else none
 | [], t => by simp
 | (k, v) :: env, t => by
  simp only [List.map_cons, List.lookup_cons, lookup_shift B env t]
  by_cases e : t = B + k
  ·
   subst e; simp
  ·
   have e1 : (t == B + k) = false := by simpa using e
   rw [e1]
   by_cases ht : B ≤ t
   ·
    have e2 : (t - B == k) = false := by simp; omega
    simp [ht, e2]
   ·
    simp [ht]
theorem lookup_bk (B : Nat) : ∀ (env : List (Nat × V)) (t : Nat), (env.filterMap fun p => if Nat.ble B p.1 = true then some (p.1 - B, p.2) else none).lookup t = env.lookup (B + t)
 | [], t => by simp
 | (k, v) :: env, t => by
  simp only [List.filterMap_cons, List.lookup_cons]
  by_cases hk : B ≤ k
  ·
   have : Nat.ble B k = true := Nat.ble_eq_true_of_le hk
   simp only [this, if_true, List.lookup_cons]
   by_cases e : t = k - B
   ·
    have e2 : (B + t == k) = true := by simp; omega
    have e1 : (t == k - B) = true := by simpa using e
    simp [e1, e2]
   ·
    have e1 : (t == k - B) = false := by simpa using e
    have e2 : (B + t == k) = false := by simp; omega
    rw [e1, e2]; exact lookup_bk B env t
  ·
   have : ¬ Nat.ble B k = true := fun h => hk (Nat.le_of_ble_eq_true h)
   have e2 : (B + t == k) = false := by simp; omega
   simp only [if_neg this, e2]
   exact lookup_bk B env t
theorem slot_bk (σ : St) (t : Nat) : σ.bk.slot t = σ.slot (2000000 + t) := by
 unfold St.slot St.bk
 rw [lookup_bk]
theorem lookup_rd (B : Nat) (env : List (Nat × V)) (t : Nat) : ((env.filter (fun p => Nat.blt p.1 B) ++ env.map fun p => (B + p.1, p.2)).lookup t) = if t < B then env.lookup t else env.lookup (t - B) := by
 rw [lookup_app, lookup_shift, lookup_filterK (fun k => Nat.blt k B)]
 by_cases ht : t < B
 ·
  have : Nat.blt t B = true := by simpa [Nat.blt_eq] using ht
  have h2 : ¬ B ≤ t := by omega
  simp only [this, if_true, if_pos ht, if_neg h2]
  cases env.lookup t <;> rfl
 ·
  have : ¬ Nat.blt t B = true := by simpa [Nat.blt_eq] using ht
  have h2 : B ≤ t := by omega
  simp only [if_neg this, if_neg ht, if_pos h2]
theorem slot_rd (σ : St) (tp : Nat) (v : V) (t : Nat) : (σ.rd tp v).slot t = if t = tp then v else if t < 2000000 then σ.slot t else σ.slot (t - 2000000) := by
 unfold St.slot St.rd
 simp only [List.lookup_cons]
 by_cases e : t = tp
 ·
  subst e; simp
 ·
  have e1 : (t == tp) = false := by simpa using e
  rw [e1, if_neg e]
  simp only [lookup_rd]
  split <;> rfl

theorem SF.mlcx {N : Nat} {a b : Cx} {σ : St} {ι : Nat → Nat} {ρ : Nat → Value} {c : Act} {w : World} (h : SF N a σ ι ρ c w) (hm : ML b σ.mem σ.nx ι ρ w) (hX : b.X = a.X) {c' : Act} (hs : c'.tmps.size = N) (hd : c'.defers = b.df)
  {σ' : St} (he : σ'.mem = σ.mem) (hn : σ'.nx = σ.nx) (hv : ∀ t, MR a σ.mem σ.nx ι ρ w (σ'.slot t) (tv b c' t)) : SF N b σ' ι ρ c' w := by
 refine ⟨⟨by rw [he, hn]; exact hm, fun t => ?_⟩, hs, hd⟩
 have := hv t
 unfold MR at this ⊢
 rw [he, hn, hX]; exact this

section
variable {P : Program} {N : Nat}
/-- **A loop over a function.** Inv: between two rounds. -/
theorem tr_rangeFunc {α : Type} {g : Operand} {tp : Tmp} {assign body : Code} {σ : St} {Ψ : Exit → St → Prop} {ev : α → Value} {en : α → V} {f : FuncId} {caps : List V} {S : List α → Prop} {n : Nat}
  (hit : SeqA P ev f caps S n) (hen : ∀ (x : α) (w : World) (O : Nat → Prop) (ι : Nat → Nat) (ρ : Nat → Value) (nx : Nat) (c : Bool), Rel w O ι ρ nx c (en x) (ev x))
  (hg : σ.get g = .fn f caps) (hcl : V.clL caps = true) (hok : okF P f = true) (htp : (decide (tp < N) && decide (tp < 1000000)) = true) (Inv : List α → St → Prop) (kp : List Nat) (h0 : Inv [] (σ.norm kp))
  (round : ∀ (pre : List α) (x : α) (σ1 : St), Inv pre σ1 → pre.length < n → ∀ K : St → Prop, (∀ σ', (∃ σ'', Wk N σ'.bk σ'' ∧ Inv (pre ++ [x]) σ'') → K σ') → ∀ K1 : St → Prop, (∀ σ', Tr (CR P N) body σ' (thenE K fun _ _ => False) → K1 σ') →
   Tr (CR P N) assign (σ1.rd tp (en x)) (thenE K1 fun _ _ => False))
  (done : ∀ (xs : List α) (σ' : St), S xs → Inv xs σ' → Ψ .normal σ') : Tr (C0 P N) (.rangeFunc g #[tp] assign body) σ Ψ := by
 intro cx ι ρ a w hr hf
 replace hr : cx.r = none := hr
 have htp' : tp < N ∧ tp < 1000000 := by simpa using htp
 have hge := hf.sr.get g
 rw [hg] at hge
 unfold MR at hge
 obtain ⟨cvs, hae, hcs, hcr⟩ : ∃ cvs : Array Value, a.eval g = .func (.func f) #[] cvs ∧ cvs.size = caps.length ∧ ∀ i, i < caps.length → Rel w (OO cx.X σ.mem ι ρ) ι ρ σ.nx false (caps.getD i .any) (cvs.getD i undef) := by
  generalize a.eval g = y at hge
  cases hge with
  | fn _ _ _ cvs h1 h2 => exact ⟨cvs, rfl, h1, h2⟩
 obtain ⟨hmI, hLI, -⟩ := hf.sr.ml.at w rfl rfl rfl (Nat.le_refl _) (fun _ _ h _ => h) (fun _ _ => rfl) none cx.df cx.G
 have hxI : ∀ b, OO cx.X σ.mem ι ρ b → b < w.heap.size := hf.sr.ml.xl.lt
 have hseq := hit w (OO cx.X σ.mem ι ρ) cvs hf.sr.ml.xl hcs (fun i hi => ((hcr i hi).of_cl (V.clL_getD hcl i) true).free rfl true)
 obtain ⟨cxI, hcxI⟩ : ∃ c : Cx, (⟨w, ownB σ.mem ι ρ, cx.X, none, cx.df, cx.G⟩ : Cx) = c := ⟨_, rfl⟩
 have eI0 : cxI.w0 = w := by rw [← hcxI]
 have eID : cxI.D = ownB σ.mem ι ρ := by rw [← hcxI]
 have eIX : cxI.X = cx.X := by rw [← hcxI]
 have eIG : cxI.G = cx.G := by rw [← hcxI]
 have eId : cxI.df = cx.df := by rw [← hcxI]
 rw [hcxI] at hmI hLI
 have hIx : XL cxI.w0 cxI.D cxI.X := hmI.xlt
 have hfI : SF N cxI σ ι ρ a w := hf.mlcx hmI eIX hf.size (by rw [eId]; exact hf.defers) rfl rfl (fun t => by
  have e1 : tv cxI a t = tv cx a t := by unfold tv; rw [eIG]
  rw [e1]; exact hf.sr.env t)
 rw [hr]
 refine wpIn_rangeFunc ?_
 intro fn hfn
 obtain ⟨rec, hrec⟩ : ∃ rec : LoopState → Option Code → Loop, rec = fun st pe => { state := st, pending := pe, fn, tmps := a.tmps, params := #[tp], assign, body, defers := w.heap.size } := ⟨_, rfl⟩
 obtain ⟨W1, hW1⟩ : ∃ W1, (w.alloc (.deferred (some []))).alloc (.loop (rec .ready none)) = W1 := ⟨_, rfl⟩
 have hsz1 : W1.heap.size = w.heap.size + 2 := by rw [← hW1]; simp
 have hL1 : W1.heap[w.heap.size + 1]? = some (.loop (rec .ready none)) := by
  rw [← hW1]; have := World.alloc_heap_new (w.alloc (.deferred (some []))) (.loop (rec .ready none)); rwa [World.size_alloc] at this
 have hK1 : W1.heap[w.heap.size]? = some (.deferred (some [])) := by
  rw [← hW1]; exact (Below.heap_alloc _ _ _ (by simp)).trans (World.alloc_heap_new w _)
 have hB1 : Below w.heap.size w W1 := by
  rw [← hW1]; exact ((Below.refl _ w).alloc (Nat.le_refl _) _).alloc (by simp) _
 have hg1 : w.grownBy W1 none := ⟨hB1.os, hB1.tape, hB1.output, hB1.size, fun k hk _ => hB1.block k hk⟩
 refine ⟨w.heap.size + 1, [mrk w.heap.size], W1, { target := .fn (.func f) cvs, args := #[.func (.yield (w.heap.size + 1)) #[] #[]] }, W1, f,
  #[.func (.yield (w.heap.size + 1)) #[] #[]] ++ cvs, W1, ?_, ?_, fun _ _ => trivial, ?_, (fun h => by simp [Fr] at h), ?_⟩
 ·
  rw [← hW1, hrec]; exact run_enterLoop_outer _ _ _ _ _
 ·
  simp only [resolve, hae]
  simp [go_sem]
 ·
  simp [invoke, okF_spec hok]
 refine (hseq (w.heap.size + 1)
  (fun pre W => (∃ σ' ι' ρ', Inv pre σ' ∧ SF N cxI σ' ι' ρ' a W) ∧ W.heap[w.heap.size + 1]? = some (.loop (rec .ready none)) ∧ W.heap[w.heap.size]? = some (.deferred (some [])))
  (fun _ _ => False) W1 hB1 ?_ (fun _ _ _ _ h _ _ => h) (fun _ _ h => h.elim) ?_ ⟨⟨σ.norm kp, ι, ρ, h0, ⟨(hfI.grownBy hg1 (fun r e => by cases e)).sr.norm kp, hfI.size, hfI.defers⟩⟩, hL1, hK1⟩).mono ?_
 ·
  -- what lies stays through a step of the iterator's
  rintro s A B row ⟨⟨σ1, ι1, ρ1, h1, h2⟩, h3, h4⟩ hg' hr'
  have hnc : ∀ r, row = some r → cxI.w0.heap.size ≤ r ∧ ∃ o : Obj, A.heap[r]? = some o ∧ isDataO o = false := fun r e => by
   obtain ⟨hB, o, ho, hd, -⟩ := hr' r e
   exact ⟨by rw [eI0]; omega, o, ho, hd⟩
  have hwk : ∀ r, row = some r → ∃ o : Obj, A.heap[r]? = some o ∧ o.isWalk = true := fun r e => by
   obtain ⟨-, o, ho, -, hw⟩ := hr' r e
   exact ⟨o, ho, hw⟩
  exact ⟨⟨σ1, ι1, ρ1, h1, h2.grownBy hg' hnc⟩, (grownBy_keeps hg' hwk h3 rfl).trans h3, (grownBy_keeps hg' hwk h4 rfl).trans h4⟩
 ·
  -- a round
  rintro pre x W ⟨⟨σ1, ι1, ρ1, hi, hs⟩, hl, hk⟩ hlen
  have hy := run_yield (P := P) (args := #[ev x]) hl (by rw [hrec]; rfl)
  rw [hrec] at hy
  have htm : Array.foldl (fun tmps (x : Tmp × Value) => tmps.setIfInBounds x.fst x.snd) a.tmps (Array.zip #[tp] #[ev x]) = a.tmps.setIfInBounds tp (ev x) := by simp
  replace hy : Sem.run P (Instr.yield (w.heap.size + 1) #[ev x]) W = Result.ok (Next.round (w.heap.size + 1) fn (a.tmps.setIfInBounds tp (ev x)) assign body) W := by rw [← htm]; exact hy
  refine ⟨fn, _, assign, body, hy, roundIn_of_wpIn hfn ?_⟩
  obtain ⟨hm1, hLb1, -⟩ := hs.sr.ml.at W rfl rfl rfl (Nat.le_refl _) (fun _ _ h _ => h) (fun _ _ => rfl) (some (w.heap.size + 1)) [] (fun t => if 2000000 ≤ t then tv cx a (t - 2000000) else cx.G t)
  have hlS : w.heap.size + 1 < W.heap.size := some_lt hl
  have hS1 : SF N ⟨W, ownB σ1.mem ι1 ρ1, cxI.X, some (w.heap.size + 1), [], fun t => if 2000000 ≤ t then tv cx a (t - 2000000) else cx.G t⟩ (σ1.rd tp (en x)) ι1 ρ1 { tmps := a.tmps.setIfInBounds tp (ev x), defers := [] } W := by
   refine hs.mlcx hm1 rfl (by simp [hf.size]) rfl rfl rfl fun t => ?_
   have hvt := hs.sr.env t
   rw [slot_rd]
   by_cases e : t = tp
   ·
    subst e
    rw [if_pos rfl]
    have : tv (⟨W, ownB σ1.mem ι1 ρ1, cxI.X, some (w.heap.size + 1), [], fun t => if 2000000 ≤ t then tv cx a (t - 2000000) else cx.G t⟩ : Cx) { tmps := a.tmps.setIfInBounds t (ev x), defers := [] } t = ev x := by
     unfold tv
     rw [if_pos htp'.2]
     have h2 : t < a.tmps.size := by rw [hf.size]; exact htp'.1
     simp [Array.getD, h2]
    rw [this]
    exact hen x _ _ _ _ _ _
   ·
    rw [if_neg e]
    by_cases h2 : t < 2000000
    ·
     rw [if_pos h2]
     have : tv (⟨W, ownB σ1.mem ι1 ρ1, cxI.X, some (w.heap.size + 1), [], fun t => if 2000000 ≤ t then tv cx a (t - 2000000) else cx.G t⟩ : Cx) { tmps := a.tmps.setIfInBounds tp (ev x), defers := [] } t = tv cxI a t := by
      unfold tv
      split
      ·
       rw [Array.getD_eq_getD_getElem?, Array.getElem?_setIfInBounds_ne (Ne.symm e), ← Array.getD_eq_getD_getElem?]
      ·
       simp only []
       rw [if_neg (by omega), eIG]
     rw [this]; exact hvt
    ·
     rw [if_neg h2]
     have h3 := hs.sr.env (t - 2000000)
     have : tv (⟨W, ownB σ1.mem ι1 ρ1, cxI.X, some (w.heap.size + 1), [], fun t => if 2000000 ≤ t then tv cx a (t - 2000000) else cx.G t⟩ : Cx) { tmps := a.tmps.setIfInBounds tp (ev x), defers := [] } t = tv cxI a (t - 2000000) := by
      have h4 : ¬ t < 1000000 := by omega
      have e2 : tv cxI a (t - 2000000) = tv cx a (t - 2000000) := by unfold tv; rw [eIG]
      rw [e2]
      show (if t < 1000000 then _ else _) = _
      rw [if_neg h4]
      simp only []
      rw [if_pos (by omega)]
     rw [this]; exact h3
  have hA := round pre x σ1 hi hlen _ (fun σ' h => h) _ (fun σ' h => h) _ _ _ _ _ (by simp [CR]) hS1
  refine Code.wpIn_mono (fun e a1 w1 hq => ?_) hA
  obtain ⟨cx1, σ2, ι2, ρ2, rfl, hb, hs2⟩ := hq
  cases e with
  | normal =>
   have hl1 : w1.heap[w.heap.size + 1]? = some (.loop (rec .ready none)) := by
    rw [hs2.sr.ml.old _ hlS (fun hd => by have := hs.sr.ml.own_cells hd hl; cases this)]; exact hl
   have hkS : w.heap.size < W.heap.size := some_lt hk
   have hk1 : w1.heap[w.heap.size]? = some (.deferred (some [])) := by
    rw [hs2.sr.ml.old _ hkS (fun hd => by have := hs.sr.ml.own_cells hd hk; cases this)]; exact hk
   refine ⟨_, run_beginRound hl1 (by rw [hrec]), ?_⟩
   have hmI1 := hs2.sr.ml.reb hLb1 hIx
   obtain ⟨W2, hW2⟩ : ∃ W2, w1.putObj (w.heap.size + 1) (.loop { rec .ready none with state := .busy }) = W2 := ⟨_, rfl⟩
   have h2o : ∀ k, k ≠ w.heap.size + 1 → W2.heap[k]? = w1.heap[k]? := fun k hk => by rw [← hW2]; exact World.putObj_heap_other hk
   have hl2 : W2.heap[w.heap.size + 1]? = some (.loop { rec .ready none with state := .busy }) := by rw [← hW2]; exact World.putObj_heap_same (some_lt hl1)
   have hk2 : W2.heap[w.heap.size]? = some (.deferred (some [])) := (h2o _ (by omega)).trans hk1
   have hsz2 : W2.heap.size = w1.heap.size := by rw [← hW2]; simp
   rw [hW2]
   obtain ⟨hm2, hLb2, hkp2⟩ := hmI1.at W2 (by rw [← hW2]; rfl) (by rw [← hW2]; rfl) (by rw [← hW2]; rfl) (by omega) (fun k o h1 h2 => by
     by_cases e : k = w.heap.size + 1
     ·
      subst e; rw [hl1] at h1; cases h1; cases h2
     ·
      rw [h2o k e]; exact h1) (fun k hk => h2o k (by rw [eI0] at hk; omega)) (some (w.heap.size + 1)) [] (fun t => if 2000000 ≤ t then tv cx a (t - 2000000) else cx.G t)
   have hS2 : SF N ⟨W2, ownB σ2.mem ι2 ρ2, cxI.X, some (w.heap.size + 1), [], fun t => if 2000000 ≤ t then tv cx a (t - 2000000) else cx.G t⟩ σ2 ι2 ρ2 a1 W2 :=
    ⟨⟨hm2, fun t => hkp2 _ _ _ (hs2.sr.env t)⟩, hs2.size, hs2.defers⟩
   have hBo := hb _ _ _ _ _ (by simp [CR]) hS2
   refine Code.wpIn_mono (fun e a3 W3 hq => ?_) hBo
   obtain ⟨cx3, σ3, ι3, ρ3, rfl, hc, hs3⟩ := hq
   cases e with
   | normal =>
    obtain ⟨σ4, hw4, hi4⟩ := hc
    have hl3 : W3.heap[w.heap.size + 1]? = some (.loop { rec .ready none with state := .busy }) := by
     rw [hs3.sr.ml.old _ (some_lt hl2) (fun hd => by have := hmI1.own_cells hd hl1; cases this)]; exact hl2
    have hk3 : W3.heap[w.heap.size]? = some (.deferred (some [])) := by
     rw [hs3.sr.ml.old _ (some_lt hk2) (fun hd => by have := hmI1.own_cells hd hk1; cases this)]; exact hk2
    have hend := run_endRound (P := P) none hl3
    refine ⟨_, _, hend, .inl ⟨by simp, ?_, ?_⟩⟩
    ·
     have hmI3 := hs3.sr.ml.reb hLb2 hIx
     have hS3 : SF N cxI σ3.bk ι3 ρ3 a W3 := by
      refine hs3.mlcx hmI3 rfl hf.size (by rw [eId]; exact hf.defers) rfl rfl fun t => ?_
      have h5 := hs3.sr.env (2000000 + t)
      rw [slot_bk]
      have : tv (⟨W2, ownB σ2.mem ι2 ρ2, cxI.X, some (w.heap.size + 1), [], fun t => if 2000000 ≤ t then tv cx a (t - 2000000) else cx.G t⟩ : Cx) a3 (2000000 + t) = tv cxI a t := by
       have e2 : tv cxI a t = tv cx a t := by unfold tv; rw [eIG]
       rw [e2]
       show (if 2000000 + t < 1000000 then _ else _) = _
       rw [if_neg (by omega)]
       simp only []
       rw [if_pos (by omega), Nat.add_sub_cancel_left]
      rw [this] at h5; exact h5
     obtain ⟨ι4, ρ4, hS4⟩ := hw4 _ _ _ _ _ hS3
     refine ⟨⟨σ4, ι4, ρ4, hi4, hS4.turn hl3 rfl (by rw [eI0]; omega)⟩, ?_, ?_⟩
     ·
      have := World.putObj_heap_same (w := W3) (o := .loop (rec .ready none)) (some_lt hl3)
      rw [hrec] at this ⊢
      exact this
     ·
      exact (World.putObj_heap_other (by omega)).trans hk3
    ·
     have hmI3 := hs3.sr.ml.reb hLb2 hIx
     have hmW := hs.sr.ml
     refine ⟨hmI3.os.trans hmW.os.symm, hmI3.tape.trans hmW.tape.symm, hmI3.output.trans hmW.output.symm, ?_, fun k hk hX => ?_⟩
     ·
      have e1 := hs2.sr.ml.size
      have e2 := hs3.sr.ml.size
      simp only at e1 e2
      simp only [World.putObj_size]
      omega
     ·
      have hnd : ¬ cxI.D k := fun hd => hX (.inr (by rw [eID] at hd; exact hd))
      have e1 := hmI3.old k (by rw [eI0]; exact hk) hnd
      have e2 := hmW.old k (by rw [eI0]; exact hk) hnd
      exact ((World.putObj_heap_other (by omega)).trans e1).trans e2.symm
   | _ => exact hc.elim
  | _ => exact hb.elim
 ·
  -- behind the iterator
  rintro e W2 ⟨⟨v, rfl⟩, (⟨xs, hS, ⟨σ2, ι2, ρ2, hi2, hs2⟩, hl2, hk2⟩ | ⟨pre, -, hf2⟩)⟩
  ·
   have hend := run_endLoop (P := P) hl2 (by rw [hrec]; simp)
   refine ⟨_, _, hend, ?_⟩
   rw [hrec]
   simp only
   have hW3e : ∃ W3, W2.putObj (w.heap.size + 1) (.loop { rec .ready none with state := .exhausted }) = W3 := ⟨_, rfl⟩
   obtain ⟨W3, hW3⟩ := hW3e
   have hS3 : SF N cxI σ2 ι2 ρ2 a W3 := by rw [← hW3]; exact hs2.turn hl2 rfl (by rw [eI0]; omega)
   have hk3 : W3.heap[w.heap.size]? = some (.deferred (some [])) := by rw [← hW3]; exact (World.putObj_heap_other (by omega)).trans hk2
   have hgoal : ∃ cx' σ' ι' ρ', Ltr cx cx' ∧ Ψ .normal σ' ∧ SF N cx' σ' ι' ρ' { a with defers := mrk w.heap.size :: a.defers } W3 := by
    have hmc := hS3.sr.ml.reb hLI hf.sr.ml.xlt
    obtain ⟨hm4, hLb4, hkp4⟩ := hmc.at W3 rfl rfl rfl (Nat.le_refl _) (fun _ _ h _ => h) (fun _ _ => rfl) none (mrk w.heap.size :: cx.df) cx.G
    refine ⟨⟨W3, ownB σ2.mem ι2 ρ2, cx.X, none, mrk w.heap.size :: cx.df, cx.G⟩, σ2, ι2, ρ2, ⟨hr.symm, rfl, rfl, hLb4.os, hLb4.tape, hLb4.output, hLb4.size, hLb4.old, hLb4.d, [w.heap.size], rfl, by simp, fun D hD => ?_⟩, done xs σ2 hS hi2, ⟨⟨hm4, fun t => ?_⟩, hf.size, by simp [hf.defers]⟩⟩
    ·
     rw [List.mem_singleton] at hD
     subst hD
     exact ⟨hf.sr.ml.size, hk3, fun hd => by have := hmc.own_cells hd hk3; cases this⟩
    ·
     have h5 := hS3.sr.env t
     have e1 : tv cxI a t = tv (⟨W3, ownB σ2.mem ι2 ρ2, cx.X, none, mrk w.heap.size :: cx.df, cx.G⟩ : Cx) { a with defers := mrk w.heap.size :: a.defers } t := by unfold tv; rw [eIG]
     rw [e1] at h5
     unfold MR at h5 ⊢
     rw [eIX] at h5
     exact h5
   rw [hrec] at hW3
   subst hW3
   exact hgoal
  ·
   exact hf2.elim

end
/-- What stands in any world. -/
def V.simp : V → Bool
  | .int _ _ => true
  | .bool _ => true
  | .str _ => true
  | .yl _ => true
  | .nf => true
  | .np => true
  | .ub => true
  | .gd _ v => v.simp
  | _ => false
theorem Rel.simp {w w' : World} {O O' : Nat → Prop} {ι ι' : Nat → Nat} {ρ ρ' : Nat → Value} {nx nx' : Nat} {c : Bool} {v : V} {x : Value} (h : Rel w O ι ρ nx c v x) : v.simp = true → Rel w' O' ι' ρ' nx' c v x := by
  induction h with
  | int c k n => exact fun _ => .int c k n
  | bool c b => exact fun _ => .bool c b
  | str c s => exact fun _ => .str c s
  | yl c l => exact fun _ => .yl c l
  | nf c => exact fun _ => .nf c
  | np c => exact fun _ => .np c
  | ub c b => exact fun _ => .ub c b
  | gd c g v x _ h0 ih => exact fun e => .gd c g v x (fun hg => ih hg (by simpa [V.simp] using e)) h0
  | _ => intro e; simp [V.simp] at e
def V.simpl (v : V) : V :=
  match v.simp with
  | true => v
  | false => .any
def simE : List (Nat × V) → List (Nat × V)
  | [] => []
  | p :: ps => (p.1, p.2.simpl) :: simE ps
theorem lookup_simE : ∀ (env : List (Nat × V)) (t : Nat), ((simE env).lookup t).getD .any = ((env.lookup t).getD .any).simpl
  | [], t => by simp [simE, V.simpl, V.simp]
  | (k, v) :: env, t => by
    simp only [simE, List.lookup_cons]
    cases t == k
    · exact lookup_simE env t
    · rfl
def keepE (σ : St) : List Nat → List (Nat × V)
  | [] => []
  | t :: ts => (t, σ.slot t) :: keepE σ ts
theorem lookup_keepE (σ : St) : ∀ (ts : List Nat) (t : Nat), (keepE σ ts).lookup t = none ∨ (t ∈ ts ∧ (keepE σ ts).lookup t = some (σ.slot t))
  | [], t => .inl rfl
  | s :: ts, t => by
    simp only [keepE, List.lookup_cons]
    by_cases e : t = s
    · subst e; right; simp
    · have e1 : (t == s) = false := by simpa using e
      rw [e1]
      rcases lookup_keepE σ ts t with h | ⟨h1, h2⟩
      · exact .inl h
      · exact .inr ⟨List.mem_cons_of_mem _ h1, h2⟩

section
variable {α : Type}
/-- Behind a round that goes on; behind one that has said no more. -/
def goY (en : α → V) (σ : St) (pre : List α) (ts : List Nat) : St := ⟨(1000000, .tup (pre.map en)) :: (keepE σ ts ++ simE σ.env), [], σ.nx⟩
def stY (en : α → V) (σ : St) (pre : List α) : St := ⟨(1000000, .tup (pre.map en)) :: (1000001, .bool true) :: simE σ.env, [], σ.nx⟩

/-- A call of yield. -/
def YI (l : Nat) (en : α → V) (n : Nat) (caps : List (Value × V)) (op : Op) (σ : St) (K : V → St → Prop) : Prop :=
  match op with
  | .call { callee := .value f, args, argTypes } =>
    match args.toList with
    | [x] => un (some true) (σ.get f) fun vf => vf = .yl l ∧ un (some true) (σ.get x) fun vx => ∃ (x0 : α) (pre : List α) (ts : List Nat), vx = en x0 ∧ σ.slot 1000000 = .tup (pre.map en) ∧ σ.slot 1000001 = .bool false ∧ pre.length < n ∧
        (∀ t ∈ ts, ∃ q ∈ caps, σ.slot t = .eq q.1 q.2) ∧ K (.bool true) (goY en σ (pre ++ [x0]) ts) ∧ K (.bool false) (stY en σ (pre ++ [x0]))
    | _ => False
  | _ => False

/-- How the iterator's value stands for the loop's. -/
structure EnOK (ev : α → Value) (en : α → V) : Prop where
  inj : ∀ x y, ev x = ev y → x = y
  inv : ∀ (x : α) (w : World) (O : Nat → Prop) (ι : Nat → Nat) (ρ : Nat → Value) (nx : Nat) (c : Bool) (y : Value), Rel w O ι ρ nx c (en x) y → y = ev x
  rel : ∀ (x : α) (w : World) (O : Nat → Prop) (ι : Nat → Nat) (ρ : Nat → Value) (nx : Nat) (c : Bool), Rel w O ι ρ nx c (en x) (ev x)

structure YC (α : Type) where
  ev : α → Value
  en : α → V
  ok : EnOK ev en
  B : Nat
  B1 : Nat
  X : Nat → Prop
  l : Nat
  J : List α → World → Prop
  Jx : List α → World → Prop
  n : Nat
  caps : List (Value × V)
  hB : B ≤ B1
  hX : ∀ b, X b → b < B
  hGx : ∀ pre w', Jx pre w' → GTC w' fun _ => False
  hJ : AbidesI B1 J
  hJx : AbidesI B1 Jx

def SI {α : Type} (y : YC α) (cx : Cx) : Prop :=
  cx.r = none ∧ cx.D = (fun _ => False) ∧ cx.df = [] ∧ ∃ (pre : List α) (stop : Bool), cx.G 1000000 = .tuple (pre.map y.ev).toArray ∧ cx.G 1000001 = .bool stop ∧
    (stop = false → cx.X = y.X ∧ y.B ≤ cx.w0.heap.size ∧ y.J pre cx.w0 ∧ (∀ q ∈ y.caps, Rel cx.w0 (fun b => y.X b ∨ y.B ≤ b) (fun _ => 0) (fun _ => undef) 0 true q.2 q.1) ∧ GTC cx.w0 fun b => y.X b ∨ y.B ≤ b) ∧ (stop = true → y.Jx pre cx.w0)

theorem tup_eq {ev : α → Value} {en : α → V} (hk : EnOK ev en) {w : World} {O : Nat → Prop} {ι : Nat → Nat} {ρ : Nat → Value} {nx : Nat} {c : Bool} {pre pre' : List α}
    (h : Rel w O ι ρ nx c (.tup (pre.map en)) (.tuple (pre'.map ev).toArray)) : pre' = pre := by
  generalize hts : pre.map en = ts at h
  generalize hvs : (pre'.map ev).toArray = vs at h
  cases h with
  | tup _ _ _ hl hr =>
    subst hts; subst hvs
    have hlen : pre'.length = pre.length := by simpa using hl
    refine List.ext_getElem hlen fun i h1 h2 => ?_
    have := hr i (by simpa using h2)
    have e1 : (pre.map en).getD i .any = en pre[i] := by simp [List.getD, h2]
    have e2 : (pre'.map ev).toArray.getD i undef = ev pre'[i] := by simp [Array.getD, h1]
    rw [e1, e2] at this
    exact hk.inj _ _ (hk.inv _ _ _ _ _ _ _ _ this)
theorem tup_rel {ev : α → Value} {en : α → V} (hk : EnOK ev en) (w : World) (O : Nat → Prop) (ι : Nat → Nat) (ρ : Nat → Value) (nx : Nat) (c : Bool) (pre : List α) :
    Rel w O ι ρ nx c (.tup (pre.map en)) (.tuple (pre.map ev).toArray) := by
  refine .tup _ _ _ (by simp) fun i hi => ?_
  have hi' : i < pre.length := by simpa using hi
  have e1 : (pre.map en).getD i .any = en pre[i] := by simp [List.getD, hi']
  have e2 : (pre.map ev).toArray.getD i undef = ev pre[i] := by simp [Array.getD, hi']
  rw [e1, e2]
  exact hk.rel _ _ _ _ _ _ _

section
variable {P : Program} {N : Nat}

theorem yield_sound (y : YC α) (hY : ∀ pre x W1, y.J pre W1 → pre.length < y.n → YieldAt (Fr none) 0 P y.l #[y.ev x] W1 fun e W' =>
      (e = .returned (.bool true) ∧ y.J (pre ++ [x]) W' ∧ KpX y.B y.X W1 W') ∨ (e = .returned (.bool false) ∧ y.Jx (pre ++ [x]) W'))
    {cx : Cx} {σ : St} {ι : Nat → Nat} {ρ : Nat → Value} {a : Act} {w : World} {o : Oper} {K : V → St → Prop} {Q : Exit → Act → World → Prop} (hS : SI y cx) (h : SF N cx σ ι ρ a w) (hs : YI y.l y.en y.n y.caps o.op σ K) :
    o.wpIn (Fr cx.r) 0 P a w (fun a' w' => ∃ (cx' : Cx) (v : V) (σ' : St) (ι' : Nat → Nat) (ρ' : Nat → Value) (x : Value), K v σ' ∧ (cx'.r = cx.r ∧ SI y cx') ∧ a' = a.put o.dst x ∧ SF N cx' σ' ι' ρ' a w' ∧ MR cx' σ'.mem σ'.nx ι' ρ' w' v x) Q := by
  generalize ho : o.op = op at hs
  unfold YI at hs
  split at hs
  · rename_i f args ts
    split at hs
    · rename_i xo hargs
      obtain ⟨vf, hf', rfl, hs⟩ := un1 h.sr rfl hs
      obtain ⟨vx, hx', x0, pre, tk, rfl, hs0, hs1, hlen, htk, hK1, hK0⟩ := un1 h.sr rfl hs
      obtain ⟨hr, hD, hdf, pre', stop, hG0, hG1, hgo, -⟩ := hS
      have hxe : a.eval xo = y.ev x0 := y.ok.inv _ _ _ _ _ _ _ _ hx'
      have hfe : a.eval f = .func (.yield y.l) #[] #[] := by
        unfold MR at hf'
        generalize a.eval f = z at hf'
        cases hf'; rfl
      have hst : stop = false := by
        have := h.sr.env 1000001
        rw [hs1] at this
        have e : tv cx a 1000001 = .bool stop := by unfold tv; rw [if_neg (by omega)]; exact hG1
        rw [e] at this
        have := this.bool_inv
        simpa using this
      have hpre : pre' = pre := by
        have := h.sr.env 1000000
        rw [hs0] at this
        have e : tv cx a 1000000 = .tuple (pre'.map y.ev).toArray := by unfold tv; rw [if_neg (by omega)]; exact hG0
        rw [e] at this
        exact tup_eq y.ok this
      subst hpre
      obtain ⟨hX, hBw, hJ0, hcap, hgc⟩ := hgo hst
      have hm := h.sr.ml
      have hgr : cx.w0.grownBy w none := ⟨hm.os, hm.tape, hm.output, hm.size, fun k hk _ => hm.old k hk (by rw [hD]; exact id)⟩
      have hJ1 := y.hJ _ _ _ none hJ0 hgr (fun r e => by cases e)
      obtain ⟨fn, tmps, assign, body, hy, hR⟩ := hY pre' x0 w hJ1 hlen
      have hargs' : args.map a.eval = #[y.ev x0] := by
        have : args = #[xo] := by apply Array.toList_inj.1; simpa using hargs
        rw [this]; simp [hxe]
      have hrun : (execOp a.eval o).run P w = .ok (.round y.l fn tmps assign body) w := by
        simp [execOp, ho, resolve, hfe, Deferred.ofValue, invoke, hargs', hy]
      rw [hr]
      refine ⟨fun _ _ => trivial, ?_⟩
      rw [Oper.semAt_eq _ _ _ (by rw [ho]; intro c e; cases e)]
      rw [hrun]
      simp only [Oper.uponIn]
      refine ⟨fun h => by simp [Fr] at h, RoundIn.mono hR fun e w' he => ?_⟩
      have hcap2 : ∀ q ∈ y.caps, Rel w (fun b => y.X b ∨ y.B ≤ b) (fun _ => 0) (fun _ => undef) 0 true q.2 q.1 := fun q hq =>
        (hcap q hq).mono (fun ad u hc hno => ⟨vu_of_block hc (hgr.block _ (block_lt_of_vu hc) (by simp)), hno⟩) (fun _ _ => ⟨rfl, rfl⟩) (Nat.le_refl _)
      have hgc2 : GTC w (fun b => y.X b ∨ y.B ≤ b) := hgc.mono fun ad u hc hno => ⟨vu_of_block hc (hgr.block _ (block_lt_of_vu hc) (by simp)), hno⟩
      rcases he with ⟨rfl, hJ', hkp⟩ | ⟨rfl, hJ'⟩
      · have hcap3 : ∀ q ∈ y.caps, Rel w' (fun b => y.X b ∨ y.B ≤ b) (fun _ => 0) (fun _ => undef) 0 true q.2 q.1 := fun q hq =>
          (hcap2 q hq).mono (fun ad u hc hno => ⟨vu_of_block hc (hkp.old _ (by omega) (fun hX => hno (.inl hX))), hno⟩) (fun _ _ => ⟨rfl, rfl⟩) (Nat.le_refl _)
        have hgc3 : GTC w' (fun b => y.X b ∨ y.B ≤ b) := hgc2.mono fun ad u hc hno => ⟨vu_of_block hc (hkp.old _ (by omega) (fun hX => hno (.inl hX))), hno⟩
        have hsz : y.B ≤ w'.heap.size := Nat.le_trans (Nat.le_trans hBw hm.size) hkp.size
        refine ⟨⟨w', fun _ => False, y.X, none, [], fun t => if t = 1000000 then .tuple ((pre' ++ [x0]).map y.ev).toArray else cx.G t⟩, .bool true, goY y.en σ (pre' ++ [x0]) tk, ι, ρ, .bool true, hK1,
          ⟨rfl, rfl, rfl, rfl, pre' ++ [x0], false, by simp, by simp [hG1, hst], (fun _ => ⟨rfl, hsz, hJ', hcap3, hgc3⟩), (fun e => by cases e)⟩, rfl, ⟨⟨⟨rfl, rfl, rfl, Nat.le_refl _, fun _ _ _ => rfl, by simp [goY], by simp [goY], by simp [goY], by simp [goY], ⟨fun b hb => Nat.lt_of_lt_of_le (y.hX b hb) hsz, hgc3.mono fun ad u hc hno => ⟨hc, fun ho => hno (.inl (ho.elim False.elim id))⟩⟩, by simp [goY]⟩, fun t => ?_⟩, h.size, by rw [h.defers, hdf]⟩, .bool ..⟩
        have het : t ≠ 1000000 → tv (⟨w', fun _ => False, y.X, none, [], fun t => if t = 1000000 then .tuple ((pre' ++ [x0]).map y.ev).toArray else cx.G t⟩ : Cx) a t = tv cx a t := fun hne => by
          unfold tv; split
          · rfl
          · simp only [if_neg hne]
        by_cases e0 : t = 1000000
        · subst e0
          have e1 : (goY y.en σ (pre' ++ [x0]) tk).slot 1000000 = .tup ((pre' ++ [x0]).map y.en) := rfl
          have e2 : tv (⟨w', fun _ => False, y.X, none, [], fun t => if t = 1000000 then .tuple ((pre' ++ [x0]).map y.ev).toArray else cx.G t⟩ : Cx) a 1000000 = .tuple ((pre' ++ [x0]).map y.ev).toArray := by unfold tv; rw [if_neg (by omega)]; simp
          rw [e1, e2]
          exact tup_rel y.ok ..
        · rw [het e0]
          have hv := h.sr.env t
          have e1 : (goY y.en σ (pre' ++ [x0]) tk).slot t = ((keepE σ tk ++ simE σ.env).lookup t).getD .any := by
            unfold goY St.slot
            have : (t == 1000000) = false := by simpa using e0
            simp only [List.lookup_cons, this]
          rw [e1, lookup_app]
          rcases lookup_keepE σ tk t with h2 | ⟨h2, h3⟩
          · rw [h2]
            simp only
            rw [lookup_simE]
            unfold V.simpl
            split
            · rename_i hsi; exact hv.simp hsi
            · exact .any ..
          · rw [h3]
            obtain ⟨q, hq, hqe⟩ := htk t h2
            simp only [Option.getD]
            rw [hqe] at hv ⊢
            unfold MR at hv ⊢
            generalize tv cx a t = z at hv
            cases hv with
            | eq _ _ _ hv =>
              refine .eq _ _ _ (((hcap3 q hq).mono (fun ad u hc hno => ⟨hc, fun hO => hno ?_⟩) (fun _ _ => ⟨rfl, rfl⟩) (Nat.le_refl _)).free rfl false)
              rcases hO with hO | ⟨p, hp, _⟩
              · exact .inl hO
              · simp [goY] at hp
      ·   refine ⟨⟨w', fun _ => False, fun _ => False, none, [], fun t => if t = 1000000 then .tuple ((pre' ++ [x0]).map y.ev).toArray else if t = 1000001 then .bool true else cx.G t⟩, .bool false, stY y.en σ (pre' ++ [x0]), ι, ρ, .bool false, hK0,
            ⟨rfl, rfl, rfl, rfl, pre' ++ [x0], true, by simp, by simp, (fun e => by cases e), (fun _ => hJ')⟩, rfl, ⟨⟨⟨rfl, rfl, rfl, Nat.le_refl _, fun _ _ _ => rfl, by simp [stY], by simp [stY], by simp [stY], by simp [stY], ⟨fun b hb => hb.elim, (y.hGx _ _ hJ').mono fun ad u hc hno => ⟨hc, fun ho => ho.elim id id⟩⟩, by simp [stY]⟩, fun t => ?_⟩, h.size, by rw [h.defers, hdf]⟩, .bool ..⟩
          by_cases e0 : t = 1000000
          · subst e0
            have e1 : (stY y.en σ (pre' ++ [x0])).slot 1000000 = .tup ((pre' ++ [x0]).map y.en) := rfl
            have e2 : tv (⟨w', fun _ => False, fun _ => False, none, [], fun t => if t = 1000000 then .tuple ((pre' ++ [x0]).map y.ev).toArray else if t = 1000001 then .bool true else cx.G t⟩ : Cx) a 1000000 = .tuple ((pre' ++ [x0]).map y.ev).toArray := by unfold tv; rw [if_neg (by omega)]; simp
            rw [e1, e2]
            exact tup_rel y.ok ..
          · by_cases e1 : t = 1000001
            · subst e1
              have e1 : (stY y.en σ (pre' ++ [x0])).slot 1000001 = .bool true := rfl
              have e2 : tv (⟨w', fun _ => False, fun _ => False, none, [], fun t => if t = 1000000 then .tuple ((pre' ++ [x0]).map y.ev).toArray else if t = 1000001 then .bool true else cx.G t⟩ : Cx) a 1000001 = .bool true := by unfold tv; rw [if_neg (by omega)]; simp
              rw [e1, e2]
              exact .bool ..
            · have hv := h.sr.env t
              have het : tv (⟨w', fun _ => False, fun _ => False, none, [], fun t => if t = 1000000 then .tuple ((pre' ++ [x0]).map y.ev).toArray else if t = 1000001 then .bool true else cx.G t⟩ : Cx) a t = tv cx a t := by
                unfold tv; split
                · rfl
                · simp only [if_neg e0, if_neg e1]
              have e3 : (stY y.en σ (pre' ++ [x0])).slot t = ((simE σ.env).lookup t).getD .any := by
                unfold stY St.slot
                have h1 : (t == 1000000) = false := by simpa using e0
                have h2 : (t == 1000001) = false := by simpa using e1
                simp only [List.lookup_cons, h1, h2]
              rw [het, e3, lookup_simE]
              unfold V.simpl
              split
              · rename_i hsi; exact hv.simp hsi
              · exact .any ..
    · exact hs.elim
  · exact hs.elim
/-- The walk of an iterator. -/
def CI (y : YC α) (hY : ∀ pre x W1, y.J pre W1 → pre.length < y.n → YieldAt (Fr none) 0 P y.l #[y.ev x] W1 fun e W' =>
      (e = .returned (.bool true) ∧ y.J (pre ++ [x]) W' ∧ KpX y.B y.X W1 W') ∨ (e = .returned (.bool false) ∧ y.Jx (pre ++ [x]) W')) : Ctl P N where
  S := SI y
  L := fun a b => b.r = a.r ∧ SI y b
  Y := YI y.l y.en y.n y.caps
  refl := fun h => ⟨rfl, h⟩
  trans := fun h k => ⟨k.1.trans h.1, k.2⟩
  pres := fun h _ => h.2
  hr := fun h => h.1
  ys := fun hS h hs => yield_sound y hY hS h hs

def postI (S : List α → Prop) (en : α → V) (e : Exit) (σ : St) : Prop :=
  (match e with | .normal => True | .ret => True | _ => False) ∧ (σ.slot 1000001 = .bool true ∨ (σ.slot 1000001 = .bool false ∧ ∃ xs, S xs ∧ σ.slot 1000000 = .tup (xs.map en)))

theorem seqA_of_tr {f : FuncId} {fn : Func} {c : Code} (hf : P.funcs[f]? = some fn) (hb : fn.body = some c) (hres : fn.results.toList = []) {caps : List V} {S : List α → Prop} {n : Nat} {ev : α → Value} {en : α → V} (hk : EnOK ev en)
    (hn : caps.length + 1 ≤ fn.ntmps) (hn1 : caps.length + 1 ≤ 1000000)
    (h : ∀ (l : Nat) (xs : List Value) (C : Ctl P fn.ntmps), xs.length = caps.length → (∀ op σ K, YI l en n (xs.zip caps) op σ K → C.Y op σ K) →
      Tr C c ⟨envOf 0 (.yl l :: List.zipWith V.eq xs caps) ++ [(1000000, .tup []), (1000001, .bool false)], [], 0⟩ (postI S en)) : SeqA P ev f caps S n := by
  intro w X cvs hX hcs hcr l J Jx W hW hJ hJx hGx hY h0
  let y : YC α := { ev, en, ok := hk, B := w.heap.size, B1 := W.heap.size, X, l, J, Jx, n, caps := cvs.toList.zip caps, hB := hW.size, hX := hX.lt, hJ, hJx, hGx }
  let C : Ctl P fn.ntmps := CI y hY
  have hlen : cvs.toList.length = caps.length := by simpa using hcs
  have hT := h l cvs.toList C hlen (fun op σ K hk => hk)
  have hcap : ∀ i, i < caps.length → Rel W (fun b => X b ∨ w.heap.size ≤ b) (fun _ => 0) (fun _ => undef) 0 true (caps.getD i .any) (cvs.getD i undef) := fun i hi =>
    (hcr i hi).mono (fun ad u hc hno => by
      have hlt := block_lt_of_vu hc
      exact ⟨vu_of_block hc (hW.block _ hlt), fun hO => hO.elim hno (fun h => by omega)⟩) (fun _ _ => ⟨rfl, rfl⟩) (Nat.le_refl _)
  have hGW : GTC W (fun b => X b ∨ w.heap.size ≤ b) := hX.gt.mono fun ad u hc hno => by
    have hlt := block_lt_of_vu hc
    exact ⟨vu_of_block hc (hW.block _ hlt), fun hO => hO.elim (fun h => hno (.inr h)) (fun h => by omega)⟩
  let cx : Cx := ⟨W, fun _ => False, X, none, [], fun t => if t = 1000000 then .tuple #[] else .bool false⟩
  have hSI : SI y cx := by
    refine ⟨rfl, rfl, rfl, [], false, rfl, rfl, fun _ => ⟨rfl, hW.size, h0, fun q hq => ?_, hGW⟩, (fun e => by cases e)⟩
    obtain ⟨i, hi, he⟩ := List.getElem_of_mem hq
    have hi2 : i < caps.length := by simp [y] at hi; omega
    have hi3 : i < cvs.size := by omega
    have := hcap i hi2
    have e1 : q = (cvs[i], caps[i]) := by rw [← he]; simp [y]
    rw [e1]
    simpa [List.getD, Array.getD, hi2, hi3] using this
  refine callsIn_wide.2 (calls_of_wp hf hb ((wpIn_wide (n := 0)).1 ?_))
  have hsf : SF fn.ntmps cx ⟨envOf 0 (.yl l :: List.zipWith V.eq cvs.toList caps) ++ [(1000000, .tup []), (1000001, .bool false)], [], 0⟩ (fun _ => 0) (fun _ => undef)
      { tmps := (#[Value.func (.yield l) #[] #[]] ++ cvs) ++ Array.replicate (fn.ntmps - (#[Value.func (.yield l) #[] #[]] ++ cvs).size) undef, defers := [] } W := by
    refine ⟨⟨⟨rfl, rfl, rfl, Nat.le_refl _, fun _ _ _ => rfl, by simp, by simp, by simp, by simp, ⟨fun b hb => Nat.lt_of_lt_of_le (hX.lt b hb) hW.size, hGW.mono fun ad u hc hno => ⟨hc, fun ho => hno (.inl (ho.elim False.elim id))⟩⟩, by simp⟩, fun t => ?_⟩, by simp; omega, rfl⟩
    simp only [St.slot, lookup_app, lookup_envOf, Nat.zero_le, if_true, Nat.sub_zero]
    by_cases ht : t < caps.length + 1
    · have e1 : (V.yl l :: List.zipWith V.eq cvs.toList caps)[t]? = some ((V.yl l :: List.zipWith V.eq cvs.toList caps).getD t .any) := by
        have : t < (V.yl l :: List.zipWith V.eq cvs.toList caps).length := by simp; omega
        rw [List.getElem?_eq_getElem this]; simp [List.getD, List.getElem?_eq_getElem this]
      rw [e1]
      simp only [Option.getD]
      have e2 : tv cx { tmps := (#[Value.func (.yield l) #[] #[]] ++ cvs) ++ Array.replicate (fn.ntmps - (#[Value.func (.yield l) #[] #[]] ++ cvs).size) undef, defers := [] } t = (#[Value.func (.yield l) #[] #[]] ++ cvs).getD t undef := by
        unfold tv
        rw [if_pos (by omega)]
        rw [Array.getD_eq_getD_getElem?, Array.getElem?_append_left (by simp; omega), ← Array.getD_eq_getD_getElem?]
      rw [e2]
      cases t with
      | zero =>
        have e4 : (#[Value.func (.yield l) #[] #[]] ++ cvs).getD 0 undef = Value.func (.yield l) #[] #[] := by
          rw [Array.getD_eq_getD_getElem?, Array.getElem?_append_left (by simp)]; rfl
        rw [e4]
        exact Rel.yl false l
      | succ i =>
        have hi : i < caps.length := by omega
        have hi3 : i < cvs.size := by omega
        have e3 : (V.yl l :: List.zipWith V.eq cvs.toList caps).getD (i + 1) .any = .eq cvs[i] caps[i] := by
          simp [List.getD, List.getElem?_zipWith, hi, hi3]
        have e4 : (#[Value.func (.yield l) #[] #[]] ++ cvs).getD (i + 1) undef = cvs[i] := by
          rw [Array.getD_eq_getD_getElem?, Array.getElem?_append_right (by simp)]
          simp [hi3]
        rw [e3, e4]
        refine .eq _ _ _ ?_
        have := hcap i hi
        have e5 : caps.getD i .any = caps[i] := by simp [List.getD, hi]
        have e6 : cvs.getD i undef = cvs[i] := by simp [Array.getD, hi3]
        rw [e5, e6] at this
        exact (this.mono (fun ad u hc hno => ⟨hc, fun hO => hno (by
          rcases hO with hO | ⟨p, hp, _⟩
          · exact .inl hO
          · cases hp)⟩) (fun _ _ => ⟨rfl, rfl⟩) (Nat.le_refl _)).free rfl false
    · rw [List.getElem?_eq_none (by simp; omega)]
      simp only [List.lookup_cons, List.lookup_nil]
      by_cases e0 : t = 1000000
      · subst e0
        exact .tup _ _ _ rfl (by simp)
      · have e1 : (t == 1000000) = false := by simpa using e0
        rw [e1]
        by_cases e2 : t = 1000001
        · subst e2
          exact .bool ..
        · have e3 : (t == 1000001) = false := by simpa using e2
          rw [e3]; exact .any ..
  refine Code.wpIn_mono (fun e a' w' hq => ?_) (hT cx _ _ _ W hSI hsf)
  obtain ⟨cx', σ', ι', ρ', ⟨-, hL⟩, ⟨he, hp⟩, hs⟩ := hq
  obtain ⟨hr, hD, hdf, pre', stop, hG0, hG1, hgo, hstop⟩ := hL
  have hm := hs.sr.ml
  have hgr : cx'.w0.grownBy w' none := ⟨hm.os, hm.tape, hm.output, hm.size, fun k hk _ => hm.old k hk (by rw [hD]; exact id)⟩
  have h1 := hs.sr.env 1000001
  have e1 : tv cx' a' 1000001 = .bool stop := by unfold tv; rw [if_neg (by omega)]; exact hG1
  rw [e1] at h1
  have hfin : (∃ xs, S xs ∧ J xs w') ∨ (∃ pre : List α, True ∧ Jx pre w') := by
    rcases hp with hp | ⟨hp, xs, hS, h2⟩
    · rw [hp] at h1
      have : stop = true := by simpa using h1.bool_inv
      exact .inr ⟨pre', trivial, hJx _ _ _ none (hstop this) hgr (fun r e => by cases e)⟩
    · rw [hp] at h1
      have hst : stop = false := by simpa using h1.bool_inv
      have h3 := hs.sr.env 1000000
      have e2 : tv cx' a' 1000000 = .tuple (pre'.map ev).toArray := by unfold tv; rw [if_neg (by omega)]; exact hG0
      rw [h2, e2] at h3
      have hpp : pre' = xs := tup_eq hk h3
      subst hpp
      exact .inl ⟨pre', hS, hJ _ _ _ none (hgo hst).2.2.1 hgr (fun r e => by cases e)⟩
  have hdef : a'.defers = [] := by rw [hs.defers, hdf]
  cases e with
  | normal => exact ⟨hdef, _, results0 hres, ⟨_, rfl⟩, hfin⟩
  | ret => exact ⟨hdef, _, results0 hres, ⟨_, rfl⟩, hfin⟩
  | _ => exact he.elim
end
end
section
variable {P : Program} {N : Nat} {C : Ctl P N} {fz : List Nat}
theorem evR_p {ds : List (Option Tmp)} {o : Oper} {l : List Oper} {σ σ' : St} {K : St → Prop}
  (k : evR C ds l σ' K) (h : ∀ Kq : St → Prop, Kq σ' → evO P ds o σ Kq := by intro Kq hKq; simp (maxSteps := 4000000) (disch := first | assumption | omega | (simp only [go_sem, *]; done) | (simp only [go_sem, *]; omega)) only [go_sem, isE, isO, stpO, notIn, St.bare, Bool.false_and, Bool.true_and, Bool.and_true, Bool.not_true, Bool.not_false, Int.reduceToNat, Nat.reduceBEq, Nat.reduceEqDiff, Nat.reduceAdd, Nat.reduceMul, Nat.reduceLeDiff, Nat.reduceLT, Nat.reduceSub, ↓reduceIte, reduceCtorEq, hq]; (repeat (refine And.intro (by first | assumption | omega | decide | (simp; done) | (simp; omega) | (have hq := hvv hgt; omega) | (have hq := hvv hgt.1; omega) | (simp_all; done)) ?_)); exact hKq) : evR C ds (o :: l) σ K :=
 evR_step fun Kq hKq => h Kq (hKq _ k)
theorem evR_bo {ds : List (Option Tmp)} {o : Oper} {l : List Oper} {σ σ' : St} {K : St → Prop}
  (k : evR C ds l σ' K) (h : ∀ Kq : St → Prop, Kq σ' → evO P ds o σ Kq := by intro Kq hKq; simp (maxSteps := 4000000) (disch := first | assumption | omega | (simp only [go_sem, *]; done) | (simp only [go_sem, *]; omega)) only [go_sem, isE, isO, stpO, notIn, St.bare, Bool.false_and, Bool.true_and, Bool.and_true, Bool.not_true, Bool.not_false, Int.reduceToNat, Nat.reduceBEq, Nat.reduceEqDiff, Nat.reduceAdd, Nat.reduceMul, Nat.reduceLeDiff, Nat.reduceLT, Nat.reduceSub, ↓reduceIte, reduceCtorEq, hq]; (repeat (refine And.intro (by first | assumption | omega | decide | (simp; done) | (simp; omega) | (have hq := hvv hgt; omega) | (have hq := hvv hgt.1; omega) | (simp_all; done)) ?_)); exact Or.inl hKq) : evR C ds (o :: l) σ K :=
 evR_step fun Kq hKq => h Kq (hKq _ k)
theorem evR_bs {ds : List (Option Tmp)} {o : Oper} {l : List Oper} {σ σ' : St} {K : St → Prop}
  (k : evR C ds l σ' K) (h : ∀ Kq : St → Prop, Kq σ' → evO P ds o σ Kq := by intro Kq hKq; simp (maxSteps := 4000000) (disch := first | assumption | omega | (simp only [go_sem, *]; done) | (simp only [go_sem, *]; omega)) only [go_sem, isE, isO, stpO, notIn, St.bare, Bool.false_and, Bool.true_and, Bool.and_true, Bool.not_true, Bool.not_false, Int.reduceToNat, Nat.reduceBEq, Nat.reduceEqDiff, Nat.reduceAdd, Nat.reduceMul, Nat.reduceLeDiff, Nat.reduceLT, Nat.reduceSub, ↓reduceIte, reduceCtorEq, hq]; (repeat (refine And.intro (by first | assumption | omega | decide | (simp; done) | (simp; omega) | (have hq := hvv hgt; omega) | (have hq := hvv hgt.1; omega) | (simp_all; done)) ?_)); exact Or.inr (Or.inl hKq)) : evR C ds (o :: l) σ K :=
 evR_step fun Kq hKq => h Kq (hKq _ k)
theorem evR_g {ds : List (Option Tmp)} {dst : Option Tmp} {op : Op} {ty : TypeId} {pos : String} {after : Array Edge} {j : Nat} {want : Bool} {d : Nat} {l : List Oper} {σ σ' : St} {K : St → Prop} {gb : Bool} {v0 : V} (k : evR C ds l σ' K)
  (hj : nth ds j = some d := by rfl) (hg : ∀ K' : Bool → Prop, K' gb → gof (σ.get (.tmp d)) want K' := by intro K3 h3; simp (maxSteps := 4000000) (disch := first | assumption | omega | (simp only [go_sem, *]; done) | (simp only [go_sem, *]; omega)) only [go_sem, isE, isO, stpO, notIn, St.bare, Bool.false_and, Bool.true_and, Bool.and_true, Bool.not_true, Bool.not_false, Int.reduceToNat, Nat.reduceBEq, Nat.reduceEqDiff, Nat.reduceAdd, Nat.reduceMul, Nat.reduceLeDiff, Nat.reduceLT, Nat.reduceSub, ↓reduceIte, reduceCtorEq, hq]; exact h3)
  (hs : gb = true → stp P σ (some gb) op fun v s => v = v0 ∧ s = σ := by intro hgt; (try simp only [decide_eq_true_eq, decide_eq_false_iff_not, Bool.not_eq_true', Bool.not_eq_false', Bool.and_eq_true, Bool.or_eq_true, Bool.and_eq_false_iff, Bool.or_eq_false_iff, beq_true, beq_false] at hgt); simp (maxSteps := 4000000) (disch := first | assumption | omega | (simp only [go_sem, *]; done) | (simp only [go_sem, *]; omega)) only [go_sem, isE, isO, stpO, notIn, St.bare, Bool.false_and, Bool.true_and, Bool.and_true, Bool.not_true, Bool.not_false, Int.reduceToNat, Nat.reduceBEq, Nat.reduceEqDiff, Nat.reduceAdd, Nat.reduceMul, Nat.reduceLeDiff, Nat.reduceLT, Nat.reduceSub, ↓reduceIte, reduceCtorEq, hq]; (repeat (refine And.intro (by first | assumption | omega | decide | (simp; done) | (simp; omega) | (have hq := hvv hgt; omega) | (have hq := hvv hgt.1; omega) | (simp_all; done)) ?_)); first | rfl | exact ⟨rfl, rfl⟩ | (refine Or.inl ?_; rfl) | (refine Or.inl ?_; exact ⟨rfl, rfl⟩))
  (hp : σ.put dst (.gd gb v0) = σ' := by simp only [St.put]; rfl) : evR C ds (⟨dst, op, ty, pos, after, some (j, want)⟩ :: l) σ K :=
 evR_step fun Kq hKq => evO_guard hj hg hs (by rw [hp]; exact hKq _ k)
theorem evR_c {ds : List (Option Tmp)} {o : Oper} {l : List Oper} {σ : St} {K : St → Prop} {f : FuncId} {args : List V} {r : V} {F : V → St}
  (h : ∀ (Kq : St → Prop) (r : V), CallsA P f args r → Kq (F r) → evO P ds o σ Kq := by intro Kq r hc hKq; simp (maxSteps := 4000000) (disch := first | assumption | omega | (simp only [go_sem, *]; done) | (simp only [go_sem, *]; omega)) only [go_sem, isE, isO, stpO, notIn, St.bare, Bool.false_and, Bool.true_and, Bool.and_true, Bool.not_true, Bool.not_false, Int.reduceToNat, Nat.reduceBEq, Nat.reduceEqDiff, Nat.reduceAdd, Nat.reduceMul, Nat.reduceLeDiff, Nat.reduceLT, Nat.reduceSub, ↓reduceIte, reduceCtorEq, hq]; (repeat (refine And.intro (by first | assumption | omega | decide | (simp; done) | (simp; omega) | (have hq := hvv hgt; omega) | (have hq := hvv hgt.1; omega) | (simp_all; done)) ?_)); exact ⟨r, hc, hKq⟩)
  (hc : CallsA P f args r) (k : evR C ds l (F r) K) : evR C ds (o :: l) σ K :=
 evR_step fun Kq hKq => h Kq r hc (hKq _ k)
theorem evR_gc {ds : List (Option Tmp)} {dst : Option Tmp} {op : Op} {ty : TypeId} {pos : String} {after : Array Edge} {j : Nat} {want : Bool} {d : Nat} {l : List Oper} {σ σ' : St} {K : St → Prop} {gb : Bool} {f : FuncId} {args : List V} {r : V}
  (hj : nth ds j = some d := by rfl) (hg : ∀ K' : Bool → Prop, K' gb → gof (σ.get (.tmp d)) want K' := by intro K3 h3; simp (maxSteps := 4000000) (disch := first | assumption | omega | (simp only [go_sem, *]; done) | (simp only [go_sem, *]; omega)) only [go_sem, isE, isO, stpO, notIn, St.bare, Bool.false_and, Bool.true_and, Bool.and_true, Bool.not_true, Bool.not_false, Int.reduceToNat, Nat.reduceBEq, Nat.reduceEqDiff, Nat.reduceAdd, Nat.reduceMul, Nat.reduceLeDiff, Nat.reduceLT, Nat.reduceSub, ↓reduceIte, reduceCtorEq, hq]; exact h3)
  (hs : ∀ r : V, CallsA P f args r → gb = true → stp P σ (some gb) op fun v s => v = r ∧ s = σ := by intro r hc hgt; (try simp only [decide_eq_true_eq, decide_eq_false_iff_not, Bool.not_eq_true', Bool.not_eq_false', Bool.and_eq_true, Bool.or_eq_true, Bool.and_eq_false_iff, Bool.or_eq_false_iff, beq_true, beq_false] at hgt); simp (maxSteps := 4000000) (disch := first | assumption | omega | (simp only [go_sem, *]; done) | (simp only [go_sem, *]; omega)) only [go_sem, isE, isO, stpO, notIn, St.bare, Bool.false_and, Bool.true_and, Bool.and_true, Bool.not_true, Bool.not_false, Int.reduceToNat, Nat.reduceBEq, Nat.reduceEqDiff, Nat.reduceAdd, Nat.reduceMul, Nat.reduceLeDiff, Nat.reduceLT, Nat.reduceSub, ↓reduceIte, reduceCtorEq, hq]; (repeat (refine And.intro (by first | assumption | omega | decide | (simp; done) | (simp; omega) | (have hq := hvv hgt; omega) | (have hq := hvv hgt.1; omega) | (simp_all; done)) ?_)); (refine ⟨_, hc, ?_⟩); first | rfl | exact ⟨rfl, rfl⟩)
  (hc : CallsA P f args r)
  (hp : σ.put dst (.gd gb r) = σ' := by simp only [St.put]; rfl) (k : evR C ds l σ' K) : evR C ds (⟨dst, op, ty, pos, after, some (j, want)⟩ :: l) σ K :=
 evR_step fun Kq hKq => evO_guard hj hg (hs r hc) (by rw [hp]; exact hKq _ k)
theorem evR_gch {ds : List (Option Tmp)} {dst : Option Tmp} {op : Op} {ty : TypeId} {pos : String} {after : Array Edge} {j : Nat} {want : Bool} {d : Nat} {l : List Oper} {σ σ' : St} {K : St → Prop} {gb : Bool} {f : FuncId} {args : List V} {r : V}
  (hj : nth ds j = some d := by rfl) (hg : ∀ K' : Bool → Prop, K' gb → gof (σ.get (.tmp d)) want K' := by intro K3 h3; simp (maxSteps := 4000000) (disch := first | assumption | omega | (simp only [go_sem, *]; done) | (simp only [go_sem, *]; omega)) only [go_sem, isE, isO, stpO, notIn, St.bare, Bool.false_and, Bool.true_and, Bool.and_true, Bool.not_true, Bool.not_false, Int.reduceToNat, Nat.reduceBEq, Nat.reduceEqDiff, Nat.reduceAdd, Nat.reduceMul, Nat.reduceLeDiff, Nat.reduceLT, Nat.reduceSub, ↓reduceIte, reduceCtorEq, hq]; exact h3)
  (hs : ∀ r : V, (gb = true → CallsA P f args r) → gb = true → stp P σ (some gb) op fun v s => v = r ∧ s = σ := by intro r hc hgt; have hc1 := hc hgt; (try simp only [decide_eq_true_eq, decide_eq_false_iff_not, Bool.not_eq_true', Bool.not_eq_false', Bool.and_eq_true, Bool.or_eq_true, Bool.and_eq_false_iff, Bool.or_eq_false_iff, beq_true, beq_false] at hgt); simp (maxSteps := 4000000) (disch := first | assumption | omega | (simp only [go_sem, *]; done) | (simp only [go_sem, *]; omega)) only [go_sem, isE, isO, stpO, notIn, St.bare, Bool.false_and, Bool.true_and, Bool.and_true, Bool.not_true, Bool.not_false, Int.reduceToNat, Nat.reduceBEq, Nat.reduceEqDiff, Nat.reduceAdd, Nat.reduceMul, Nat.reduceLeDiff, Nat.reduceLT, Nat.reduceSub, ↓reduceIte, reduceCtorEq, hq]; (repeat (refine And.intro (by first | assumption | omega | decide | (simp; done) | (simp; omega) | (have hq := hvv hgt; omega) | (have hq := hvv hgt.1; omega) | (simp_all; done)) ?_)); (refine ⟨_, hc1, ?_⟩); first | rfl | exact ⟨rfl, rfl⟩)
  (hc : gb = true → CallsA P f args r)
  (hp : σ.put dst (.gd gb r) = σ' := by simp only [St.put]; rfl) (k : evR C ds l σ' K) : evR C ds (⟨dst, op, ty, pos, after, some (j, want)⟩ :: l) σ K :=
 evR_step fun Kq hKq => evO_guard hj hg (hs r hc) (by rw [hp]; exact hKq _ k)
theorem evR_e {ds : List (Option Tmp)} {σ σ' : St} {K : St → Prop} {Ψ : Exit → St → Prop} {kp : List Nat} (hK : ∀ s, Ψ .normal (s.norm kp) → K s) (k : Ψ .normal σ')
  (hn : σ.norm kp = σ' := by simp only [St.norm, List.filterMap, List.lookup, Option.map, Nat.reduceBEq]; rfl) : evR C ds [] σ K := hK σ (hn ▸ k)
theorem evD_p {ds : List (Option Tmp)} {o : Oper} {l : List Oper} {σ σ' : St} {K : St → Prop}
  (k : evD fz P ds l σ' K) (h : ∀ Kq : St → Prop, Kq σ' → evDO fz P ds o σ Kq := by intro Kq hKq; simp (maxSteps := 4000000) (disch := first | assumption | omega | (simp only [go_sem, *]; done) | (simp only [go_sem, *]; omega)) only [go_sem, isE, isO, stpO, notIn, St.bare, Bool.false_and, Bool.true_and, Bool.and_true, Bool.not_true, Bool.not_false, Int.reduceToNat, Nat.reduceBEq, Nat.reduceEqDiff, Nat.reduceAdd, Nat.reduceMul, Nat.reduceLeDiff, Nat.reduceLT, Nat.reduceSub, ↓reduceIte, reduceCtorEq, hq]; (repeat (refine And.intro (by first | assumption | omega | decide | (simp; done) | (simp; omega) | (have hq := hvv hgt; omega) | (have hq := hvv hgt.1; omega) | (simp_all; done)) ?_)); exact hKq) : evD fz P ds (o :: l) σ K :=
 evD_step fun Kq hKq => h Kq (hKq _ k)
theorem evD_bs {ds : List (Option Tmp)} {o : Oper} {l : List Oper} {σ σ' : St} {K : St → Prop}
  (k : evD fz P ds l σ' K) (h : ∀ Kq : St → Prop, Kq σ' → evDO fz P ds o σ Kq := by intro Kq hKq; simp (maxSteps := 4000000) (disch := first | assumption | omega | (simp only [go_sem, *]; done) | (simp only [go_sem, *]; omega)) only [go_sem, isE, isO, stpO, notIn, St.bare, Bool.false_and, Bool.true_and, Bool.and_true, Bool.not_true, Bool.not_false, Int.reduceToNat, Nat.reduceBEq, Nat.reduceEqDiff, Nat.reduceAdd, Nat.reduceMul, Nat.reduceLeDiff, Nat.reduceLT, Nat.reduceSub, ↓reduceIte, reduceCtorEq, hq]; (repeat (refine And.intro (by first | assumption | omega | decide | (simp; done) | (simp; omega) | (have hq := hvv hgt; omega) | (have hq := hvv hgt.1; omega) | (simp_all; done)) ?_)); exact Or.inl hKq) : evD fz P ds (o :: l) σ K :=
 evD_step fun Kq hKq => h Kq (hKq _ k)
theorem evD_g {ds : List (Option Tmp)} {dst : Option Tmp} {op : Op} {ty : TypeId} {pos : String} {after : Array Edge} {j : Nat} {want : Bool} {d : Nat} {l : List Oper} {σ σ' : St} {K : St → Prop} {gb : Bool} {v0 : V} (k : evD fz P ds l σ' K)
  (he : isE fz ⟨dst, op, ty, pos, after, some (j, want)⟩ = false := by rfl) (hj : nth ds j = some d := by rfl) (hg : ∀ K' : Bool → Prop, K' gb → gof (σ.get (.tmp d)) want K' := by intro K3 h3; simp (maxSteps := 4000000) (disch := first | assumption | omega | (simp only [go_sem, *]; done) | (simp only [go_sem, *]; omega)) only [go_sem, isE, isO, stpO, notIn, St.bare, Bool.false_and, Bool.true_and, Bool.and_true, Bool.not_true, Bool.not_false, Int.reduceToNat, Nat.reduceBEq, Nat.reduceEqDiff, Nat.reduceAdd, Nat.reduceMul, Nat.reduceLeDiff, Nat.reduceLT, Nat.reduceSub, ↓reduceIte, reduceCtorEq, hq]; exact h3)
  (hs : gb = true → stp P σ (some gb) op fun v s => v = v0 ∧ s = σ := by intro hgt; (try simp only [decide_eq_true_eq, decide_eq_false_iff_not, Bool.not_eq_true', Bool.not_eq_false', Bool.and_eq_true, Bool.or_eq_true, Bool.and_eq_false_iff, Bool.or_eq_false_iff, beq_true, beq_false] at hgt); simp (maxSteps := 4000000) (disch := first | assumption | omega | (simp only [go_sem, *]; done) | (simp only [go_sem, *]; omega)) only [go_sem, isE, isO, stpO, notIn, St.bare, Bool.false_and, Bool.true_and, Bool.and_true, Bool.not_true, Bool.not_false, Int.reduceToNat, Nat.reduceBEq, Nat.reduceEqDiff, Nat.reduceAdd, Nat.reduceMul, Nat.reduceLeDiff, Nat.reduceLT, Nat.reduceSub, ↓reduceIte, reduceCtorEq, hq]; (repeat (refine And.intro (by first | assumption | omega | decide | (simp; done) | (simp; omega) | (have hq := hvv hgt; omega) | (have hq := hvv hgt.1; omega) | (simp_all; done)) ?_)); first | rfl | exact ⟨rfl, rfl⟩ | (refine Or.inl ?_; rfl) | (refine Or.inl ?_; exact ⟨rfl, rfl⟩))
  (hp : σ.put dst (.gd gb v0) = σ' := by simp only [St.put]; rfl) : evD fz P ds (⟨dst, op, ty, pos, after, some (j, want)⟩ :: l) σ K :=
 evD_step fun Kq hKq => evDO_guard he hj hg hs (by rw [hp]; exact hKq _ k)
theorem evD_c {ds : List (Option Tmp)} {o : Oper} {l : List Oper} {σ : St} {K : St → Prop} {f : FuncId} {args : List V} {r : V} {F : V → St}
  (h : ∀ (Kq : St → Prop) (r : V), CallsA P f args r → Kq (F r) → evDO fz P ds o σ Kq := by intro Kq r hc hKq; simp (maxSteps := 4000000) (disch := first | assumption | omega | (simp only [go_sem, *]; done) | (simp only [go_sem, *]; omega)) only [go_sem, isE, isO, stpO, notIn, St.bare, Bool.false_and, Bool.true_and, Bool.and_true, Bool.not_true, Bool.not_false, Int.reduceToNat, Nat.reduceBEq, Nat.reduceEqDiff, Nat.reduceAdd, Nat.reduceMul, Nat.reduceLeDiff, Nat.reduceLT, Nat.reduceSub, ↓reduceIte, reduceCtorEq, hq]; (repeat (refine And.intro (by first | assumption | omega | decide | (simp; done) | (simp; omega) | (have hq := hvv hgt; omega) | (have hq := hvv hgt.1; omega) | (simp_all; done)) ?_)); exact ⟨r, hc, hKq⟩)
  (hc : CallsA P f args r) (k : evD fz P ds l (F r) K) : evD fz P ds (o :: l) σ K :=
 evD_step fun Kq hKq => h Kq r hc (hKq _ k)
theorem evD_gc {ds : List (Option Tmp)} {dst : Option Tmp} {op : Op} {ty : TypeId} {pos : String} {after : Array Edge} {j : Nat} {want : Bool} {d : Nat} {l : List Oper} {σ σ' : St} {K : St → Prop} {gb : Bool} {f : FuncId} {args : List V} {r : V}
  (he : isE fz ⟨dst, op, ty, pos, after, some (j, want)⟩ = false := by rfl) (hj : nth ds j = some d := by rfl) (hg : ∀ K' : Bool → Prop, K' gb → gof (σ.get (.tmp d)) want K' := by intro K3 h3; simp (maxSteps := 4000000) (disch := first | assumption | omega | (simp only [go_sem, *]; done) | (simp only [go_sem, *]; omega)) only [go_sem, isE, isO, stpO, notIn, St.bare, Bool.false_and, Bool.true_and, Bool.and_true, Bool.not_true, Bool.not_false, Int.reduceToNat, Nat.reduceBEq, Nat.reduceEqDiff, Nat.reduceAdd, Nat.reduceMul, Nat.reduceLeDiff, Nat.reduceLT, Nat.reduceSub, ↓reduceIte, reduceCtorEq, hq]; exact h3)
  (hs : ∀ r : V, CallsA P f args r → gb = true → stp P σ (some gb) op fun v s => v = r ∧ s = σ := by intro r hc hgt; (try simp only [decide_eq_true_eq, decide_eq_false_iff_not, Bool.not_eq_true', Bool.not_eq_false', Bool.and_eq_true, Bool.or_eq_true, Bool.and_eq_false_iff, Bool.or_eq_false_iff, beq_true, beq_false] at hgt); simp (maxSteps := 4000000) (disch := first | assumption | omega | (simp only [go_sem, *]; done) | (simp only [go_sem, *]; omega)) only [go_sem, isE, isO, stpO, notIn, St.bare, Bool.false_and, Bool.true_and, Bool.and_true, Bool.not_true, Bool.not_false, Int.reduceToNat, Nat.reduceBEq, Nat.reduceEqDiff, Nat.reduceAdd, Nat.reduceMul, Nat.reduceLeDiff, Nat.reduceLT, Nat.reduceSub, ↓reduceIte, reduceCtorEq, hq]; (repeat (refine And.intro (by first | assumption | omega | decide | (simp; done) | (simp; omega) | (have hq := hvv hgt; omega) | (have hq := hvv hgt.1; omega) | (simp_all; done)) ?_)); (refine ⟨_, hc, ?_⟩); first | rfl | exact ⟨rfl, rfl⟩)
  (hc : CallsA P f args r)
  (hp : σ.put dst (.gd gb r) = σ' := by simp only [St.put]; rfl) (k : evD fz P ds l σ' K) : evD fz P ds (⟨dst, op, ty, pos, after, some (j, want)⟩ :: l) σ K :=
 evD_step fun Kq hKq => evDO_guard he hj hg (hs r hc) (by rw [hp]; exact hKq _ k)
theorem evD_e {ds : List (Option Tmp)} {σ σ' : St} {K : St → Prop} {Ψ : Exit → St → Prop} {kp : List Nat} (hK : ∀ s, Ψ .normal (s.norm kp) → K s) (k : Ψ .normal σ')
  (hn : σ.norm kp = σ' := by simp only [St.norm, List.filterMap, List.lookup, Option.map, Nat.reduceBEq]; rfl) : evD fz P ds [] σ K := hK σ (hn ▸ k)
theorem tr_condB {c : Operand} {x y : Code} {σ : St} {Ψ : Exit → St → Prop} {b : Bool} {p q : Prop} (ht : p → Tr C x σ Ψ) (hf : q → Tr C y σ Ψ) (hb : σ.get c = .bool b := by rfl)
  (e1 : (b = true) = p := by first | (simp only [decide_eq_true_eq, decide_eq_false_iff_not, Bool.not_eq_true', Bool.not_eq_false', Bool.and_eq_true, Bool.or_eq_true, Bool.and_eq_false_iff, Bool.or_eq_false_iff, beq_true, beq_false]; exact rfl) | exact rfl) (e2 : (b = false) = q := by first | (simp only [decide_eq_true_eq, decide_eq_false_iff_not, Bool.not_eq_true', Bool.not_eq_false', Bool.and_eq_true, Bool.or_eq_true, Bool.and_eq_false_iff, Bool.or_eq_false_iff, beq_true, beq_false]; exact rfl) | exact rfl) : Tr C (.cond c x y) σ Ψ := tr_cond hb (fun h => ht (e1 ▸ h)) (fun h => hf (e2 ▸ h))
end
/-- A panic with this value, that nobody has recovered. -/
def pan (x : Value) : Exit := .panic [{ v := x, recovered := false }]

/-- Called with .., f panics with x; what it works on is forgotten. -/
def CallsP (P : Program) (f : FuncId) (args : List V) (pre : Mem) (k : Nat) (x : Value) : Prop :=
 ∀ (w : World) (X : Nat → Prop) (ι : Nat → Nat) (ρ : Nat → Value) (vs : Array Value),
  ML ⟨w, fun b => ∃ p ∈ pre, blk ι ρ p = some b, X, none, [], fun _ => undef⟩ pre k ι ρ w → vs.size = args.length →
  (∀ i, i < args.length → Rel w (OO X pre ι ρ) ι ρ k false (args.getD i .any) (vs.getD i undef)) →
  Calls P f vs w fun e w' => e = .panicked [{ v := x, recovered := false }] ∧ ML ⟨w, fun b => ∃ p ∈ pre, blk ι ρ p = some b, X, none, [], fun _ => undef⟩ [] k ι ρ w'

def stpP (P : Program) (σ : St) (op : Op) (x : Value) (K : St → Prop) : Prop :=
 match op with
 | .call { callee := .value f, args, argTypes } =>
  un none (σ.get f) fun vf =>
   match vf with
   | .fn f caps => unL none (args.toList.map σ.get) fun vs => okF P f = true ∧ ∃ js, CallsP P f (V.mapL (gJ js) (vs ++ caps)) (footJ js σ.mem) js.length x ∧
     ndJ js = true ∧ ltJ js σ.nx = true ∧ V.domL (inJ js) (inJ js) (vs ++ caps) = true ∧ ((σ.mem.filter fun p => inJ js p.1).all fun p => p.2.dom (inJ js) (inJ js)) = true ∧
     K ⟨σ.env, σ.mem.filter fun p => !inJ js p.1, σ.nx⟩
   | _ => False
 | _ => False

section
variable {P : Program} {cx : Cx} {σ : St} {ι : Nat → Nat} {ρ : Nat → Value} {a : Act} {w : World} {Q : Exit → Act → World → Prop} {o : Oper} {N : Nat}

theorem stpP_sound {next : Act → World → Prop} {x : Value} {K : St → Prop} (h : SR cx σ ι ρ a w) (hs : stpP P σ o.op x K)
  (hQ : ∀ σ' ι' ρ' w', K σ' → SR cx σ' ι' ρ' a w' → Q (pan x) a w') : o.wp P a w next Q := by
 generalize ho : o.op = op at hs
 unfold stpP at hs
 split at hs
 ·
  rename_i f args ts
  obtain ⟨vf, hf', hs⟩ := un1 h rfl hs
  split at hs
  ·
   rename_i fid caps
   obtain ⟨vs, hl, hr, hok, js, hcall, hnd, hlt, hdA, hdF, hk⟩ := unL_run h rfl hs
   unfold MR at hf'
   generalize hfe : a.eval f = fv at hf'
   cases hf' with
   | fn _ _ _ cvs hcl' hcr =>
    have hrun : (execOp a.eval o).run P w = .ok (.enter fid (args.map a.eval ++ cvs)) w := by
     simp [execOp, ho, resolve, hfe, Deferred.ofValue, invoke, okF_spec hok]
    have hlen : args.size = vs.length := by simp at hl; omega
    have hall := appd (w := w) (O := OO cx.X σ.mem ι ρ) (ι := ι) (ρ := ρ) (nx := σ.nx) (c := false) (xs := args.map a.eval) (ys := cvs) (by simpa using hlen) hcl' (fun i hi => by
     have := hr i hi
     simpa [List.getD, Array.getD_eq_getD_getElem?, MR] using this) hcr
    have hfoot := h.ml.foot hnd hlt hdF
    have hsub : ∀ b, OO (OO cx.X (σ.mem.filter fun p => !inJ js p.1) ι ρ) (footJ js σ.mem) (fun i => ι (js.getD i 0)) (fun i => ρ (js.getD i 0)) b → OO cx.X σ.mem ι ρ b := by
     rintro b ((hx | ⟨q, hq, hqb⟩) | ⟨q, hq, hqb⟩)
     ·
      exact .inl hx
     ·
      exact .inr ⟨q, (List.mem_filter.1 hq).1, hqb⟩
     ·
      obtain ⟨p, hp, hj, rfl⟩ := mem_foot hq
      rw [blk_foot hj] at hqb
      exact .inr ⟨p, hp, hqb⟩
    have hc := hcall w (OO cx.X (σ.mem.filter fun p => !inJ js p.1) ι ρ) (fun i => ι (js.getD i 0)) (fun i => ρ (js.getD i 0)) (args.map a.eval ++ cvs) hfoot
     (by rw [V.mapL_length]; simp [hcl', hlen]) (fun i hi => by
      rw [V.mapL_length] at hi
      rw [V.mapL_getD]
      refine (hall i hi).mapF (Dp := inJ js) (Do := inJ js) (fun a y hc hno => ⟨hc, fun hn => hno (hsub _ hn)⟩) (fun id _ hj' => ?_) (fun id _ hj' => ?_) (V.domL_getD hdA i)
      ·
       exact ⟨(gJ_spec hj').1, by rw [(gJ_spec hj').2]⟩
      ·
       exact ⟨(gJ_spec hj').1, by rw [(gJ_spec hj').2]⟩)
    unfold Oper.wp
    rw [hrun]
    refine hc.mono ?_
    rintro en w' ⟨rfl, hml'⟩
    obtain ⟨ι'', ρ'', m1, m2, m3⟩ := h.ml.back hnd hlt hml' (Nat.le_refl _) (fun p _ => ⟨fun _ => rfl, fun _ => rfl⟩) rfl
    have hsr := h.step m1 m2
    have e1 : backJ js σ.nx js.length [] σ.mem = σ.mem.filter fun p => !inJ js p.1 := rfl
    rw [e1, Nat.sub_self, Nat.add_zero] at hsr
    exact hQ _ ι'' ρ'' w' hk hsr
  ·
   exact hs.elim
 ·
  exact hs.elim
theorem stpP_nodefer {op : Op} {x : Value} {K : St → Prop} (h : stpP P σ op x K) : ∀ c, op ≠ .defer c := fun c e => by subst e; exact h.elim

/-- The operations run up to one that panics with x. -/
def evP (P : Program) (x : Value) (ds : List (Option Tmp)) : List Oper → St → (St → Prop) → Prop
 | [], _, _ => False
 | o :: rest, σ, K => (evO P ds o σ fun σ' => evP P x ds rest σ' K) ∨ (o.guard = none ∧ stpX P σ o.op fun v σ' => evP P x ds rest (σ'.put o.dst v) K) ∨ (o.guard = none ∧ stpP P σ o.op x K)

theorem evP_sound {ops : Array Oper} {x : Value} {Q : Exit → Act → World → Prop} (hN : ∀ (j d : Nat), (ops[j]?).bind (·.dst) = some d → d < N) {K : St → Prop} : ∀ {l : List Oper} {cx : Cx} {σ : St} {ι : Nat → Nat} {ρ : Nat → Value} {a : Act} {w : World}, (∀ o ∈ l, dstIn N o.dst = true) → evP P x (ops.toList.map (·.dst)) l σ K → SF N cx σ ι ρ a w →
  (∀ σ' ι' ρ' a' w', K σ' → SF N cx σ' ι' ρ' a' w' → Q (pan x) a' w') → wpListIn (Fr cx.r) 0 P ops Q l a w
 | [], cx, σ, ι, ρ, a, w, _, h, hf, hq => h.elim
 | o :: l, cx, σ, ι, ρ, a, w, hl, .inl h, hf, hq => evO_sound h (hl o (by simp)) hN hf fun σ' ι' ρ' a' w' hk hf' => evP_sound hN (fun o ho => hl o (by simp [ho])) hk hf' hq
 | o :: l, cx, σ, ι, ρ, a, w, hl, .inr (.inl ⟨hg, hs⟩), hf, hq => by
  unfold wpListIn
  rw [if_pos (by simp [Region.wanted, hg])]
  refine Oper.wpIn_of_wp (stpX_nodefer hs) (Oper.wp_mono (fun a' w' ⟨v, σ', ι', ρ', x, hk, ha, hsr, hmr⟩ => ?_) (stpX_sound (cx := cx) hf.sr hs))
  subst ha
  exact evP_sound hN (fun o ho => hl o (by simp [ho])) hk (SF.put ⟨hsr, hf.size, hf.defers⟩ (hl o (by simp)) hmr) hq
 | o :: l, cx, σ, ι, ρ, a, w, hl, .inr (.inr ⟨hg, hs⟩), hf, hq => by
  unfold wpListIn
  rw [if_pos (by simp [Region.wanted, hg])]
  exact Oper.wpIn_of_wp (stpP_nodefer hs) (stpP_sound (cx := cx) hf.sr hs fun σ' ι' ρ' w' hk hsr => hq σ' ι' ρ' a w' hk ⟨hsr, hf.size, hf.defers⟩)

theorem tr_regionP {C : Ctl P N} {x : Value} {id : Nat} {l : List Oper} {ds : List (Option Tmp)} {σ : St} {Ψ : Exit → St → Prop} (hd : dstsIn N l = true) (hds : l.map (·.dst) = ds)
  (h : ∀ K : St → Prop, (∀ σ', Ψ (pan x) σ' → K σ') → evP P x ds l σ K) : Tr C (.region id l.toArray false) σ Ψ := fun cx ι ρ a w hR hf => by
 refine wpIn_region_list (evP_sound (ops := l.toArray) (K := fun σ' => Ψ (pan x) σ') (x := x) (dstsIn_spec (ops := l.toArray) hd) (fun o ho => List.all_eq_true.1 hd o ho) (by rw [show l.toArray.toList = l from rfl, hds]; exact h _ fun _ h => h) hf fun σ' ι' ρ' a' w' hk hf' => ⟨cx, σ', ι', ρ', C.refl hR, hk, hf'⟩)
theorem evP_step {x : Value} {ds : List (Option Tmp)} {o : Oper} {l : List Oper} {σ : St} {K : St → Prop} (h : ∀ K' : St → Prop, (∀ σ', evP P x ds l σ' K → K' σ') → evO P ds o σ K') : evP P x ds (o :: l) σ K :=
 .inl (h _ fun _ h => h)
theorem evP_end {x : Value} {ds : List (Option Tmp)} {dst : Option Tmp} {op : Op} {ty : TypeId} {pos : String} {after : Array Edge} {l : List Oper} {σ : St} {K : St → Prop} (h : stpP P σ op x K) : evP P x ds (⟨dst, op, ty, pos, after, none⟩ :: l) σ K :=
 .inr (.inr ⟨rfl, h⟩)

/-! #### a call that panics, by what its code comes to -/
theorem leaves_marksP {fn : Func} {c : Act} {R : Ending → World → Prop} {ch : List PanicEntry} : ∀ (ms : List Nat) (w : World), ms.Nodup → (∀ D ∈ ms, cx.w0.heap.size ≤ D ∧ w.heap[D]? = some (.deferred (some []))) → SF N cx σ ι ρ c w →
  (∀ w', SF N cx σ ι ρ c w' → R (.panicked ch) w') → LeavesInM (Fr none) 0 P fn c.tmps R (ms.map mrk) (.panicking ch) w
 | [], w, _, _, h, hk => hk w h
 | D :: ms, w, hn, hD, h, hk => by
  have h1 := hD D (by simp)
  refine ⟨by simp, .inl ⟨D, _, rfl, run_takeDeferred h1.2, ?_⟩⟩
  have hn' := List.nodup_cons.1 hn
  refine leaves_marksP ms _ hn'.2 (fun E hE => ?_) (h.turn h1.2 rfl h1.1) hk
  have h2 := hD E (List.mem_cons_of_mem _ hE)
  refine ⟨h2.1, ?_⟩
  have hne : E ≠ D := by rintro rfl; exact hn'.1 hE
  rw [World.putObj_heap_other hne]; exact h2.2

theorem calls_of_trP {f : FuncId} {fn : Func} {c : Code} (hf : P.funcs[f]? = some fn) (hb : fn.body = some c) {vs : Array Value} {x : Value} {R : Ending → World → Prop}
  (hr : cx.r = none) (hdf : cx.df = []) (h0 : SF fn.ntmps cx σ ι ρ { tmps := vs ++ Array.replicate (fn.ntmps - vs.size) undef, defers := [] } w) (h : Tr (C0 P fn.ntmps) c σ fun e _ => e = pan x)
  (hfin : ∀ σ' ι' ρ' a' w', SF fn.ntmps cx σ' ι' ρ' a' w' → R (.panicked [{ v := x, recovered := false }]) w') : Calls P f vs w R := by
 refine callsIn_wide.1 (callsIn_of_wp_marks (F := Fr none) (n := 0) hf hb trivial ?_)
 have hwp := h cx ι ρ _ w hr h0
 rw [hr] at hwp
 refine Code.wpIn_mono (fun e a' w' hq => ?_) hwp
 obtain ⟨cx', σ', ι', ρ', hL, rfl, hs⟩ := hq
 show LeavesInM (Fr none) 0 P fn a'.tmps R a'.defers (.panicking [{ v := x, recovered := false }]) w'
 obtain ⟨ms, h1, h2, h3⟩ := hL.df
 have hd : a'.defers = ms.map mrk := by rw [hs.defers, h1, hdf]; simp
 rw [hd]
 have hm := hs.sr.ml
 have hsb := hs.back hL h0.sr.ml.xlt []
 refine leaves_marksP (cx := { cx with df := [] }) (c := { a' with defers := [] }) ms w' h2 (fun D hD => ?_) hsb fun w2 h4 => ?_
 ·
  obtain ⟨e1, e2, e3⟩ := h3 D hD
  exact ⟨e1, by rw [hm.old D (some_lt e2) e3]; exact e2⟩
 ·
  have hcx : ({ cx with df := [] } : Cx) = cx := by rw [← hdf]
  rw [hcx] at h4
  exact hfin σ' ι' ρ' _ w2 h4

/-- The state in which a function that works on the caller's memory begins. -/
theorem sf_begin {fn : Func} {args : List V} {pre : Mem} {k : Nat} (hn : args.length ≤ fn.ntmps) (hg : args.length ≤ 1000000) {w : World} {X : Nat → Prop} {ι : Nat → Nat} {ρ : Nat → Value} {vs : Array Value}
  (hml : ML ⟨w, fun b => ∃ p ∈ pre, blk ι ρ p = some b, X, none, [], fun _ => undef⟩ pre k ι ρ w) (hl : vs.size = args.length)
  (hr : ∀ i, i < args.length → Rel w (OO X pre ι ρ) ι ρ k false (args.getD i .any) (vs.getD i undef)) :
  SF fn.ntmps ⟨w, fun b => ∃ p ∈ pre, blk ι ρ p = some b, X, none, [], gG pre ι ρ⟩ ⟨envOf 0 args ++ gh pre, pre, k⟩ ι ρ { tmps := vs ++ Array.replicate (fn.ntmps - vs.size) undef, defers := [] } w := by
 have hml2 : ML ⟨w, fun b => ∃ p ∈ pre, blk ι ρ p = some b, X, none, [], gG pre ι ρ⟩ pre k ι ρ w := ⟨hml.os, hml.tape, hml.output, hml.size, hml.old, hml.keys, hml.lt, hml.own, hml.inj, hml.xlt, hml.obj⟩
 refine ⟨⟨hml2, fun t => ?_⟩, by simp; omega, rfl⟩
 simp only [St.slot, lookup_app, lookup_envOf, Nat.zero_le, if_true, Nat.sub_zero]
 by_cases ht : t < args.length
 ·
  have h1 := hr t ht
  have e1 : args[t]? = some (args.getD t .any) := by simp [List.getD, ht]
  have e2 : tv ⟨w, fun b => ∃ p ∈ pre, blk ι ρ p = some b, X, none, [], gG pre ι ρ⟩ { tmps := vs ++ Array.replicate (fn.ntmps - vs.size) undef, defers := [] } t = vs.getD t undef := by
   unfold tv
   rw [if_pos (by omega)]
   simp [Array.getD_eq_getD_getElem?, Array.getElem?_append_left (show t < vs.size by omega)]
  rw [e1, e2]
  exact h1
 ·
  rw [List.getElem?_eq_none (by omega)]
  simp only
  cases hl2 : (gh pre).lookup t with
  | none => exact .any ..
  | some v =>
   obtain ⟨p, hp, rfl, rfl⟩ := gh_lookup hl2
   have e2 : tv ⟨w, fun b => ∃ p ∈ pre, blk ι ρ p = some b, X, none, [], gG pre ι ρ⟩ { tmps := vs ++ Array.replicate (fn.ntmps - vs.size) undef, defers := [] } (1000000 + p.1) = gG pre ι ρ (1000000 + p.1) := by
    unfold tv; rw [if_neg (by omega)]
   rw [e2, gG_spec hml.keys hp]
   have hlt := hml.lt p hp
   have hob := hml.obj p hp
   obtain ⟨i, o⟩ := p
   cases o with
   | cells cs => exact .ptr _ _ hlt
   | row e z rows =>
    obtain ⟨xs, ho, -⟩ := hob
    refine .own _ hlt ?_
    rcases ho.2 with ⟨h1, -⟩ | ⟨g, cap, cur, h1, -⟩ <;> (simp only at h1 ⊢; rw [h1]; rfl)
   | orow e z rows =>
    obtain ⟨xs, ho, -⟩ := hob
    refine .own _ hlt ?_
    rcases ho.2 with ⟨h1, -⟩ | ⟨g, cap, cur, h1, -⟩ <;> (simp only at h1 ⊢; rw [h1]; rfl)
   | dict es => exact .mp _ hlt
theorem callsP_of_tr {f : FuncId} {fn : Func} {c : Code} (hf : P.funcs[f]? = some fn) (hb : fn.body = some c) {args : List V} {pre : Mem} {k : Nat} {x : Value} (hn : args.length ≤ fn.ntmps) (hg : args.length ≤ 1000000)
  (h : Tr (C0 P fn.ntmps) c ⟨envOf 0 args ++ gh pre, pre, k⟩ fun e _ => e = pan x) : CallsP P f args pre k x := by
 intro w X ι ρ vs hml hl hr
 refine calls_of_trP hf hb rfl rfl (sf_begin (fn := fn) hn hg hml hl hr) h fun σ' ι' ρ' a' w' hs => ?_
 have hm := hs.sr.ml
 exact ⟨rfl, ⟨hm.os, hm.tape, hm.output, hm.size, hm.old, by simp, by simp, by simp, by simp, hm.xlt, by simp⟩⟩
/-- A function that returns where g is true, and else panics. -/
theorem callsMP_of_tr {f : FuncId} {fn : Func} {c : Code} (hf : P.funcs[f]? = some fn) (hb : fn.body = some c) {args : List V} {pre : Mem} {k : Nat} {r : V} {mem' : Mem} {k' : Nat} {x : Value} {g : Bool} (hn : args.length ≤ fn.ntmps) (hg : args.length ≤ 1000000) (hk : k ≤ k')
  (h : Tr (C0 P fn.ntmps) c ⟨envOf 0 args ++ gh pre, pre, k⟩ fun e σ => (g = false ∧ e = pan x) ∨ (g = true ∧ postW fn.ntmps P fn.results.toList pre r mem' k' e σ)) :
  (g = true → CallsM P f args pre k r mem' k') ∧ (g = false → CallsP P f args pre k x) := by
 refine ⟨fun e => callsM_of_tr hf hb hn hg hk (h.mono fun ex σ hp => ?_), fun e => callsP_of_tr hf hb hn hg (h.mono fun ex σ hp => ?_)⟩
 ·
  rcases hp with ⟨h1, -⟩ | ⟨-, h2⟩
  ·
   rw [e] at h1; cases h1
  ·
   exact h2
 ·
  rcases hp with ⟨-, h2⟩ | ⟨h1, -⟩
  ·
   exact h2
  ·
   rw [e] at h1; cases h1
end
section
variable {fz : List Nat} {P : Program} {N : Nat} {C : Ctl P N} {cx : Cx}

theorem draw_mainP {ops : Array Oper} {n : Nat} (hn1 : ops.size = n + 1) (hanc : ∀ k, k < n → Reach (fun j => ((ops.toList[j]?).map depsOf).getD []) n k) (hf : DrawFacts fz ops.toList) (hN : dstsIn N ops.toList = true) {s : Nat → St} {v : Nat → V} {K : St → Prop} {Q : Exit → Act → World → Prop} (hK : K (s n)) (hEn : ∀ o, ops.toList[n]? = some o → isE fz o = false)
  (hs : ∀ j o, ops.toList[j]? = some o → ((isE fz o = false → (s (j + 1)).mem = (s j).mem ∧ (s (j + 1)).nx = (s j).nx) ∧ True ∧
   (isE fz o = true → (rowM fz && isSt o.op) = true → ∀ id, (shp (s (j + 1)).mem).look id = (shp (s j).mem).look id) ∧
   (isE fz o = true → isAl o.op = true → ∀ k, lowN fz = some k → ∀ id, id < k → (s (j + 1)).mem.look id = (s j).mem.look id)) ∧ s (j + 1) = St.put ⟨(s j).env, (s (j + 1)).mem, (s (j + 1)).nx⟩ o.dst (v j))
  (hs2 : ∀ j o, ops.toList[j]? = some o → j < n → SP fz P (ops.toList.map (·.dst)) o (s j) (v j) (s (j + 1)).mem (s (j + 1)).nx)
  (hq : ∀ σ' ι' ρ' a' w' Kc, K σ' → SF N cx σ' ι' ρ' a' w' → wpOpIn (Fr cx.r) 0 P ops Q n Kc a' w') :
  ∀ (fuel : Nat) (listed : Array Bool) (a : Act) (w : World), listed.size = ops.size → ((List.range ops.size).filter fun i => !listed.getD i false).length ≤ fuel → Closed ops.toList (fun i => listed.getD i false) → listed.getD n false = false →
   At fz cx N ops.toList s v (fun i => listed.getD i false) a w → wpAnyIn (Fr cx.r) 0 P .any ops Q fuel listed a w := by
 have hlen : ops.toList.length = ops.size := by simp
 have hmem : ∀ j o, ops.toList[j]? = some o → isE fz o = false → (s (j + 1)).mem = (s j).mem ∧ (s (j + 1)).nx = (s j).nx := fun j o hj he => (hs j o hj).1.1 he
 have hslot := slot_final hf.uniq (fun j o hj => (hs j o hj).2)
 -- all but the last have come up
 have done : ∀ (listed : Array Bool) (a : Act) (w : World) (Kc : Act → World → Prop), (∀ i, i < n → listed.getD i false = true) → listed.getD n false = false → At fz cx N ops.toList s v (fun i => listed.getD i false) a w → wpOpIn (Fr cx.r) 0 P ops Q n Kc a w := by
  rintro listed a w Kc hall hlast ⟨σ, ι, ρ, p, hsf, hp, hm, hn, he, h1, h2⟩
  refine hq _ ι ρ a w Kc hK ?_
  have hc : (s n).mem = (s p).mem ∧ (s n).nx = (s p).nx := by
   rcases Nat.le_total p n with hpn | hpn
   ·
    exact mem_const hmem p n hpn (by omega) fun i o hi hpi hin => by
     cases hE : isE fz o with
     | false => rfl
     | true => have := (he i o hi hE).1 (hall i hin); omega
   ·
    have hpe : p = n ∨ p = n + 1 := by omega
    rcases hpe with e | e
    ·
     rw [e]; exact ⟨rfl, rfl⟩
    ·
     rw [e]
     have hlt : n < ops.toList.length := by omega
     have := hmem n ops.toList[n] (by simp [hlt]) (hEn _ (by simp [hlt]))
     exact ⟨this.1.symm, this.2.symm⟩
  have hsl := hslot n (by omega)
  have esl : ∀ t, (s n).slot t = σ.slot t := fun t => by
   by_cases hw : ∃ (i : Nat) (o : Oper), ops.toList[i]? = some o ∧ i < n ∧ o.dst = some t
   ·
    obtain ⟨i, o, hi, hlt, hd⟩ := hw
    rw [hsl.1 i o t hi hlt hd, h1 i o t hi (hall i hlt) hd]
   ·
    rw [hsl.2 t (fun i o hi hlt hd => hw ⟨i, o, hi, hlt, hd⟩), h2 t (fun i o hi hL hd => by
     by_cases hlt : i < n
     ·
      exact hw ⟨i, o, hi, hlt, hd⟩
     ·
      have hil : i < ops.toList.length := (List.getElem?_eq_some_iff.1 hi).1
      have e : i = n := by omega
      subst e; rw [hlast] at hL; cases hL)]
  have em : (s n).mem = σ.mem := hc.1.trans hm.symm
  have en : (s n).nx = σ.nx := hc.2.trans hn.symm
  exact ⟨⟨by rw [em, en]; exact hsf.sr.ml, fun t => by rw [em, en, esl]; exact hsf.sr.env t⟩, hsf.size, hsf.defers⟩
 intro fuel
 induction fuel with
 | zero =>
  intro listed a w hsz hcnt hcl hlast hat
  exfalso
  have : n ∈ (List.range ops.size).filter fun i => !listed.getD i false := List.mem_filter.2 ⟨List.mem_range.2 (by omega), by rw [hlast]; rfl⟩
  have := List.length_pos_of_mem this
  omega
 | succ fuel ih =>
  intro listed a w hsz hcnt hcl hlast hat
  refine ⟨fun hr => (by have := all_up hf hsz hr n (by omega); rw [hlast] at this; cases this), fun i hi => ?_⟩
  rw [mem_ready] at hi
  obtain ⟨h0, o, ho, hdeps⟩ := hi
  have hil : i < ops.size := (Array.getElem?_eq_some_iff.1 ho).1
  have hoL : ops.toList[i]? = some o := by simpa using ho
  have hLi : listed.getD i false = false := by simpa [Array.getD, hsz, hil] using h0
  have hdep : ∀ k ∈ ((ops.toList[i]?).map depsOf).getD [], listed.getD k false = true := by
   rw [hoL]; simpa using deps_mem (L := fun k => listed.getD k false) hdeps
  by_cases hin : i = n
  ·
   subst hin
   exact done listed a w _ (fun k hk => closed_reach hcl (hanc k hk) hdep) hlast hat
  have hilt : i < n := by omega
  obtain ⟨σ, ι, ρ, p, hsf, hp, hm, hn, he, h1, h2⟩ := hat
  -- what stands before i has come up; what stands behind has not
  have before : ∀ k, Reach (fun j => ((ops.toList[j]?).map depsOf).getD []) i k → listed.getD k false = true := fun k hr => closed_reach hcl hr hdep
  have behind : ∀ k o', ops.toList[k]? = some o' → Reach (fun j => ((ops.toList[j]?).map depsOf).getD []) k i → listed.getD k false = false := fun k o' hk hr => by
   cases hL : listed.getD k false with
   | false => rfl
   | true =>
    have := closed_reach hcl hr (by rw [hk]; simpa using hcl k o' hk hL)
    rw [hLi] at this; cases this
  have hslI := hslot i (by omega)
  have hag : agree fz (ops.toList.map (·.dst)) (s i) σ o := by
   refine ⟨fun t ht => ?_, fun htc => ?_, fun hsh => ?_, fun kk hkk hrd => ?_⟩
   rotate_left 3
   ·
    have heff : ∀ k o', ops.toList[k]? = some o' → isE fz o' = true → isAl o'.op = false → (k < p ↔ k < i) := fun k o' hk hE hst => by
     rw [← he k o' hk hE]
     by_cases hki : k = i
     ·
      subst hki; rw [hLi]; simp
     ·
      have hord := hf.lo k i o' o hk hoL hki hE hrd (by rw [hkk]; rfl) hst
      rcases Nat.lt_or_gt_of_ne hki with hlt | hgt
      ·
       simp [before k (hord.1 hlt), hlt]
      ·
       rw [behind k o' hk (hord.2 hgt)]; simp; omega
    intro id hid
    rw [hm]
    have hst : ∀ j o, ops.toList[j]? = some o → isE fz o = true → isAl o.op = true → ∀ id, id < kk → (s (j + 1)).mem.look id = (s j).mem.look id := fun j o hj hE hs' id hid => (hs j o hj).1.2.2.2 hE hs' kk hkk id hid
    rcases Nat.le_total p i with hpi | hpi
    ·
     refine (low_const hmem hst p i hpi (by omega) (fun k o' hk h3 h4 hE => ?_) id hid).symm
     cases hc : isAl o'.op with
     | true => rfl
     | false => have := (heff k o' hk hE hc).2 h4; omega
    ·
     refine low_const hmem hst i p hpi hp (fun k o' hk h3 h4 hE => ?_) id hid
     cases hc : isAl o'.op with
     | true => rfl
     | false => have := (heff k o' hk hE hc).1 h4; omega
   rotate_left 2
   ·
    have heff : ∀ k o', ops.toList[k]? = some o' → isE fz o' = true → (rowM fz && isSt o'.op) = false → (k < p ↔ k < i) := fun k o' hk hE hst => by
     rw [← he k o' hk hE]
     by_cases hki : k = i
     ·
      subst hki; rw [hLi]; simp
     ·
      have hord := hf.sh k i o' o hk hoL hki hE hst hsh
      rcases Nat.lt_or_gt_of_ne hki with hlt | hgt
      ·
       simp [before k (hord.1 hlt), hlt]
      ·
       rw [behind k o' hk (hord.2 hgt)]; simp; omega
    intro id
    rw [hm]
    have hst : ∀ j o, ops.toList[j]? = some o → isE fz o = true → (rowM fz && isSt o.op) = true → ∀ id, (shp (s (j + 1)).mem).look id = (shp (s j).mem).look id := fun j o hj hE hs' => (hs j o hj).1.2.2.1 hE hs'
    rcases Nat.le_total p i with hpi | hpi
    ·
     refine (shp_const hmem hst p i hpi (by omega) (fun k o' hk h3 h4 hE => ?_) id).symm
     cases hc : rowM fz && isSt o'.op with
     | true => rfl
     | false => have := (heff k o' hk hE hc).2 h4; omega
    ·
     refine shp_const hmem hst i p hpi hp (fun k o' hk h3 h4 hE => ?_) id
     cases hc : rowM fz && isSt o'.op with
     | true => rfl
     | false => have := (heff k o' hk hE hc).1 h4; omega
   ·
    by_cases hw : ∃ (k : Nat) (o' : Oper), ops.toList[k]? = some o' ∧ o'.dst = some t
    ·
     obtain ⟨k, o', hk, hd⟩ := hw
     by_cases hki : k = i
     ·
      subst hki
      rw [h2 t fun i' o'' hi' hL hd' => ?_, hslI.2 t fun i' o'' hi' hlt hd' => ?_]
      ·
       by_cases e : i' = k
       ·
        omega
       ·
        exact hf.uniq i' k o'' o' t hi' hk e hd' hd
      ·
       by_cases e : i' = k
       ·
        subst e; rw [hLi] at hL; cases hL
       ·
        exact hf.uniq i' k o'' o' t hi' hk e hd' hd
     ·
      have hord := hf.look k i o' o t hk hoL hki hd ht
      rcases Nat.lt_or_gt_of_ne hki with hlt | hgt
      ·
       rw [h1 k o' t hk (before k (hord.1 hlt)) hd, hslI.1 k o' t hk hlt hd]
      ·
       have hLk := behind k o' hk (hord.2 hgt)
       rw [h2 t fun i' o'' hi' hL hd' => ?_, hslI.2 t fun i' o'' hi' hlt hd' => ?_]
       ·
        by_cases e : i' = k
        ·
         omega
        ·
         exact hf.uniq i' k o'' o' t hi' hk e hd' hd
       ·
        by_cases e : i' = k
        ·
         subst e; rw [hLk] at hL; cases hL
        ·
         exact hf.uniq i' k o'' o' t hi' hk e hd' hd
    ·
     rw [h2 t (fun i o hi _ hd => hw ⟨i, o, hi, hd⟩), hslI.2 t (fun i o hi _ hd => hw ⟨i, o, hi, hd⟩)]
   ·
    have heff : ∀ k o', ops.toList[k]? = some o' → isE fz o' = true → (k < p ↔ k < i) := fun k o' hk hE => by
     rw [← he k o' hk hE]
     by_cases hki : k = i
     ·
      subst hki; rw [hLi]; simp
     ·
      have hord := hf.eff k i o' o hk hoL hki hE htc
      rcases Nat.lt_or_gt_of_ne hki with hlt | hgt
      ·
       simp [before k (hord.1 hlt), hlt]
      ·
       rw [behind k o' hk (hord.2 hgt)]; simp; omega
    rw [hm, hn]
    rcases Nat.le_total p i with hpi | hpi
    ·
     have := mem_const hmem p i hpi (by omega) fun k o' hk h3 h4 => by
      cases hE : isE fz o' with
      | false => rfl
      | true => have := (heff k o' hk hE).2 h4; omega
     exact ⟨this.1.symm, this.2.symm⟩
    ·
     exact mem_const hmem i p hpi hp fun k o' hk h3 h4 => by
      cases hE : isE fz o' with
      | false => rfl
      | true => have := (heff k o' hk hE).1 h4; omega
  have hsp := (hs2 i o hoL hilt).2.1 σ hag
  have hdo : dstIn N o.dst = true := List.all_eq_true.1 hN o (by simpa using Array.mem_of_getElem? ho)
  refine evDO_sound hsp ho hdo (dstsIn_spec hN) hsf fun τ ι' ρ' a' w' hτ hsf' => ?_
  have hget : ∀ k, (listed.setIfInBounds i true).getD k false = if k = i then true else listed.getD k false := fun k => by
   rw [Array.getD_eq_getD_getElem?, Array.getD_eq_getD_getElem?]
   by_cases e : k = i
   ·
    subst e; simp [hsz, hil]
   ·
    rw [if_neg e, Array.getElem?_setIfInBounds_ne (Ne.symm e)]
  refine ih _ a' w' (by simpa using hsz) ?_ ?_ (by rw [hget, if_neg (Ne.symm hin)]; exact hlast) ?_
  ·
   have hsub : ((List.range ops.size).filter fun k => !(listed.setIfInBounds i true).getD k false) = ((List.range ops.size).filter fun k => !listed.getD k false).filter fun k => k ≠ i := by
    rw [List.filter_filter]
    refine List.filter_congr fun k _ => ?_
    rw [hget]
    by_cases e : k = i
    ·
     subst e; simp
    ·
     simp [e]
   rw [hsub]
   have hinr : i ∈ (List.range ops.size).filter fun k => !listed.getD k false := List.mem_filter.2 ⟨List.mem_range.2 hil, by rw [hLi]; rfl⟩
   have := (List.length_filter_lt_length_iff_exists (p := fun k => decide (k ≠ i)) (l := (List.range ops.size).filter fun k => !listed.getD k false)).2 ⟨i, hinr, by simp⟩
   omega
  ·
   intro j o' hj hL k hk
   simp only [hget] at hL ⊢
   by_cases hki : k = i
   ·
    rw [if_pos hki]
   ·
    rw [if_neg hki]
    by_cases hji : j = i
    ·
     subst hji; rw [hoL] at hj; cases hj
     exact hdep k (by rw [hoL]; simpa using hk)
    ·
     rw [if_neg hji] at hL; exact hcl j o' hj hL k hk
  ·
   have esl : ∀ t, τ.slot t = if o.dst = some t then v i else σ.slot t := fun t => by rw [hτ, slot_put]; rfl
   have emem : τ.mem = (if isE fz o then (s (i + 1)).mem else σ.mem) ∧ τ.nx = (if isE fz o then (s (i + 1)).nx else σ.nx) := by rw [hτ]; exact put_mem _ _ _
   refine ⟨τ, ι', ρ', if isE fz o then i + 1 else p, hsf', ?_, ?_, ?_, ?_, ?_, ?_⟩
   ·
    split <;> omega
   ·
    rw [emem.1]; cases hE : isE fz o <;> simp [hm]
   ·
    rw [emem.2]; cases hE : isE fz o <;> simp [hn]
   ·
    intro k o' hk hE'
    rw [hget]
    by_cases hki : k = i
    ·
     subst hki; rw [hoL] at hk; cases hk; simp [hE']
    ·
     rw [if_neg hki]
     cases hE : isE fz o with
     | false => simpa using he k o' hk hE'
     | true =>
      have hord := hf.eff k i o' o hk hoL hki hE' (by simp [touches, hE])
      simp only [if_true]
      rcases Nat.lt_or_gt_of_ne hki with hlt | hgt
      ·
       simp [before k (hord.1 hlt)]; omega
      ·
       rw [behind k o' hk (hord.2 hgt)]; simp; omega
   ·
    intro k o' t hk hL hd
    rw [hget] at hL
    rw [esl]
    by_cases hki : k = i
    ·
     subst hki; rw [hoL] at hk; cases hk; rw [if_pos hd]
    ·
     rw [if_neg hki] at hL
     rw [if_neg (hf.uniq k i o' o t hk hoL hki hd)]
     exact h1 k o' t hk hL hd
   ·
    intro t ht
    rw [esl, if_neg (ht i o hoL (by rw [hget, if_pos rfl]))]
    exact h2 t fun k o' hk hL => ht k o' hk (by rw [hget]; split <;> first | rfl | exact hL)


/-- The operations in the text's order; the last one panics with x. -/
def evQ (fz : List Nat) (P : Program) (x : Value) (ds : List (Option Tmp)) : List Oper → St → (St → Prop) → Prop
 | [], _, _ => False
 | [o], σ, K => stpP P σ o.op x K
 | o :: o2 :: rest, σ, K => evDO fz P ds o σ fun σ' => evQ fz P x ds (o2 :: rest) σ' K
theorem evQ_app {x : Value} {ds : List (Option Tmp)} {K : St → Prop} {o : Oper} : ∀ (l : List Oper) (σ : St), evQ fz P x ds (l ++ [o]) σ K = evD fz P ds l σ fun σ' => stpP P σ' o.op x K
 | [], σ => rfl
 | [a], σ => rfl
 | a :: b :: l, σ => by
  show evDO fz P ds a σ (fun σ' => evQ fz P x ds ((b :: l) ++ [o]) σ' K) = evDO fz P ds a σ fun σ' => evD fz P ds (b :: l) σ' _
  congr 1
  funext σ'
  exact evQ_app (b :: l) σ'
theorem befs_reach (l : List Oper) {j k : Nat} (h : ((befs (l.map depsOf) []).getD j 0).testBit k = true) : Reach (fun j => ((l[j]?).map depsOf).getD []) j k :=
 befs_spec (fun j => ((l[j]?).map depsOf).getD []) (l.map depsOf) [] (fun i hi => by simp [List.getD]) (fun j k hb => by simp at hb) _ _ h
/-- All stand before the last one; it is no effect, and not guarded. -/
def lastOK (fz : List Nat) (l : List Oper) : Bool :=
 let b := befs (l.map depsOf) []
 ((List.range (l.length - 1)).all fun k => (b.getD (l.length - 1) 0).testBit k) &&
 match l[l.length - 1]? with
 | some o => !isE fz o && o.guard.isNone
 | none => false
theorem tr_drawP (fz : List Nat) {x : Value} {id : Nat} {l : List Oper} {ds : List (Option Tmp)} {σ : St} {Ψ : Exit → St → Prop} (hm : P.follows .mixedOrders = true) (hd : dstsIn N l = true) (hok : drawOK fz l = true) (hl : lastOK fz l = true) (hds : l.map (·.dst) = ds)
  (h : ∀ K : St → Prop, (∀ σ', Ψ (pan x) σ' → K σ') → evQ fz P x ds l σ K) : Tr C (.region id l.toArray true) σ Ψ := by
 intro cx ι ρ a w hR hf
 subst hds
 have h' := h (fun σ' => Ψ (pan x) σ') fun _ h => h
 clear h
 have hne : l ≠ [] := by rintro rfl; exact h'.elim
 obtain ⟨l1, o, rfl⟩ : ∃ l1 o, l = l1 ++ [o] := ⟨l.dropLast, l.getLast hne, (List.dropLast_concat_getLast hne).symm⟩
 rw [evQ_app] at h'
 simp only [lastOK, List.length_append, List.length_singleton, Nat.add_sub_cancel, List.getElem?_concat_length, Bool.and_eq_true, Bool.not_eq_true', List.all_eq_true, List.mem_range] at hl
 obtain ⟨hanc, hE, hg⟩ := hl
 obtain ⟨s, v, h0, hK, hs⟩ := trace_of l1 σ h'
 let s' : Nat → St := fun j => if j = l1.length + 1 then (s l1.length).put o.dst .any else s j
 let v' : Nat → V := fun j => if j = l1.length then .any else v j
 have hsn : s' l1.length = s l1.length := if_neg (by omega)
 have hsj : ∀ j, j ≤ l1.length → s' j = s j := fun j hj => if_neg (by omega)
 have hvj : ∀ j, j < l1.length → v' j = v j := fun j hj => if_neg (by omega)
 have hlast : ∀ j o', (l1 ++ [o])[j]? = some o' → (j < l1.length ∧ l1[j]? = some o') ∨ (j = l1.length ∧ o' = o) := fun j o' hj => by
  by_cases hlt : j < l1.length
  ·
   rw [List.getElem?_append_left hlt] at hj; exact .inl ⟨hlt, hj⟩
  ·
   have hl2 : j < (l1 ++ [o]).length := (List.getElem?_eq_some_iff.1 hj).1
   have e : j = l1.length := by simp at hl2; omega
   subst e
   rw [List.getElem?_concat_length] at hj
   exact .inr ⟨rfl, by cases hj; rfl⟩
 have hds1 : (l1 ++ [o]).map (·.dst) = l1.map (·.dst) ++ [o.dst] := by simp
 refine wpIn_region_any hm ?_
 refine draw_mainP (cx := cx) (ops := (l1 ++ [o]).toArray) (n := l1.length) (by simp) (fun k hk => ?_) (drawOK_facts hok) hd (s := s') (v := v') (K := fun σ' => stpP P σ' o.op x fun σ' => Ψ (pan x) σ') (by rw [hsn]; exact hK) (fun o' ho' => ?_) (fun j o' hj => ?_) (fun j o' hj hlt => ?_) (fun σ' ι' ρ' a' w' Kc hk hsf => ?_) _ _ a _ (by simp) ?_ ?_ ?_ ?_
 ·
  have := befs_reach (l1 ++ [o]) (hanc k hk)
  simpa using this
 ·
  rcases hlast l1.length o' ho' with ⟨h1, -⟩ | ⟨-, rfl⟩
  ·
   omega
  ·
   exact hE
 ·
  rcases hlast j o' (by simpa using hj) with ⟨h1, h2⟩ | ⟨rfl, rfl⟩
  ·
   have := hs j o' h2
   rw [hsj j (by omega), hsj (j + 1) (by omega), hvj j h1]
   exact ⟨⟨this.1.1, trivial, this.1.2.2⟩, this.2⟩
  ·
   have e1 : s' (l1.length + 1) = (s l1.length).put o'.dst .any := if_pos rfl
   have e2 : v' l1.length = .any := if_pos rfl
   have e3 := put_mem (s l1.length) o'.dst .any
   rw [hsn, e1, e2]
   refine ⟨⟨fun _ => e3, trivial, fun he => (by rw [hE] at he; cases he), fun he => (by rw [hE] at he; cases he)⟩, ?_⟩
   rw [e3.1, e3.2]
 ·
  rcases hlast j o' (by simpa using hj) with ⟨h1, h2⟩ | ⟨rfl, rfl⟩
  ·
   have := (hs j o' h2).1
   rw [hsj j (by omega), hsj (j + 1) (by omega), hvj j h1]
   simpa using this
  ·
   omega
 ·
  unfold wpOpIn
  have e1 : (l1 ++ [o]).toArray[l1.length]? = some o := by simp
  simp only [e1]
  rw [if_pos (by simp [Region.wanted, Option.isNone_iff_eq_none.1 hg])]
  exact Oper.wpIn_of_wp (stpP_nodefer hk) (stpP_sound (cx := cx) hsf.sr hk fun σ2 ι2 ρ2 w2 hk2 hsr => ⟨cx, σ2, ι2, ρ2, C.refl hR, hk2, ⟨hsr, hsf.size, hsf.defers⟩⟩)
 ·
  exact Nat.le_trans (List.length_filter_le _ _) (by simp)
 ·
  intro j o hj hL; exfalso; simp [Array.getD] at hL
 ·
  simp [Array.getD]
 ·
  have hLf : ∀ i, (Array.replicate (l1 ++ [o]).toArray.size false).getD i false = false := fun i => by simp [Array.getD]
  have e0 : s' 0 = σ := by rw [hsj 0 (by omega), h0]
  refine ⟨σ, ι, ρ, 0, hf.drew, Nat.zero_le _, by rw [e0], by rw [e0], fun i o hi he => by rw [hLf]; simp, (fun i o t hi hL => by rw [hLf] at hL; cases hL), fun t _ => by rw [e0]⟩
theorem evQ_step {x : Value} {ds : List (Option Tmp)} {o o2 : Oper} {l : List Oper} {σ : St} {K : St → Prop} (h : ∀ K' : St → Prop, (∀ σ', evQ fz P x ds (o2 :: l) σ' K → K' σ') → evDO fz P ds o σ K') : evQ fz P x ds (o :: o2 :: l) σ K := h _ fun _ h => h
end
/-- The walk of a function without loops over iterators. -/
def C1 (P : Program) (N : Nat) : Ctl P N where
  S := fun a => a.r = none
  L := fun a b => Ltr a b ∧ b.df = a.df
  Y := fun _ _ _ => False
  refl := fun _ => ⟨Ltr.refl _, rfl⟩
  trans := fun h k => ⟨h.1.trans k.1, k.2.trans h.2⟩
  pres := fun h k => h.1.r.trans k
  hr := fun h => h.1.r
  ys := fun _ _ h => h.elim

/-- The deferred call of a closure without arguments. -/
def dfr : Value → Deferred
  | .func fn _ cvs => { target := .fn fn cvs, args := #[] }
  | _ => { target := .collected 0, args := #[] }
def St.eqv (σ : St) (t : Nat) (x : Value) : St := ⟨σ.env.map fun p => if p.1 = t then (t, .eq x p.2) else p, σ.mem, σ.nx⟩
theorem slot_eqv (σ : St) (t : Nat) (x : Value) (k : Nat) : (σ.eqv t x).slot k = if k = t then (match σ.env.lookup t with | some v => .eq x v | none => .any) else σ.slot k := by
  obtain ⟨env, m, n⟩ := σ
  simp only [St.slot, St.eqv]
  induction env with
  | nil => simp
  | cons p env ih =>
    obtain ⟨q, v⟩ := p
    by_cases e : q = t
    · subst e
      simp only [List.map_cons, if_true, List.lookup_cons]
      by_cases e2 : k = q
      · subst e2; simp
      · have : (k == q) = false := by simpa using e2
        rw [this]
        simp only [if_neg e2]
        simpa [if_neg e2] using ih
    · simp only [List.map_cons, if_neg e, List.lookup_cons]
      have e3 : (t == q) = false := by simpa using Ne.symm e
      rw [e3]
      by_cases e2 : k = q
      · subst e2; simp [e]
      · have : (k == q) = false := by simpa using e2
        rw [this]; exact ih

section
variable {P : Program} {N : Nat} {cx : Cx} {σ : St} {ι : Nat → Nat} {ρ : Nat → Value} {a : Act} {w : World}

def QD (P : Program) (N : Nat) (Ψ1 : Exit → St → Prop) (Ψ2 : Value → Exit → St → Prop) (cx : Cx) (e : Exit) (a' : Act) (w' : World) : Prop :=
  (∃ cx' σ' ι' ρ', (Ltr cx cx' ∧ cx'.df = cx.df) ∧ Ψ1 e σ' ∧ SF N cx' σ' ι' ρ' a' w') ∨
  ∃ x cx' σ' ι' ρ', Ltr { cx with df := dfr x :: cx.df } cx' ∧ cx'.df = dfr x :: cx.df ∧ Ψ2 x e σ' ∧ SF N cx' σ' ι' ρ' a' w'
def TrD (P : Program) (N : Nat) (Ψ1 : Exit → St → Prop) (Ψ2 : Value → Exit → St → Prop) (c : Code) (σ : St) : Prop :=
  ∀ (cx : Cx) (ι : Nat → Nat) (ρ : Nat → Value) (a : Act) (w : World), cx.r = none → SF N cx σ ι ρ a w → c.wpIn (Fr none) 0 P (QD P N Ψ1 Ψ2 cx) a w

theorem Ltr.redf {a b : Cx} (h : Ltr a b) (ds : List Deferred) : Ltr { a with df := ds } { b with df := ds } := ⟨h.r, h.X, h.G, h.os, h.tape, h.output, h.size, h.old, h.d, [], rfl, .nil, by simp⟩
theorem QD.lift {Ψ1 : Exit → St → Prop} {Ψ2 : Value → Exit → St → Prop} {b : Cx} {e : Exit} {a' : Act} {w' : World} (hL : Ltr cx b ∧ b.df = cx.df) (h : QD P N Ψ1 Ψ2 b e a' w') : QD P N Ψ1 Ψ2 cx e a' w' := by
  rcases h with ⟨cx', σ', ι', ρ', h1, h2, h3⟩ | ⟨x, cx', σ', ι', ρ', h1, h2, h3, h4⟩
  · exact .inl ⟨cx', σ', ι', ρ', ⟨hL.1.trans h1.1, h1.2.trans hL.2⟩, h2, h3⟩
  · refine .inr ⟨x, cx', σ', ι', ρ', ?_, by rw [h2, hL.2], h3, h4⟩
    have := (hL.1.redf (dfr x :: cx.df))
    rw [hL.2] at h1
    exact this.trans h1
theorem trD_seq {Ψ1 : Exit → St → Prop} {Ψ2 : Value → Exit → St → Prop} {x y : Code} (h : ∀ K : St → Prop, (∀ σ', TrD P N Ψ1 Ψ2 y σ' → K σ') → Tr (C1 P N) x σ (thenE K Ψ1)) : TrD P N Ψ1 Ψ2 (.seq x y) σ := fun cx ι ρ a w hr hf => by
  have hx := h _ (fun σ' h => h) cx ι ρ a w hr hf
  rw [hr] at hx
  refine wpIn_seq (Code.wpIn_mono (fun e a' w' hq => ?_) hx)
  obtain ⟨cx1, σ1, ι1, ρ1, hL, hk, hs⟩ := hq
  cases e with
  | normal => exact Code.wpIn_mono (fun e a w q => q.lift hL) (hk cx1 ι1 ρ1 a' w' (hL.1.r.trans hr) hs)
  | _ => exact .inl ⟨cx1, σ1, ι1, ρ1, hL, hk, hs⟩
theorem trD_defer {Ψ1 : Exit → St → Prop} {Ψ2 : Value → Exit → St → Prop} {id : Nat} {o1 : Oper} {t : Tmp} {ty : TypeId} {pos : String} {after : Array Edge} {ts : Array TypeId} {B : Code} (kp : List Nat) (ht : (decide (t < 1000000)) = true) (hd : dstsIn N [o1] = true)
    (h : ∀ K : St → Prop, (∀ (σ1 : St) (g : FuncId) (caps : List V), (σ1.norm kp).env.lookup t = some (.fn g caps) → (∀ x, Tr (C1 P N) B ((σ1.norm kp).eqv t x) (Ψ2 x)) → K σ1) → evO P [o1.dst, none] o1 σ K) :
    TrD P N Ψ1 Ψ2 (.seq (.region id #[o1, ⟨none, .defer ⟨.value (.tmp t), #[], ts⟩, ty, pos, after, none⟩] false) B) σ := fun cx ι ρ a w hr hf => by
  refine wpIn_seq ?_
  have h0 := h (fun σ1 => ∃ (g : FuncId) (caps : List V), (σ1.norm kp).env.lookup t = some (.fn g caps) ∧ ∀ x, Tr (C1 P N) B ((σ1.norm kp).eqv t x) (Ψ2 x)) (fun σ1 g caps h1 h2 => ⟨g, caps, h1, h2⟩)
  refine wpIn_region_list ?_
  have hN : ∀ (j d : Nat), ((#[o1, (⟨none, .defer ⟨.value (.tmp t), #[], ts⟩, ty, pos, after, none⟩ : Oper)] : Array Oper)[j]?).bind (·.dst) = some d → d < N := fun j d hj => by
    have hd1 : dstIn N o1.dst = true := by simpa [dstsIn] using hd
    match j, hj with
    | 0, hj => simp at hj; have h9 : d < N ∧ d < 1000000 := by simpa [dstIn, hj] using hd1
               exact h9.1
    | 1, hj => simp at hj
    | j + 2, hj => simp at hj
  have key : ∀ (cx1 : Cx) (σ1 : St) (ι1 : Nat → Nat) (ρ1 : Nat → Value) (a1 : Act) (w1 : World), (Ltr cx cx1 ∧ cx1.df = cx.df) → (∃ (g : FuncId) (caps : List V), (σ1.norm kp).env.lookup t = some (.fn g caps) ∧ ∀ x, Tr (C1 P N) B ((σ1.norm kp).eqv t x) (Ψ2 x)) → SF N cx1 σ1 ι1 ρ1 a1 w1 →
      wpListIn (Fr none) 0 P #[o1, (⟨none, .defer ⟨.value (.tmp t), #[], ts⟩, ty, pos, after, none⟩ : Oper)] (fun e a w => match e with | .normal => B.wpIn (Fr none) 0 P (QD P N Ψ1 Ψ2 cx) a w | e => QD P N Ψ1 Ψ2 cx e a w) [(⟨none, .defer ⟨.value (.tmp t), #[], ts⟩, ty, pos, after, none⟩ : Oper)] a1 w1 := by
    rintro cx1 σ1 ι1 ρ1 a1 w1 hL ⟨g, caps, h1, h2⟩ hs
    have hsn : SF N cx1 (σ1.norm kp) ι1 ρ1 a1 w1 := ⟨hs.sr.norm kp, hs.size, hs.defers⟩
    have hx := hsn.sr.env t
    have e1 : (σ1.norm kp).slot t = .fn g caps := by unfold St.slot; rw [h1]; rfl
    rw [e1] at hx
    have ht' : t < 1000000 := by simpa using ht
    have e2 : tv cx1 a1 t = a1.tmps.getD t undef := if_pos ht'
    rw [e2] at hx
    have hx0 := hx
    unfold MR at hx
    generalize hxe : a1.tmps.getD t undef = xv at hx
    have hcv : ∃ cvs, xv = .func (.func g) #[] cvs := by cases hx; exact ⟨_, rfl⟩
    obtain ⟨cvs, rfl⟩ := hcv
    unfold wpListIn
    rw [if_pos (by simp [Region.wanted])]
    refine ⟨fun _ _ => trivial, ?_⟩
    rw [show (Fr none).round = none from rfl, Oper.semAt_none]
    have hrun : (execOp a1.eval (⟨none, .defer ⟨.value (.tmp t), #[], ts⟩, ty, pos, after, none⟩ : Oper)).run P w1 = .ok (.defer { target := .fn (.func g) cvs, args := #[] }) w1 := by
      have : a1.eval (.tmp t) = .func (.func g) #[] cvs := hxe
      simp [execOp, resolve, this, Deferred.ofValue]
    rw [hrun]
    rw [Oper.uponIn_defer]
    refine wpListIn_nil ?_
    have hsd : SF N { cx1 with df := dfr (.func (.func g) #[] cvs) :: cx1.df } ((σ1.norm kp).eqv t (.func (.func g) #[] cvs)) ι1 ρ1 { a1 with defers := { target := .fn (.func g) cvs, args := #[] } :: a1.defers } w1 := by
      refine ⟨⟨⟨hs.sr.ml.os, hs.sr.ml.tape, hs.sr.ml.output, hs.sr.ml.size, hs.sr.ml.old, hs.sr.ml.keys, hs.sr.ml.lt, hs.sr.ml.own, hs.sr.ml.inj, hs.sr.ml.xlt, hs.sr.ml.obj⟩, fun k => ?_⟩, hs.size, by simp [dfr, hs.defers]⟩
      rw [slot_eqv]
      by_cases e : k = t
      · subst e
        rw [if_pos rfl, h1]
        have e3 : tv { cx1 with df := dfr (.func (.func g) #[] cvs) :: cx1.df } { a1 with defers := { target := .fn (.func g) cvs, args := #[] } :: a1.defers } k = .func (.func g) #[] cvs := by
          unfold tv; rw [if_pos ht']; exact hxe
        rw [e3]
        refine .eq _ _ _ ?_
        rw [hxe] at hx0; exact hx0
      · rw [if_neg e]; exact hsn.sr.env k
    obtain ⟨cxd, hcxd⟩ : ∃ c : Cx, c = { cx1 with df := dfr (.func (.func g) #[] cvs) :: cx1.df } := ⟨_, rfl⟩
    have hrd : cxd.r = none := by rw [hcxd]; exact hL.1.r.trans hr
    rw [← hcxd] at hsd
    have hB := h2 _ cxd ι1 ρ1 _ w1 hrd hsd
    rw [hrd] at hB
    refine Code.wpIn_mono (fun e a' w' hq => ?_) hB
    obtain ⟨cx', σ', ι', ρ', k1, k2, k3⟩ := hq
    refine .inr ⟨.func (.func g) #[] cvs, cx', σ', ι', ρ', ?_, ?_, k2, k3⟩
    · have := hL.1.redf (dfr (.func (.func g) #[] cvs) :: cx.df)
      have k0 := k1.1
      rw [hcxd, hL.2] at k0
      exact this.trans k0
    · rw [k1.2, hcxd, ← hL.2]
  refine (fun q => by rw [hr] at q; exact q) (evO_sound (ops := #[o1, (⟨none, .defer ⟨.value (.tmp t), #[], ts⟩, ty, pos, after, none⟩ : Oper)]) (K := fun σ' => ∃ (g : FuncId) (caps : List V), (σ'.norm kp).env.lookup t = some (.fn g caps) ∧ ∀ x, Tr (C1 P N) B ((σ'.norm kp).eqv t x) (Ψ2 x)) (rest := [(⟨none, .defer ⟨.value (.tmp t), #[], ts⟩, ty, pos, after, none⟩ : Oper)]) (cx := cx) (N := N) h0 (by simpa [dstsIn] using hd) hN hf (fun σ' ι' ρ' a' w' hk hs => ?_))
  rw [hr]; exact key cx σ' ι' ρ' a' w' ⟨Ltr.refl _, rfl⟩ hk hs

/-- What the deferred closure does while the function returns: nothing. -/
def IdleD (P : Program) (g : FuncId) : Prop :=
  ∀ (b1 b2 : Nat) (w : World), CallsDIn (Fr none) 0 P g #[.pointer (some ⟨b1, 0, none⟩), .pointer (some ⟨b2, 0, none⟩)] .returning w fun e u' w' => (∃ v, e = .returned v) ∧ u' = .returning ∧ Below w.heap.size w w'
/-- .. and while it panics with wr n: it recovers, notes n, and forgets the map. -/
def CatchD (P : Program) (g : FuncId) (wr : Int → Value) : Prop :=
  ∀ (b1 b2 : Nat) (n : Int) (w : World) (v1 v2 : Value) (e1 e2 : TypeId), w.heap[b1]? = some (.cells #[v1] e1 (0, 0)) → w.heap[b2]? = some (.cells #[v2] e2 (0, 0)) → b1 ≠ b2 →
    CallsDIn (Fr none) 0 P g #[.pointer (some ⟨b1, 0, none⟩), .pointer (some ⟨b2, 0, none⟩)] (.panicking [{ v := wr n, recovered := false }]) w fun e u' w' => (∃ v, e = .returned v) ∧ u' = .panicking [{ v := wr n, recovered := true }] ∧
      w'.os = w.os ∧ w'.tape = w.tape ∧ w'.output = w.output ∧ w.heap.size ≤ w'.heap.size ∧ (∀ k, k < w.heap.size → k ≠ b1 → k ≠ b2 → w'.heap[k]? = w.heap[k]?) ∧
      w'.heap[b1]? = some (.cells #[.int .i64 n] e1 (0, 0)) ∧ w'.heap[b2]? = some (.cells #[.map none] e2 (0, 0))

/-- What the state at the end says, behind the defer. -/
def endD (P : Program) (rs : List ResultVar) (g : FuncId) (t0 p1 p2 : Nat) (wr : Int → Value) (r : V) (x : Value) (e : Exit) (σ : St) : Prop :=
  ∃ i j u z, i ≠ j ∧ σ.slot t0 = .eq x (.fn g [.ptr i 0, .ptr j 0]) ∧ σ.mem.look i = some (.cells [u]) ∧ σ.mem.look j = some (.cells [z]) ∧
    ((e = .ret ∧ postA P rs (fun v => v = r) .ret σ) ∨ ∃ n, e = pan (wr n) ∧ σ.slot p1 = .ptr i 0 ∧ σ.slot p2 = .ptr j 0 ∧ r = .tup [.int .i64 n, .nm])

theorem callsA_of_trD {f g : FuncId} {fn : Func} {c : Code} (hf : P.funcs[f]? = some fn) (hb : fn.body = some c) {args : List V} {r : V} (hn : args.length ≤ fn.ntmps) {p1 p2 t0 : Nat} {ty1 ty2 : TypeId} {wr : Int → Value}
    (hrs : fn.results.toList = [.cell p1 ty1, .cell p2 ty2]) (hl1 : lay P ty1 = some (1, false)) (hl2 : lay P ty2 = some (1, false)) (hp : (decide (p1 < 1000000) && (decide (p2 < 1000000) && decide (t0 < 1000000))) = true) (hok : okF P g = true) (hI : IdleD P g) (hC : CatchD P g wr)
    (h : TrD P fn.ntmps (postA P fn.results.toList fun v => v = r) (endD P fn.results.toList g t0 p1 p2 wr r) c ⟨envOf 0 args, [], 0⟩) : CallsA P f args r := by
  intro w X vs hX hl hr
  simp only [Bool.and_eq_true, decide_eq_true_eq] at hp
  obtain ⟨hp1, hp2, ht0⟩ := hp
  let cx : Cx := ⟨w, fun _ => False, X, none, [], fun t => vs.getD t undef⟩
  have hsf : SF fn.ntmps cx ⟨envOf 0 args, [], 0⟩ (fun _ => 0) (fun _ => undef) { tmps := vs ++ Array.replicate (fn.ntmps - vs.size) undef, defers := [] } w := by
    refine ⟨⟨⟨rfl, rfl, rfl, Nat.le_refl _, fun _ _ _ => rfl, by simp, by simp, by simp, by simp, hX, by simp⟩, fun t => ?_⟩, by simp; omega, rfl⟩
    simp only [St.slot, lookup_envOf]
    simp only [Nat.zero_le, if_true, Nat.sub_zero]
    by_cases ht : t < args.length
    · have h1 := hr t ht
      have e1 : args[t]?.getD .any = args.getD t .any := rfl
      have e2 : tv cx { tmps := vs ++ Array.replicate (fn.ntmps - vs.size) undef, defers := [] } t = vs.getD t undef := by
        unfold tv
        split
        · simp [Array.getD_eq_getD_getElem?, Array.getElem?_append_left (show t < vs.size by omega)]
        · rfl
      rw [e1, e2]
      refine Rel.mono (fun a x hc hno => ⟨hc, fun h => ?_⟩) (fun _ _ => ⟨rfl, rfl⟩) (Nat.le_refl _) (h1.free rfl false)
      rcases h with h | ⟨p, hp, _⟩
      · exact hno h
      · cases hp
    · rw [List.getElem?_eq_none (by omega)]; exact .any ..
  -- the end without a panic
  have fin : ∀ (cx' : Cx) (σ' : St) (ι' : Nat → Nat) (ρ' : Nat → Value) (a' : Act) (w' : World) (ex : Exit), Ltr { cx with df := cx'.df } cx' → postA P fn.results.toList (fun v => v = r) ex σ' → SF fn.ntmps cx' σ' ι' ρ' a' w' →
      ∃ v, (results fn a'.tmps).run P w' = .ok v w' ∧ ∃ x, Ending.returned v = .returned x ∧ Below w.heap.size w w' ∧ Rel w' X (fun _ => 0) (fun _ => undef) 0 true r x := by
    intro cx' σ' ι' ρ' a' w' ex hL hp hs
    have hs2 := hs.back hL hX cx'.df
    obtain ⟨he, x, v, mem, h1, h2, rfl⟩ := postA_sound hs2 hp
    have hm := hs2.sr.ml
    have hbel : Below w.heap.size w w' := ⟨hm.os, hm.tape, hm.output, hm.size, fun b hb => hm.old b hb (fun h => h)⟩
    exact ⟨x, h1, x, rfl, hbel, Rel.mono (fun a y hc hno => ⟨hc, fun hx => hno (.inl hx)⟩) (fun _ _ => ⟨rfl, rfl⟩) (Nat.le_refl _) (h2.free rfl true)⟩
  refine callsIn_wide.1 (callsIn_of_wp_marks (F := Fr none) (n := 0) hf hb trivial ?_)
  refine Code.wpIn_mono (fun e a' w' hq => ?_) (h cx _ _ _ w rfl hsf)
  rcases hq with ⟨cx', σ', ι', ρ', ⟨hL, hdf⟩, hp, hs⟩ | ⟨x, cx', σ', ι', ρ', hL, hdf, hp, hs⟩
  · have hd : a'.defers = [] := hs.defers.trans hdf
    have hLL : Ltr { cx with df := cx'.df } cx' := by rw [hdf]; exact hL
    have key : LeavesInM (Fr none) 0 P fn a'.tmps (fun e w' => ∃ x, e = .returned x ∧ Below w.heap.size w w' ∧ Rel w' X (fun _ => 0) (fun _ => undef) 0 true r x) a'.defers .returning w' := by
      rw [hd]; exact fin cx' σ' ι' ρ' a' w' e hLL hp hs
    have he : e = .normal ∨ e = .ret := by unfold postA at hp; cases e <;> simp_all
    rcases he with rfl | rfl <;> exact key
  · have hd : a'.defers = [dfr x] := hs.defers.trans hdf
    have hLL : Ltr { cx with df := cx'.df } cx' := by rw [hdf]; exact hL
    obtain ⟨i, j, u, z, hij, hsl, hli, hlj, hfin⟩ := hp
    have hx := hs.sr.env t0
    rw [hsl] at hx
    have e2 : tv cx' a' t0 = a'.tmps.getD t0 undef := if_pos ht0
    rw [e2] at hx
    unfold MR at hx
    generalize a'.tmps.getD t0 undef = y at hx
    obtain ⟨cvs, rfl, hc1, hc2⟩ : ∃ cvs, x = .func (.func g) #[] cvs ∧ cvs.size = 2 ∧ ∀ k, k < 2 → Rel w' (OO cx'.X σ'.mem ι' ρ') ι' ρ' σ'.nx false ([V.ptr i 0, V.ptr j 0].getD k .any) (cvs.getD k undef) := by
      cases hx with
      | eq _ _ _ h2 => cases h2 with
        | fn _ _ _ cvs k1 k2 => exact ⟨cvs, rfl, k1, fun k hk => k2 k (by simpa using hk)⟩
    have ec0 : cvs.getD 0 undef = .pointer (some ⟨ι' i, 0, none⟩) := by
      have := hc2 0 (by omega)
      simp only [List.getD_cons_zero] at this
      generalize cvs.getD 0 undef = y0 at this
      cases this; rfl
    have ec1 : cvs.getD 1 undef = .pointer (some ⟨ι' j, 0, none⟩) := by
      have := hc2 1 (by omega)
      simp only [List.getD_cons_succ, List.getD_cons_zero] at this
      generalize cvs.getD 1 undef = y0 at this
      cases this; rfl
    have ecv : cvs = #[.pointer (some ⟨ι' i, 0, none⟩), .pointer (some ⟨ι' j, 0, none⟩)] := by
      apply Array.ext
      · simp [hc1]
      · intro k h1 h2
        have e0 : cvs.getD k undef = cvs[k] := by simp [Array.getD, h1]
        have hk : k = 0 ∨ k = 1 := by simp at h2; omega
        rcases hk with rfl | rfl
        · rw [← e0, ec0]; rfl
        · rw [← e0, ec1]; rfl
    have hinv : (invoke (dfr (.func (.func g) #[] cvs)).target (dfr (.func (.func g) #[] cvs)).args).run P w' = .ok (.enter g cvs) w' := by
      simp [dfr, invoke, okF_spec hok]
    obtain ⟨vi, ei, hvi, hsi, -, -⟩ := hs.sr.ml.obj _ (Mem.look_mem hli)
    obtain ⟨vj, ej, hvj, hsj, -, -⟩ := hs.sr.ml.obj _ (Mem.look_mem hlj)
    rcases hfin with ⟨rfl, hpost⟩ | ⟨n, rfl, hs1, hs2, rfl⟩
    · show LeavesInM (Fr none) 0 P fn a'.tmps _ a'.defers .returning w'
      rw [hd]
      refine ⟨by simp, .inr ⟨fun h => by simp [Fr] at h, .func g, cvs, g, cvs, rfl, hinv, fun _ _ => trivial, ?_⟩⟩
      have hIw := hI (ι' i) (ι' j) w'
      rw [← ecv] at hIw
      refine hIw.mono ?_
      rintro e u' w2 ⟨⟨v, rfl⟩, rfl, hbel⟩
      obtain ⟨m1, m2⟩ := hs.sr.ml.below hbel
      exact fin cx' σ' ι' ρ' a' w2 .ret hLL hpost ⟨⟨m1, fun t => m2 _ _ _ (hs.sr.env t)⟩, hs.size, hs.defers⟩
    · show LeavesInM (Fr none) 0 P fn a'.tmps _ a'.defers (.panicking [{ v := wr n, recovered := false }]) w'
      rw [hd]
      refine ⟨by simp, .inr ⟨fun h => by simp [Fr] at h, .func g, cvs, g, cvs, rfl, hinv, fun _ _ => trivial, ?_⟩⟩
      obtain ⟨v1, rfl⟩ : ∃ v, vi = #[v] := ⟨vi[0]'(by simp at hsi; omega), by apply Array.ext <;> simp_all⟩
      obtain ⟨v2, rfl⟩ : ∃ v, vj = #[v] := ⟨vj[0]'(by simp at hsj; omega), by apply Array.ext <;> simp_all⟩
      have hne : ι' i ≠ ι' j := fun e => by
        have := hs.sr.ml.inj _ (Mem.look_mem hli) _ (Mem.look_mem hlj) (ι' i) rfl (by rw [e]; rfl)
        exact hij (by cases this; rfl)
      have hCw := hC (ι' i) (ι' j) n w' v1 v2 ei ej hvi hvj hne
      rw [← ecv] at hCw
      refine hCw.mono ?_
      rintro e u' w2 ⟨⟨v, rfl⟩, rfl, c1, c2, c3, c4, c5, c6, c7⟩
      have hset : settle (FrameMode.panicking [{ v := wr n, recovered := true }]) = .returning := rfl
      show LeavesInM (Fr none) 0 P fn a'.tmps _ [] (settle (.panicking [{ v := wr n, recovered := true }])) w2
      rw [hset]
      have hsb := hs.back hLL hX cx'.df
      have hm := hsb.sr.ml
      have hown1 := hm.own _ (Mem.look_mem hli) (ι' i) rfl
      have hown2 := hm.own _ (Mem.look_mem hlj) (ι' j) rfl
      have b1 : w.heap.size ≤ ι' i := hown1.2.1.resolve_right fun h => h
      have b2 : w.heap.size ≤ ι' j := hown2.2.1.resolve_right fun h => h
      have hbel : Below w.heap.size w w2 := ⟨c1.trans hm.os, c2.trans hm.tape, c3.trans hm.output, Nat.le_trans hm.size c4, fun b hb => by
        have hsz : w.heap.size ≤ w'.heap.size := hm.size
        rw [c5 b (by omega) (by omega) (by omega)]; exact hm.old b hb (fun h => h)⟩
      have er1 : a'.tmps.getD p1 undef = .pointer (some ⟨ι' i, 0, none⟩) := by
        have := hs.sr.env p1
        rw [hs1, show tv cx' a' p1 = a'.tmps.getD p1 undef from if_pos hp1] at this
        unfold MR at this
        generalize a'.tmps.getD p1 undef = y0 at this
        cases this; rfl
      have er2 : a'.tmps.getD p2 undef = .pointer (some ⟨ι' j, 0, none⟩) := by
        have := hs.sr.env p2
        rw [hs2, show tv cx' a' p2 = a'.tmps.getD p2 undef from if_pos hp2] at this
        unfold MR at this
        generalize a'.tmps.getD p2 undef = y0 at this
        cases this; rfl
      obtain ⟨x1, l1, r1⟩ := winV_sound (P := P) (w := w2) (O := X) (ι := fun _ => 0) (ρ := fun _ => undef) (nx := 0) (c := true) hl1 (b := ι' i) (off := 0) (es := [.int .i64 n]) (by simp) (xs := fun _ => .int .i64 n)
        (fun k hk => by have h0 : k = 0 := (by simpa using hk); subst h0; rfl) (fun k hk => by have h0 : k = 0 := (by simpa using hk); subst h0; rw [cell_of_row w2 _ _ _ _ _ c6]; rfl) (fun k hk => by have h0 : k = 0 := (by simpa using hk); subst h0; exact .int ..)
      obtain ⟨x2, l2, r2⟩ := winV_sound (P := P) (w := w2) (O := X) (ι := fun _ => 0) (ρ := fun _ => undef) (nx := 0) (c := true) hl2 (b := ι' j) (off := 0) (es := [.nm]) (by simp) (xs := fun _ => .map none)
        (fun k hk => by have h0 : k = 0 := (by simpa using hk); subst h0; rfl) (fun k hk => by have h0 : k = 0 := (by simpa using hk); subst h0; rw [cell_of_row w2 _ _ _ _ _ c7]; rfl) (fun k hk => by have h0 : k = 0 := (by simpa using hk); subst h0; exact .nm ..)
      have w1 : winV false 1 [V.int .i64 n] = .int .i64 n := rfl
      have w3 : winV false 1 [V.nm] = .nm := rfl
      rw [w1] at r1
      rw [w3] at r2
      refine ⟨.tuple #[x1, x2], results2 hrs (by simp [rvRun, er1, asAddr, l1]) (by simp [rvRun, er2, asAddr, l2]), _, rfl, hbel, .tup _ _ _ rfl fun k hk => ?_⟩
      have : k = 0 ∨ k = 1 := by simp at hk; omega
      rcases this with rfl | rfl
      · simpa using r1
      · simpa using r2
end
section
variable {P : Program} {N : Nat} {C : Ctl P N} {fz : List Nat} {xv : Value} {o2 : Oper}
theorem evP_p {ds : List (Option Tmp)} {o : Oper} {l : List Oper} {σ σ' : St} {K : St → Prop}
  (k : evP P xv ds l σ' K) (h : ∀ Kq : St → Prop, Kq σ' → evO P ds o σ Kq := by intro Kq hKq; simp (maxSteps := 4000000) (disch := first | assumption | omega | (simp only [go_sem, *]; done) | (simp only [go_sem, *]; omega)) only [go_sem, isE, isO, stpO, notIn, St.bare, Bool.false_and, Bool.true_and, Bool.and_true, Bool.not_true, Bool.not_false, Int.reduceToNat, Nat.reduceBEq, Nat.reduceEqDiff, Nat.reduceAdd, Nat.reduceMul, Nat.reduceLeDiff, Nat.reduceLT, Nat.reduceSub, ↓reduceIte, reduceCtorEq, hq]; (repeat (refine And.intro (by first | assumption | omega | decide | (simp; done) | (simp; omega) | (have hq := hvv hgt; omega) | (have hq := hvv hgt.1; omega) | (simp_all; done)) ?_)); exact hKq) : evP P xv ds (o :: l) σ K :=
 evP_step fun Kq hKq => h Kq (hKq _ k)

theorem evP_g {ds : List (Option Tmp)} {dst : Option Tmp} {op : Op} {ty : TypeId} {pos : String} {after : Array Edge} {j : Nat} {want : Bool} {d : Nat} {l : List Oper} {σ σ' : St} {K : St → Prop} {gb : Bool} {v0 : V} (k : evP P xv ds l σ' K)
  (hj : nth ds j = some d := by rfl) (hg : ∀ K' : Bool → Prop, K' gb → gof (σ.get (.tmp d)) want K' := by intro K3 h3; simp (maxSteps := 4000000) (disch := first | assumption | omega | (simp only [go_sem, *]; done) | (simp only [go_sem, *]; omega)) only [go_sem, isE, isO, stpO, notIn, St.bare, Bool.false_and, Bool.true_and, Bool.and_true, Bool.not_true, Bool.not_false, Int.reduceToNat, Nat.reduceBEq, Nat.reduceEqDiff, Nat.reduceAdd, Nat.reduceMul, Nat.reduceLeDiff, Nat.reduceLT, Nat.reduceSub, ↓reduceIte, reduceCtorEq, hq]; exact h3)
  (hs : gb = true → stp P σ (some gb) op fun v s => v = v0 ∧ s = σ := by intro hgt; (try simp only [decide_eq_true_eq, decide_eq_false_iff_not, Bool.not_eq_true', Bool.not_eq_false', Bool.and_eq_true, Bool.or_eq_true, Bool.and_eq_false_iff, Bool.or_eq_false_iff, beq_true, beq_false] at hgt); simp (maxSteps := 4000000) (disch := first | assumption | omega | (simp only [go_sem, *]; done) | (simp only [go_sem, *]; omega)) only [go_sem, isE, isO, stpO, notIn, St.bare, Bool.false_and, Bool.true_and, Bool.and_true, Bool.not_true, Bool.not_false, Int.reduceToNat, Nat.reduceBEq, Nat.reduceEqDiff, Nat.reduceAdd, Nat.reduceMul, Nat.reduceLeDiff, Nat.reduceLT, Nat.reduceSub, ↓reduceIte, reduceCtorEq, hq]; (repeat (refine And.intro (by first | assumption | omega | decide | (simp; done) | (simp; omega) | (have hq := hvv hgt; omega) | (have hq := hvv hgt.1; omega) | (simp_all; done)) ?_)); first | rfl | exact ⟨rfl, rfl⟩ | (refine Or.inl ?_; rfl) | (refine Or.inl ?_; exact ⟨rfl, rfl⟩))
  (hp : σ.put dst (.gd gb v0) = σ' := by simp only [St.put]; rfl) : evP P xv ds (⟨dst, op, ty, pos, after, some (j, want)⟩ :: l) σ K :=
 evP_step fun Kq hKq => evO_guard hj hg hs (by rw [hp]; exact hKq _ k)

theorem evP_gc {ds : List (Option Tmp)} {dst : Option Tmp} {op : Op} {ty : TypeId} {pos : String} {after : Array Edge} {j : Nat} {want : Bool} {d : Nat} {l : List Oper} {σ σ' : St} {K : St → Prop} {gb : Bool} {f : FuncId} {args : List V} {r : V}
  (hj : nth ds j = some d := by rfl) (hg : ∀ K' : Bool → Prop, K' gb → gof (σ.get (.tmp d)) want K' := by intro K3 h3; simp (maxSteps := 4000000) (disch := first | assumption | omega | (simp only [go_sem, *]; done) | (simp only [go_sem, *]; omega)) only [go_sem, isE, isO, stpO, notIn, St.bare, Bool.false_and, Bool.true_and, Bool.and_true, Bool.not_true, Bool.not_false, Int.reduceToNat, Nat.reduceBEq, Nat.reduceEqDiff, Nat.reduceAdd, Nat.reduceMul, Nat.reduceLeDiff, Nat.reduceLT, Nat.reduceSub, ↓reduceIte, reduceCtorEq, hq]; exact h3)
  (hs : ∀ r : V, CallsA P f args r → gb = true → stp P σ (some gb) op fun v s => v = r ∧ s = σ := by intro r hc hgt; (try simp only [decide_eq_true_eq, decide_eq_false_iff_not, Bool.not_eq_true', Bool.not_eq_false', Bool.and_eq_true, Bool.or_eq_true, Bool.and_eq_false_iff, Bool.or_eq_false_iff, beq_true, beq_false] at hgt); simp (maxSteps := 4000000) (disch := first | assumption | omega | (simp only [go_sem, *]; done) | (simp only [go_sem, *]; omega)) only [go_sem, isE, isO, stpO, notIn, St.bare, Bool.false_and, Bool.true_and, Bool.and_true, Bool.not_true, Bool.not_false, Int.reduceToNat, Nat.reduceBEq, Nat.reduceEqDiff, Nat.reduceAdd, Nat.reduceMul, Nat.reduceLeDiff, Nat.reduceLT, Nat.reduceSub, ↓reduceIte, reduceCtorEq, hq]; (repeat (refine And.intro (by first | assumption | omega | decide | (simp; done) | (simp; omega) | (have hq := hvv hgt; omega) | (have hq := hvv hgt.1; omega) | (simp_all; done)) ?_)); (refine ⟨_, hc, ?_⟩); first | rfl | exact ⟨rfl, rfl⟩)
  (hc : CallsA P f args r)
  (hp : σ.put dst (.gd gb r) = σ' := by simp only [St.put]; rfl) (k : evP P xv ds l σ' K) : evP P xv ds (⟨dst, op, ty, pos, after, some (j, want)⟩ :: l) σ K :=
 evP_step fun Kq hKq => evO_guard hj hg (hs r hc) (by rw [hp]; exact hKq _ k)

theorem evQ_p {ds : List (Option Tmp)} {o : Oper} {l : List Oper} {σ σ' : St} {K : St → Prop}
  (k : evQ fz P xv ds (o2 :: l) σ' K) (h : ∀ Kq : St → Prop, Kq σ' → evDO fz P ds o σ Kq := by intro Kq hKq; simp (maxSteps := 4000000) (disch := first | assumption | omega | (simp only [go_sem, *]; done) | (simp only [go_sem, *]; omega)) only [go_sem, isE, isO, stpO, notIn, St.bare, Bool.false_and, Bool.true_and, Bool.and_true, Bool.not_true, Bool.not_false, Int.reduceToNat, Nat.reduceBEq, Nat.reduceEqDiff, Nat.reduceAdd, Nat.reduceMul, Nat.reduceLeDiff, Nat.reduceLT, Nat.reduceSub, ↓reduceIte, reduceCtorEq, hq]; (repeat (refine And.intro (by first | assumption | omega | decide | (simp; done) | (simp; omega) | (have hq := hvv hgt; omega) | (have hq := hvv hgt.1; omega) | (simp_all; done)) ?_)); exact hKq) : evQ fz P xv ds (o :: o2 :: l) σ K :=
 evQ_step fun Kq hKq => h Kq (hKq _ k)

theorem evQ_g {ds : List (Option Tmp)} {dst : Option Tmp} {op : Op} {ty : TypeId} {pos : String} {after : Array Edge} {j : Nat} {want : Bool} {d : Nat} {l : List Oper} {σ σ' : St} {K : St → Prop} {gb : Bool} {v0 : V} (k : evQ fz P xv ds (o2 :: l) σ' K)
  (he : isE fz ⟨dst, op, ty, pos, after, some (j, want)⟩ = false := by rfl) (hj : nth ds j = some d := by rfl) (hg : ∀ K' : Bool → Prop, K' gb → gof (σ.get (.tmp d)) want K' := by intro K3 h3; simp (maxSteps := 4000000) (disch := first | assumption | omega | (simp only [go_sem, *]; done) | (simp only [go_sem, *]; omega)) only [go_sem, isE, isO, stpO, notIn, St.bare, Bool.false_and, Bool.true_and, Bool.and_true, Bool.not_true, Bool.not_false, Int.reduceToNat, Nat.reduceBEq, Nat.reduceEqDiff, Nat.reduceAdd, Nat.reduceMul, Nat.reduceLeDiff, Nat.reduceLT, Nat.reduceSub, ↓reduceIte, reduceCtorEq, hq]; exact h3)
  (hs : gb = true → stp P σ (some gb) op fun v s => v = v0 ∧ s = σ := by intro hgt; (try simp only [decide_eq_true_eq, decide_eq_false_iff_not, Bool.not_eq_true', Bool.not_eq_false', Bool.and_eq_true, Bool.or_eq_true, Bool.and_eq_false_iff, Bool.or_eq_false_iff, beq_true, beq_false] at hgt); simp (maxSteps := 4000000) (disch := first | assumption | omega | (simp only [go_sem, *]; done) | (simp only [go_sem, *]; omega)) only [go_sem, isE, isO, stpO, notIn, St.bare, Bool.false_and, Bool.true_and, Bool.and_true, Bool.not_true, Bool.not_false, Int.reduceToNat, Nat.reduceBEq, Nat.reduceEqDiff, Nat.reduceAdd, Nat.reduceMul, Nat.reduceLeDiff, Nat.reduceLT, Nat.reduceSub, ↓reduceIte, reduceCtorEq, hq]; (repeat (refine And.intro (by first | assumption | omega | decide | (simp; done) | (simp; omega) | (have hq := hvv hgt; omega) | (have hq := hvv hgt.1; omega) | (simp_all; done)) ?_)); first | rfl | exact ⟨rfl, rfl⟩ | (refine Or.inl ?_; rfl) | (refine Or.inl ?_; exact ⟨rfl, rfl⟩))
  (hp : σ.put dst (.gd gb v0) = σ' := by simp only [St.put]; rfl) : evQ fz P xv ds (⟨dst, op, ty, pos, after, some (j, want)⟩ :: o2 :: l) σ K :=
 evQ_step fun Kq hKq => evDO_guard he hj hg hs (by rw [hp]; exact hKq _ k)

theorem evQ_c {ds : List (Option Tmp)} {o : Oper} {l : List Oper} {σ : St} {K : St → Prop} {f : FuncId} {args : List V} {r : V} {F : V → St}
  (h : ∀ (Kq : St → Prop) (r : V), CallsA P f args r → Kq (F r) → evDO fz P ds o σ Kq := by intro Kq r hc hKq; simp (maxSteps := 4000000) (disch := first | assumption | omega | (simp only [go_sem, *]; done) | (simp only [go_sem, *]; omega)) only [go_sem, isE, isO, stpO, notIn, St.bare, Bool.false_and, Bool.true_and, Bool.and_true, Bool.not_true, Bool.not_false, Int.reduceToNat, Nat.reduceBEq, Nat.reduceEqDiff, Nat.reduceAdd, Nat.reduceMul, Nat.reduceLeDiff, Nat.reduceLT, Nat.reduceSub, ↓reduceIte, reduceCtorEq, hq]; (repeat (refine And.intro (by first | assumption | omega | decide | (simp; done) | (simp; omega) | (have hq := hvv hgt; omega) | (have hq := hvv hgt.1; omega) | (simp_all; done)) ?_)); exact ⟨r, hc, hKq⟩)
  (hc : CallsA P f args r) (k : evQ fz P xv ds (o2 :: l) (F r) K) : evQ fz P xv ds (o :: o2 :: l) σ K :=
 evQ_step fun Kq hKq => h Kq r hc (hKq _ k)

theorem evQ_gc {ds : List (Option Tmp)} {dst : Option Tmp} {op : Op} {ty : TypeId} {pos : String} {after : Array Edge} {j : Nat} {want : Bool} {d : Nat} {l : List Oper} {σ σ' : St} {K : St → Prop} {gb : Bool} {f : FuncId} {args : List V} {r : V}
  (he : isE fz ⟨dst, op, ty, pos, after, some (j, want)⟩ = false := by rfl) (hj : nth ds j = some d := by rfl) (hg : ∀ K' : Bool → Prop, K' gb → gof (σ.get (.tmp d)) want K' := by intro K3 h3; simp (maxSteps := 4000000) (disch := first | assumption | omega | (simp only [go_sem, *]; done) | (simp only [go_sem, *]; omega)) only [go_sem, isE, isO, stpO, notIn, St.bare, Bool.false_and, Bool.true_and, Bool.and_true, Bool.not_true, Bool.not_false, Int.reduceToNat, Nat.reduceBEq, Nat.reduceEqDiff, Nat.reduceAdd, Nat.reduceMul, Nat.reduceLeDiff, Nat.reduceLT, Nat.reduceSub, ↓reduceIte, reduceCtorEq, hq]; exact h3)
  (hs : ∀ r : V, CallsA P f args r → gb = true → stp P σ (some gb) op fun v s => v = r ∧ s = σ := by intro r hc hgt; (try simp only [decide_eq_true_eq, decide_eq_false_iff_not, Bool.not_eq_true', Bool.not_eq_false', Bool.and_eq_true, Bool.or_eq_true, Bool.and_eq_false_iff, Bool.or_eq_false_iff, beq_true, beq_false] at hgt); simp (maxSteps := 4000000) (disch := first | assumption | omega | (simp only [go_sem, *]; done) | (simp only [go_sem, *]; omega)) only [go_sem, isE, isO, stpO, notIn, St.bare, Bool.false_and, Bool.true_and, Bool.and_true, Bool.not_true, Bool.not_false, Int.reduceToNat, Nat.reduceBEq, Nat.reduceEqDiff, Nat.reduceAdd, Nat.reduceMul, Nat.reduceLeDiff, Nat.reduceLT, Nat.reduceSub, ↓reduceIte, reduceCtorEq, hq]; (repeat (refine And.intro (by first | assumption | omega | decide | (simp; done) | (simp; omega) | (have hq := hvv hgt; omega) | (have hq := hvv hgt.1; omega) | (simp_all; done)) ?_)); (refine ⟨_, hc, ?_⟩); first | rfl | exact ⟨rfl, rfl⟩)
  (hc : CallsA P f args r)
  (hp : σ.put dst (.gd gb r) = σ' := by simp only [St.put]; rfl) (k : evQ fz P xv ds (o2 :: l) σ' K) : evQ fz P xv ds (⟨dst, op, ty, pos, after, some (j, want)⟩ :: o2 :: l) σ K :=
 evQ_step fun Kq hKq => evDO_guard he hj hg (hs r hc) (by rw [hp]; exact hKq _ k)

end
end Go.Proofs.YtfamkbofdamkkaaGreatDoor
namespace Go.Proofs.YtfamkbofdamkkaaGreatDoor
open Go.ChangeShapes Go.WideShapes Go.ChangeAt Go.RowKit
set_option linter.unusedVariables false
set_option linter.unusedSimpArgs false

section
variable {H : Type} {enc : TypeId × Value → H} {P : Program} {w : World}

/-- The fields of a struct of n cells from the cell 'off' on. -/
def DecFs (enc : TypeId × Value → H) (P : Program) (w : World) {α : Type} (n off : Nat) (fs : List Field) (ec : α → List V) (Q : α → Prop) : Prop :=
 ∀ (fuel : Nat) (cs : List Value), cs.length = n → (∀ f ∈ fs, ∃ x, DataW.trod enc P w 0 (fun _ => true) true fuel f.type ((cs.drop f.offset).take (P.cellsOf f.type)) = some x) → ∃ a, Q a ∧ Rd w (cs.drop off) (ec a)

end
end Go.Proofs.YtfamkbofdamkkaaGreatDoor
namespace Go.Proofs.YtfamkbofdamkkaaGreatDoor
open Go.RowKit
set_option linter.unusedVariables false
abbrev TrK {P : Program} {N : Nat} (C : Ctl P N) (y : Code) (Ψ : Exit → St → Prop) (s : St) : Prop := Tr C y s Ψ
section
variable {P : Program} {N : Nat} {C : Ctl P N} {fz : List Nat}
theorem tr_sR {id : Nat} {l : List Oper} {ds : List (Option Tmp)} {y : Code} {σ : St} {Ψ : Exit → St → Prop} (kp : List Nat)
  (h : ∀ K : St → Prop, (∀ σ', TrK C y Ψ (σ'.norm kp) → K σ') → evR C ds l σ K) (hd : dstsIn N l = true := by rfl) (hds : l.map (·.dst) = ds := by rfl) : Tr C (.seq (.region id l.toArray false) y) σ Ψ :=
 tr_seq fun K0 hK0 => tr_region kp hd hds fun K hK => h K fun σ' ht => hK σ' (hK0 _ ht)
theorem evR_z {ds : List (Option Tmp)} {σ σ' : St} {K : St → Prop} {Q : St → Prop} {kp : List Nat} (hK : ∀ s, Q (s.norm kp) → K s) (k : Q σ')
  (hn : σ.norm kp = σ' := by simp only [St.norm, List.filterMap, List.lookup, Option.map, Nat.reduceBEq]; rfl) : evR C ds [] σ K := hK σ (hn ▸ k)
theorem tr_sD (fz : List Nat) {id : Nat} {l : List Oper} {ds : List (Option Tmp)} {y : Code} {σ : St} {Ψ : Exit → St → Prop} (kp : List Nat)
  (h : ∀ K : St → Prop, (∀ σ', TrK C y Ψ (σ'.norm kp) → K σ') → evD fz P ds l σ K) (hm : P.follows .mixedOrders = true := by exact mixed) (hd : dstsIn N l = true := by rfl) (hok : drawOK fz l = true := by kernel_rfl) (hds : l.map (·.dst) = ds := by rfl) : Tr C (.seq (.region id l.toArray true) y) σ Ψ :=
 tr_seq fun K0 hK0 => tr_draw fz kp hm hd hok hds fun K hK => h K fun σ' ht => hK σ' (hK0 _ ht)
theorem evD_z {ds : List (Option Tmp)} {σ σ' : St} {K : St → Prop} {Q : St → Prop} {kp : List Nat} (hK : ∀ s, Q (s.norm kp) → K s) (k : Q σ')
  (hn : σ.norm kp = σ' := by simp only [St.norm, List.filterMap, List.lookup, Option.map, Nat.reduceBEq]; rfl) : evD fz P ds [] σ K := hK σ (hn ▸ k)
end
theorem postZ {p q : Prop} (k : q) (h : p = q := by (conv => lhs; simp (maxSteps := 4000000) (disch := first | assumption | omega | (simp only [go_sem, *]; done) | (simp only [go_sem, *]; omega)) only [postA, postO, resV1, fzAll, go_sem, hq, Int.reduceToNat, Nat.reduceBEq, Nat.reduceEqDiff, Nat.reduceAdd, Nat.reduceMul, Nat.reduceLeDiff, Nat.reduceLT, Nat.reduceSub, ↓reduceIte, reduceCtorEq]); (first | done | rfl)) : p := h ▸ k
section
variable {P : Program} {N : Nat} {C : Ctl P N}
theorem skipZ {σ : St} {Ψ : Exit → St → Prop} {q : Prop} (k : q) (h : Ψ .normal σ = q := by first | ((conv => lhs; simp only [thenE, inBlkE]); (first | done | rfl)) | rfl) : Tr C .skip σ Ψ := tr_skip (h ▸ k)
theorem retZ {σ : St} {Ψ : Exit → St → Prop} {q : Prop} (k : q) (h : Ψ .ret σ = q := by (conv => lhs; (try simp only [thenE, inBlkE]); simp (maxSteps := 4000000) (disch := first | assumption | omega | (simp only [go_sem, *]; done) | (simp only [go_sem, *]; omega)) only [postA, postO, resV1, fzAll, go_sem, hq, Int.reduceToNat, Nat.reduceBEq, Nat.reduceEqDiff, Nat.reduceAdd, Nat.reduceMul, Nat.reduceLeDiff, Nat.reduceLT, Nat.reduceSub, ↓reduceIte, reduceCtorEq]); (first | done | rfl)) : Tr C .ret σ Ψ := tr_ret (h ▸ k)
end
attribute [go_sem] AObj.clo AObj.csh AObj.fz AObj.shp Mem.fz Mem.look_cons Mem.look_nil St.bare St.fz St.get St.put St.slot V.cl V.clL V.fz V.fzL V.okp V.parts V.sc appF appOwn appR appV arT_101 arT_102 arT_105 arT_116 arT_117 arT_22 arT_23 arT_25 arT_26 arT_39 arT_50 arT_9 arT_90 binV boolT_108 boolT_110 boolT_119 boolT_26 boolT_3 boolT_32 buildV csh encI_getD encI_length evDO evO exps fillV flatT_108 flatT_110 flatT_119 flatT_26 flatT_3 flatT_32 fldV fzAll gof idxV intT_108 intT_110 intT_126 intT_3 intT_5 intT_77 intT_79 isAl isE isEff isO isRd isRpS isSh isSt lay_101 lay_102 lay_116 lay_117 lay_126 lay_23 lay_25 lay_26 lay_28 lay_3 lay_31 lay_39 lay_4 lay_41 lay_5 lay_52 lay_56 lay_70 lay_74 lay_78 lay_83 lay_89 lay_90 lay_92 lay_94 lenV loadV lowM lowN lowQ mapT_70 notIn nth ofVal okF_10 okF_100 okF_101 okF_102 okF_103 okF_104 okF_11 okF_12 okF_125 okF_13 okF_14 okF_15 okF_16 okF_17 okF_18 okF_19 okF_20 okF_21 okF_22 okF_23 okF_24 okF_25 okF_26 okF_27 okF_28 okF_29 okF_3 okF_30 okF_31 okF_32 okF_33 okF_34 okF_35 okF_36 okF_37 okF_38 okF_39 okF_4 okF_40 okF_41 okF_42 okF_43 okF_44 okF_45 okF_46 okF_47 okF_48 okF_49 okF_5 okF_50 okF_51 okF_52 okF_53 okF_54 okF_55 okF_56 okF_57 okF_58 okF_59 okF_6 okF_60 okF_61 okF_62 okF_63 okF_64 okF_65 okF_66 okF_67 okF_68 okF_69 okF_7 okF_70 okF_71 okF_72 okF_73 okF_74 okF_75 okF_76 okF_77 okF_78 okF_79 okF_8 okF_80 okF_81 okF_82 okF_83 okF_84 okF_85 okF_86 okF_87 okF_88 okF_89 okF_9 okF_90 okF_91 okF_92 okF_93 okF_94 okF_95 okF_96 okF_97 okF_98 okF_99 partV pickV pkB_false pkB_true plT_102 plT_116 plT_117 plT_28 plT_41 plT_52 plT_89 plT_92 plT_94 plT_98 rowM rowsV shL shp slT_101 slT_102 slT_105 slT_116 slT_117 slT_22 slT_23 slT_25 slT_26 slT_39 slT_50 slT_90 sliV spl stT_28_0 stT_28_1 stT_28_2 stT_41_0 stT_41_2 stT_41_3 stT_52_4 stT_52_5 stT_89_0 stT_89_1 stT_92_0 stT_92_1 stT_92_2 stT_92_3 stT_94_0 stT_98_0 stT_98_1 stT_98_2 stT_98_3 stp stpO strT_101 strT_9 un unL unV unw winV zeroT_101 zeroT_102 zeroT_105 zeroT_116 zeroT_117 zeroT_126 zeroT_28 zeroT_3 zeroT_31 zeroT_39 zeroT_4 zeroT_41 zeroT_50 zeroT_52 zeroT_70 zeroT_74 zeroT_78 zeroT_89 zeroT_92 zeroT_94 zeroT_98
end Go.Proofs.YtfamkbofdamkkaaGreatDoor
namespace Go.Proofs.YtfamkbofdamkkaaGreatDoor
open Go.RowKit
def pickW (c n : Int) : Int := if c < 0 then Int.tmod (IntKind.i64.wrap (0 - IntKind.i64.wrap (c + 1))) n else Int.tmod c n
/-- The place of the first that is so, or -1. -/
def idxOf {α : Type} (p : α → Bool) : List α → Int
 | [] => -1
 | x :: xs => if p x then 0 else (let r := idxOf p xs; if r < 0 then -1 else r + 1)
theorem idxOf_ge {α : Type} (p : α → Bool) : ∀ xs : List α, decide (0 ≤ idxOf p xs) = xs.any p
 | [] => by simp [idxOf]
 | x :: xs => by
  have ih := idxOf_ge p xs
  simp only [idxOf, List.any_cons]
  cases hp : p x with
  | true => simp
  | false =>
   simp only [Bool.false_eq_true, if_false, Bool.false_or, ← ih]
   by_cases h : idxOf p xs < 0
   ·
    rw [if_pos h]; simp; omega
   ·
    rw [if_neg h]
    have h1 : 0 ≤ idxOf p xs := by omega
    have h2 : 0 ≤ idxOf p xs + 1 := by omega
    simp [h1, h2]
theorem idxOf_none {α : Type} (p : α → Bool) : ∀ xs : List α, (∀ x ∈ xs, p x = false) → idxOf p xs = -1
 | [], _ => rfl
 | x :: xs, h => by simp [idxOf, h x (by simp), idxOf_none p xs fun y hy => h y (by simp [hy])]
theorem idxOf_at {α : Type} (p : α → Bool) (d : α) : ∀ (xs : List α) (i : Nat), i < xs.length → (∀ j, j < i → p (xs.getD j d) = false) → p (xs.getD i d) = true → idxOf p xs = i
 | [], i, h, _, _ => by simp at h
 | x :: xs, 0, _, _, h => by simp at h; simp [idxOf, h]
 | x :: xs, i + 1, hl, h, hi => by
  have h0 := h 0 (by omega)
  simp at h0
  have ih := idxOf_at p d xs i (by simpa using hl) (fun j hj => by simpa using h (j + 1) (by omega)) (by simpa using hi)
  simp only [idxOf, h0, Bool.false_eq_true, if_false, ih]
  rw [if_neg (by omega)]; omega
theorem getD_mem {α : Type} {d : α} {xs : List α} {i : Nat} (h : i < xs.length) : xs.getD i d ∈ xs := by simp [List.getD, h]
theorem step_false {α : Type} {d : α} {xs : List α} {p : α → Bool} {i : Nat} (h : ∀ j, j < i → p (xs.getD j d) = false) (hi : p (xs.getD i d) = false) : ∀ j, j < i + 1 → p (xs.getD j d) = false := by
 intro j hj
 rcases Nat.lt_or_ge j i with h1 | h1
 ·
  exact h j h1
 ·
  have : j = i := by omega
  subst this; exact hi
theorem all_false {α : Type} (d : α) {xs : List α} {p : α → Bool} {i : Nat} (h : ∀ j, j < i → p (xs.getD j d) = false) (hi : xs.length ≤ i) : ∀ x ∈ xs, p x = false := by
 intro x hx
 obtain ⟨j, hj, rfl⟩ := List.getElem_of_mem hx
 have := h j (by omega)
 simpa [List.getD, hj] using this
theorem w64 {x : Int} (h : -9223372036854775808 ≤ x ∧ x ≤ 9223372036854775807) : IntKind.i64.wrap x = x := by
 unfold IntKind.wrap; simp [IntKind.signed, IntKind.bits]; omega
def validA (a : List Int) : Bool := !(a.any fun x => decide (x < 0) || decide (65535 < x))
def zeros16 : List Int := List.replicate 16 0
/-- The first n of 16 cells are done. -/
def outA (f : Nat → Int) (n : Nat) : List Int := (List.range 16).map fun j => if j < n then f j else 0
def eachA (p : Int → Int → Int) (a b : List Int) : List Int := if validA a && validA b then List.zipWith p a b else zeros16
def minusA := eachA (bitsV .andNot .i64)
def unionA := eachA (bitsV .or .i64)
def meetA := eachA (bitsV .and .i64)
def withinA (a b : List Int) : Bool := validA a && (validA b && decide (minusA a b = zeros16))
/-- Cell x of a row. -/
def cellB (r x : Int) : Bool := decide (bitsV .and .i64 (shrW .i64 r x) 1 = 1)
def hasA (a : List Int) (x y : Int) : Bool := validA a && (decide (0 ≤ minV x y) && (decide (maxV x y < 16) && cellB (a.getD y.toNat 0) x))
/-! #### how many -/
def onesW (x : Int) : Int :=
 let a := IntKind.u64.wrap (bitsV .and .u64 (shrW .u64 x 1) 6148914691236517205 + bitsV .and .u64 x 6148914691236517205)
 let b := IntKind.u64.wrap (bitsV .and .u64 (shrW .u64 a 2) 3689348814741910323 + bitsV .and .u64 a 3689348814741910323)
 let c := bitsV .and .u64 (IntKind.u64.wrap (shrW .u64 b 4 + b)) 1085102592571150095
 let d := IntKind.u64.wrap (c + shrW .u64 c 8)
 let e := IntKind.u64.wrap (d + shrW .u64 d 16)
 let f := IntKind.u64.wrap (e + shrW .u64 e 32)
 bitsV .and .i64 (IntKind.i64.wrap f) 127
def sumTo (f : Nat → Int) : Nat → Int
 | 0 => 0
 | n + 1 => sumTo f n + f n
def rowOnes (a : List Int) (j : Nat) : Int := onesW (IntKind.u64.wrap (a.getD j 0))
def sizeA (a : List Int) : Int := if validA a then sumTo (rowOnes a) 16 else 0
/-! #### moved -/
def shiftW (r dx : Int) : Int := if 0 ≤ dx then bitsV .and .i64 (shlW .i64 r dx) 65535 else shrW .i64 r (0 - dx)
def outM (a : List Int) (dx dy : Int) (n : Nat) : List Int := (List.range 16).map fun (j : Nat) => if 0 ≤ (j : Int) - dy ∧ (j : Int) - dy < n then shiftW (a.getD ((j : Int) - dy).toNat 0) dx else 0
def moveA (a : List Int) (dx dy : Int) : List Int := if !validA a || decide (minV dx dy ≤ -16) || decide (16 ≤ maxV dx dy) then zeros16 else outM a dx dy 16
/-! #### places -/
structure Pl where
 x : Int
 y : Int
def encP (l : List Pl) : List (List V) := l.map fun p => [V.int .i64 p.x, V.int .i64 p.y]
def onMap (p : Pl) : Bool := decide (0 ≤ minV p.x p.y) && decide (maxV p.x p.y ≤ 64)
def turnP (a b c : Pl) : Int := (b.x - a.x) * (c.y - a.y) - (b.y - a.y) * (c.x - a.x)
def validP (l : List Pl) : Bool := decide (3 ≤ (l.length : Int)) && (decide ((l.length : Int) ≤ 12) && !(l.any fun p => !onMap p))
/-! #### where a place is -/
def nearP (a b p : Pl) : Bool := ((decide (minV a.x b.x ≤ p.x) && decide (p.x ≤ maxV a.x b.x)) && decide (minV a.y b.y ≤ p.y)) && decide (p.y ≤ maxV a.y b.y)
def hitP (a b p : Pl) : Bool := decide (turnP a b p = 0) && nearP a b p
def crossP (a b p : Pl) : Bool := ((decide (a.y ≤ p.y) && decide (p.y < b.y)) && decide (0 < turnP a b p)) || ((decide (b.y ≤ p.y) && decide (p.y < a.y)) && decide (turnP a b p < 0))
def sideGo (p : Pl) (a : Pl) (out : Int) : List Pl → Int
 | [] => out
 | b :: bs => if hitP a b p then 0 else sideGo p b (if crossP a b p then 0 - out else out) bs
def sideP (l : List Pl) (p : Pl) : Int := sideGo p (l.getD (l.length - 1) ⟨0, 0⟩) (-1) l
def insideP (l : List Pl) (p : Pl) : Int := if validP l && onMap p then sideP l p else -1
/-! #### the cells that are so -/
def rowG (g : Nat → Nat → Bool) (y : Nat) : Nat → Int
 | 0 => 0
 | n + 1 => if g n y = true then bitsV .or .i64 (rowG g y n) (shlW .i64 1 n) else rowG g y n
def cellsG (g : Nat → Nat → Bool) : List Int := outA (fun j => rowG g j 16) 16
def ctr (x y : Nat) : Pl := ⟨4 * (x : Int) + 2, 4 * (y : Int) + 2⟩
def polyA (l : List Pl) : List Int × Int := if validP l then (cellsG fun x y => decide (0 ≤ sideP l (ctr x y)), 0) else (zeros16, 210)
def nearR (q p : Pl) (r : Int) : Bool := decide ((q.x - p.x) * (q.x - p.x) + (q.y - p.y) * (q.y - p.y) ≤ r * r)
def discA (p : Pl) (r : Int) : List Int × Int := if onMap p && (decide (0 ≤ r) && decide (r ≤ 100)) then (cellsG fun x y => nearR (ctr x y) p r, 0) else (zeros16, 210)
/-! #### made -/
def placeP (p : Pl) : Pl := ⟨pickW p.x 65, pickW p.y 65⟩
def padA (j : Nat) : Pl := ⟨20 * (j : Int), 30 * ((j : Int).tmod 2)⟩
def padP (a : List Pl) (j : Nat) : List Pl := a ++ ((List.range j).drop a.length).map padA
def madeP (l : List Pl) : List Pl := padP ((l.take 9).map placeP) (max 3 ((l.take 9).map placeP).length)
theorem take_snoc {α β : Type} (f : α → β) (d : α) {l : List α} {i : Nat} (h : i < l.length) : (l.take (i + 1)).map f = (l.take i).map f ++ [f (l.getD i d)] := by
 rw [List.take_add_one, List.map_append]; simp [List.getD, h]
theorem pickW_range (c : Int) {n : Int} (hn : 0 < n) (hb : n ≤ 1000) (hc : -9223372036854775808 ≤ c ∧ c ≤ 9223372036854775807) : 0 ≤ pickW c n ∧ pickW c n < n := by
 unfold pickW
 split
 ·
  rename_i h
  rw [w64 (x := c + 1) (by omega), w64 (by omega)]
  exact ⟨Int.tmod_nonneg _ (by omega), Int.tmod_lt_of_pos _ hn⟩
 ·
  exact ⟨Int.tmod_nonneg _ (by omega), Int.tmod_lt_of_pos _ hn⟩
def okI (c : Int) : Prop := -9223372036854775808 ≤ c ∧ c ≤ 9223372036854775807
def okP (p : Pl) : Prop := okI p.x ∧ okI p.y
def rectP (u v : Pl) : List Pl := [u, ⟨v.x, u.y⟩, v, ⟨u.x, v.y⟩]
set_option linter.unusedVariables false
set_option linter.unusedSimpArgs false
theorem encI_snoc (a : List Int) (n : Int) : encI (a ++ [n]) = encI a ++ [[V.int .i64 n]] := by simp [encI]
theorem encI_drop (l : List Int) (n : Nat) : (encI l).drop n = encI (l.drop n) := by simp [encI, List.map_drop]
theorem encI_take (l : List Int) (n : Nat) : (encI l).take n = encI (l.take n) := by simp [encI, List.map_take]
structure Rw where
 kind : Int
 a : Int
 b : Int
 pl : Int
 coef : List Int
 most : Int
instance : Inhabited Rw := ⟨⟨0, 0, 0, 0, [], 0⟩⟩
def rw0 : Rw := ⟨0, 0, 0, 0, [], 0⟩
def encRw (r : Rw) : List V := [.int .i64 r.kind, .int .i64 r.a, .int .i64 r.b, .int .i64 r.pl, .sl 1 (encI r.coef), .int .i64 r.most]
def encR (l : List Rw) : List (List V) := l.map encRw
theorem encR_length (l : List Rw) : (encR l).length = l.length := by simp [encR]
theorem encR_getD (l : List Rw) (k : Nat) (h : k < l.length) : (encR l).getD k [] = encRw (l.getD k rw0) := by simp [encR, List.getD, h]
theorem encR_snoc (a : List Rw) (r : Rw) : encR (a ++ [r]) = encR a ++ [encRw r] := by simp [encR]
structure Pg where
 vars : Int
 rows : List Rw
 gain : List Int
def encPg (p : Pg) : List V := [.int .i64 p.vars, .sl 6 (encR p.rows), .sl 1 (encI p.gain)]
def cBit (set : Int) (i : Nat) : Bool := decide (bitsV .and .i64 (shrW .i64 set i) 1 = 1)
def chosenG (l : List Int) (set : Int) : Nat → Int
 | 0 => 0
 | n + 1 => if cBit set n then IntKind.i64.wrap (chosenG l set n + l.getD n 0) else chosenG l set n
def chosenW (l : List Int) (set : Int) : Int := chosenG l set l.length
theorem chosenG_t {l : List Int} {set : Int} {i : Nat} (h : cBit set i = true) : chosenG l set (i + 1) = IntKind.i64.wrap (chosenG l set i + l.getD i 0) := by simp [chosenG, h]
theorem chosenG_f {l : List Int} {set : Int} {i : Nat} (h : cBit set i = false) : chosenG l set (i + 1) = chosenG l set i := by simp [chosenG, h]
def isInB (n lo hi : Int) : Bool := decide (lo ≤ n) && decide (n ≤ hi)
theorem isInB_spec {n lo hi : Int} : isInB n lo hi = true ↔ lo ≤ n ∧ n ≤ hi := by simp [isInB]
def coefB (l : List Int) : Bool := l.all fun n => isInB n (-1000000000) 1000000000
def rightB (r : Rw) (vars : Int) : Bool := decide ((r.coef.length : Int) = vars) && (coefB r.coef && isInB r.most (-1000000000000) 1000000000000)
def validB (p : Pg) : Bool := isInB p.vars 0 12 && (decide ((p.rows.length : Int) ≤ 300) && (p.rows.all (fun r => rightB r p.vars) && (decide ((p.gain.length : Int) = p.vars) && coefB p.gain)))
theorem validB_vars {p : Pg} (h : validB p = true) : 0 ≤ p.vars ∧ p.vars ≤ 12 := by
 simp only [validB, Bool.and_eq_true] at h
 exact isInB_spec.1 h.1
def choiceB (p : Pg) (set : Int) : Bool := validB p && isInB set 0 (IntKind.i64.wrap (shlW .i64 1 p.vars - 1))
def keptB (r : Rw) (set : Int) : Bool := decide (chosenW r.coef set ≤ r.most)
def keepsB (p : Pg) (set : Int) : Bool := choiceB p set && p.rows.all fun r => keptB r set
def gainW (p : Pg) (set : Int) : Int := if choiceB p set then chosenW p.gain set else 0
def brkTo (p : Pg) (set : Int) : Nat → List Int
 | 0 => []
 | n + 1 => if keptB (p.rows.getD n rw0) set then brkTo p set n else brkTo p set n ++ [(n : Int)]
theorem brkTo_t {p : Pg} {set : Int} {i : Nat} (h : keptB (p.rows.getD i rw0) set = true) : brkTo p set (i + 1) = brkTo p set i := by simp only [brkTo, h, if_true]
theorem brkTo_f {p : Pg} {set : Int} {i : Nat} (h : keptB (p.rows.getD i rw0) set = false) : brkTo p set (i + 1) = brkTo p set i ++ [(i : Int)] := by simp only [brkTo, h]; rfl
theorem brkTo_length (p : Pg) (set : Int) : ∀ n, (brkTo p set n).length ≤ n
 | 0 => Nat.le_refl _
 | n + 1 => by have := brkTo_length p set n; simp only [brkTo]; split <;> (try simp) <;> omega
def brokenW (p : Pg) (set : Int) : List Int := if choiceB p set then brkTo p set p.rows.length else []
def sumW (r : Rw) (set : Int) : Int := if decide (12 < (r.coef.length : Int)) || (!rightB r r.coef.length || !isInB set 0 (IntKind.i64.wrap (shlW .i64 1 r.coef.length - 1))) then 0 else chosenW r.coef set
theorem shl_small {k : Int} (h : 0 ≤ k ∧ k ≤ 12) : IntKind.i64.wrap (shlW .i64 1 k - 1) = shlW .i64 1 k - 1 ∧ 1 ≤ shlW .i64 1 k ∧ shlW .i64 1 k ≤ 4096 := by
 obtain ⟨n, rfl⟩ := Int.eq_ofNat_of_zero_le h.1
 have hn : n ≤ 12 := by omega
 have : ∀ n : Fin 13, IntKind.i64.wrap (shlW .i64 1 (n.val : Int) - 1) = shlW .i64 1 (n.val : Int) - 1 ∧ 1 ≤ shlW .i64 1 (n.val : Int) ∧ shlW .i64 1 (n.val : Int) ≤ 4096 := by decide +kernel
 exact this ⟨n, by omega⟩
theorem choiceB_rows {p : Pg} {set : Int} (h : choiceB p set = true) : p.rows.length ≤ 300 := by
 simp only [choiceB, validB, Bool.and_eq_true, decide_eq_true_eq] at h
 have := h.1.2.1
 omega
def negG (g : List Int) (n : Nat) : List Int := (g.take n).map fun x => IntKind.i64.wrap (0 - x)
theorem negG_succ {g : List Int} {n : Nat} (h : n < g.length) : negG g (n + 1) = negG g n ++ [IntKind.i64.wrap (0 - g.getD n 0)] := take_snoc _ _ h
theorem negG_length (g : List Int) (n : Nat) : (negG g n).length = min n g.length := by simp [negG]
/-- What 'goal' makes. -/
def goalW (p : Pg) (gain : Int) : Rw := ⟨0, 0, 0, 0, negG p.gain p.gain.length, IntKind.i64.wrap (0 - IntKind.i64.wrap (gain + 1))⟩
theorem take_one_eq {α : Type} {d : α} {a b : List α} {i : Nat} (ha : i < a.length) (hb : i < b.length) (h : a.take i = b.take i) (he : a.getD i d = b.getD i d) : a.take (i + 1) = b.take (i + 1) := by
 rw [List.take_add_one, List.take_add_one, h, List.getElem?_eq_getElem ha, List.getElem?_eq_getElem hb]
 simp only [List.getD, List.getElem?_eq_getElem ha, List.getElem?_eq_getElem hb, Option.getD_some] at he
 rw [he]
theorem ne_of_getD {α : Type} {d : α} {a b : List α} {i : Nat} (h : ¬ a.getD i d = b.getD i d) : a ≠ b := fun e => h (by rw [e])
theorem eq_of_take {α : Type} {a b : List α} (hl : a.length = b.length) (h : a.take a.length = b.take a.length) : a = b := by
 rw [List.take_length] at h
 rw [h, hl, List.take_length]
/-! #### proofs -/
/-- The least sum of a row, where the first things are decided. -/
def leastT (l : List Int) (s : Int) : Nat → Int
 | 0 => s
 | n + 1 => IntKind.i64.wrap (leastT l s n + minV 0 (l.getD n 0))
def leastW (r : Rw) (d : Nat) (set : Int) : Int := leastT (r.coef.drop d) (chosenW (r.coef.take d) set) (r.coef.drop d).length
structure Stp where
 var : Int
 no : Int
 yes : Int
 leaf : Option Int
def stp0 : Stp := ⟨0, 0, 0, none⟩
def encSt (s : Stp) : List V := [.int .i64 s.var, .int .i64 s.no, .int .i64 s.yes, match s.leaf with | some i => .sl 2 [[.int .i64 i, .int .i64 1]] | none => .nsl]
def encS (l : List Stp) : List (List V) := l.map encSt
theorem encS_length (l : List Stp) : (encS l).length = l.length := by simp [encS]
theorem encS_getD (l : List Stp) (k : Nat) (h : k < l.length) : (encS l).getD k [] = encSt (l.getD k stp0) := by simp [encS, List.getD, h]
theorem encS_snoc (a : List Stp) (s : Stp) : encS (a ++ [s]) = encS a ++ [encSt s] := by simp [encS]
theorem encS_set (a : List Stp) (k : Nat) (s : Stp) : encS (a.set k s) = (encS a).set k (encSt s) := by simp [encS, List.map_set]
def overB (d : Nat) (set : Int) (r : Rw) : Bool := decide (r.most < leastW r d set)
def setBit (set : Int) (d : Nat) : Int := bitsV .or .i64 set (shlW .i64 1 d)
def growN (rows : List Rw) : Nat → Nat → Int → List Stp → List Stp
 | 0, d, set, out => out ++ [⟨-1, 0, 0, some (idxOf (overB d set) rows)⟩]
 | n + 1, d, set, out =>
  if 0 ≤ idxOf (overB d set) rows then out ++ [⟨-1, 0, 0, some (idxOf (overB d set) rows)⟩]
  else
   let o1 := growN rows n (d + 1) set (out ++ [⟨d, 0, 0, none⟩])
   (growN rows n (d + 1) (setBit set d) o1).set out.length ⟨d, out.length + 1, o1.length, none⟩
theorem growN_length (rows : List Rw) : ∀ (n d : Nat) (set : Int) (out : List Stp), out.length < (growN rows n d set out).length ∧ (growN rows n d set out).length + 1 ≤ out.length + 2 ^ (n + 1)
 | 0, d, set, out => by simp [growN]
 | n + 1, d, set, out => by
  have hp : 2 ≤ 2 ^ (n + 1) := by have := Nat.one_le_two_pow (n := n); rw [Nat.pow_succ]; omega
  have hs : 2 ^ (n + 1 + 1) = 2 * 2 ^ (n + 1) := by rw [Nat.pow_succ (n := 2) (m := n + 1)]; omega
  simp only [growN]
  split
  ·
   simp; omega
  ·
   have h1 := growN_length rows n (d + 1) set (out ++ [⟨d, 0, 0, none⟩])
   have h2 := growN_length rows n (d + 1) (setBit set d) (growN rows n (d + 1) set (out ++ [⟨d, 0, 0, none⟩]))
   simp only [List.length_append, List.length_cons, List.length_nil, List.length_set] at h1 h2 ⊢
   omega
theorem growN_leaf {rows : List Rw} {d : Nat} {set : Int} (h : 0 ≤ idxOf (overB d set) rows) (out : List Stp) : ∀ n, growN rows n d set out = out ++ [⟨-1, 0, 0, some (idxOf (overB d set) rows)⟩]
 | 0 => rfl
 | n + 1 => by simp only [growN, if_pos h]
/-- There is no choice that keeps all rows. -/
def infN (rows : List Rw) : Nat → Nat → Int → Prop
 | 0, d, set => 0 ≤ idxOf (overB d set) rows
 | n + 1, d, set => 0 ≤ idxOf (overB d set) rows ∨ (infN rows n (d + 1) set ∧ infN rows n (d + 1) (setBit set d))
theorem infN_step {rows : List Rw} {n d : Nat} {set : Int} (h : infN rows n d set) (hi : ¬ 0 ≤ idxOf (overB d set) rows) : ∃ m, m + 1 = n ∧ infN rows m (d + 1) set ∧ infN rows m (d + 1) (setBit set d) := by
 cases n with
 | zero => exact (hi h).elim
 | succ n =>
  rcases h with h | h
  ·
   exact (hi h).elim
  ·
   exact ⟨n, rfl, h.1, h.2⟩
theorem growN_pre (rows : List Rw) : ∀ (n d : Nat) (set : Int) (out : List Stp) (i : Nat), i < out.length → (growN rows n d set out).getD i stp0 = out.getD i stp0
 | 0, d, set, out, i, h => by simp [growN, List.getD, List.getElem?_append_left h]
 | n + 1, d, set, out, i, h => by
  simp only [growN]
  split
  ·
   simp [List.getD, List.getElem?_append_left h]
  ·
   have hne : out.length ≠ i := by omega
   have e : ∀ (l : List Stp) (s : Stp), (l.set out.length s).getD i stp0 = l.getD i stp0 := fun l s => by simp [List.getD, List.getElem?_set_ne hne]
   rw [e, growN_pre rows n _ _ _ i (by have := (growN_length rows n (d + 1) set (out ++ [⟨d, 0, 0, none⟩])).1; simp at this; omega), growN_pre rows n _ _ _ i (by simp; omega)]
   simp [List.getD, List.getElem?_append_left h]
theorem encS_one (a : List Stp) (v : Int) : encS a ++ (List.replicate 1 [V.int .i64 0, V.int .i64 0, V.int .i64 0, V.nsl]).set 0 [V.int .i64 v, V.int .i64 0, V.int .i64 0, V.nsl] = encS (a ++ [⟨v, 0, 0, none⟩]) := by rw [encS_snoc]; rfl
theorem encS_leaf (a : List Stp) (v i : Int) : encS a ++ (List.replicate 1 [V.int .i64 0, V.int .i64 0, V.int .i64 0, V.nsl]).set 0 [V.int .i64 v, V.int .i64 0, V.int .i64 0, V.sl 2 ((List.replicate 1 [V.int .i64 0, V.int .i64 0]).set 0 [V.int .i64 i, V.int .i64 1])] = encS (a ++ [⟨v, 0, 0, some i⟩]) := by rw [encS_snoc]; rfl
theorem getD_set_self {α : Type} {l : List α} {k : Nat} {a d : α} (h : k < l.length) : (l.set k a).getD k d = a := by simp [List.getD, h]
theorem grow_fin {o : List Stp} {k : Nat} {d no yes : Int} (hk : k < o.length) (h : o.getD k stp0 = ⟨d, 0, 0, none⟩) :
  (((encS o).set k (List.take 1 ((encS o).getD k []) ++ V.int .i64 no :: List.drop 2 ((encS o).getD k []))).set k
   (List.take 2 (((encS o).set k (List.take 1 ((encS o).getD k []) ++ V.int .i64 no :: List.drop 2 ((encS o).getD k []))).getD k []) ++
    V.int .i64 yes :: List.drop 3 (((encS o).set k (List.take 1 ((encS o).getD k []) ++ V.int .i64 no :: List.drop 2 ((encS o).getD k []))).getD k []))) = encS (o.set k ⟨d, no, yes, none⟩) := by
 have e : (encS o).getD k [] = [.int .i64 d, .int .i64 0, .int .i64 0, .nsl] := by rw [encS_getD o k hk, h]; rfl
 rw [e, getD_set_self (by rw [encS_length]; exact hk), List.set_set, encS_set]
 rfl
theorem growN_at {rows : List Rw} {n d : Nat} {set : Int} {out : List Stp} : (growN rows n (d + 1) (setBit set d) (growN rows n (d + 1) set (out ++ [⟨d, 0, 0, none⟩]))).getD out.length stp0 = ⟨d, 0, 0, none⟩ := by
 have h := (growN_length rows n (d + 1) set (out ++ [⟨d, 0, 0, none⟩])).1
 simp only [List.length_append, List.length_cons, List.length_nil] at h
 rw [growN_pre rows n _ _ _ _ (by omega), growN_pre rows n _ _ _ _ (by simp)]
 simp [List.getD]
def FN60 : V := .fn 60 [.ptr 1 0, .ptr 0 0, .ptr 2 0]
def sameRw (r s : Rw) : Bool := decide (r.kind = s.kind) && (decide (r.a = s.a) && (decide (r.b = s.b) && (decide (r.pl = s.pl) && (decide (r.most = s.most) && decide (r.coef = s.coef)))))
def sameTo (a b : List Rw) : Nat → Bool
 | 0 => true
 | n + 1 => sameTo a b n && sameRw (a.getD n rw0) (b.getD n rw0)
def sameB (a b : Pg) : Bool := decide (a.vars = b.vars) && (decide ((a.rows.length : Int) = b.rows.length) && (decide (a.gain = b.gain) && sameTo a.rows b.rows a.rows.length))
def exP : Pg := ⟨3, [⟨0, 0, 0, 0, [2, 3, 1], 5⟩, ⟨0, 0, 0, 0, [1, 0, 1], 1⟩], [5, 4, 3]⟩
/-! #### programs that integers determine -/
structure T3 where
 p : Int
 q : Int
 r : Int
def t30 : T3 := ⟨0, 0, 0⟩
def encT (l : List T3) : List (List V) := l.map fun t => [V.int .i64 t.p, V.int .i64 t.q, V.int .i64 t.r]
theorem encT_length (l : List T3) : (encT l).length = l.length := by simp [encT]
theorem encT_getD (l : List T3) (k : Nat) (h : k < l.length) : (encT l).getD k [] = [V.int .i64 (l.getD k t30).p, V.int .i64 (l.getD k t30).q, V.int .i64 (l.getD k t30).r] := by simp [encT, List.getD, h]
def gainM (g : List Int) (n : Nat) : List Int := (List.range n).map fun j => IntKind.i64.wrap (pickW (g.getD j 0) 40 - 8)
theorem gainM_succ (g : List Int) (n : Nat) : gainM g (n + 1) = gainM g n ++ [IntKind.i64.wrap (pickW (g.getD n 0) 40 - 8)] := by simp [gainM, List.range_succ]
theorem gainM_length (g : List Int) (n : Nat) : (gainM g n).length = n := by simp [gainM]
def coefM (t : T3) (n : Nat) : List Int := (List.range n).map fun (k : Nat) => IntKind.i64.wrap (pickW (IntKind.i64.wrap (t.p.tdiv (1 + 3 * (k : Int)))) 12 - pickW (IntKind.i64.wrap (t.q.tdiv (1 + 5 * (k : Int)))) 5)
theorem coefM_succ (t : T3) (n : Nat) : coefM t (n + 1) = coefM t n ++ [IntKind.i64.wrap (pickW (IntKind.i64.wrap (t.p.tdiv (1 + 3 * (n : Int)))) 12 - pickW (IntKind.i64.wrap (t.q.tdiv (1 + 5 * (n : Int)))) 5)] := by simp [coefM, List.range_succ]
theorem coefM_length (t : T3) (n : Nat) : (coefM t n).length = n := by simp [coefM]
def rowM0 (v : Nat) (t : T3) (i : Nat) : Rw := ⟨1 + (i : Int), pickW t.p 9, 0, 0, coefM t v, IntKind.i64.wrap (pickW t.r 30 - 4)⟩
def rowsM (v : Nat) (x : List T3) (n : Nat) : List Rw := (List.range n).map fun i => rowM0 v (x.getD i t30) i
theorem rowsM_succ (v : Nat) (x : List T3) (n : Nat) : rowsM v x (n + 1) = rowsM v x n ++ [rowM0 v (x.getD n t30) n] := by simp [rowsM, List.range_succ]
theorem rowsM_length (v : Nat) (x : List T3) (n : Nat) : (rowsM v x n).length = n := by simp [rowsM]
def madeW (v : Int) (x : List T3) (g : List Int) : Pg := ⟨pickW v 9, rowsM (pickW v 9).toNat x (min x.length 8), gainM g (pickW v 9).toNat⟩
theorem encR_one (a : List Rw) (k b c d most : Int) (coef : List Int) : encR a ++ (List.replicate 1 [V.int .i64 0, V.int .i64 0, V.int .i64 0, V.int .i64 0, V.nsl, V.int .i64 0]).set 0 [V.int .i64 k, V.int .i64 b, V.int .i64 c, V.int .i64 d, V.sl 1 (encI coef), V.int .i64 most] = encR (a ++ [⟨k, b, c, d, coef, most⟩]) := by rw [encR_snoc]; rfl
/-! #### searching -/
def srt (l : List Int) : Prop := ∀ i j : Nat, i < j → j < l.length → l.getD i 0 < l.getD j 0
theorem srt_le {l : List Int} (h : srt l) {k i : Nat} (hk : k ≤ i) (hi : i < l.length) : l.getD k 0 ≤ l.getD i 0 := by
 rcases Nat.lt_or_eq_of_le hk with h1 | rfl
 ·
  have := h k i h1 hi; omega
 ·
  exact Int.le_refl _
def cntL (l : List Int) (t : Int) : Nat := (l.takeWhile fun x => decide (x < t)).length
theorem bs_cnt {t : Int} : ∀ {l : List Int} {i : Nat}, i ≤ l.length → (∀ k, k < i → l.getD k 0 < t) → (∀ k, i ≤ k → k < l.length → t ≤ l.getD k 0) → cntL l t = i
 | [], i, hi, _, _ => by simp at hi; subst hi; rfl
 | a :: l, 0, _, _, h2 => by
  have := h2 0 (Nat.le_refl _) (by simp)
  simp only [List.getD_cons_zero] at this
  simp [cntL, List.takeWhile, show ¬ a < t by omega]
 | a :: l, i + 1, hi, h1, h2 => by
  have h0 := h1 0 (by omega)
  simp only [List.getD_cons_zero] at h0
  have ih := bs_cnt (t := t) (l := l) (i := i) (by simpa using hi) (fun k hk => by simpa using h1 (k + 1) (by omega)) (fun k hk hl => by simpa using h2 (k + 1) (by omega) (by simpa using hl))
  unfold cntL at ih ⊢
  simp [List.takeWhile, h0, ih]
theorem bs_mem {t : Int} {l : List Int} {i : Nat} (hs : srt l) (h1 : ∀ k, k < i → l.getD k 0 < t) (h2 : ∀ k, i ≤ k → k < l.length → t ≤ l.getD k 0) : t ∈ l ↔ i < l.length ∧ l.getD i 0 = t := by
 constructor
 ·
  intro h
  obtain ⟨k, hk, rfl⟩ := List.getElem_of_mem h
  have e : l[k] = l.getD k 0 := by simp [List.getD, hk]
  rw [e] at h1 h2 ⊢
  have hik : i ≤ k := by
   rcases Nat.lt_or_ge k i with h3 | h3
   ·
    have := h1 k h3; omega
   ·
    exact h3
  refine ⟨by omega, ?_⟩
  have h4 := h2 i (Nat.le_refl _) (by omega)
  have h5 := srt_le hs hik hk
  omega
 ·
  rintro ⟨h3, h4⟩
  rw [← h4]; exact getD_mem h3
theorem bs_res {t : Int} {l : List Int} {i j : Nat} (hs : srt l) (hi : i ≤ l.length) (hj : j = i) (h1 : ∀ k, k < i → l.getD k 0 < t) (h2 : ∀ k, j ≤ k → k < l.length → t ≤ l.getD k 0) :
  V.tup [.int .i64 (i : Nat), .bool (decide ((i : Int) < (l.length : Nat)) && decide (l.getD i 0 = t))] = V.tup [.int .i64 (cntL l t : Nat), .bool (decide (t ∈ l))] := by
 subst hj
 rw [bs_cnt hi h1 h2]
 have hm := bs_mem hs h1 h2
 have : decide (t ∈ l) = (decide ((j : Int) < (l.length : Nat)) && decide (l.getD j 0 = t)) := by
  rw [Bool.eq_iff_iff, Bool.and_eq_true, decide_eq_true_eq, decide_eq_true_eq, decide_eq_true_eq]
  exact hm.trans ⟨fun ⟨a, b⟩ => ⟨by omega, b⟩, fun ⟨a, b⟩ => ⟨by omega, b⟩⟩
 rw [this]
theorem mid_u {i j : Nat} (h : i + j ≤ 100000) : IntKind.i64.wrap ((i : Int) + j) = ((i + j : Nat) : Int) ∧ IntKind.u64.wrap ((i + j : Nat) : Int) = ((i + j : Nat) : Int) ∧ shrW .u64 ((i + j : Nat) : Int) 1 = (((i + j) / 2 : Nat) : Int) ∧ IntKind.i64.wrap (((i + j) / 2 : Nat) : Int) = (((i + j) / 2 : Nat) : Int) := by
 refine ⟨by rw [w64 (by omega)]; omega, ?_, ?_, w64 (by omega)⟩
 ·
  simp only [IntKind.wrap, IntKind.bits, IntKind.signed]
  simp only [Bool.false_eq_true, if_false, Bool.false_and, false_and]
  show ((i + j : Nat) : Int) % 2 ^ 64 = _
  exact Int.emod_eq_of_lt (by omega) (by omega)
 ·
  show (((i + j : Nat) : Int)).fdiv (2 ^ (min (1 : Int).toNat 64)) = _
  have : (2 : Int) ^ (min (1 : Int).toNat 64) = 2 := by decide
  rw [this, Int.fdiv_eq_ediv_of_nonneg _ (by omega)]
  omega
theorem enok_int : EnOK (Value.int .i64) (V.int .i64) := ⟨fun x y h => by cases h; rfl, fun x w O ι ρ nx c y h => by cases h; rfl, fun x w O ι ρ nx c => .int ..⟩
theorem toNat64 {a : Nat} (h : a < 65536) : (BitVec.ofInt 64 (a : Int)).toNat = a := by
 rw [BitVec.ofInt_natCast, BitVec.toNat_ofNat, Nat.mod_eq_of_lt (by omega)]
theorem orN {a b : Nat} (ha : a < 65536) (hb : b < 65536) : bitsV .or .i64 a b = ((a ||| b : Nat) : Int) := by
 have h : a ||| b < 2 ^ 16 := Nat.or_lt_two_pow (by omega) (by omega)
 have e : bitsV .or .i64 a b = IntKind.i64.wrap (((BitVec.ofInt 64 (a : Int)) ||| (BitVec.ofInt 64 (b : Int))).toNat : Int) := rfl
 rw [e, BitVec.toNat_or, toNat64 ha, toNat64 hb, w64 (by omega)]
theorem andN {a b : Nat} (ha : a < 65536) (hb : b < 65536) : bitsV .and .i64 a b = ((a &&& b : Nat) : Int) := by
 have h : a &&& b < 2 ^ 16 := Nat.and_lt_two_pow a (by omega)
 have e : bitsV .and .i64 a b = IntKind.i64.wrap (((BitVec.ofInt 64 (a : Int)) &&& (BitVec.ofInt 64 (b : Int))).toNat : Int) := rfl
 rw [e, BitVec.toNat_and, toNat64 ha, toNat64 hb, w64 (by omega)]
theorem shl1 {n : Nat} (h : n < 16) : shlW .i64 1 n = ((2 ^ n : Nat) : Int) := by
 have hp : 2 ^ n < 2 ^ 16 := Nat.pow_lt_pow_right (by omega) h
 have e : shlW .i64 1 n = IntKind.i64.wrap (1 * 2 ^ (min ((n : Int).toNat) 64)) := rfl
 have e2 : min ((n : Int).toNat) 64 = n := by simp; omega
 rw [e, e2, Int.one_mul]
 have e3 : (2 : Int) ^ n = ((2 ^ n : Nat) : Int) := by simp
 rw [e3, w64 ⟨Int.le_trans (by decide) (Int.natCast_nonneg _), Int.le_trans (Int.ofNat_le.2 (Nat.le_of_lt hp)) (by decide)⟩]
theorem shrN {a k : Nat} (h : k < 64) : shrW .i64 a k = ((a / 2 ^ k : Nat) : Int) := by
 have e : shrW .i64 a k = (a : Int).fdiv (2 ^ (min ((k : Int).toNat) 64)) := rfl
 have e2 : min ((k : Int).toNat) 64 = k := by simp; omega
 rw [e, e2]
 have e3 : (2 : Int) ^ k = ((2 ^ k : Nat) : Int) := by simp
 rw [e3, Int.fdiv_eq_ediv_of_nonneg _ (Int.natCast_nonneg _)]; exact (Int.natCast_ediv a (2 ^ k)).symm
theorem cBit_nat {s i : Nat} (hs : s < 65536) (hi : i < 64) : cBit s i = s.testBit i := by
 have h1 : s / 2 ^ i ≤ s := Nat.div_le_self _ _
 unfold cBit
 have e := andN (a := s / 2 ^ i) (b := 1) (by omega) (by omega)
 rw [shrN hi]
 show decide (bitsV .and .i64 ((s / 2 ^ i : Nat) : Int) ((1 : Nat) : Int) = 1) = _
 rw [e, Nat.and_one_is_mod, Nat.testBit_eq_decide_div_mod_eq]
 rw [decide_eq_decide]; omega
theorem fzL_mapI (id : Nat) (o : AObj) (xs : List Int) : V.fzL id o (xs.map (V.int .i64)) = xs.map (V.int .i64) := cellsI_fzL id o xs
theorem uptoL_mapI (n : Nat) (xs : List Int) : V.uptoL n (xs.map (V.int .i64)) = true := cellsI_uptoL n xs
/-! #### sums, exactly -/
def sumG (l : List Int) (s : Nat) : Nat → Int
 | 0 => 0
 | n + 1 => sumG l s n + if s.testBit n then l.getD n 0 else 0
def sumS (l : List Int) (s : Nat) : Int := sumG l s l.length
theorem coefB_iff {l : List Int} : coefB l = true ↔ ∀ x ∈ l, -1000000000 ≤ x ∧ x ≤ 1000000000 := by
 simp only [coefB, List.all_eq_true]
 exact ⟨fun h x hx => isInB_spec.1 (h x hx), fun h x hx => isInB_spec.2 (h x hx)⟩
theorem coef_getD {l : List Int} (h : coefB l = true) (n : Nat) : -1000000000 ≤ l.getD n 0 ∧ l.getD n 0 ≤ 1000000000 := by
 by_cases hn : n < l.length
 ·
  exact coefB_iff.1 h _ (getD_mem hn)
 ·
  have : l.getD n 0 = 0 := by simp [List.getD, List.getElem?_eq_none (Nat.le_of_not_lt hn)]
  rw [this]; omega
theorem chosenG_sum {l : List Int} (hb : coefB l = true) {s : Nat} (hs : s < 65536) : ∀ n : Nat, n ≤ 12 → chosenG l s n = sumG l s n ∧ -((n : Int) * 1000000000) ≤ sumG l s n ∧ sumG l s n ≤ (n : Int) * 1000000000
 | 0, _ => by simp [chosenG, sumG]
 | n + 1, hn => by
  obtain ⟨h1, h2, h3⟩ := chosenG_sum hb hs n (by omega)
  have hc := coef_getD hb n
  simp only [chosenG, sumG, cBit_nat hs (show n < 64 by omega)]
  split
  ·
   rw [h1, w64 (by omega)]; refine ⟨rfl, ?_, ?_⟩ <;> omega
  ·
   rw [h1]; refine ⟨by omega, ?_, ?_⟩ <;> omega
theorem chosenW_sum {l : List Int} (hb : coefB l = true) {s : Nat} (hs : s < 65536) (hl : l.length ≤ 12) : chosenW l s = sumS l s := (chosenG_sum hb hs _ hl).1
theorem sumS_range {l : List Int} (hb : coefB l = true) {s : Nat} (hs : s < 65536) (hl : l.length ≤ 12) : -12000000000 ≤ sumS l s ∧ sumS l s ≤ 12000000000 := by
 have h := chosenG_sum hb hs _ hl
 have : sumS l s = sumG l s l.length := rfl
 omega
theorem validB_all {p : Pg} (h : validB p = true) : 0 ≤ p.vars ∧ p.vars ≤ 12 ∧ p.rows.length ≤ 300 ∧ (p.gain.length : Int) = p.vars ∧ coefB p.gain = true ∧ ∀ r ∈ p.rows, (r.coef.length : Int) = p.vars ∧ coefB r.coef = true ∧ -1000000000000 ≤ r.most ∧ r.most ≤ 1000000000000 := by
 simp only [validB, Bool.and_eq_true, decide_eq_true_eq, isInB_spec, List.all_eq_true, rightB] at h
 exact ⟨h.1.1, h.1.2, by omega, h.2.2.2.1, h.2.2.2.2, fun r hr => ⟨(h.2.2.1 r hr).1, (h.2.2.1 r hr).2.1, (h.2.2.1 r hr).2.2.1, (h.2.2.1 r hr).2.2.2⟩⟩
/-! #### choices -/
def allKept (rows : List Rw) (set : Int) : Bool := rows.all fun r => keptB r set
def chL (rows : List Rw) : Nat → List Int
 | 0 => []
 | n + 1 => if allKept rows n then chL rows n ++ [(n : Int)] else chL rows n
theorem chL_t {rows : List Rw} {n : Nat} (h : allKept rows n = true) : chL rows (n + 1) = chL rows n ++ [(n : Int)] := by simp only [chL, h, if_true]
theorem chL_f {rows : List Rw} {n : Nat} (h : allKept rows n = false) : chL rows (n + 1) = chL rows n := by simp [chL, h]
theorem chL_length (rows : List Rw) : ∀ n, (chL rows n).length ≤ n
 | 0 => Nat.le_refl _
 | n + 1 => by have := chL_length rows n; simp only [chL]; split <;> (try simp) <;> omega
theorem mem_chL {rows : List Rw} {x : Int} : ∀ {n : Nat}, x ∈ chL rows n ↔ ∃ s : Nat, x = s ∧ s < n ∧ allKept rows s = true
 | 0 => by simp [chL]
 | n + 1 => by
  have ih := mem_chL (rows := rows) (x := x) (n := n)
  cases h : allKept rows n with
  | true =>
   rw [chL_t h, List.mem_append, ih, List.mem_singleton]
   constructor
   ·
    rintro (⟨s, h1, h2, h3⟩ | h1)
    ·
     exact ⟨s, h1, by omega, h3⟩
    ·
     exact ⟨n, h1, by omega, h⟩
   ·
    rintro ⟨s, h1, h2, h3⟩
    by_cases e : s = n
    ·
     subst e; exact .inr h1
    ·
     exact .inl ⟨s, h1, by omega, h3⟩
  | false =>
   rw [chL_f h, ih]
   constructor
   ·
    rintro ⟨s, h1, h2, h3⟩; exact ⟨s, h1, by omega, h3⟩
   ·
    rintro ⟨s, h1, h2, h3⟩
    by_cases e : s = n
    ·
     subst e; rw [h] at h3; cases h3
    ·
     exact ⟨s, h1, by omega, h3⟩
def choiceL (p : Pg) : List Int := chL p.rows (2 ^ p.vars.toNat)
theorem vars_pow {p : Pg} (h : validB p = true) : ∃ v : Nat, p.vars = v ∧ v ≤ 12 ∧ shlW .i64 1 (v : Nat) = ((2 ^ v : Nat) : Int) ∧ 2 ^ v ≤ 4096 := by
 obtain ⟨h0, h1, -⟩ := validB_all h
 obtain ⟨v, hv⟩ := Int.eq_ofNat_of_zero_le h0
 have : v ≤ 12 := by omega
 exact ⟨v, hv, this, shl1 (by omega), Nat.le_trans (Nat.pow_le_pow_right (by omega) this) (by decide)⟩
/-! #### the best -/
def bestS (g : List Int) (s : Bool × Int × Int) (x : Int) : Bool × Int × Int := if (!s.1 || decide (s.2.2 < chosenW g x)) = true then (true, x, chosenW g x) else s
def bestW (g : List Int) (xs : List Int) : Bool × Int × Int := xs.foldl (bestS g) (false, 0, 0)
theorem bestW_snoc (g xs : List Int) (x : Int) : bestW g (xs ++ [x]) = bestS g (bestW g xs) x := by simp [bestW]
theorem bestS_t {g : List Int} {s : Bool × Int × Int} {x : Int} (h : (!s.1 || decide (s.2.2 < chosenW g x)) = true) : bestS g s x = (true, x, chosenW g x) := by unfold bestS; rw [if_pos h]
theorem bestS_f {g : List Int} {s : Bool × Int × Int} {x : Int} (h : (!s.1 || decide (s.2.2 < chosenW g x)) = false) : bestS g s x = s := by unfold bestS; rw [h]; rfl
theorem bestW_foldr (g : List Int) (P : List Int → Bool × Int × Int → Prop) (h0 : P [] (false, 0, 0)) (hs : ∀ xs s x, P xs s → P (xs ++ [x]) (bestS g s x)) : ∀ xs, P xs (bestW g xs) := by
 intro xs
 have : ∀ (ys zs : List Int) s, P zs s → P (zs ++ ys) (ys.foldl (bestS g) s) := by
  intro ys
  induction ys with
  | nil => intro zs s h; simpa using h
  | cons y ys ih => intro zs s h; have := ih (zs ++ [y]) _ (hs zs s y h); simpa using this
 exact this xs [] _ h0
/-- What is found is one of them, none is more, and those that are as much stand behind it. -/
theorem bestW_spec (g xs : List Int) : ((bestW g xs).1 = false → xs = [] ∧ bestW g xs = (false, 0, 0)) ∧ ((bestW g xs).1 = true → (bestW g xs).2.1 ∈ xs ∧ (bestW g xs).2.2 = chosenW g (bestW g xs).2.1 ∧ ∀ x ∈ xs, chosenW g x ≤ (bestW g xs).2.2) := by
 refine bestW_foldr g (fun xs s => (s.1 = false → xs = [] ∧ s = (false, 0, 0)) ∧ (s.1 = true → s.2.1 ∈ xs ∧ s.2.2 = chosenW g s.2.1 ∧ ∀ x ∈ xs, chosenW g x ≤ s.2.2)) (by simp) ?_ xs
 rintro xs ⟨f, x0, g0⟩ x ⟨h1, h2⟩
 simp only at h1 h2 ⊢
 cases hc : (!f || decide (g0 < chosenW g x)) with
 | true =>
  rw [bestS_t hc]
  refine ⟨(fun h => (by cases h)), fun _ => ⟨by simp, rfl, fun y hy => ?_⟩⟩
  rcases List.mem_append.1 hy with hy | hy
  ·
   cases hf : f with
   | true =>
    have := (h2 hf).2.2 y hy
    simp [hf] at hc
    simp only; omega
   | false => have := (h1 hf).1; subst this; cases hy
  ·
   rw [List.mem_singleton] at hy; subst hy; exact Int.le_refl _
 | false =>
  rw [bestS_f hc]
  simp only [Bool.or_eq_false_iff, Bool.not_eq_false', decide_eq_false_iff_not] at hc
  obtain ⟨hf, hc⟩ := hc
  subst hf
  refine ⟨(fun h => (by cases h)), fun _ => ?_⟩
  obtain ⟨k1, k2, k3⟩ := h2 rfl
  refine ⟨List.mem_append_left _ k1, k2, fun y hy => ?_⟩
  rcases List.mem_append.1 hy with hy | hy
  ·
   exact k3 y hy
  ·
   rw [List.mem_singleton] at hy; subst hy; simp only; omega
structure Sol where
 found : Bool
 set : Int
 gain : Int
 proof : List Stp
def encSol (s : Sol) : List V := [.bool s.found, .int .i64 s.set, .int .i64 s.gain, .sl 4 (encS s.proof)]
def solveB (p : Pg) : Bool × Int × Int := bestW p.gain (choiceL p)
def solRows (p : Pg) (b : Bool × Int × Int) : List Rw := if b.1 = true then p.rows ++ [goalW p b.2.2] else p.rows
def solveW (p : Pg) : Sol := ⟨(solveB p).1, (solveB p).2.1, (solveB p).2.2, growN (solRows p (solveB p)) p.vars.toNat 0 0 []⟩
theorem solRows_t {p : Pg} {b : Bool × Int × Int} (h : b.1 = true) : solRows p b = p.rows ++ [goalW p b.2.2] := by unfold solRows; rw [if_pos h]
theorem solRows_f {p : Pg} {b : Bool × Int × Int} (h : b.1 = false) : solRows p b = p.rows := by unfold solRows; rw [h]; rfl
theorem encR_takeA (l : List Rw) : List.take l.length (encR l) = encR l := List.take_of_length_le (by rw [encR_length]; exact Nat.le_refl _)
/-! #### without some rows -/
def idxOk (p : Pg) (rows : List Int) (i : Nat) : Bool := isInB (rows.getD i 0) 0 (IntKind.i64.wrap (p.rows.length - 1)) && !(decide (0 < (i : Int)) && decide (rows.getD i 0 ≤ rows.getD (i - 1) 0))
def okTo (p : Pg) (rows : List Int) : Nat → Bool
 | 0 => true
 | n + 1 => okTo p rows n && idxOk p rows n
def okRows (p : Pg) (rows : List Int) : Bool := okTo p rows rows.length
theorem okTo_t {p : Pg} {rows : List Int} {n : Nat} (h : okTo p rows n = true) (h2 : idxOk p rows n = true) : okTo p rows (n + 1) = true := by simp [okTo, h, h2]
theorem okTo_iff {p : Pg} {rows : List Int} : ∀ {n : Nat}, okTo p rows n = true ↔ ∀ i, i < n → idxOk p rows i = true
 | 0 => by simp [okTo]
 | n + 1 => by
  simp only [okTo, Bool.and_eq_true, okTo_iff (n := n)]
  constructor
  ·
   rintro ⟨h1, h2⟩ i hi
   by_cases e : i = n
   ·
    subst e; exact h2
   ·
    exact h1 i (by omega)
  ·
   exact fun h => ⟨fun i hi => h i (by omega), h n (by omega)⟩
theorem okTo_f {p : Pg} {rows : List Int} {i : Nat} (hi : i < rows.length) (h : idxOk p rows i = false) : okRows p rows = false := by
 rw [Bool.eq_false_iff]
 intro h2
 rw [okTo_iff.1 h2 i hi] at h; cases h
theorem idxOk_iff {p : Pg} {rows : List Int} {i : Nat} : idxOk p rows i = true ↔ 0 ≤ rows.getD i 0 ∧ rows.getD i 0 ≤ IntKind.i64.wrap (p.rows.length - 1) ∧ (0 < i → rows.getD (i - 1) 0 < rows.getD i 0) := by
 simp only [idxOk, Bool.and_eq_true, isInB_spec, Bool.not_eq_true', Bool.and_eq_false_iff, decide_eq_false_iff_not]
 omega
theorem idx_no {p : Pg} {rows : List Int} {i : Nat} (h : isInB (rows.getD i 0) 0 (IntKind.i64.wrap (p.rows.length - 1)) = false ∨ 0 < (i : Int) ∧ rows.getD i 0 ≤ rows.getD (i - 1) 0) : idxOk p rows i = false := by
 rcases h with h | h
 ·
  unfold idxOk; rw [h]; rfl
 ·
  unfold idxOk; rw [decide_eq_true h.1, decide_eq_true h.2]; simp
theorem idx_fin {p : Pg} {rows : List Int} {i : Nat} (h : isInB (rows.getD i 0) 0 (IntKind.i64.wrap (p.rows.length - 1)) = true ∧ (¬ 0 < (i : Int) ∨ ¬ rows.getD i 0 ≤ rows.getD (i - 1) 0)) : idxOk p rows i = true := by
 obtain ⟨h1, h2⟩ := h
 unfold idxOk
 rw [h1]
 rcases h2 with h | h <;> rw [decide_eq_false h] <;> simp
theorem okRows_srt {p : Pg} {rows : List Int} (h : okRows p rows = true) : srt rows := by
 have hk := okTo_iff.1 h
 intro i j hij hj
 induction j with
 | zero => omega
 | succ j ih =>
  have h1 := (idxOk_iff.1 (hk (j + 1) hj)).2.2 (by omega)
  simp only [Nat.add_sub_cancel] at h1
  by_cases e : i = j
  ·
   subst e; exact h1
  ·
   have := ih (by omega) (by omega); omega
theorem okRows_len {p : Pg} {rows : List Int} (h : okRows p rows = true) (hv : validB p = true) : rows.length ≤ p.rows.length := by
 have hk := okTo_iff.1 h
 obtain ⟨h0, h1, h2, h3, h4, h5⟩ := validB_all hv
 have key : ∀ i : Nat, i < rows.length → (i : Int) ≤ rows.getD i 0 := by
  intro i
  induction i with
  | zero => intro hi; have := (idxOk_iff.1 (hk 0 hi)).1; simpa using this
  | succ i ih =>
   intro hi
   have h6 := ih (by omega)
   have h7 := (idxOk_iff.1 (hk (i + 1) hi)).2.2 (by omega)
   simp only [Nat.add_sub_cancel] at h7
   omega
 rcases Nat.eq_zero_or_pos rows.length with e | e
 ·
  omega
 ·
  have h6 := key (rows.length - 1) (by omega)
  have h7 := (idxOk_iff.1 (hk (rows.length - 1) (by omega))).2.1
  rw [w64 (by omega)] at h7
  omega
theorem okRows_1000 {p : Pg} {rows : List Int} (h : okRows p rows = true) (hv : validB p = true) : rows.length ≤ 1000 := by
 have := okRows_len h hv
 have := (validB_all hv).2.2.1
 omega
theorem gain_1000 {p : Pg} (hv : validB p = true) : p.gain.length ≤ 1000 := by
 obtain ⟨h0, h1, h2, h3, h4, h5⟩ := validB_all hv; omega
theorem coef_1000 {p : Pg} (hv : validB p = true) {i : Nat} (hi : i < p.rows.length) : (p.rows.getD i rw0).coef.length ≤ 1000 := by
 obtain ⟨h0, h1, h2, h3, h4, h5⟩ := validB_all hv
 have := (h5 _ (getD_mem (d := rw0) hi)).1; omega
def keepTo (p : Pg) (rows : List Int) : Nat → List Rw
 | 0 => []
 | n + 1 => if (n : Int) ∈ rows then keepTo p rows n else keepTo p rows n ++ [p.rows.getD n rw0]
theorem keepTo_t {p : Pg} {rows : List Int} {n : Nat} (h : (n : Int) ∈ rows) : keepTo p rows (n + 1) = keepTo p rows n := by simp only [keepTo, h, if_true]
theorem keepTo_f {p : Pg} {rows : List Int} {n : Nat} (h : ¬ (n : Int) ∈ rows) : keepTo p rows (n + 1) = keepTo p rows n ++ [p.rows.getD n rw0] := by simp only [keepTo, h, if_false]
theorem keepTo_length (p : Pg) (rows : List Int) : ∀ n, (keepTo p rows n).length ≤ n
 | 0 => Nat.le_refl _
 | n + 1 => by have := keepTo_length p rows n; simp only [keepTo]; split <;> (try simp) <;> omega
def withoutW (p : Pg) (rows : List Int) : Pg := ⟨p.vars, keepTo p rows p.rows.length, p.gain⟩
def wthV (p : Pg) (rows : List Int) : List V := if (okRows p rows && validB p) = true then [.agg (encPg (withoutW p rows)), .int .i64 0] else [.agg [.int .i64 0, .nsl, .nsl], .int .i64 230]
theorem wthV_t {p : Pg} {rows : List Int} (h1 : okRows p rows = true) (h2 : validB p = true) : wthV p rows = [.agg (encPg (withoutW p rows)), .int .i64 0] := by unfold wthV; rw [h1, h2]; rfl
theorem wthV_f1 {p : Pg} {rows : List Int} (h1 : okRows p rows = false) : wthV p rows = [.agg [.int .i64 0, .nsl, .nsl], .int .i64 230] := by unfold wthV; rw [h1]; rfl
theorem wthV_f2 {p : Pg} {rows : List Int} (h1 : validB p = false) : wthV p rows = [.agg [.int .i64 0, .nsl, .nsl], .int .i64 230] := by unfold wthV; rw [h1, Bool.and_false]; rfl
/-! #### its proof -/
theorem idx_any {α : Type} {p : α → Bool} {xs : List α} : 0 ≤ idxOf p xs ↔ ∃ x ∈ xs, p x = true := by
 have := idxOf_ge p xs
 rw [← List.any_eq_true, ← this, decide_eq_true_eq]
theorem setBit_nat {s d : Nat} (hs : s < 2 ^ d) (hd : d ≤ 12) : setBit s d = ((s + 2 ^ d : Nat) : Int) := by
 have hp : 2 ^ d ≤ 4096 := Nat.le_trans (Nat.pow_le_pow_right (by omega) hd) (by decide)
 unfold setBit
 rw [shl1 (by omega), orN (by omega) (by omega)]
 congr 1
 have := Nat.two_pow_add_eq_or_of_lt hs 1
 rw [Nat.or_comm, Nat.add_comm]
 simpa using this.symm
theorem infN_of {rows : List Rw} {v : Nat} (hv : v ≤ 12) (hc : ∀ r ∈ rows, r.coef.length = v) : ∀ (n d s : Nat), d + n = v → s < 2 ^ d → (∀ t : Nat, t < 2 ^ v → t % 2 ^ d = s → ∃ r ∈ rows, r.most < chosenW r.coef t) → infN rows n d s
 | 0, d, s, hd, hs, h => by
  have hd' : d = v := by omega
  subst hd'
  obtain ⟨r, hr, hm⟩ := h s hs (Nat.mod_eq_of_lt hs)
  refine idx_any.2 ⟨r, hr, ?_⟩
  have e := hc r hr
  have e2 : leastW r d s = chosenW r.coef s := by
   unfold leastW
   rw [List.drop_eq_nil_of_le (by omega), List.take_of_length_le (by omega)]; rfl
  simp only [overB, decide_eq_true_eq, e2]
  exact hm
 | n + 1, d, s, hd, hs, h => by
  by_cases hi : 0 ≤ idxOf (overB d s) rows
  ·
   exact .inl hi
  ·
   refine .inr ⟨infN_of hv hc n (d + 1) s (by omega) (by rw [Nat.pow_succ]; omega) fun t ht he => h t ht ?_, ?_⟩
   ·
    have : t % 2 ^ (d + 1) % 2 ^ d = t % 2 ^ d := Nat.mod_mod_of_dvd _ (Nat.pow_dvd_pow 2 (by omega))
    rw [← this, he, Nat.mod_eq_of_lt hs]
   ·
    rw [setBit_nat hs (by omega)]
    refine infN_of hv hc n (d + 1) (s + 2 ^ d) (by omega) (by rw [Nat.pow_succ]; omega) fun t ht he => h t ht ?_
    have : t % 2 ^ (d + 1) % 2 ^ d = t % 2 ^ d := Nat.mod_mod_of_dvd _ (Nat.pow_dvd_pow 2 (by omega))
    rw [← this, he, Nat.add_mod_right, Nat.mod_eq_of_lt hs]
theorem negG_all (g : List Int) : negG g g.length = g.map fun x => IntKind.i64.wrap (0 - x) := by simp [negG]
theorem negG_neg {g : List Int} (h : coefB g = true) : negG g g.length = g.map fun x => -x := by
 rw [negG_all]
 refine List.map_congr_left fun x hx => ?_
 have := coefB_iff.1 h x hx
 rw [w64 (by omega)]; omega
theorem sumG_neg (g : List Int) (s : Nat) : ∀ n, sumG (g.map fun x => -x) s n = - sumG g s n
 | 0 => rfl
 | n + 1 => by
  simp only [sumG, sumG_neg g s n]
  have : (g.map fun x => -x).getD n 0 = - g.getD n 0 := by
   simp only [List.getD, List.getElem?_map]
   cases g[n]? <;> simp
  rw [this]
  split <;> omega
theorem coefB_neg {g : List Int} (h : coefB g = true) : coefB (g.map fun x => -x) = true := by
 refine coefB_iff.2 fun x hx => ?_
 obtain ⟨y, hy, rfl⟩ := List.mem_map.1 hx
 have := coefB_iff.1 h y hy
 omega
/-- The row of the goal is broken by those that gain no more. -/
theorem goal_sum {p : Pg} (hv : validB p = true) {s : Nat} (hs : s < 65536) : chosenW (negG p.gain p.gain.length) s = - sumS p.gain s := by
 obtain ⟨h0, h1, h2, h3, h4, h5⟩ := validB_all hv
 rw [negG_neg h4, chosenW_sum (coefB_neg h4) hs (by simp; omega)]
 simp only [sumS, List.length_map, sumG_neg]
theorem goal_most {p : Pg} {g : Int} (h : -100000000000 ≤ g ∧ g ≤ 100000000000) : (goalW p g).most = -(g + 1) := by
 simp only [goalW]
 rw [w64 (x := g + 1) (by omega), w64 (by omega)]; omega
theorem solRows_coef {p : Pg} (hv : validB p = true) (b : Bool × Int × Int) : ∀ r ∈ solRows p b, r.coef.length = p.vars.toNat := by
 obtain ⟨h0, h1, h2, h3, h4, h5⟩ := validB_all hv
 intro r hr
 unfold solRows at hr
 split at hr
 ·
  rcases List.mem_append.1 hr with hr | hr
  ·
   have := (h5 r hr).1; omega
  ·
   rw [List.mem_singleton] at hr; subst hr
   simp only [goalW, negG_length]; omega
 ·
  have := (h5 r hr).1; omega
theorem mem_choiceL {p : Pg} {x : Int} : x ∈ choiceL p ↔ ∃ s : Nat, x = s ∧ s < 2 ^ p.vars.toNat ∧ allKept p.rows s = true := mem_chL
theorem solveB_mem {p : Pg} (h : (solveB p).1 = true) : ∃ s : Nat, (solveB p).2.1 = s ∧ s < 2 ^ p.vars.toNat ∧ allKept p.rows s = true := mem_choiceL.1 ((bestW_spec p.gain (choiceL p)).2 h).1
theorem solveB_gain {p : Pg} (hv : validB p = true) (h : (solveB p).1 = true) : ∃ s : Nat, (solveB p).2.1 = s ∧ s < 2 ^ p.vars.toNat ∧ (solveB p).2.2 = sumS p.gain s ∧ -12000000000 ≤ (solveB p).2.2 ∧ (solveB p).2.2 ≤ 12000000000 := by
 obtain ⟨s, h1, h2, h3⟩ := solveB_mem h
 obtain ⟨v, hv1, hv2, hv3, hv4⟩ := vars_pow hv
 obtain ⟨q0, q1, q2, q3, q4, q5⟩ := validB_all hv
 rw [hv1] at h2
 simp only [Int.toNat_natCast] at h2
 have e : (solveB p).2.2 = sumS p.gain s := by
  have e0 : (solveB p).2.2 = chosenW p.gain (solveB p).2.1 := ((bestW_spec p.gain (choiceL p)).2 h).2.1
  rw [e0, h1, chosenW_sum q4 (by omega) (by omega)]
 have := sumS_range q4 (show s < 65536 by omega) (by omega)
 exact ⟨s, h1, by rw [hv1]; simpa using h2, e, by omega, by omega⟩
theorem keptB_iff {r : Rw} {s : Int} : keptB r s = true ↔ chosenW r.coef s ≤ r.most := by simp [keptB]
theorem solve_inf {p : Pg} (hv : validB p = true) : infN (solRows p (solveB p)) p.vars.toNat 0 0 := by
 obtain ⟨v, hv1, hv2, hv3, hv4⟩ := vars_pow hv
 obtain ⟨q0, q1, q2, q3, q4, q5⟩ := validB_all hv
 have := infN_of (rows := solRows p (solveB p)) (v := v) hv2 (fun r hr => by have := solRows_coef hv _ r hr; rw [this, hv1]; rfl) v 0 0 (by omega) (by simp) fun t ht _ => by
  have hin : ∀ r ∈ p.rows, r ∈ solRows p (solveB p) := fun r hr => by
   unfold solRows; split
   ·
    exact List.mem_append_left _ hr
   ·
    exact hr
  cases hk : allKept p.rows t with
  | false =>
   obtain ⟨r, hr, hb⟩ : ∃ r ∈ p.rows, keptB r t = false := by
    simpa [allKept] using hk
   refine ⟨r, hin r hr, ?_⟩
   have : ¬ chosenW r.coef t ≤ r.most := fun h => by rw [keptB_iff.2 h] at hb; cases hb
   omega
  | true =>
   have hm : (t : Int) ∈ choiceL p := mem_choiceL.2 ⟨t, rfl, by rw [hv1]; exact ht, hk⟩
   cases hf : (solveB p).1 with
   | false => have := ((bestW_spec p.gain (choiceL p)).1 hf).1; rw [this] at hm; cases hm
   | true =>
    have hle := ((bestW_spec p.gain (choiceL p)).2 hf).2.2 _ hm
    obtain ⟨s, hs1, hs2, hs3, hs4, hs5⟩ := solveB_gain hv hf
    refine ⟨goalW p (solveB p).2.2, ?_, ?_⟩
    ·
     unfold solRows; rw [if_pos hf]; simp
    ·
     rw [goal_most (by omega)]
     show _ < chosenW (negG p.gain p.gain.length) t
     rw [goal_sum hv (by omega)]
     rw [chosenW_sum q4 (by omega) (by omega)] at hle
     have e : (solveB p).2.2 = (bestW p.gain (choiceL p)).2.2 := rfl
     omega
 simpa [hv1] using this
theorem wrap_okI (x : Int) : -9223372036854775808 ≤ IntKind.i64.wrap x ∧ IntKind.i64.wrap x ≤ 9223372036854775807 := by
 unfold IntKind.wrap; simp [IntKind.signed, IntKind.bits]; split <;> omega
def okT (t : T3) : Prop := okI t.p ∧ okI t.q ∧ okI t.r
theorem coefM_small {t : T3} {n : Nat} : ∀ x ∈ coefM t n, -4 ≤ x ∧ x ≤ 11 := by
 intro x hx
 obtain ⟨k, -, rfl⟩ := List.mem_map.1 hx
 have h1 := pickW_range (IntKind.i64.wrap (t.p.tdiv (1 + 3 * (k : Int)))) (n := 12) (by omega) (by omega) (wrap_okI _)
 have h2 := pickW_range (IntKind.i64.wrap (t.q.tdiv (1 + 5 * (k : Int)))) (n := 5) (by omega) (by omega) (wrap_okI _)
 rw [w64 (by omega)]; omega
theorem getD_okI {g : List Int} (h : ∀ x ∈ g, okI x) (k : Nat) : okI (g.getD k 0) := by
 by_cases hk : k < g.length
 ·
  exact h _ (getD_mem hk)
 ·
  rw [show g.getD k 0 = 0 by simp [List.getD, List.getElem?_eq_none (Nat.le_of_not_lt hk)]]; unfold okI; omega
theorem gainM_small {g : List Int} (h : ∀ x ∈ g, okI x) {n : Nat} : ∀ x ∈ gainM g n, -8 ≤ x ∧ x ≤ 31 := by
 intro x hx
 obtain ⟨k, -, rfl⟩ := List.mem_map.1 hx
 have h1 := pickW_range (g.getD k 0) (n := 40) (by omega) (by omega) (getD_okI h k)
 rw [w64 (by omega)]; omega
theorem made_row {v : Int} {x : List T3} {g : List Int} (hx : ∀ t ∈ x, okT t) {r : Rw} (hr : r ∈ (madeW v x g).rows) :
  r.coef.length = (pickW v 9).toNat ∧ (∀ c ∈ r.coef, -4 ≤ c ∧ c ≤ 11) ∧ -4 ≤ r.most ∧ r.most ≤ 25 := by
 obtain ⟨i, hi, rfl⟩ := List.mem_map.1 hr
 have hi' : i < x.length := by have := List.mem_range.1 hi; omega
 have ht := hx _ (getD_mem (d := t30) hi')
 have h1 := pickW_range (x.getD i t30).r (n := 30) (by omega) (by omega) ht.2.2
 refine ⟨by simp only [rowM0, coefM_length], coefM_small, ?_, ?_⟩ <;> simp only [rowM0] <;> rw [w64 (by omega)] <;> omega
theorem made_vars {v : Int} (hv : okI v) {x : List T3} {g : List Int} : 0 ≤ (madeW v x g).vars ∧ (madeW v x g).vars ≤ 8 := by
 have := pickW_range v (n := 9) (by omega) (by omega) hv
 simp only [madeW]; omega
theorem made_rows (v : Int) (x : List T3) (g : List Int) : (madeW v x g).rows.length ≤ 8 := by simp only [madeW, rowsM_length]; omega
theorem made_valid {v : Int} {x : List T3} {g : List Int} (hv : okI v) (hx : ∀ t ∈ x, okT t) (hg : ∀ c ∈ g, okI c) : validB (madeW v x g) = true := by
 have h1 := made_vars hv (x := x) (g := g)
 have h2 := made_rows v x g
 have e : (madeW v x g).vars = pickW v 9 := rfl
 simp only [validB, Bool.and_eq_true, decide_eq_true_eq, isInB_spec, List.all_eq_true, rightB]
 refine ⟨⟨h1.1, by omega⟩, by omega, fun r hr => ?_, ?_, ?_⟩
 ·
  obtain ⟨k1, k2, k3, k4⟩ := made_row hx hr
  refine ⟨by rw [k1, e]; omega, coefB_iff.2 fun c hc => ?_, by omega, by omega⟩
  have := k2 c hc; omega
 ·
  simp only [madeW, gainM_length]; omega
 ·
  refine coefB_iff.2 fun c hc => ?_
  have := gainM_small hg c hc; omega
theorem valid_max {p : Pg} (h : validB p = true) : p.rows.length ≤ maxLen ∧ p.gain.length ≤ maxLen ∧ ∀ r ∈ p.rows, r.coef.length ≤ maxLen := by
 obtain ⟨h0, h1, h2, h3, h4, h5⟩ := validB_all h
 unfold maxLen
 exact ⟨by omega, by omega, fun r hr => by have := (h5 r hr).1; omega⟩
/-! #### sums by remainders -/
def totG (l : List Int) (set : Int) : Nat → Int
 | 0 => 0
 | n + 1 => IntKind.i64.wrap (totG l set n + IntKind.i64.wrap (l.getD n 0 * (shrW .i64 set n).tmod 2))
theorem rem_bit {s n : Nat} (hn : n < 64) : (shrW .i64 s n).tmod 2 = if s.testBit n then 1 else 0 := by
 rw [shrN hn, Nat.testBit_eq_decide_div_mod_eq]
 have : ((s / 2 ^ n : Nat) : Int).tmod 2 = ((s / 2 ^ n % 2 : Nat) : Int) := by
  rw [Int.tmod_eq_emod_of_nonneg (Int.natCast_nonneg _)]; omega
 rw [this]
 rcases Nat.mod_two_eq_zero_or_one (s / 2 ^ n) with h | h <;> simp [h]
def keptTo (rows : List Rw) (set : Int) (v : Nat) : Nat → Bool
 | 0 => true
 | n + 1 => keptTo rows set v n && decide (totG (rows.getD n rw0).coef set v ≤ (rows.getD n rw0).most)
theorem choice_in {p : Pg} (hv : validB p = true) {v : Nat} (e : p.vars = v) {s : Nat} (hs : s < 2 ^ v) : choiceB p s = true := by
 obtain ⟨v', e', h1, h2, h3⟩ := vars_pow hv
 have : v' = v := by omega
 subst this
 obtain ⟨k1, -⟩ := shl_small (k := (v' : Nat)) (by omega)
 unfold choiceB
 rw [hv, e', k1, h2]
 simp only [Bool.true_and, isInB_spec]; omega
/-- None with the same gain is a lesser number. -/
theorem best_least (g : List Int) (rows : List Rw) : ∀ n : Nat, ∀ x ∈ chL rows n, chosenW g x = (bestW g (chL rows n)).2.2 → (bestW g (chL rows n)).2.1 ≤ x
 | 0 => by intro x hx; cases hx
 | n + 1 => by
  intro x hx he
  cases h : allKept rows n with
  | false => rw [chL_f h] at hx he ⊢; exact best_least g rows n x hx he
  | true =>
   rw [chL_t h] at hx he ⊢
   rw [bestW_snoc] at he ⊢
   have hsp := bestW_spec g (chL rows n)
   generalize hb : bestW g (chL rows n) = b at he hsp ⊢
   have ih := best_least g rows n
   rw [hb] at ih
   cases hc : (!b.1 || decide (b.2.2 < chosenW g n)) with
   | true =>
    rw [bestS_t hc] at he ⊢
    simp only at he ⊢
    rcases List.mem_append.1 hx with hx | hx
    ·
     cases hf : b.1 with
     | false => rw [(hsp.1 hf).1] at hx; cases hx
     | true =>
      have := (hsp.2 hf).2.2 x hx
      simp [hf] at hc; omega
    ·
     rw [List.mem_singleton] at hx; omega
   | false =>
    rw [bestS_f hc] at he ⊢
    simp only [Bool.or_eq_false_iff, Bool.not_eq_false', decide_eq_false_iff_not] at hc
    rcases List.mem_append.1 hx with hx | hx
    ·
     exact ih x hx he
    ·
     rw [List.mem_singleton] at hx; subst hx
     have := (hsp.2 hc.1).1
     obtain ⟨s, e, hs, -⟩ := mem_chL.1 this
     omega
/-- What Solve's answer says of a choice that keeps all rows. -/
theorem solve_kept {p : Pg} (hv : validB p = true) {v : Nat} (e : p.vars = v) {s : Nat} (hs : s < 2 ^ v) (hk : allKept p.rows s = true) :
  (solveB p).1 = true ∧ sumG p.gain s v ≤ (solveB p).2.2 ∧ (sumG p.gain s v = (solveB p).2.2 → (solveB p).2.1 ≤ s) ∧ ((s : Int) = (solveB p).2.1 → sumG p.gain s v = (solveB p).2.2) := by
 obtain ⟨h0, h1, h2, h3, h4, h5⟩ := validB_all hv
 have hp : 2 ^ v ≤ 2 ^ 12 := Nat.pow_le_pow_right (by omega) (by omega)
 have hm : (s : Int) ∈ choiceL p := mem_choiceL.2 ⟨s, rfl, by rw [e]; exact hs, hk⟩
 have hsp := bestW_spec p.gain (choiceL p)
 have eb : bestW p.gain (choiceL p) = solveB p := rfl
 rw [eb] at hsp
 have hl : chosenW p.gain s = sumG p.gain s v := by
  rw [chosenW_sum h4 (by omega) (by omega)]; unfold sumS; rw [show p.gain.length = v by omega]
 have hf : (solveB p).1 = true := by
  cases hf : (solveB p).1 with
  | true => rfl
  | false => rw [(hsp.1 hf).1] at hm; cases hm
 refine ⟨hf, by rw [← hl]; exact (hsp.2 hf).2.2 _ hm, fun h => ?_, fun h => ?_⟩
 ·
  exact best_least p.gain p.rows (2 ^ p.vars.toNat) s hm (by rw [hl]; exact h)
 ·
  rw [← hl, h]; exact (hsp.2 hf).2.1.symm
theorem andNotN {a b : Nat} (ha : a < 65536) (hb : b < 65536) : ∃ K : Nat, bitsV .andNot .i64 a b = K ∧ K ≤ a ∧ ∀ i, K.testBit i = (a.testBit i && !b.testBit i) := by
 refine ⟨a &&& (b ^^^ 65535), ?_, Nat.and_le_left, fun i => ?_⟩
 ·
  have e : bitsV .andNot .i64 a b = IntKind.i64.wrap (((BitVec.ofInt 64 (a : Int)) &&& ~~~(BitVec.ofInt 64 (b : Int))).toNat : Int) := rfl
  have e2 : ((BitVec.ofInt 64 (a : Int)) &&& ~~~(BitVec.ofInt 64 (b : Int))).toNat = a &&& (b ^^^ 65535) := by
   apply Nat.eq_of_testBit_eq
   intro i
   rw [← BitVec.getLsbD]
   simp only [BitVec.getLsbD_and, BitVec.getLsbD_not, Nat.testBit_and, Nat.testBit_xor]
   rw [BitVec.getLsbD, BitVec.getLsbD, toNat64 ha, toNat64 hb]
   by_cases h : i < 16
   ·
    rw [show (65535 : Nat) = 2 ^ 16 - 1 from rfl, Nat.testBit_two_pow_sub_one]
    simp [h, show i < 64 by omega]
   ·
    have : a.testBit i = false := Nat.testBit_lt_two_pow (Nat.lt_of_lt_of_le ha (by rw [show (65536 : Nat) = 2 ^ 16 from rfl]; exact Nat.pow_le_pow_right (by omega) (by omega)))
    simp [this]
  have h16 : a &&& (b ^^^ 65535) ≤ a := Nat.and_le_left
  rw [e, e2, w64 (by omega)]
 ·
  rw [Nat.testBit_and, Nat.testBit_xor, show (65535 : Nat) = 2 ^ 16 - 1 from rfl, Nat.testBit_two_pow_sub_one]
  by_cases h : i < 16
  ·
   simp [h]
  ·
   have : a.testBit i = false := Nat.testBit_lt_two_pow (Nat.lt_of_lt_of_le ha (by rw [show (65536 : Nat) = 2 ^ 16 from rfl]; exact Nat.pow_le_pow_right (by omega) (by omega)))
   simp [this]
theorem broken_in {p : Pg} (hv : validB p = true) {v : Nat} (e : p.vars = v) {s : Nat} (hs : s < 2 ^ v) : brokenW p s = brkTo p s p.rows.length := by
 unfold brokenW; rw [if_pos (choice_in hv e hs)]
def nmTo (l : List Rw) (nm : List Int) : Nat → List Rw
 | 0 => l
 | n + 1 => (nmTo l nm n).set n ⟨nm.getD 0 0, nm.getD 1 0, nm.getD 2 0, nm.getD 3 0, ((nmTo l nm n).getD n rw0).coef, ((nmTo l nm n).getD n rw0).most⟩
/-- Rows turned around, under other names. -/
def turnR (rows : List Rw) (k : Nat) (nm : List Int) : List Rw := nmTo (rows.drop k ++ rows.take k) nm (rows.drop k ++ rows.take k).length
def turnPg (p : Pg) (k : Nat) (nm : List Int) : Pg := ⟨p.vars, turnR p.rows k nm, p.gain⟩
/-- Among the first n of a, those that r keeps. -/
def cntK (r : Rw) (a : List Int) (n : Nat) : List Int := (a.take n).filter fun s => keptB r s
/-! #### a further row -/
def moreP (p : Pg) (r : Rw) : Pg := ⟨p.vars, p.rows ++ [r], p.gain⟩
/-! #### without some -/
def bitL (b : Int) : Nat → List Int
 | 0 => []
 | n + 1 => if decide ((shrW .i64 b n).tmod 2 = 1) = true then bitL b n ++ [(n : Int)] else bitL b n
theorem okRows_of {p : Pg} (hv : validB p = true) {l : List Int} (hs : srt l) (hr : ∀ x ∈ l, 0 ≤ x ∧ x < (p.rows.length : Int)) : okRows p l = true := by
 obtain ⟨h0, h1, h2, h3, h4, h5⟩ := validB_all hv
 refine okTo_iff.2 fun i hi => idxOk_iff.2 ?_
 have := hr _ (getD_mem (d := 0) hi)
 rw [w64 (by omega)]
 refine ⟨this.1, by omega, fun h => hs (i - 1) i (by omega) hi⟩
theorem keepTo_mem {p : Pg} {l : List Int} {r : Rw} : ∀ {n : Nat}, r ∈ keepTo p l n → ∃ i : Nat, i < n ∧ r = p.rows.getD i rw0 ∧ ¬ (i : Int) ∈ l
 | 0, h => by simp [keepTo] at h
 | n + 1, h => by
  by_cases hm : (n : Int) ∈ l
  ·
   rw [keepTo_t hm] at h
   obtain ⟨i, h1, h2⟩ := keepTo_mem h
   exact ⟨i, by omega, h2⟩
  ·
   rw [keepTo_f hm] at h
   rcases List.mem_append.1 h with h | h
   ·
    obtain ⟨i, h1, h2⟩ := keepTo_mem h
    exact ⟨i, by omega, h2⟩
   ·
    rw [List.mem_singleton] at h; exact ⟨n, by omega, h, hm⟩
theorem without_valid {p : Pg} (hv : validB p = true) (l : List Int) : validB (withoutW p l) = true := by
 obtain ⟨h0, h1, h2, h3, h4, h5⟩ := validB_all hv
 have hh : ∀ q ∈ keepTo p l p.rows.length, rightB q p.vars = true := fun q hq => by
  obtain ⟨i, hi, rfl, -⟩ := keepTo_mem hq
  obtain ⟨k1, k2, k3⟩ := h5 _ (getD_mem (d := rw0) hi)
  simp only [rightB, Bool.and_eq_true, decide_eq_true_eq, isInB_spec]; exact ⟨k1, k2, k3⟩
 have hl := keepTo_length p l p.rows.length
 simp only [validB, withoutW, Bool.and_eq_true, decide_eq_true_eq, isInB_spec, List.all_eq_true]
 exact ⟨⟨h0, h1⟩, decide_eq_true (show ((keepTo p l p.rows.length).length : Int) ≤ 300 by omega), hh, decide_eq_true h3, h4⟩
def cellsB (xs : List Bool) : List V := xs.map V.bool
theorem cellsB_length (xs : List Bool) : (cellsB xs).length = xs.length := by simp [cellsB]
theorem cellsB_sc (xs : List Bool) : (cellsB xs).all V.sc = true := by simp [cellsB, V.sc]
theorem cellsB_cl : ∀ (xs : List Bool), V.clL (cellsB xs) = true
 | [] => rfl
 | x :: xs => by simpa [cellsB, V.clL, V.cl] using cellsB_cl xs
theorem cellsB_getD (xs : List Bool) (k : Nat) (h : k < xs.length) : (cellsB xs).getD k .any = V.bool (xs.getD k false) := by simp [cellsB, List.getD, h]
theorem cellsB_dropD (xs : List Bool) (k : Nat) (h : k < xs.length) : (List.drop k (cellsB xs)).getD 0 .any = V.bool (xs.getD k false) := by simp [cellsB, List.getD, h]
theorem cellsB_spl (xs : List Bool) (k : Nat) (b : Bool) (h : k < xs.length) : List.take k (cellsB xs) ++ V.bool b :: List.drop (k + 1) (cellsB xs) = cellsB (xs.set k b) := by
 simp only [cellsB, ← List.map_take, ← List.map_drop]
 rw [← List.map_cons, ← List.map_append, List.set_eq_take_append_cons_drop, if_pos h]
def isTo (l : List Int) : Nat → List Bool
 | 0 => List.replicate 4 false
 | j + 1 => (isTo l j).set (l.getD j 0).toNat true
theorem mem_brk {p : Pg} {s x : Int} : ∀ {n : Nat}, x ∈ brkTo p s n ↔ ∃ k : Nat, x = k ∧ k < n ∧ keptB (p.rows.getD k rw0) s = false
 | 0 => by simp [brkTo]
 | n + 1 => by
  have ih := mem_brk (p := p) (s := s) (x := x) (n := n)
  cases h : keptB (p.rows.getD n rw0) s with
  | true =>
   rw [brkTo_t h, ih]
   constructor
   ·
    rintro ⟨k, h1, h2, h3⟩; exact ⟨k, h1, by omega, h3⟩
   ·
    rintro ⟨k, h1, h2, h3⟩
    by_cases e : k = n
    ·
     subst e; rw [h] at h3; cases h3
    ·
     exact ⟨k, h1, by omega, h3⟩
  | false =>
   rw [brkTo_f h, List.mem_append, ih, List.mem_singleton]
   constructor
   ·
    rintro (⟨k, h1, h2, h3⟩ | h1)
    ·
     exact ⟨k, h1, by omega, h3⟩
    ·
     exact ⟨n, h1, by omega, h⟩
   ·
    rintro ⟨k, h1, h2, h3⟩
    by_cases e : k = n
    ·
     subst e; exact .inr h1
    ·
     exact .inl ⟨k, h1, by omega, h3⟩
theorem mem_getD {l : List Int} {x : Int} : x ∈ l ↔ ∃ i, i < l.length ∧ l.getD i 0 = x := by
 constructor
 ·
  intro h
  obtain ⟨i, hi, rfl⟩ := List.getElem_of_mem h
  exact ⟨i, hi, by simp [List.getD, hi]⟩
 ·
  rintro ⟨i, hi, rfl⟩; exact getD_mem hi
/-! #### the rows -/
def addL (m n : Int) (a b : List Int) (v : Nat) : List Int := (List.range v).map fun i => IntKind.i64.wrap (IntKind.i64.wrap (m * a.getD i 0) + IntKind.i64.wrap (n * b.getD i 0))
def mulL (m : Int) (a : List Int) (v : Nat) : List Int := (List.range v).map fun i => IntKind.i64.wrap (IntKind.i64.wrap (m + 1) * a.getD i 0)
def addR (m n : Int) (r s : Rw) (v : Nat) : Rw := ⟨0, 0, 0, 0, addL m n r.coef s.coef v, IntKind.i64.wrap (IntKind.i64.wrap (m * r.most) + IntKind.i64.wrap (n * s.most))⟩
def mulR (m : Int) (r : Rw) (v : Nat) : Rw := ⟨0, 0, 0, 0, mulL m r.coef v, IntKind.i64.wrap (IntKind.i64.wrap (m + 1) * r.most)⟩
def smallR (r : Rw) : Prop := (∀ c ∈ r.coef, -4 ≤ c ∧ c ≤ 11) ∧ -4 ≤ r.most ∧ r.most ≤ 25
def addQ (p : Pg) (m n : Int) (r s : Rw) (v : Nat) : Pg := ⟨p.vars, [r, s, addR m n r s v, mulR m r v], p.gain⟩
/-- What is asked of all numbers below n, by looking. -/
theorem all_lt {n : Nat} {p : Nat → Bool} (h : (List.range n).all p = true) {k : Nat} (hk : k < n) : p k = true := List.all_eq_true.1 h k (List.mem_range.2 hk)

theorem gtab_len : (gtab 1).length = 64 := rfl
theorem gtab_drop (k : Nat) (h : k < 64) : (List.drop k (gtab 1)).getD 0 .any = V.int .u8 (tab64.getD k 0) := by
 rw [gtab_1]
 have : k < tab64.length := h
 simp [List.getD, this]
/-- The lowest bit of a set. -/
def tzN (s : Nat) : Nat := ((List.range 12).find? fun i => s.testBit i).getD 64
def tzI (s : Int) : Int := shrW .u64 (IntKind.u64.wrap (bitsV .and .u64 s (IntKind.u64.wrap (0 - s)) * 285870213051353865)) 58
theorem tz_all : ((List.range 4096).all fun s => s == 0 || (decide (0 ≤ tzI s) && decide (tzI s < 64) && decide (tab64.getD (tzI s).toNat 0 = (tzN s : Int)) && decide (tzN s < 12))) = true := by decide +kernel
theorem tz_spec {s : Nat} (h : s < 4096) (h0 : 0 < s) : (0 ≤ tzI s ∧ tzI s < 64) ∧ tab64.getD (tzI s).toNat 0 = (tzN s : Int) ∧ tzN s < 12 := by
 have := all_lt tz_all h
 simp only [Bool.or_eq_true, Bool.and_eq_true, decide_eq_true_eq, beq_iff_eq] at this
 rcases this with h1 | h1
 ·
  omega
 ·
  exact ⟨⟨h1.1.1.1, h1.1.1.2⟩, h1.1.2, h1.2⟩
/-- How many rows a set has. -/
def popN (s : Nat) : Nat := ((List.range 12).filter fun i => s.testBit i).length
def pc1 (s : Int) : Int := IntKind.u64.wrap (bitsV .and .u64 (shrW .u64 s 1) 6148914691236517205 + bitsV .and .u64 s 6148914691236517205)
def pc2 (s : Int) : Int := IntKind.u64.wrap (bitsV .and .u64 (shrW .u64 s 2) 3689348814741910323 + bitsV .and .u64 s 3689348814741910323)
def pc3 (s : Int) : Int := bitsV .and .u64 (IntKind.u64.wrap (shrW .u64 s 4 + s)) 1085102592571150095
def pc4 (k : Int) (s : Int) : Int := IntKind.u64.wrap (s + shrW .u64 s k)
def pcI (s : Int) : Int := bitsV .and .i64 (IntKind.i64.wrap (pc4 32 (pc4 16 (pc4 8 (pc3 (pc2 (pc1 s))))))) 127
theorem pc_all : ((List.range 4096).all fun s => decide (pcI s = (popN s : Int))) = true := by decide +kernel
theorem pc_spec {s : Nat} (h : s < 4096) : pcI s = (popN s : Int) := by simpa using all_lt pc_all h
/-- The rows of a set. -/
def rowsN (s : Nat) : List Int := List.map (fun i : Nat => ((i : Nat) : Int)) ((List.range 12).filter fun i => s.testBit i)
/-- A set of rows, turned around: the first row is the greatest part. -/
def rvN (s : Nat) : Nat := (List.range 16).foldl (fun a i => if s.testBit i then a + 2 ^ (15 - i) else a) 0
theorem b16_all : ((List.range 4096).all fun s => decide (0 ≤ shrW .u16 (s : Nat) 8) && decide (shrW .u16 (s : Nat) 8 < 256) && decide (0 ≤ bitsV .and .u16 (s : Nat) 255) && decide (bitsV .and .u16 (s : Nat) 255 < 256)) = true := by decide +kernel
theorem b16 {s : Nat} (h : s < 4096) : (0 ≤ shrW .u16 (s : Nat) 8 ∧ shrW .u16 (s : Nat) 8 < 256) ∧ 0 ≤ bitsV .and .u16 (s : Nat) 255 ∧ bitsV .and .u16 (s : Nat) 255 < 256 := by
 have := all_lt b16_all h
 simp only [Bool.and_eq_true, decide_eq_true_eq] at this
 exact ⟨⟨this.1.1.1, this.1.1.2⟩, this.1.2, this.2⟩
def revB (n : Nat) : Nat := (List.range 8).foldl (fun a i => if n.testBit i then a + 2 ^ (7 - i) else a) 0
theorem rev_get (L : ByteArray) (n : Nat) (hL : ((List.range 256).all fun n => decide ((L.get! n).toNat = revB n)) = true) (h : n < 256) : (L.get! n).toNat = revB n := by simpa using all_lt hL h
theorem rev_all : ((List.range 4096).all fun s => decide (bitsV .or .u16 (IntKind.u16.wrap (revB (shrW .u16 (s : Nat) 8).toNat : Nat)) (shlW .u16 (IntKind.u16.wrap (revB (bitsV .and .u16 (s : Nat) 255).toNat : Nat)) 8) = (rvN s : Int))) = true := by decide +kernel
theorem rev_spec {s : Nat} (h : s < 4096) : bitsV .or .u16 (IntKind.u16.wrap (revB (shrW .u16 (s : Nat) 8).toNat : Nat)) (shlW .u16 (IntKind.u16.wrap (revB (bitsV .and .u16 (s : Nat) 255).toNat : Nat)) 8) = (rvN s : Int) := by simpa using all_lt rev_all h
theorem rowsN_length (s : Nat) : (rowsN s).length = popN s := by simp [rowsN, popN]
theorem step_all : ((List.range 4096).all fun s => s == 0 || (decide (rowsN s = (tzN s : Int) :: rowsN (s &&& (s - 1))) && decide (s &&& (s - 1) < s))) = true := by decide +kernel
theorem rows_step {s : Nat} (h : s < 4096) (h0 : 0 < s) : rowsN s = (tzN s : Int) :: rowsN (s &&& (s - 1)) ∧ s &&& (s - 1) < s := by
 have := all_lt step_all h
 simp only [Bool.or_eq_true, Bool.and_eq_true, decide_eq_true_eq, beq_iff_eq] at this
 rcases this with h1 | h1
 ·
  omega
 ·
  exact h1
theorem rowsN_le (s : Nat) : (rowsN s).length ≤ 12 := by
 rw [rowsN_length]; unfold popN
 exact Nat.le_trans (List.length_filter_le _ _) (by simp)
theorem u64_small {s : Nat} (h : s < 4096) : IntKind.u64.wrap (s : Int) = s := by
 simp only [IntKind.wrap, IntKind.signed, IntKind.bits]
 simp
 omega
theorem dec_and {k : Nat} (h : k < 4096) (h0 : 0 < k) : bitsV .and .i64 (k : Int) (IntKind.i64.wrap ((k : Int) - 1)) = ((k &&& (k - 1) : Nat) : Int) := by
 rw [w64 (x := (k : Int) - 1) (by omega), show (k : Int) - 1 = ((k - 1 : Nat) : Int) by omega, andN (by omega) (by omega)]
theorem rowsN_0 : rowsN 0 = [] := by decide
/-- The least sum, exactly. -/
def lstG (c : List Int) (d s : Nat) : Nat → Int
 | 0 => 0
 | k + 1 => lstG c d s k + (if k < d then (if s.testBit k then c.getD k 0 else 0) else if c.getD k 0 < 0 then c.getD k 0 else 0)
theorem lstG_range {c : List Int} (hb : coefB c = true) (d s : Nat) : ∀ k : Nat, -((k : Int) * 1000000000) ≤ lstG c d s k ∧ lstG c d s k ≤ (k : Int) * 1000000000
 | 0 => by simp [lstG]
 | k + 1 => by
  have ih := lstG_range hb d s k
  have hc := coef_getD hb k
  simp only [lstG]
  split
  ·
   split <;> omega
  ·
   split <;> omega
theorem lstG_low (c : List Int) {d s : Nat} : ∀ k, k ≤ d → lstG c d s k = sumG c s k
 | 0, _ => rfl
 | k + 1, h => by
  have ih := lstG_low c (d := d) (s := s) k (by omega)
  simp only [lstG, sumG, ih, if_pos (show k < d by omega)]
theorem sumG_take (c : List Int) (s d : Nat) : ∀ k, k ≤ d → sumG (c.take d) s k = sumG c s k
 | 0, _ => rfl
 | k + 1, h => by
  have : (c.take d).getD k 0 = c.getD k 0 := by simp [List.getD, List.getElem?_take, show k < d by omega]
  simp only [sumG, sumG_take c s d k (by omega), this]
theorem coefB_take {c : List Int} (h : coefB c = true) (d : Nat) : coefB (c.take d) = true := coefB_iff.2 fun x hx => coefB_iff.1 h x (List.mem_of_mem_take hx)
theorem leastW_lst {r : Rw} {v : Nat} (hb : coefB r.coef = true) (hl : r.coef.length = v) (hv : v ≤ 12) {d s : Nat} (hd : d ≤ v) (hs : s < 2 ^ d) : leastW r d s = lstG r.coef d s v := by
 have hp : 2 ^ d ≤ 2 ^ 12 := Nat.pow_le_pow_right (by omega) (by omega)
 have h0 : chosenW (r.coef.take d) s = lstG r.coef d s d := by
  rw [chosenW_sum (coefB_take hb d) (by omega) (by simp; omega), lstG_low _ _ (Nat.le_refl _)]
  unfold sumS
  rw [show (r.coef.take d).length = d by simp; omega, sumG_take _ _ _ _ (Nat.le_refl _)]
 unfold leastW
 rw [h0]
 have key : ∀ k, d + k ≤ v → leastT (r.coef.drop d) (lstG r.coef d s d) k = lstG r.coef d s (d + k) := by
  intro k
  induction k with
  | zero => intro _; rfl
  | succ k ih =>
   intro hk
   have hr := lstG_range hb d s (d + k)
   have hc := coef_getD hb (d + k)
   have e : (r.coef.drop d).getD k 0 = r.coef.getD (d + k) 0 := by simp [List.getD]
   have e2 : d + (k + 1) = (d + k) + 1 := by omega
   rw [e2]
   simp only [leastT, lstG, ih (by omega), e, if_neg (show ¬ d + k < d by omega)]
   have e3 : minV 0 (r.coef.getD (d + k) 0) = if r.coef.getD (d + k) 0 < 0 then r.coef.getD (d + k) 0 else 0 := rfl
   rw [e3]
   have : ((d + k : Nat) : Int) * 1000000000 ≤ 12 * 1000000000 := by omega
   split <;> rw [w64 (by omega)]
 rw [key (r.coef.drop d).length (by simp; omega)]
 congr 1; simp; omega
/-! #### what is decided -/
def decL (v d s : Nat) : List Int := (List.range v).map fun k => if k < d then (if s.testBit k then 1 else 0) else -1
theorem decL_getD {v d s k : Nat} (h : k < v) : (decL v d s).getD k 0 = if k < d then (if s.testBit k then 1 else 0) else -1 := by simp [decL, List.getD, List.getElem?_range h]
/-- The sum of a leaf. -/
def lfG (c dec : List Int) : Nat → Int
 | 0 => 0
 | k + 1 => if (decide (dec.getD k 0 = 1) || (decide (dec.getD k 0 < 0) && decide (c.getD k 0 < 0))) = true then IntKind.i64.wrap (lfG c dec k + c.getD k 0) else lfG c dec k
theorem lfG_t {c dec : List Int} {k : Nat} (h : dec.getD k 0 = 1 ∨ dec.getD k 0 < 0 ∧ c.getD k 0 < 0) : lfG c dec (k + 1) = IntKind.i64.wrap (lfG c dec k + c.getD k 0) := by simp only [lfG]; rw [if_pos]; simpa using h
theorem lfG_f {c dec : List Int} {k : Nat} (h : ¬ dec.getD k 0 = 1 ∧ (¬ dec.getD k 0 < 0 ∨ ¬ c.getD k 0 < 0)) : lfG c dec (k + 1) = lfG c dec k := by
 simp only [lfG]; rw [if_neg]
 simp only [Bool.or_eq_true, Bool.and_eq_true, decide_eq_true_eq]; omega
theorem lfG_lst {c : List Int} (hb : coefB c = true) {v d s : Nat} (hv : v ≤ 12) : ∀ k, k ≤ v → lfG c (decL v d s) k = lstG c d s k
 | 0, _ => rfl
 | k + 1, hk => by
  have ih := lfG_lst hb (d := d) (s := s) hv k (by omega)
  have hr := lstG_range hb d s k
  have hc := coef_getD hb k
  have hd := decL_getD (d := d) (s := s) (show k < v by omega)
  have hw : IntKind.i64.wrap (lstG c d s k + c.getD k 0) = lstG c d s k + c.getD k 0 := w64 (by omega)
  simp only [lstG]
  by_cases h : k < d
  ·
   rw [if_pos h] at hd ⊢
   by_cases hb2 : s.testBit k = true
   ·
    rw [if_pos hb2] at hd ⊢
    rw [lfG_t (.inl hd), ih, hw]
   ·
    rw [if_neg hb2] at hd ⊢
    rw [lfG_f (by omega), ih]; omega
  ·
   rw [if_neg h] at hd ⊢
   by_cases hn : c.getD k 0 < 0
   ·
    rw [if_pos hn, lfG_t (.inr (by omega)), ih, hw]
   ·
    rw [if_neg hn, lfG_f (by omega), ih]; omega
/-! #### the tree -/
def atLeaf (rows : List Rw) (l : List Stp) (d s p : Nat) : Prop := p < l.length ∧ l.getD p stp0 = ⟨-1, 0, 0, some (idxOf (overB d s) rows)⟩
def layT (rows : List Rw) (l : List Stp) : Nat → Nat → Nat → Nat → Prop
 | 0, d, s, p => atLeaf rows l d s p
 | n + 1, d, s, p => (0 ≤ idxOf (overB d s) rows ∧ atLeaf rows l d s p) ∨ (¬ 0 ≤ idxOf (overB d s) rows ∧ ∃ no yes : Nat, p < no ∧ p < yes ∧ p < l.length ∧ l.getD p stp0 = ⟨d, no, yes, none⟩ ∧ layT rows l n (d + 1) s no ∧ layT rows l n (d + 1) (s + 2 ^ d) yes)
theorem layT_mono {rows : List Rw} {l l' : List Stp} : ∀ {n d s p : Nat}, (∀ i, p ≤ i → i < l.length → i < l'.length ∧ l'.getD i stp0 = l.getD i stp0) → layT rows l n d s p → layT rows l' n d s p
 | 0, d, s, p, h, ⟨h1, h2⟩ => ⟨(h p (Nat.le_refl _) h1).1, (h p (Nat.le_refl _) h1).2.trans h2⟩
 | n + 1, d, s, p, h, .inl ⟨h0, h1, h2⟩ => .inl ⟨h0, (h p (Nat.le_refl _) h1).1, (h p (Nat.le_refl _) h1).2.trans h2⟩
 | n + 1, d, s, p, h, .inr ⟨h0, no, yes, a1, a2, a3, a4, a5, a6⟩ => .inr ⟨h0, no, yes, a1, a2, (h p (Nat.le_refl _) a3).1, (h p (Nat.le_refl _) a3).2.trans a4,
   layT_mono (fun i hi hl => h i (by omega) hl) a5, layT_mono (fun i hi hl => h i (by omega) hl) a6⟩
theorem layT_grow (rows : List Rw) : ∀ (n d s : Nat) (out : List Stp), d + n ≤ 12 → s < 2 ^ d → layT rows (growN rows n d s out) n d s out.length
 | 0, d, s, out, _, _ => ⟨by simp [growN], by simp [growN, List.getD]⟩
 | n + 1, d, s, out, hd, hs => by
  by_cases h0 : 0 ≤ idxOf (overB d s) rows
  ·
   refine .inl ⟨h0, ?_⟩
   rw [growN_leaf h0]
   exact ⟨by simp, by simp [List.getD]⟩
  ·
   have hsb := setBit_nat hs (show d ≤ 12 by omega)
   have l1 := layT_grow rows n (d + 1) s (out ++ [⟨d, 0, 0, none⟩]) (by omega) (by rw [Nat.pow_succ]; omega)
   have g1 := growN_length rows n (d + 1) s (out ++ [⟨d, 0, 0, none⟩])
   generalize ho1 : growN rows n (d + 1) s (out ++ [⟨d, 0, 0, none⟩]) = o1 at l1 g1
   have l2 := layT_grow rows n (d + 1) (s + 2 ^ d) o1 (by omega) (by rw [Nat.pow_succ]; omega)
   have g2 := growN_length rows n (d + 1) ((s + 2 ^ d : Nat) : Int) o1
   simp only [List.length_append, List.length_cons, List.length_nil] at l1 g1
   have e : growN rows (n + 1) d s out = (growN rows n (d + 1) ((s + 2 ^ d : Nat) : Int) o1).set out.length ⟨d, out.length + 1, o1.length, none⟩ := by
    simp only [growN, if_neg h0, hsb, ho1]
   rw [e]
   have hset : ∀ (l : List Stp) (x : Stp) (i : Nat), out.length < i → (l.set out.length x).getD i stp0 = l.getD i stp0 := fun l x i hi => by
    simp only [List.getD, List.getElem?_set_ne (show out.length ≠ i by omega)]
   refine .inr ⟨h0, out.length + 1, o1.length, by omega, by omega, by rw [List.length_set]; omega, getD_set_self (by omega), ?_, ?_⟩
   ·
    refine layT_mono (fun i hi hl => ⟨by rw [List.length_set]; omega, ?_⟩) l1
    rw [hset _ _ _ (by omega), growN_pre rows n _ _ _ i hl]
   ·
    refine layT_mono (fun i hi hl => ⟨by rw [List.length_set]; exact hl, ?_⟩) l2
    exact hset _ _ _ (by omega)
def leafB (rows2 : List Rw) (v : Nat) (i : Int) (d s : Nat) : Bool := decide ((rows2.getD i.toNat rw0).most < lfG (rows2.getD i.toNat rw0).coef (decL v d s) v)
def treeB (rows2 rows : List Rw) (v : Nat) : Nat → Nat → Nat → Bool
 | 0, d, s => leafB rows2 v (idxOf (overB d s) rows) d s
 | n + 1, d, s => if 0 ≤ idxOf (overB d s) rows then leafB rows2 v (idxOf (overB d s) rows) d s else treeB rows2 rows v n (d + 1) s && treeB rows2 rows v n (d + 1) (s + 2 ^ d)
theorem idx_at {α : Type} (dflt : α) {p : α → Bool} : ∀ {xs : List α}, 0 ≤ idxOf p xs → (idxOf p xs).toNat < xs.length ∧ p (xs.getD (idxOf p xs).toNat dflt) = true
 | [], h => by simp [idxOf] at h
 | x :: xs, h => by
  by_cases hp : p x = true
  ·
   simp only [idxOf, hp, if_true]; simp [hp]
  ·
   have hf : p x = false := by simpa using hp
   by_cases hr : idxOf p xs < 0
   ·
    simp [idxOf, hf, hr] at h
   ·
    have e : idxOf p (x :: xs) = idxOf p xs + 1 := by simp [idxOf, hf, hr]
    obtain ⟨h1, h2⟩ := idx_at dflt (p := p) (xs := xs) (by omega)
    rw [e, show (idxOf p xs + 1).toNat = (idxOf p xs).toNat + 1 by omega]
    exact ⟨by simpa using h1, by simpa using h2⟩
def okRws (rows : List Rw) (v : Nat) : Prop := ∀ r ∈ rows, r.coef.length = v ∧ coefB r.coef = true
theorem tree_true {rows : List Rw} {v : Nat} (hv : v ≤ 12) (hr : okRws rows v) : ∀ (n d s : Nat), d + n = v → s < 2 ^ d → infN rows n d s → treeB rows rows v n d s = true := by
 have leaf : ∀ d s : Nat, d ≤ v → s < 2 ^ d → 0 ≤ idxOf (overB d s) rows → leafB rows v (idxOf (overB d s) rows) d s = true := fun d s hd hs h => by
  obtain ⟨h1, h2⟩ := idx_at rw0 h
  obtain ⟨k1, k2⟩ := hr _ (getD_mem (d := rw0) h1)
  simp only [overB, decide_eq_true_eq] at h2
  rw [leastW_lst k2 k1 hv hd hs] at h2
  simp only [leafB, decide_eq_true_eq]
  rw [lfG_lst k2 hv v (Nat.le_refl _)]; exact h2
 intro n
 induction n with
 | zero => intro d s hd hs h; exact leaf d s (by omega) hs h
 | succ n ih =>
  intro d s hd hs h
  simp only [treeB]
  split
  ·
   rename_i h0; exact leaf d s (by omega) hs h0
  ·
   rename_i h0
   rcases h with h | ⟨h1, h2⟩
   ·
    exact (h0 h).elim
   ·
    rw [setBit_nat hs (by omega)] at h2
    rw [ih (d + 1) s (by omega) (by rw [Nat.pow_succ]; omega) h1, ih (d + 1) (s + 2 ^ d) (by omega) (by rw [Nat.pow_succ]; omega) h2]
    rfl
/-! #### for Solve -/
def negP (g : List Int) (i : Nat) : List Int := negG g i ++ List.replicate (g.length - i) 0
/-- The one row of a leaf, so far. -/
def sumP (c : List Int) (v i : Nat) : List Int := ((List.range i).map fun k => c.getD k 0) ++ List.replicate (v - i) 0
/-- The reference's goal. -/
def goalR (p : Pg) (g : Int) : Rw := ⟨0, 0, 0, 0, negG p.gain p.gain.length, IntKind.i64.wrap (IntKind.i64.wrap (0 - g) - 1)⟩
theorem okRws_goal {p : Pg} (hv : validB p = true) (g : Int) : okRws (p.rows ++ [goalW p g]) p.vars.toNat := by
 obtain ⟨h0, h1, h2, h3, h4, h5⟩ := validB_all hv
 intro r hr
 rcases List.mem_append.1 hr with hr | hr
 ·
  obtain ⟨k1, k2, -⟩ := h5 r hr; exact ⟨by omega, k2⟩
 ·
  rw [List.mem_singleton] at hr; subst hr
  exact ⟨by simp only [goalW, negG_length]; omega, by simp only [goalW]; rw [negG_neg h4]; exact coefB_neg h4⟩
theorem okRws_rows {p : Pg} (hv : validB p = true) : okRws p.rows p.vars.toNat := fun r hr => okRws_goal hv 0 r (List.mem_append_left _ hr)
theorem proof_refutes {p : Pg} (hv : validB p = true) {v : Nat} (e : p.vars = v) : treeB (solRows p (solveB p)) (solRows p (solveB p)) v v 0 0 = true := by
 obtain ⟨h0, h1, h2, h3, h4, h5⟩ := validB_all hv
 have hi := solve_inf hv
 rw [e] at hi
 simp only [Int.toNat_natCast] at hi
 refine tree_true (by omega) (fun r hr => ?_) v 0 0 (by omega) (by simp) hi
 unfold solRows at hr
 split at hr
 ·
  have := okRws_goal hv _ r hr; rw [e] at this; simpa using this
 ·
  have := okRws_rows hv r hr; rw [e] at this; simpa using this
/-! #### the least sum, and the plain proof -/
def lrG (c : List Int) (d set : Int) : Nat → Int
 | 0 => 0
 | k + 1 => if (k : Int) < d then IntKind.i64.wrap (lrG c d set k + IntKind.i64.wrap (c.getD k 0 * (shrW .i64 set k).tmod 2)) else if c.getD k 0 < 0 then IntKind.i64.wrap (lrG c d set k + c.getD k 0) else lrG c d set k
/-! #### the best, from behind -/
def cmb (s t : Bool × Int × Int) : Bool × Int × Int := if t.1 = true then (if (!s.1 || decide (s.2.2 < t.2.2)) = true then t else s) else s
def one (g : List Int) (x : Int) : Bool × Int × Int := (true, x, chosenW g x)
def e0 : Bool × Int × Int := (false, 0, 0)
def bestR (g xs : List Int) : Bool × Int × Int := xs.foldr (fun x s => cmb (one g x) s) e0
def plO (rows : List Rw) (m d : Nat) (s : Int) (out : List Stp) : List Stp := growN rows m (d + 1) s (out ++ [⟨d, (out.length + 1 : Nat), 0, none⟩])
def atW (rows : List Int) : Nat → Nat
 | 0 => 0
 | n + 1 => if atW rows n < rows.length ∧ rows.getD (atW rows n) 0 = n then atW rows n + 1 else atW rows n
def kpW (p : Pg) (rows : List Int) : Nat → List Rw
 | 0 => []
 | n + 1 => if atW rows n < rows.length ∧ rows.getD (atW rows n) 0 = n then kpW p rows n else kpW p rows n ++ [p.rows.getD n rw0]
/-! #### cut short -/
def cutR (n : Nat) (r : Rw) : Rw := ⟨r.kind, r.a, r.b, r.pl, r.coef.take n, r.most⟩
def fewP (p : Pg) : Pg := ⟨p.vars, (p.rows.take 20).map (cutR 13), p.gain.take 13⟩
def pg0 : Pg := ⟨0, [], []⟩
def encPs (l : List Pg) : List (List V) := l.map encPg
def encL (l : List (List Int)) : List (List V) := l.map fun x => [V.sl 1 (encI x)]
def okPg (p : Pg) : Prop := p.rows.length ≤ 20 ∧ p.gain.length ≤ 13 ∧ ∀ r ∈ p.rows, r.coef.length ≤ 13
theorem cellsI_mapL (g : Nat → Nat) : ∀ xs : List Int, V.mapL g (cellsI xs) = cellsI xs
 | [] => rfl
 | x :: xs => by simpa [cellsI, V.mapL, V.map] using cellsI_mapL g xs
theorem cellsI_domL (p q : Nat → Bool) : ∀ xs : List Int, V.domL p q (cellsI xs) = true
 | [] => rfl
 | x :: xs => by simpa [cellsI, V.domL, V.dom] using cellsI_domL p q xs
def smallB (p : Pg) : Bool := decide ((p.rows.length : Int) ≤ 12) && validB p
/-- What the first k rows of a list leave: the set, and the last row; none: the list is no set. -/
def tbG (n : Nat) (l : List Int) : Nat → Option (Int × Int)
 | 0 => some (0, -1)
 | k + 1 => (tbG n l k).bind fun s => if l.getD k 0 ≤ s.2 ∨ (n : Int) ≤ l.getD k 0 then none else some (bitsV .or .i64 s.1 (shlW .i64 1 (l.getD k 0)), l.getD k 0)
def tbW (n : Nat) (l : List Int) : Option Int := (tbG n l l.length).map (·.1)
theorem tbG_last {n : Nat} {l : List Int} : ∀ {k : Nat} {s : Int × Int}, tbG n l k = some s → -1 ≤ s.2 ∧ (s.2 < n ∨ s.2 = -1)
 | 0, s, h => by
  simp only [tbG, Option.some.injEq] at h
  subst h
  exact ⟨by omega, .inr rfl⟩
 | k + 1, s, h => by
  simp only [tbG] at h
  obtain ⟨t, ht, h⟩ := Option.bind_eq_some_iff.1 h
  obtain ⟨h1, h2⟩ := tbG_last ht
  split at h
  ·
   cases h
  ·
   rename_i hc
   simp only [not_or, Int.not_le] at hc
   simp only [Option.some.injEq] at h
   subst h
   exact ⟨by simp only; omega, .inl hc.2⟩
theorem tbG_yes {n : Nat} {l : List Int} {k : Nat} {o t : Int} (h : tbG n l k = some (o, t)) (h1 : t < l.getD k 0) (h2 : l.getD k 0 < n) : tbG n l (k + 1) = some (bitsV .or .i64 o (shlW .i64 1 (l.getD k 0)), l.getD k 0) := by
 simp only [tbG, h, Option.bind_some]
 rw [if_neg (by omega)]
theorem tbG_no {n : Nat} {l : List Int} {k : Nat} {o t : Int} (h : tbG n l k = some (o, t)) (h1 : l.getD k 0 ≤ t ∨ (n : Int) ≤ l.getD k 0) : tbG n l (k + 1) = none := by
 simp only [tbG, h, Option.bind_some]
 rw [if_pos h1]
def tbS (o : Option Int) : Int := o.getD 0
def tbI (o : Option Int) : Bool := o.isSome
theorem tbG_none {n : Nat} {l : List Int} {k : Nat} (h : tbG n l k = none) : ∀ j, tbG n l (k + j) = none
 | 0 => h
 | j + 1 => by
  have := tbG_none h j
  rw [← Nat.add_assoc]
  simp only [tbG, this, Option.bind_none]
theorem tbW_none {n : Nat} {l : List Int} {k : Nat} (hk : k ≤ l.length) (h : tbG n l k = none) : tbW n l = none := by
 have := tbG_none h (l.length - k)
 rw [show k + (l.length - k) = l.length by omega] at this
 simp [tbW, this]
def setN (l : List Int) : Nat := l.foldl (fun a r => a ||| 2 ^ r.toNat) 0
def setTo (l : List Int) (k : Nat) : Nat := setN (l.take k)
theorem setTo_succ {l : List Int} {k : Nat} (h : k < l.length) : setTo l (k + 1) = setTo l k ||| 2 ^ (l.getD k 0).toNat := by
 unfold setTo setN
 have e : l.take (k + 1) = l.take k ++ [l.getD k 0] := by
  rw [List.take_add_one]; simp [List.getD, h]
 rw [e, List.foldl_append]; rfl
theorem setTo_all (l : List Int) : setTo l l.length = setN l := by simp [setTo]
theorem setTo_lt {l : List Int} {n : Nat} (h : ∀ r ∈ l, 0 ≤ r ∧ r < (n : Int)) : ∀ k, setTo l k < 2 ^ n
 | 0 => by simp [setTo, setN, Nat.two_pow_pos]
 | k + 1 => by
  by_cases hk : k < l.length
  ·
   rw [setTo_succ hk]
   have hm := h (l.getD k 0) (getD_mem hk)
   exact Nat.or_lt_two_pow (setTo_lt h k) (Nat.pow_lt_pow_right (by omega) (by omega))
  ·
   have e : setTo l (k + 1) = setTo l k := by unfold setTo; rw [List.take_of_length_le (by omega), List.take_of_length_le (by omega)]
   rw [e]; exact setTo_lt h k
theorem or_step {a : Nat} {r : Int} (ha : a < 4096) (h0 : 0 ≤ r) (h1 : r < 12) : bitsV .or .i64 (a : Int) (shlW .i64 1 r) = ((a ||| 2 ^ r.toNat : Nat) : Int) := by
 obtain ⟨k, rfl⟩ := Int.eq_ofNat_of_zero_le h0
 have hk : k < 12 := by omega
 have hp : 2 ^ k < 65536 := Nat.lt_of_lt_of_le (Nat.pow_lt_pow_right (by omega) hk) (by decide)
 rw [shl1 (by omega), orN (by omega) hp]; rfl
def tab1 (p : Pg) : Nat → List Bool
 | 0 => List.replicate 4096 false
 | c + 1 => (tab1 p c).set (setN (brokenW p (c : Nat))) true
def clo (b : List Bool) (r : Nat) : Nat → List Bool
 | 0 => b
 | s + 1 => (clo b r s).set s ((clo b r s).getD s false || (s.testBit r && (clo b r s).getD (s - 2 ^ r) false))
def cloR (b : List Bool) (n : Nat) : Nat → List Bool
 | 0 => b
 | r + 1 => clo (cloR b n r) r (2 ^ n)
def tabW (p : Pg) : List Bool := cloR (tab1 p (2 ^ p.vars.toNat)) p.rows.length p.rows.length
theorem tab1_length (p : Pg) : ∀ c, (tab1 p c).length = 4096
 | 0 => List.length_replicate
 | c + 1 => by rw [tab1, List.length_set, tab1_length p c]
theorem clo_length (b : List Bool) (r : Nat) : ∀ s, (clo b r s).length = b.length
 | 0 => rfl
 | s + 1 => by rw [clo, List.length_set, clo_length b r s]
theorem cloR_length (b : List Bool) (n : Nat) : ∀ r, (cloR b n r).length = b.length
 | 0 => rfl
 | r + 1 => by rw [cloR, clo_length, cloR_length b n r]
theorem bit_lt {s n i : Nat} (hs : s < 2 ^ n) (hi : s.testBit i = true) : i < n := by
 rcases Nat.lt_or_ge i n with h | h
 ·
  exact h
 ·
  rw [Nat.testBit_lt_two_pow (Nat.lt_of_lt_of_le hs (Nat.pow_le_pow_right (by omega) h))] at hi; cases hi
theorem pow_4096 {n : Nat} (h : n ≤ 12) : 2 ^ n ≤ 4096 := Nat.pow_le_pow_right (n := 2) (by omega) h
/-- A set without one of its bits. -/
theorem testBit_drop {s r : Nat} (h : s.testBit r = true) (i : Nat) : (s - 2 ^ r).testBit i = (s.testBit i && !decide (i = r)) := by
 have hp := Nat.two_pow_pos r
 have e1 := Nat.div_add_mod s (2 ^ r)
 have hm := Nat.mod_lt s hp
 have ho : s / 2 ^ r % 2 = 1 := by
  have := Nat.testBit_eq_decide_div_mod_eq (x := s) (i := r)
  rw [this] at h; simpa using h
 generalize s / 2 ^ r = q at e1 ho
 generalize s % 2 ^ r = ρ at e1 hm
 obtain ⟨m, rfl⟩ : ∃ m, q = 2 * m + 1 := ⟨q / 2, by omega⟩
 have e2 : s - 2 ^ r = 2 ^ r * (2 * m) + ρ := by rw [← e1, Nat.mul_add]; omega
 rw [e2, ← e1, Nat.testBit_two_pow_mul_add _ hm, Nat.testBit_two_pow_mul_add _ hm]
 by_cases hi : i < r
 ·
  rw [if_pos hi, if_pos hi]
  have : i ≠ r := by omega
  simp [this]
 ·
  rw [if_neg hi, if_neg hi]
  rcases Nat.lt_or_ge r i with h2 | h2
  ·
   obtain ⟨k, rfl⟩ : ∃ k, i = r + (k + 1) := ⟨i - r - 1, by omega⟩
   have e3 : r + (k + 1) - r = k + 1 := by omega
   rw [e3, Nat.testBit_succ, Nat.testBit_succ]
   have e4 : 2 * m / 2 = m := by omega
   have e5 : (2 * m + 1) / 2 = m := by omega
   rw [e4, e5]
   simp
  ·
   have : i = r := by omega
   subst this
   simp
theorem testBit_or_pow (s r i : Nat) : (s ||| 2 ^ r).testBit i = (s.testBit i || decide (r = i)) := by
 rw [Nat.testBit_or, Nat.testBit_two_pow]
/-- What is said of a list as a set. -/
theorem foldl_bit : ∀ (l : List Int) (a i : Nat), (∀ x ∈ l, 0 ≤ x) → ((l.foldl (fun a r => a ||| 2 ^ r.toNat) a).testBit i = true ↔ a.testBit i = true ∨ (i : Int) ∈ l)
 | [], a, i, _ => by simp
 | x :: l, a, i, h => by
  have h0 := h x (by simp)
  rw [List.foldl_cons, foldl_bit l _ i (fun y hy => h y (by simp [hy])), testBit_or_pow]
  simp only [Bool.or_eq_true, decide_eq_true_eq, List.mem_cons]
  constructor
  ·
   rintro ((h1 | h1) | h1)
   ·
    exact .inl h1
   ·
    exact .inr (.inl (by omega))
   ·
    exact .inr (.inr h1)
  ·
   rintro (h1 | h1 | h1)
   ·
    exact .inl (.inl h1)
   ·
    exact .inl (.inr (by omega))
   ·
    exact .inr h1
theorem setN_bit {l : List Int} (h : ∀ x ∈ l, 0 ≤ x) (i : Nat) : (setN l).testBit i = true ↔ (i : Int) ∈ l := by
 unfold setN
 rw [foldl_bit l 0 i h]
 simp
/-- Row i is broken by choice c. -/
def brkS (p : Pg) (c i : Nat) : Bool := !keptB (p.rows.getD i rw0) (c : Int)
theorem broken_nn (p : Pg) (s : Int) : ∀ x ∈ brokenW p s, 0 ≤ x ∧ x < (p.rows.length : Int) := by
 intro x hx
 unfold brokenW at hx
 split at hx
 ·
  obtain ⟨k, rfl, hk, -⟩ := mem_brk.1 hx
  exact ⟨by omega, by omega⟩
 ·
  cases hx
theorem setN_brk {p : Pg} (hv : validB p = true) {v : Nat} (e : p.vars = v) {c : Nat} (hc : c < 2 ^ v) (i : Nat) : (setN (brokenW p c)).testBit i = true ↔ i < p.rows.length ∧ brkS p c i = true := by
 rw [setN_bit (fun x hx => (broken_nn p _ x hx).1), broken_in hv e hc, mem_brk]
 unfold brkS
 constructor
 ·
  rintro ⟨k, hk, hl, hb⟩
  have : i = k := by omega
  subst this
  exact ⟨hl, by simpa using hb⟩
 ·
  rintro ⟨hl, hb⟩
  exact ⟨i, rfl, hl, by simpa using hb⟩
theorem setN_lt {l : List Int} {n : Nat} (h : ∀ r ∈ l, 0 ≤ r ∧ r < (n : Int)) : setN l < 2 ^ n := by
 rw [← setTo_all]; exact setTo_lt h _
theorem getD_set_b (l : List Bool) (i j : Nat) (b : Bool) : (l.set i b).getD j false = if i = j ∧ j < l.length then b else l.getD j false := by
 simp only [List.getD_eq_getElem?_getD, List.getElem?_set]
 by_cases h : i = j
 ·
  subst h
  by_cases h2 : i < l.length
  ·
   simp [h2]
  ·
   have e := List.getElem?_eq_none (Nat.le_of_not_lt h2)
   simp [h2]
 ·
  simp [h]
theorem getD_rep (n s : Nat) : (List.replicate n false).getD s false = false := by
 rw [List.getD_eq_getElem?_getD, List.getElem?_replicate]; split <;> rfl
theorem tab1_spec {p : Pg} (hn : p.rows.length ≤ 12) {s : Nat} : ∀ c, ((tab1 p c).getD s false = true ↔ ∃ k, k < c ∧ setN (brokenW p k) = s)
 | 0 => by rw [tab1, getD_rep]; simp
 | c + 1 => by
  rw [tab1, getD_set_b, tab1_length]
  have hlt : setN (brokenW p c) < 4096 := Nat.lt_of_lt_of_le (setN_lt (broken_nn p c)) (pow_4096 hn)
  by_cases h : setN (brokenW p c) = s
  ·
   rw [if_pos ⟨h, by omega⟩]
   exact ⟨fun _ => ⟨c, by omega, h⟩, fun _ => rfl⟩
  ·
   rw [if_neg (fun hh => h hh.1), tab1_spec hn c]
   constructor
   ·
    rintro ⟨k, hk, e⟩; exact ⟨k, by omega, e⟩
   ·
    rintro ⟨k, hk, e⟩
    refine ⟨k, ?_, e⟩
    rcases Nat.lt_or_ge k c with h1 | h1
    ·
     exact h1
    ·
     have : k = c := by omega
     subst this; exact (h e).elim
theorem clo_ge (b : List Bool) (r : Nat) : ∀ {k s : Nat}, k ≤ s → (clo b r k).getD s false = b.getD s false
 | 0, s, _ => rfl
 | k + 1, s, h => by
  rw [clo, getD_set_b, if_neg (by omega), clo_ge b r (by omega)]
theorem clo_spec (b : List Bool) (r : Nat) : ∀ {k s : Nat}, s < k → k ≤ b.length → (clo b r k).getD s false = (b.getD s false || (s.testBit r && b.getD (s - 2 ^ r) false))
 | 0, s, h, _ => by omega
 | k + 1, s, h, hl => by
  rw [clo, getD_set_b, clo_length]
  by_cases he : k = s
  ·
   subst he
   rw [if_pos ⟨rfl, by omega⟩, clo_ge b r (Nat.le_refl _)]
   cases hb : k.testBit r with
   | false => simp
   | true =>
    have hp := Nat.two_pow_pos r
    have hge : 2 ^ r ≤ k := Nat.ge_two_pow_of_testBit hb
    rw [clo_spec b r (k := k) (s := k - 2 ^ r) (by omega) (by omega), testBit_drop hb]
    simp
  ·
   rw [if_neg (fun hh => he hh.1), clo_spec b r (by omega) (by omega)]
theorem cloR_spec {b : List Bool} {n : Nat} (hb : b.length = 4096) (hn : n ≤ 12) : ∀ (r : Nat), r ≤ n → ∀ {s : Nat}, s < 2 ^ n → ((cloR b n r).getD s false = true ↔ ∃ t, b.getD t false = true ∧ (∀ i, t.testBit i = true → s.testBit i = true) ∧ ∀ i, r ≤ i → s.testBit i = t.testBit i)
 | 0, _, s, hs => by
  constructor
  ·
   intro h; exact ⟨s, h, fun i h => h, fun i _ => rfl⟩
  ·
   rintro ⟨t, ht, -, h2⟩
   have : s = t := Nat.eq_of_testBit_eq fun i => h2 i (by omega)
   subst this; exact ht
 | r + 1, hr, s, hs => by
  have hpn : 2 ^ n ≤ 4096 := pow_4096 hn
  rw [cloR, clo_spec _ r hs (by rw [cloR_length, hb]; exact hpn), Bool.or_eq_true, Bool.and_eq_true, cloR_spec hb hn r (by omega) hs]
  constructor
  ·
   rintro (⟨t, h1, h2, h3⟩ | ⟨hbit, h⟩)
   ·
    exact ⟨t, h1, h2, fun i hi => h3 i (by omega)⟩
   ·
    obtain ⟨t, h1, h2, h3⟩ := (cloR_spec hb hn r (by omega) (s := s - 2 ^ r) (Nat.lt_of_le_of_lt (Nat.sub_le _ _) hs)).1 h
    refine ⟨t, h1, fun i hi => ?_, fun i hi => ?_⟩
    ·
     have := h2 i hi
     rw [testBit_drop hbit] at this
     simp only [Bool.and_eq_true] at this
     exact this.1
    ·
     have := h3 i (by omega)
     rw [testBit_drop hbit] at this
     have hne : i ≠ r := by omega
     simpa [hne] using this
  ·
   rintro ⟨t, h1, h2, h3⟩
   by_cases he : s.testBit r = t.testBit r
   ·
    refine .inl ⟨t, h1, h2, fun i hi => ?_⟩
    rcases Nat.lt_or_ge r i with h | h
    ·
     exact h3 i h
    ·
     have : i = r := by omega
     subst this; exact he
   ·
    have hsr : s.testBit r = true ∧ t.testBit r = false := by
     cases h4 : t.testBit r with
     | true => exact (he (by rw [h4]; exact h2 r h4)).elim
     | false => cases h5 : s.testBit r with
      | true => exact ⟨rfl, rfl⟩
      | false => exact (he (by rw [h4, h5])).elim
    refine .inr ⟨hsr.1, (cloR_spec hb hn r (by omega) (s := s - 2 ^ r) (Nat.lt_of_le_of_lt (Nat.sub_le _ _) hs)).2 ⟨t, h1, fun i hi => ?_, fun i hi => ?_⟩⟩
    ·
     rw [testBit_drop hsr.1, h2 i hi]
     have hne : i ≠ r := by intro e; subst e; rw [hsr.2] at hi; cases hi
     simp [hne]
    ·
     rw [testBit_drop hsr.1]
     by_cases hne : i = r
     ·
      subst hne; simp [hsr.2]
     ·
      rw [h3 i (by omega)]; simp [hne]
/-- Some choice breaks no other rows. -/
theorem tabW_spec {p : Pg} (hv : validB p = true) (hn : p.rows.length ≤ 12) {v : Nat} (e : p.vars = v) {s : Nat} (hs : s < 2 ^ p.rows.length) :
  (tabW p).getD s false = true ↔ ∃ c, c < 2 ^ v ∧ ∀ i, i < p.rows.length → brkS p c i = true → s.testBit i = true := by
 have ev : p.vars.toNat = v := by omega
 unfold tabW
 rw [ev, cloR_spec (tab1_length p _) hn _ (Nat.le_refl _) hs]
 constructor
 ·
  rintro ⟨t, h1, h2, h3⟩
  obtain ⟨c, hc, rfl⟩ := (tab1_spec hn _).1 h1
  exact ⟨c, hc, fun i hi hb => h2 i ((setN_brk hv e hc i).2 ⟨hi, hb⟩)⟩
 ·
  rintro ⟨c, hc, h⟩
  refine ⟨setN (brokenW p c), (tab1_spec hn _).2 ⟨c, hc, rfl⟩, fun i hi => ?_, fun i hi => ?_⟩
  ·
   obtain ⟨h1, h2⟩ := (setN_brk hv e hc i).1 hi
   exact h i h1 h2
  ·
   rw [Nat.testBit_lt_two_pow (Nat.lt_of_lt_of_le hs (Nat.pow_le_pow_right (by omega) hi)), Nat.testBit_lt_two_pow (Nat.lt_of_lt_of_le (setN_lt (broken_nn p c)) (Nat.pow_le_pow_right (by omega) hi))]
/-- A set of rows conflicts: every choice breaks one of them. -/
def confS (p : Pg) (s : Nat) : Bool := !(tabW p).getD (2 ^ p.rows.length - 1 - s) false
theorem compl_bit {n s : Nat} (hs : s < 2 ^ n) (i : Nat) : (2 ^ n - 1 - s).testBit i = (decide (i < n) && !s.testBit i) := by
 rw [show 2 ^ n - 1 - s = 2 ^ n - (s + 1) by omega]
 exact Nat.testBit_two_pow_sub_succ hs i
theorem confS_spec {p : Pg} (hv : validB p = true) (hn : p.rows.length ≤ 12) {v : Nat} (e : p.vars = v) {s : Nat} (hs : s < 2 ^ p.rows.length) :
  confS p s = true ↔ ∀ c, c < 2 ^ v → ∃ i, i < p.rows.length ∧ brkS p c i = true ∧ s.testBit i = true := by
 have hp := Nat.two_pow_pos p.rows.length
 unfold confS
 rw [Bool.not_eq_true', Bool.eq_false_iff, ne_eq, tabW_spec hv hn e (by omega)]
 constructor
 ·
  intro h c hc
  refine Classical.byContradiction fun h2 => h ⟨c, hc, fun i hi hb => ?_⟩
  rw [compl_bit hs]
  have : s.testBit i = false := by
   cases hsb : s.testBit i with
   | false => rfl
   | true => exact (h2 ⟨i, hi, hb, hsb⟩).elim
  simp [hi, this]
 ·
  rintro h ⟨c, hc, h2⟩
  obtain ⟨i, hi, hb, hsb⟩ := h c hc
  have := h2 i hi hb
  rw [compl_bit hs, hsb] at this
  simp at this
end Go.Proofs.YtfamkbofdamkkaaGreatDoor
namespace Go.Proofs.YtfamkbofdamkkaaGreatDoor
open Go.RowKit
/-- A set without a row. -/
def clrN (s r : Nat) : Nat := if s.testBit r then s - 2 ^ r else s
theorem testBit_clr (s r i : Nat) : (clrN s r).testBit i = (s.testBit i && !decide (i = r)) := by
 unfold clrN
 split
 ·
  rename_i h; exact testBit_drop h i
 ·
  rename_i h
  by_cases e : i = r
  ·
   subst e; simp [h]
  ·
   simp [e]
theorem nb_spec {s r : Nat} (hs : s < 4096) (hr : r < 12) : bitsV .and .i64 (shrW .i64 (s : Nat) (r : Nat)) 1 = (if s.testBit r then 1 else 0) ∧ bitsV .andNot .i64 (s : Nat) (shlW .i64 1 (r : Nat)) = ((clrN s r : Nat) : Int) := by
 constructor
 ·
  have hd : s / 2 ^ r ≤ s := Nat.div_le_self _ _
  rw [shrN (by omega), show (1 : Int) = ((1 : Nat) : Int) from rfl, andN (by omega) (by omega), Nat.and_one_is_mod, Nat.testBit_eq_decide_div_mod_eq]
  rcases Nat.mod_two_eq_zero_or_one (s / 2 ^ r) with h | h <;> simp [h]
 ·
  have hp : 2 ^ r < 65536 := Nat.lt_of_lt_of_le (Nat.pow_lt_pow_right (by omega) hr) (by decide)
  obtain ⟨K, h1, h2, h3⟩ := andNotN (a := s) (b := 2 ^ r) (by omega) hp
  rw [shl1 (by omega), h1]
  have : K = clrN s r := Nat.eq_of_testBit_eq fun i => by
   rw [h3, testBit_clr, Nat.testBit_two_pow]
   by_cases e : r = i
   ·
    subst e; simp
   ·
    have e2 : i ≠ r := fun h => e h.symm
    simp [e, e2]
  rw [this]
theorem compl_and {n s : Nat} (hn : n ≤ 12) (hs : s < 2 ^ n) : bitsV .andNot .i64 ((2 ^ n - 1 : Nat) : Int) (s : Nat) = ((2 ^ n - 1 - s : Nat) : Int) := by
 have hp := pow_4096 hn
 obtain ⟨K, h1, h2, h3⟩ := andNotN (a := 2 ^ n - 1) (b := s) (by omega) (by omega)
 rw [h1]
 have : K = 2 ^ n - 1 - s := Nat.eq_of_testBit_eq fun i => by
  rw [h3, compl_bit hs, Nat.testBit_two_pow_sub_one]
 rw [this]
theorem clo_step {b : List Bool} {r s : Nat} {x : Bool} (h : x = ((clo b r s).getD s false || (s.testBit r && (clo b r s).getD (clrN s r) false))) : (clo b r s).set s x = clo b r (s + 1) := by
 rw [clo, h]
 unfold clrN
 cases hb : s.testBit r <;> simp
set_option linter.unusedVariables false
set_option linter.unusedSimpArgs false
theorem smallB_spec {p : Pg} (h : smallB p = true) : p.rows.length ≤ 12 ∧ validB p = true := by
 unfold smallB at h
 simp only [Bool.and_eq_true, decide_eq_true_eq] at h
 exact ⟨by omega, h.2⟩
theorem u16_small {s : Nat} (h : s < 4096) : IntKind.u16.wrap (s : Int) = s := by
 simp only [IntKind.wrap, IntKind.signed, IntKind.bits]
 simp
 omega
theorem shl_pow {n : Nat} (h : n ≤ 12) : shlW .i64 1 (n : Nat) = ((2 ^ n : Nat) : Int) := by
 rw [shl1 (by omega)]
/-- The sets below k with a property, in order. -/
def setsT (q : Nat → Bool) : Nat → List (Fin 4096)
 | 0 => []
 | k + 1 => if h : k < 4096 then (if q k then setsT q k ++ [⟨k, h⟩] else setsT q k) else setsT q k
theorem setsT_t {q : Nat → Bool} {k : Nat} (hk : k < 4096) (h : q k = true) : setsT q (k + 1) = setsT q k ++ [⟨k, hk⟩] := by simp only [setsT, h, if_true, hk, dif_pos]
theorem setsT_f {q : Nat → Bool} {k : Nat} (h : q k = false) : setsT q (k + 1) = setsT q k := by simp only [setsT, h]; split <;> rfl
theorem setsT_length (q : Nat → Bool) : ∀ k, (setsT q k).length ≤ k
 | 0 => Nat.le_refl _
 | k + 1 => by
  have := setsT_length q k
  simp only [setsT]
  split
  ·
   split
   ·
    simp; omega
   ·
    omega
  ·
   omega
theorem setsT_mem {q : Nat → Bool} {x : Fin 4096} : ∀ {k : Nat}, x ∈ setsT q k ↔ x.val < k ∧ q x.val = true
 | 0 => by simp [setsT]
 | k + 1 => by
  have hx := x.isLt
  by_cases hk : k < 4096
  ·
   cases h : q k with
   | true =>
    rw [setsT_t hk h, List.mem_append, setsT_mem, List.mem_singleton]
    constructor
    ·
     rintro (⟨hs, hq⟩ | e)
     ·
      exact ⟨by omega, hq⟩
     ·
      subst e; exact ⟨by simp, h⟩
    ·
     rintro ⟨hs, hq⟩
     rcases Nat.lt_or_ge x.val k with h1 | h1
     ·
      exact .inl ⟨h1, hq⟩
     ·
      exact .inr (Fin.ext (by simp only; omega))
   | false =>
    rw [setsT_f h, setsT_mem]
    constructor
    ·
     rintro ⟨hs, hq⟩
     exact ⟨by omega, hq⟩
    ·
     rintro ⟨hs, hq⟩
     rcases Nat.lt_or_ge x.val k with h1 | h1
     ·
      exact ⟨h1, hq⟩
     ·
      have : x.val = k := by omega
      rw [this, h] at hq; cases hq
  ·
   simp only [setsT, hk, dif_neg, not_false_eq_true]
   rw [setsT_mem]
   constructor
   ·
    rintro ⟨hs, hq⟩; exact ⟨by omega, hq⟩
   ·
    rintro ⟨hs, hq⟩; exact ⟨by omega, hq⟩
def evS (s : Fin 4096) : Value := .int .i64 ((s.val : Nat) : Int)
def enS (s : Fin 4096) : V := .int .i64 ((s.val : Nat) : Int)
theorem enok_S : EnOK evS enS := ⟨fun x y h => by unfold evS at h; injection h with _ h; exact Fin.ext (by omega), fun x w O ι ρ nx c y h => by unfold enS at h; cases h; rfl, fun x w O ι ρ nx c => .int ..⟩
theorem enS_uptoL (n : Nat) : ∀ l : List (Fin 4096), V.uptoL n (l.map enS) = true
 | [] => rfl
 | x :: l => by simp [V.uptoL, V.upto, enS, enS_uptoL n l]
/-- One step of the search for the least set. -/
def lstB (st : Nat × Bool) (x : Nat) : Bool := !st.2 || (decide ((popN x : Int) < (popN st.1 : Int)) || (decide ((popN x : Int) = (popN st.1 : Int)) && decide ((rvN st.1 : Int) < (rvN x : Int))))
def lstS (st : Nat × Bool) (x : Fin 4096) : Nat × Bool := if lstB st x.val then (x.val, true) else st
def lstW (xs : List (Fin 4096)) : Nat × Bool := xs.foldl lstS (0, false)
theorem lstW_snoc (xs : List (Fin 4096)) (x : Fin 4096) : lstW (xs ++ [x]) = lstS (lstW xs) x := by simp [lstW]
theorem lstS_t {st : Nat × Bool} {x : Fin 4096} (h : lstB st x.val = true) : lstS st x = (x.val, true) := by simp [lstS, h]
theorem lstS_f {st : Nat × Bool} {x : Fin 4096} (h : lstB st x.val = false) : lstS st x = st := by simp [lstS, h]
theorem lstB_t {st : Nat × Bool} {x : Nat} (h : (st.2 = false ∨ (popN x : Int) < (popN st.1 : Int)) ∨ (popN x : Int) = (popN st.1 : Int) ∧ (rvN st.1 : Int) < (rvN x : Int)) : lstB st x = true := by
 unfold lstB
 rcases h with (h | h) | ⟨h1, h2⟩
 ·
  rw [h]; rfl
 ·
  rw [decide_eq_true h]; simp
 ·
  rw [decide_eq_true h1, decide_eq_true h2]; simp
theorem lstB_f {st : Nat × Bool} {x : Nat} (h : (st.2 = true ∧ ¬ (popN x : Int) < (popN st.1 : Int)) ∧ (¬ (popN x : Int) = (popN st.1 : Int) ∨ ¬ (rvN st.1 : Int) < (rvN x : Int))) : lstB st x = false := by
 unfold lstB
 obtain ⟨⟨h1, h2⟩, h3⟩ := h
 rw [h1, decide_eq_false h2]
 rcases h3 with h3 | h3
 ·
  rw [decide_eq_false h3]; rfl
 ·
  rw [decide_eq_false h3]; simp
theorem lstW_lt (xs : List (Fin 4096)) : (lstW xs).1 < 4096 := by
 suffices ∀ (xs : List (Fin 4096)) (st : Nat × Bool), st.1 < 4096 → (xs.foldl lstS st).1 < 4096 by exact this xs _ (by decide)
 intro xs
 induction xs with
 | nil => exact fun st h => h
 | cons x xs ih =>
  intro st h1
  rw [List.foldl_cons]
  refine ih _ ?_
  unfold lstS
  split
  ·
   exact x.isLt
  ·
   exact h1
def coreL (p : Pg) : List Int := rowsN (lstW (setsT (confS p) (2 ^ p.rows.length))).1
def repS (p : Pg) (s : Nat) : Bool := (tabW p).getD s false
def repL (p : Pg) : List Int := rowsN (lstW (setsT (repS p) (2 ^ p.rows.length))).1
/-- Rows left out of a conflict, one after the other. -/
def shrG (p : Pg) (l : List Int) (s : Nat) : Nat → Nat
 | 0 => s
 | k + 1 => if confS p (clrN (shrG p l s k) (l.getD k 0).toNat) then clrN (shrG p l s k) (l.getD k 0).toNat else shrG p l s k
theorem clrN_le (s r : Nat) : clrN s r ≤ s := by
 unfold clrN; split
 ·
  exact Nat.sub_le _ _
 ·
  exact Nat.le_refl _
theorem shrG_le (p : Pg) (l : List Int) (s : Nat) : ∀ k, shrG p l s k ≤ s
 | 0 => Nat.le_refl _
 | k + 1 => by
  have := shrG_le p l s k
  have h2 := clrN_le (shrG p l s k) (l.getD k 0).toNat
  simp only [shrG]; split <;> omega
theorem shrG_t {p : Pg} {l : List Int} {s k : Nat} (h : confS p (clrN (shrG p l s k) (l.getD k 0).toNat) = true) : shrG p l s (k + 1) = clrN (shrG p l s k) (l.getD k 0).toNat := by simp only [shrG, h, if_true]
theorem shrG_f {p : Pg} {l : List Int} {s k : Nat} (h : confS p (clrN (shrG p l s k) (l.getD k 0).toNat) = false) : shrG p l s (k + 1) = shrG p l s k := by simp only [shrG, h]; rfl
theorem cellsB_rep (n : Nat) : cellsB (List.replicate n false) = List.replicate n (V.bool false) := by simp [cellsB]
theorem brk_len (p : Pg) (s : Int) : (brokenW p s).length ≤ p.rows.length := by
 unfold brokenW; split
 ·
  exact brkTo_length p s _
 ·
  simp
theorem tabW_length (p : Pg) : (tabW p).length = 4096 := by unfold tabW; rw [cloR_length, tab1_length]
theorem vars_nat {p : Pg} {v : Nat} (e : p.vars = v) : p.vars.toNat = v := by omega
/-- What toBits says. -/
theorem tbG_spec {n : Nat} (hn : n ≤ 12) {l : List Int} : ∀ {k : Nat} {s : Int × Int}, k ≤ l.length → tbG n l k = some s → s.1 = ((setTo l k : Nat) : Int) ∧ (∀ i, i < k → 0 ≤ l.getD i 0 ∧ l.getD i 0 < n ∧ l.getD i 0 ≤ s.2) ∧ (∀ i j, i < j → j < k → l.getD i 0 < l.getD j 0) ∧ -1 ≤ s.2
 | 0, s, _, h => by
  simp only [tbG, Option.some.injEq] at h
  subst h
  exact ⟨rfl, fun i hi => by omega, fun i j hi hj => by omega, by omega⟩
 | k + 1, s, hk, h => by
  simp only [tbG] at h
  obtain ⟨t, ht, h⟩ := Option.bind_eq_some_iff.1 h
  obtain ⟨h1, h2, h3, h4⟩ := tbG_spec hn (by omega) ht
  split at h
  ·
   cases h
  ·
   rename_i hc
   simp only [not_or, Int.not_le] at hc
   simp only [Option.some.injEq] at h
   subst h
   have hlt : setTo l k < 4096 := by
    have : ∀ r ∈ l.take k, 0 ≤ r ∧ r < (n : Int) := fun r hr => by
     obtain ⟨i, hi, rfl⟩ := List.getElem_of_mem hr
     have hi2 : i < k := by simp at hi; omega
     have := h2 i hi2
     simp only [List.getElem_take]
     simp [List.getD, show i < l.length by omega] at this
     omega
    exact Nat.lt_of_lt_of_le (setN_lt this) (pow_4096 hn)
   refine ⟨?_, fun i hi => ?_, fun i j hi hj => ?_, by simp only; omega⟩
   ·
    simp only
    rw [h1, or_step hlt (by omega) (by omega), setTo_succ (by omega)]
   ·
    rcases Nat.lt_or_ge i k with h5 | h5
    ·
     have := h2 i h5
     exact ⟨this.1, this.2.1, by simp only; omega⟩
    ·
     have : i = k := by omega
     subst this
     exact ⟨by omega, hc.2, Int.le_refl _⟩
   ·
    rcases Nat.lt_or_ge j k with h5 | h5
    ·
     exact h3 i j hi h5
    ·
     have : j = k := by omega
     subst this
     have := h2 i hi
     omega
theorem mem_rowsN {s : Nat} {x : Int} : x ∈ rowsN s ↔ ∃ i : Nat, x = i ∧ i < 12 ∧ s.testBit i = true := by
 unfold rowsN
 rw [List.mem_map]
 constructor
 ·
  rintro ⟨i, hi, rfl⟩
  rw [List.mem_filter, List.mem_range] at hi
  exact ⟨i, rfl, hi.1, hi.2⟩
 ·
  rintro ⟨i, rfl, h1, h2⟩
  exact ⟨i, by rw [List.mem_filter, List.mem_range]; exact ⟨h1, h2⟩, rfl⟩
theorem rowsN_pair (s : Nat) : (rowsN s).Pairwise (· < ·) := by
 unfold rowsN
 rw [List.pairwise_map]
 refine List.Pairwise.filter _ ?_
 refine List.Pairwise.imp (R := (· < ·)) (fun h => by omega) List.pairwise_lt_range
theorem pair_ext : ∀ {a b : List Int}, a.Pairwise (· < ·) → b.Pairwise (· < ·) → (∀ x, x ∈ a ↔ x ∈ b) → a = b
 | [], [], _, _, _ => rfl
 | [], y :: b, _, _, h => by have := (h y).2 (by simp); cases this
 | x :: a, [], _, _, h => by have := (h x).1 (by simp); cases this
 | x :: a, y :: b, ha, hb, h => by
  rw [List.pairwise_cons] at ha hb
  have e : x = y := by
   have h1 := (h x).1 (by simp)
   have h2 := (h y).2 (by simp)
   rcases List.mem_cons.1 h1 with h1 | h1
   ·
    exact h1
   ·
    rcases List.mem_cons.1 h2 with h2 | h2
    ·
     exact h2.symm
    ·
     have := ha.1 y h2
     have := hb.1 x h1
     omega
  subst e
  rw [pair_ext ha.2 hb.2]
  intro z
  have hz := h z
  rw [List.mem_cons, List.mem_cons] at hz
  constructor
  ·
   intro h1
   rcases hz.1 (.inr h1) with h2 | h2
   ·
    subst h2; have := ha.1 z h1; omega
   ·
    exact h2
  ·
   intro h1
   rcases hz.2 (.inr h1) with h2 | h2
   ·
    subst h2; have := hb.1 z h1; omega
   ·
    exact h2
theorem rowsN_setN {l : List Int} {n : Nat} (hn : n ≤ 12) (h : ∀ x ∈ l, 0 ≤ x ∧ x < (n : Int)) (hp : l.Pairwise (· < ·)) : rowsN (setN l) = l := by
 refine pair_ext (rowsN_pair _) hp fun x => ?_
 rw [mem_rowsN]
 constructor
 ·
  rintro ⟨i, rfl, hi, hb⟩
  exact (setN_bit (fun x hx => (h x hx).1) i).1 hb
 ·
  intro hx
  obtain ⟨h1, h2⟩ := h x hx
  obtain ⟨i, rfl⟩ := Int.eq_ofNat_of_zero_le h1
  exact ⟨i, rfl, by omega, (setN_bit (fun x hx => (h x hx).1) i).2 hx⟩
theorem setN_rowsN {s : Nat} (h : s < 4096) : setN (rowsN s) = s := by
 refine Nat.eq_of_testBit_eq fun i => ?_
 have h1 := setN_bit (l := rowsN s) (fun x hx => by obtain ⟨i, rfl, _⟩ := mem_rowsN.1 hx; omega) i
 rw [mem_rowsN] at h1
 cases hb : s.testBit i with
 | true =>
  have : i < 12 := bit_lt (n := 12) h hb
  exact h1.2 ⟨i, rfl, this, hb⟩
 | false =>
  cases hb2 : (setN (rowsN s)).testBit i with
  | false => rfl
  | true =>
   obtain ⟨j, e, hj, hb3⟩ := h1.1 hb2
   have : i = j := by omega
   subst this
   rw [hb] at hb3; cases hb3
theorem tbW_some {n : Nat} (hn : n ≤ 12) {l : List Int} {o : Int} (h : tbW n l = some o) : ∃ s : Nat, o = s ∧ s < 2 ^ n ∧ l = rowsN s := by
 unfold tbW at h
 obtain ⟨t, ht, rfl⟩ := Option.map_eq_some_iff.1 h
 obtain ⟨h1, h2, h3, -⟩ := tbG_spec hn (Nat.le_refl _) ht
 rw [setTo_all] at h1
 have hm : ∀ x ∈ l, 0 ≤ x ∧ x < (n : Int) := fun x hx => by
  obtain ⟨i, hi, rfl⟩ := mem_getD.1 hx
  have := h2 i hi
  omega
 have hp : l.Pairwise (· < ·) := by
  rw [List.pairwise_iff_getElem]
  intro i j hi hj hij
  have := h3 i j hij hj
  simpa [List.getD, hi, hj] using this
 exact ⟨setN l, h1, setN_lt hm, (rowsN_setN hn hm hp).symm⟩
theorem tbW_rows {n : Nat} (hn : n ≤ 12) {s : Nat} (hs : s < 2 ^ n) : tbW n (rowsN s) = some (s : Int) := by
 have hs2 : s < 4096 := Nat.lt_of_lt_of_le hs (pow_4096 hn)
 have hm : ∀ x ∈ rowsN s, 0 ≤ x ∧ x < (n : Int) := fun x hx => by
  obtain ⟨i, rfl, -, hb⟩ := mem_rowsN.1 hx
  have := bit_lt hs hb
  omega
 have hg : ∀ k, k ≤ (rowsN s).length → ∃ o t, tbG n (rowsN s) k = some (o, t) ∧ ∀ j, k ≤ j → j < (rowsN s).length → t < (rowsN s).getD j 0 := by
  intro k
  induction k with
  | zero => exact fun _ => ⟨0, -1, rfl, fun j _ hj => by have := hm _ (getD_mem (d := 0) hj); omega⟩
  | succ k ih =>
   intro hk
   obtain ⟨o, t, h1, h2⟩ := ih (by omega)
   have hkm := hm _ (getD_mem (d := 0) (show k < (rowsN s).length by omega))
   refine ⟨_, _, tbG_yes h1 (h2 k (Nat.le_refl _) (by omega)) hkm.2, fun j hj hl => ?_⟩
   have := (List.pairwise_iff_getElem.1 (rowsN_pair s)) k j (by omega) hl (by omega)
   simpa [List.getD, hl, show k < (rowsN s).length by omega] using this
 obtain ⟨o, t, h, -⟩ := hg _ (Nat.le_refl _)
 have ht : tbW n (rowsN s) = some o := by simp [tbW, h]
 obtain ⟨s2, e, h2, h3⟩ := tbW_some hn ht
 have : s2 = s := by
  rw [← setN_rowsN (Nat.lt_of_lt_of_le h2 (pow_4096 hn)), ← h3, setN_rowsN hs2]
 rw [ht, e, this]
def cnfB (p : Pg) (l : List Int) : Bool := (smallB p && tbI (tbW p.rows.length l)) && confS p (tbS (tbW p.rows.length l)).toNat
theorem tb_nat {n : Nat} {l : List Int} (hn : n ≤ 12) (h : tbI (tbW n l) = true) : ∃ s : Nat, tbW n l = some (s : Int) ∧ s < 2 ^ n ∧ l = rowsN s := by
 unfold tbI at h
 obtain ⟨o, ho⟩ := Option.isSome_iff_exists.1 h
 obtain ⟨s, rfl, h1, h2⟩ := tbW_some hn ho
 exact ⟨s, ho, h1, h2⟩
theorem cnf_spec {p : Pg} {l : List Int} (h : cnfB p l = true) : smallB p = true ∧ ∃ s : Nat, tbW p.rows.length l = some (s : Int) ∧ s < 2 ^ p.rows.length ∧ l = rowsN s ∧ confS p s = true := by
 unfold cnfB at h
 simp only [Bool.and_eq_true] at h
 obtain ⟨⟨h1, h2⟩, h3⟩ := h
 obtain ⟨s, hs, h4, h5⟩ := tb_nat (smallB_spec h1).1 h2
 refine ⟨h1, s, hs, h4, h5, ?_⟩
 rw [hs] at h3
 simpa [tbS] using h3
theorem cnf_no {p : Pg} {l : List Int} (h : cnfB p l = false) (h1 : smallB p = true) (h2 : tbI (tbW p.rows.length l) = true) : confS p (tbS (tbW p.rows.length l)).toNat = false := by
 unfold cnfB at h
 rw [h1, h2] at h
 simpa using h
theorem rows_at {s n : Nat} (hs : s < 2 ^ n) (hn : n ≤ 12) {k : Nat} (hk : k < (rowsN s).length) : ∃ r : Nat, (rowsN s).getD k 0 = (r : Int) ∧ r < n ∧ s.testBit r = true := by
 obtain ⟨i, e, h1, h2⟩ := mem_rowsN.1 (getD_mem (d := 0) hk)
 exact ⟨i, e, bit_lt hs h2, h2⟩
def minB (p : Pg) (l : List Int) : Bool := cnfB p l && (List.range l.length).all fun k => !confS p (clrN (tbS (tbW p.rows.length l)).toNat (l.getD k 0).toNat)
theorem min_yes {p : Pg} {l : List Int} {s : Nat} (hc : cnfB p l = true) (ht : tbW p.rows.length l = some (s : Int)) (h : ∀ k, k < l.length → confS p (clrN s (l.getD k 0).toNat) = false) : minB p l = true := by
 unfold minB
 rw [hc, ht, Bool.true_and, List.all_eq_true]
 intro k hk
 rw [List.mem_range] at hk
 simpa [tbS] using h k hk
theorem min_no {p : Pg} {l : List Int} {s k : Nat} (ht : tbW p.rows.length l = some (s : Int)) (hk : k < l.length) (h : confS p (clrN s (l.getD k 0).toNat) = true) : minB p l = false := by
 unfold minB
 rw [Bool.and_eq_false_iff]
 refine .inr ?_
 rw [List.all_eq_false]
 refine ⟨k, List.mem_range.2 hk, ?_⟩
 rw [ht]
 simpa [tbS] using h
theorem min_none {p : Pg} {l : List Int} (h : cnfB p l = false) : minB p l = false := by unfold minB; rw [h]; rfl
theorem clr_lt {s n r : Nat} (h : s < 2 ^ n) : clrN s r < 2 ^ n := Nat.lt_of_le_of_lt (clrN_le s r) h
/-- What Shrink answers. -/
def shrV (p : Pg) (l : List Int) : List V := if cnfB p l then [.sl 1 (encI (rowsN (shrG p l (tbS (tbW p.rows.length l)).toNat l.length))), .int .i64 0] else [.nsl, .int .i64 270]
theorem shr_yes {p : Pg} {l : List Int} {s : Nat} (h : cnfB p l = true) (ht : tbW p.rows.length l = some (s : Int)) : shrV p l = [.sl 1 (encI (rowsN (shrG p l s l.length))), .int .i64 0] := by
 unfold shrV; rw [if_pos h, ht]; simp [tbS]
theorem shr_no {p : Pg} {l : List Int} (h : cnfB p l = false) : shrV p l = [.nsl, .int .i64 270] := by
 unfold shrV; rw [if_neg (by simp [h])]
def coreV (p : Pg) : List V := if smallB p then [.sl 1 (encI (coreL p)), .int .i64 0] else [.nsl, .int .i64 270]
def repV (p : Pg) : List V := if smallB p then [.sl 1 (encI (repL p)), .int .i64 0] else [.nsl, .int .i64 270]
/-- s is a part of t. -/
def subS (s t : Nat) : Prop := ∀ i, s.testBit i = true → t.testBit i = true
theorem subS_clr (s r : Nat) : subS (clrN s r) s := fun i h => by
  rw [testBit_clr] at h
  simp only [Bool.and_eq_true] at h
  exact h.1
theorem subS_trans {a b c : Nat} (h : subS a b) (k : subS b c) : subS a c := fun i hi => k i (h i hi)
theorem subS_refl (a : Nat) : subS a a := fun i hi => hi
theorem clr_mono {s t : Nat} (h : subS s t) (r : Nat) : subS (clrN s r) (clrN t r) := fun i hi => by
  rw [testBit_clr] at hi ⊢
  simp only [Bool.and_eq_true] at hi ⊢
  exact ⟨h i hi.1, hi.2⟩
theorem filter_len_le {p q : Nat → Bool} (h : ∀ i, p i = true → q i = true) : ∀ l : List Nat, (l.filter p).length ≤ (l.filter q).length
  | [] => Nat.le_refl _
  | x :: l => by
    have := filter_len_le h l
    rw [List.filter_cons, List.filter_cons]
    cases hp : p x with
    | true => rw [h x hp]; simpa using this
    | false => cases q x <;> simp <;> omega
theorem filter_len_lt {p q : Nat → Bool} (h : ∀ i, p i = true → q i = true) {x : Nat} (hp : p x = false) (hq : q x = true) : ∀ l : List Nat, x ∈ l → (l.filter p).length < (l.filter q).length
  | y :: l, hx => by
    rw [List.filter_cons, List.filter_cons]
    have hle := filter_len_le h l
    by_cases e : x = y
    · subst e
      rw [hp, hq]
      simp; omega
    · have := filter_len_lt h hp hq l (by simpa [e] using hx)
      cases hpy : p y with
      | true => rw [h y hpy]; simpa using this
      | false => cases q y <;> simp <;> omega
theorem popN_lt {s t r : Nat} (h : subS s t) (hr : r < 12) (h1 : s.testBit r = false) (h2 : t.testBit r = true) : popN s < popN t :=
  filter_len_lt h h1 h2 _ (List.mem_range.2 hr)
theorem popN_0 {s : Nat} (hs : s < 4096) : popN s = 0 ↔ s = 0 := by
  constructor
  · intro h
    refine Nat.eq_of_testBit_eq fun i => ?_
    rw [Nat.zero_testBit]
    cases hb : s.testBit i with
    | false => rfl
    | true =>
      have hi : i < 12 := bit_lt (n := 12) hs hb
      have : i ∈ (List.range 12).filter fun i => s.testBit i := by rw [List.mem_filter]; exact ⟨List.mem_range.2 hi, hb⟩
      unfold popN at h
      rw [List.length_eq_zero_iff] at h
      rw [h] at this; cases this
  · rintro rfl; decide
section
variable {p : Pg} (hv : validB p = true) (hn : p.rows.length ≤ 12) {v : Nat} (e : p.vars = v)
include hv hn e
theorem conf_mono {s t : Nat} (hs : s < 2 ^ p.rows.length) (ht : t < 2 ^ p.rows.length) (h : subS s t) (hc : confS p s = true) : confS p t = true := by
  rw [confS_spec hv hn e ht]
  intro c hcc
  obtain ⟨i, h1, h2, h3⟩ := (confS_spec hv hn e hs).1 hc c hcc
  exact ⟨i, h1, h2, h i h3⟩
theorem conf_0 : confS p 0 = false := by
  cases h : confS p 0 with
  | false => rfl
  | true =>
    obtain ⟨i, _, _, h3⟩ := (confS_spec hv hn e (Nat.two_pow_pos _)).1 h 0 (Nat.two_pow_pos _)
    simp at h3
theorem rep_spec {s : Nat} (hs : s < 2 ^ p.rows.length) : repS p s = true ↔ ∃ c, c < 2 ^ v ∧ ∀ i, i < p.rows.length → brkS p c i = true → s.testBit i = true := tabW_spec hv hn e hs
end
/-- The least of some sets. -/
theorem lst_fold : ∀ (xs : List (Fin 4096)) (st : Nat × Bool), st.1 < 4096 → (st.2 = false → st.1 = 0) → xs ≠ [] ∨ st.2 = true →
    (xs.foldl lstS st).2 = true ∧ ((xs.foldl lstS st).1 = st.1 ∧ st.2 = true ∨ ∃ x ∈ xs, (xs.foldl lstS st).1 = x.val) ∧
    ∀ y, ((∃ x ∈ xs, y = x.val) ∨ (st.2 = true ∧ y = st.1)) → popN (xs.foldl lstS st).1 ≤ popN y ∧ (popN (xs.foldl lstS st).1 = popN y → rvN y ≤ rvN (xs.foldl lstS st).1)
  | [], st, h1, h0, h => by
    have hst : st.2 = true := h.resolve_left (fun h => h rfl)
    refine ⟨hst, .inl ⟨rfl, hst⟩, ?_⟩
    rintro y (⟨x, hx, _⟩ | ⟨_, rfl⟩)
    · cases hx
    · exact ⟨Nat.le_refl _, fun _ => Nat.le_refl _⟩
  | x :: xs, st, h1, h0, _ => by
    rw [List.foldl_cons]
    cases hb : lstB st x.val with
    | true =>
      rw [lstS_t hb]
      obtain ⟨q1, q2, q3⟩ := lst_fold xs (x.val, true) x.isLt (fun h => by cases h) (.inr rfl)
      refine ⟨q1, .inr ?_, ?_⟩
      · rcases q2 with ⟨q2, -⟩ | ⟨z, hz, q2⟩
        · exact ⟨x, by simp, q2⟩
        · exact ⟨z, by simp [hz], q2⟩
      · rintro y (⟨z, hz, rfl⟩ | ⟨hst, rfl⟩)
        · rcases List.mem_cons.1 hz with rfl | hz
          · exact q3 _ (.inr ⟨rfl, rfl⟩)
          · exact q3 _ (.inl ⟨z, hz, rfl⟩)
        · obtain ⟨a1, a2⟩ := q3 x.val (.inr ⟨rfl, rfl⟩)
          unfold lstB at hb
          simp only [hst, Bool.not_true, Bool.false_or, Bool.or_eq_true, Bool.and_eq_true, decide_eq_true_eq] at hb
          rcases hb with hb | ⟨hb1, hb2⟩
          · exact ⟨by omega, fun h => by omega⟩
          · exact ⟨by omega, fun h => by have := a2 (by omega); omega⟩
    | false =>
      rw [lstS_f hb]
      have hst : st.2 = true := by
        cases h : st.2 with
        | true => rfl
        | false => unfold lstB at hb; rw [h] at hb; simp at hb
      obtain ⟨q1, q2, q3⟩ := lst_fold xs st h1 h0 (.inr hst)
      refine ⟨q1, ?_, ?_⟩
      · rcases q2 with q2 | ⟨z, hz, q2⟩
        · exact .inl q2
        · exact .inr ⟨z, by simp [hz], q2⟩
      · rintro y (⟨z, hz, rfl⟩ | ⟨hst, rfl⟩)
        · rcases List.mem_cons.1 hz with rfl | hz
          · obtain ⟨a1, a2⟩ := q3 st.1 (.inr ⟨hst, rfl⟩)
            unfold lstB at hb
            simp only [hst, Bool.not_true, Bool.false_or, Bool.or_eq_false_iff, Bool.and_eq_false_iff, decide_eq_false_iff_not] at hb
            obtain ⟨hb1, hb2⟩ := hb
            refine ⟨by omega, fun h => ?_⟩
            rcases hb2 with hb2 | hb2
            · omega
            · have := a2 (by omega); omega
          · exact q3 _ (.inl ⟨z, hz, rfl⟩)
        · exact q3 _ (.inr ⟨hst, rfl⟩)
/-- The least set with a property, among those below 2^n: if there is one. -/
theorem lst_spec {q : Nat → Bool} {n : Nat} (hn : n ≤ 12) {s : Nat} (hs : s < 2 ^ n) (hq : q s = true) :
    (lstW (setsT q (2 ^ n))).1 < 2 ^ n ∧ q (lstW (setsT q (2 ^ n))).1 = true ∧ ∀ t, t < 2 ^ n → q t = true → popN (lstW (setsT q (2 ^ n))).1 ≤ popN t ∧ (popN (lstW (setsT q (2 ^ n))).1 = popN t → rvN t ≤ rvN (lstW (setsT q (2 ^ n))).1) := by
  have hp := pow_4096 hn
  have hm : (⟨s, by omega⟩ : Fin 4096) ∈ setsT q (2 ^ n) := setsT_mem.2 ⟨hs, hq⟩
  obtain ⟨q1, q2, q3⟩ := lst_fold (setsT q (2 ^ n)) (0, false) (by decide) (fun _ => rfl) (.inl (fun h => by rw [h] at hm; cases hm))
  rcases q2 with ⟨_, h⟩ | ⟨x, hx, q2⟩
  · cases h
  · obtain ⟨h1, h2⟩ := setsT_mem.1 hx
    have e : (lstW (setsT q (2 ^ n))).1 = x.val := q2
    refine ⟨by rw [e]; exact h1, by rw [e]; exact h2, fun t ht hqt => ?_⟩
    exact q3 t (.inl ⟨⟨t, by omega⟩, setsT_mem.2 ⟨ht, hqt⟩, rfl⟩)
/-- If there is none, the answer is the empty set. -/
theorem lst_none {q : Nat → Bool} {k : Nat} (h : ∀ s, s < k → q s = false) : (lstW (setsT q k)).1 = 0 := by
  have : setsT q k = [] := by
    cases hl : setsT q k with
    | nil => rfl
    | cons x l =>
      have hm : x ∈ setsT q k := by rw [hl]; simp
      obtain ⟨h1, h2⟩ := setsT_mem.1 hm
      rw [h x.val h1] at h2; cases h2
  rw [this]; rfl
/-! #### the shrunk conflict -/
theorem shrG_sub (p : Pg) (l : List Int) (s : Nat) : ∀ {j k : Nat}, j ≤ k → subS (shrG p l s k) (shrG p l s j)
  | j, 0, h => by have : j = 0 := by omega
                  subst this; exact subS_refl _
  | j, k + 1, h => by
    rcases Nat.lt_or_ge k j with h1 | h1
    · have : j = k + 1 := by omega
      subst this; exact subS_refl _
    · refine subS_trans ?_ (shrG_sub p l s h1)
      simp only [shrG]; split
      · exact subS_clr _ _
      · exact subS_refl _
theorem shrG_conf {p : Pg} {l : List Int} {s : Nat} (h : confS p s = true) : ∀ k, confS p (shrG p l s k) = true
  | 0 => h
  | k + 1 => by
    simp only [shrG]; split
    · assumption
    · exact shrG_conf h k
theorem shrG_min {p : Pg} (hv : validB p = true) (hn : p.rows.length ≤ 12) {v : Nat} (e : p.vars = v) {l : List Int} {s : Nat} (hs : s < 2 ^ p.rows.length) {j : Nat} (hj : j < l.length)
    (hb : (shrG p l s l.length).testBit (l.getD j 0).toNat = true) : confS p (clrN (shrG p l s l.length) (l.getD j 0).toNat) = false := by
  have hsub := shrG_sub p l s (j := j + 1) (k := l.length) (by omega)
  have hb2 := hsub _ hb
  have hlt : ∀ k, shrG p l s k < 2 ^ p.rows.length := fun k => Nat.lt_of_le_of_lt (shrG_le p l s k) hs
  cases hc : confS p (clrN (shrG p l s j) (l.getD j 0).toNat) with
  | true =>
    rw [shrG_t hc, testBit_clr] at hb2
    simp at hb2
  | false =>
    cases hc2 : confS p (clrN (shrG p l s l.length) (l.getD j 0).toNat) with
    | false => rfl
    | true =>
      have := conf_mono hv hn e (clr_lt (hlt _)) (clr_lt (hlt _)) (clr_mono (shrG_sub p l s (j := j) (by omega)) _) hc2
      rw [hc] at this; cases this
/-- A minimal conflict stays as it is. -/
theorem shrG_self {p : Pg} {l : List Int} {s : Nat} (h : ∀ j, j < l.length → confS p (clrN s (l.getD j 0).toNat) = false) : ∀ k, k ≤ l.length → shrG p l s k = s
  | 0, _ => rfl
  | k + 1, hk => by
    have ih := shrG_self h k (by omega)
    rw [shrG_f (by rw [ih]; exact h k (by omega)), ih]
end Go.Proofs.YtfamkbofdamkkaaGreatDoor
