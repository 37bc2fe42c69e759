/- The call's own memory, seen by numbers; what a step of a walk keeps. -/
import Derived.Test.YtcphhbiehaimeaaAi1
namespace Go.Proofs.Ytcphhbiehaimeaa
open Go.RowKit
set_option linter.unusedVariables false
set_option linter.unusedSimpArgs false

/-- An object of the call's own: the cells of a variable; a slice that grows. -/
inductive AObj where
  | cells (cs : List V)
  | row (e esz : Nat) (rows : List (List V))

abbrev Mem := List (Nat × AObj)

def blk (ι : Nat → Nat) (ρ : Nat → Value) : Nat × AObj → Option Nat
  | (id, .cells _) => some (ι id)
  | (id, .row ..) => (ρ id).ownBlock

/-- The blocks that may still be written: those of an outer call (X), and the call's own. -/
def OO (X : Nat → Prop) (mem : Mem) (ι : Nat → Nat) (ρ : Nat → Value) (b : Nat) : Prop := X b ∨ ∃ p ∈ mem, blk ι ρ p = some b

def OR (w : World) (O : Nat → Prop) (ι : Nat → Nat) (ρ : Nat → Value) (nx : Nat) (id : Nat) : AObj → Prop
  | .cells cs => ∃ (vals : Array Value) (e : TypeId), w.heap[ι id]? = some (.cells vals e (0, 0)) ∧ vals.size = cs.length ∧
      (∀ i, i < cs.length → (cs.getD i .any).sc = true) ∧ ∀ i, i < cs.length → Rel w O ι ρ nx false (cs.getD i .any) (vals.getD i undef)
  | .row e esz rows => ∃ xs : List Value, w.ownsRow 0 e esz (ρ id) rows.length xs ∧ (∀ i, i < rows.length → (rows.getD i []).length = esz) ∧
      (∀ i j, i < rows.length → j < esz → ((rows.getD i []).getD j .any).sc = true) ∧
      ∀ i j, i < rows.length → j < esz → Rel w O ι ρ nx true ((rows.getD i []).getD j .any) (xs.getD (i * esz + j) undef)

/-- w0: the world in which the call began; D: the blocks of w0 that it may write; X: those of an outer call, that it may not. -/
structure Cx where
  w0 : World
  D : Nat → Prop
  X : Nat → Prop
  r : Option Nat := none
  df : List Deferred := []
  G : Nat → Value := fun _ => undef

structure ML (cx : Cx) (mem : Mem) (nx : Nat) (ι : Nat → Nat) (ρ : Nat → Value) (w : World) : Prop where
  os : w.os = cx.w0.os
  tape : w.tape = cx.w0.tape
  output : w.output = cx.w0.output
  size : cx.w0.heap.size ≤ w.heap.size
  old : ∀ b, b < cx.w0.heap.size → ¬ cx.D b → w.heap[b]? = cx.w0.heap[b]?
  keys : ∀ p ∈ mem, ∀ q ∈ mem, p.1 = q.1 → p = q
  lt : ∀ p ∈ mem, p.1 < nx
  own : ∀ p ∈ mem, ∀ b, blk ι ρ p = some b → b < w.heap.size ∧ (cx.w0.heap.size ≤ b ∨ cx.D b) ∧ ¬ cx.X b
  inj : ∀ p ∈ mem, ∀ q ∈ mem, ∀ b, blk ι ρ p = some b → blk ι ρ q = some b → p = q
  xlt : ∀ b, cx.X b → b < cx.w0.heap.size
  obj : ∀ p ∈ mem, OR w (OO cx.X mem ι ρ) ι ρ nx p.1 p.2

/-- The relation at a state of memory. -/
def MR (cx : Cx) (mem : Mem) (nx : Nat) (ι : Nat → Nat) (ρ : Nat → Value) (w : World) (v : V) (x : Value) : Prop :=
  Rel w (OO cx.X mem ι ρ) ι ρ nx false v x

/-- What stood for something stands for it still. -/
def Kp (cx : Cx) (mem : Mem) (nx : Nat) (ι : Nat → Nat) (ρ : Nat → Value) (w : World) (mem' : Mem) (nx' : Nat) (ι' : Nat → Nat) (ρ' : Nat → Value) (w' : World) : Prop :=
  ∀ c v x, Rel w (OO cx.X mem ι ρ) ι ρ nx c v x → Rel w' (OO cx.X mem' ι' ρ') ι' ρ' nx' c v x

theorem cell_of_block {w w' : World} {a : Addr} {x : Value} (h : w.cell? a = some x) (hb : w'.heap[a.block]? = w.heap[a.block]?) : w'.cell? a = some x := by
  rw [World.cell?_of_block hb]; exact h

theorem OR.mono {w w' : World} {O O' : Nat → Prop} {ι ι' : Nat → Nat} {ρ ρ' : Nat → Value} {nx nx' : Nat} {id : Nat} {o : AObj}
    (hk : ∀ c v x, Rel w O ι ρ nx c v x → Rel w' O' ι' ρ' nx' c v x) (hi : ι' id = ι id) (hr : ρ' id = ρ id)
    (hb : ∀ b, blk ι ρ (id, o) = some b → w'.heap[b]? = w.heap[b]?) (h : OR w O ι ρ nx id o) : OR w' O' ι' ρ' nx' id o := by
  cases o with
  | cells cs =>
    obtain ⟨vals, e, h1, h2, h3, h4⟩ := h
    refine ⟨vals, e, ?_, h2, h3, fun i hi => hk _ _ _ (h4 i hi)⟩
    rw [hi, hb _ rfl]; exact h1
  | row e esz rows =>
    obtain ⟨xs, h1, h2, h3, h4⟩ := h
    refine ⟨xs, ?_, h2, h3, fun i j hi hj => hk _ _ _ (h4 i j hi hj)⟩
    rw [hr]
    refine ⟨h1.1, ?_⟩
    rcases h1.2 with hn | ⟨g, cap, cur, hv, hb', hg, rest⟩
    · exact .inl hn
    · refine .inr ⟨g, cap, cur, hv, hb', ?_, rest⟩
      rw [hb g (by simp [blk, hv, Value.ownBlock])]; exact hg

theorem OR.blk_lt {w : World} {O : Nat → Prop} {ι : Nat → Nat} {ρ : Nat → Value} {nx : Nat} {id : Nat} {o : AObj} (h : OR w O ι ρ nx id o) {b : Nat} (hb : blk ι ρ (id, o) = some b) : b < w.heap.size := by
  cases o with
  | cells cs => obtain ⟨vals, e, h1, _⟩ := h; simp [blk] at hb; subst hb; exact (Array.getElem?_eq_some_iff.1 h1).1
  | row e esz rows => obtain ⟨xs, h1, _⟩ := h; exact (h1.lt _ hb).2

/-- The world has turned outside of the call's own blocks by nothing but new ones: all stands. -/
theorem ML.grow {cx : Cx} {mem : Mem} {nx : Nat} {ι : Nat → Nat} {ρ : Nat → Value} {w w' : World} (h : ML cx mem nx ι ρ w)
    (hos : w'.os = w.os) (htape : w'.tape = w.tape) (hout : w'.output = w.output) (hsz : w.heap.size ≤ w'.heap.size)
    (hb : ∀ b, b < w.heap.size → w'.heap[b]? = w.heap[b]?) : ML cx mem nx ι ρ w' ∧ Kp cx mem nx ι ρ w mem nx ι ρ w' := by
  have hk : Kp cx mem nx ι ρ w mem nx ι ρ w' := fun c v x hr => hr.mono (fun a y hc ho => ⟨cell_of_block hc (hb _ (block_lt_of_cell hc)), ho⟩) (fun _ _ => ⟨rfl, rfl⟩) (Nat.le_refl _)
  refine ⟨⟨hos.trans h.os, htape.trans h.tape, hout.trans h.output, Nat.le_trans h.size hsz, fun b hb0 hd => ?_, h.keys, h.lt, fun p hp b hpb => ?_, h.inj, h.xlt, fun p hp => ?_⟩, hk⟩
  · rw [hb b (Nat.lt_of_lt_of_le hb0 h.size)]; exact h.old b hb0 hd
  · have := h.own p hp b hpb; exact ⟨by omega, this.2⟩
  · exact OR.mono hk rfl rfl (fun b hpb => hb b (h.own p hp b hpb).1) (h.obj p hp)

/-- A call that wrote nothing that was there. -/
theorem ML.below {cx : Cx} {mem : Mem} {nx : Nat} {ι : Nat → Nat} {ρ : Nat → Value} {w w' : World} (h : ML cx mem nx ι ρ w) (hb : Below w.heap.size w w') :
    ML cx mem nx ι ρ w' ∧ Kp cx mem nx ι ρ w mem nx ι ρ w' := h.grow hb.os hb.tape hb.output hb.size hb.block

/-- A new object under the next number. -/
theorem ML.new {cx : Cx} {mem : Mem} {nx : Nat} {ι : Nat → Nat} {ρ : Nat → Value} {w : World} (h : ML cx mem nx ι ρ w) (cells : Array Value) (e : TypeId)
    (ι' : Nat → Nat) (ρ' : Nat → Value) (hι : ∀ id, id < nx → ι' id = ι id ∧ ρ' id = ρ id) (o : AObj)
    (hblk : ∀ b, blk ι' ρ' (nx, o) = some b → b = w.heap.size)
    (ho : ∀ O, (∀ b, b < w.heap.size → O b → OO cx.X mem ι ρ b) → (∀ c v x, Rel w (OO cx.X mem ι ρ) ι ρ nx c v x → Rel (w.alloc (.cells cells e)) O ι' ρ' (nx + 1) c v x) → OR (w.alloc (.cells cells e)) O ι' ρ' (nx + 1) nx o) :
    ML cx ((nx, o) :: mem) (nx + 1) ι' ρ' (w.alloc (.cells cells e)) ∧ Kp cx mem nx ι ρ w ((nx, o) :: mem) (nx + 1) ι' ρ' (w.alloc (.cells cells e)) := by
  have hblk' : ∀ p ∈ mem, blk ι' ρ' p = blk ι ρ p := by
    rintro ⟨id, o'⟩ hp
    have := hι id (h.lt _ hp)
    cases o' <;> simp [blk, this.1, this.2]
  have hO : ∀ b, b < w.heap.size → OO cx.X ((nx, o) :: mem) ι' ρ' b → OO cx.X mem ι ρ b := by
    rintro b hb (hx | ⟨p, hp, hpb⟩)
    · exact .inl hx
    · rcases List.mem_cons.1 hp with rfl | hp
      · have := hblk b hpb; omega
      · exact .inr ⟨p, hp, by rw [← hblk' p hp]; exact hpb⟩
  have hk : Kp cx mem nx ι ρ w ((nx, o) :: mem) (nx + 1) ι' ρ' (w.alloc (.cells cells e)) := fun c v x hr => by
    refine hr.mono (fun a y hc hno => ?_) hι (by omega)
    have hlt := block_lt_of_cell hc
    exact ⟨cell_of_block hc (heap_alloc_old w _ hlt), fun hn => hno (hO _ hlt hn)⟩
  refine ⟨⟨h.os, h.tape, h.output, by have := h.size; simp; omega, fun b hb hd => ?_, ?_, ?_, ?_, ?_, h.xlt, ?_⟩, hk⟩
  · rw [heap_alloc_old w _ (Nat.lt_of_lt_of_le hb h.size)]; exact h.old b hb hd
  · intro p hp q hq e
    rcases List.mem_cons.1 hp with rfl | hp <;> rcases List.mem_cons.1 hq with rfl | hq
    · rfl
    · have := h.lt q hq; simp at e; omega
    · have := h.lt p hp; simp at e; omega
    · exact h.keys p hp q hq e
  · intro p hp
    rcases List.mem_cons.1 hp with rfl | hp
    · simp
    · have := h.lt p hp; omega
  · intro p hp b hb
    rcases List.mem_cons.1 hp with rfl | hp
    · have := hblk b hb; subst this
      exact ⟨by simp, .inl h.size, fun hx => by have := h.xlt _ hx; have := h.size; omega⟩
    · rw [hblk' p hp] at hb
      have := h.own p hp b hb
      exact ⟨by simp; omega, this.2⟩
  · intro p hp q hq b hpb hqb
    rcases List.mem_cons.1 hp with rfl | hp <;> rcases List.mem_cons.1 hq with rfl | hq
    · rfl
    · have h1 := hblk b hpb; rw [hblk' q hq] at hqb; have := (h.own q hq b hqb).1; omega
    · have h1 := hblk b hqb; rw [hblk' p hp] at hpb; have := (h.own p hp b hpb).1; omega
    · rw [hblk' p hp] at hpb; rw [hblk' q hq] at hqb; exact h.inj p hp q hq b hpb hqb
  · intro p hp
    rcases List.mem_cons.1 hp with rfl | hp
    · exact ho _ hO hk
    · have hι' := hι p.1 (h.lt p hp)
      exact OR.mono hk hι'.1 hι'.2 (fun b hb => heap_alloc_old w _ (h.own p hp b hb).1) (h.obj p hp)

/-- A variable's cells under the next number. -/
theorem ML.newVar {cx : Cx} {mem : Mem} {nx : Nat} {ι : Nat → Nat} {ρ : Nat → Value} {w : World} (h : ML cx mem nx ι ρ w) (cells : Array Value) (e : TypeId) (cs : List V)
    (hl : cells.size = cs.length) (hs : ∀ i, i < cs.length → (cs.getD i .any).sc = true) (hr : ∀ i, i < cs.length → MR cx mem nx ι ρ w (cs.getD i .any) (cells.getD i undef)) :
    ML cx ((nx, .cells cs) :: mem) (nx + 1) (fun id => if id = nx then w.heap.size else ι id) ρ (w.alloc (.cells cells e)) ∧
    Kp cx mem nx ι ρ w ((nx, .cells cs) :: mem) (nx + 1) (fun id => if id = nx then w.heap.size else ι id) ρ (w.alloc (.cells cells e)) := by
  refine h.new cells e _ ρ (fun id hid => ⟨if_neg (by omega), rfl⟩) _ (fun b hb => by simpa [blk, eq_comm] using hb) fun O hO hk => ?_
  refine ⟨cells, e, ?_, hl, hs, fun i hi => hk _ _ _ (hr i hi)⟩
  simp only [if_true]; exact heap_alloc_new w _

/-- A store into a variable. -/
theorem ML.store {cx : Cx} {mem : Mem} {nx : Nat} {ι : Nat → Nat} {ρ : Nat → Value} {w : World} (h : ML cx mem nx ι ρ w) {id : Nat} {cs : List V} (hm : (id, .cells cs) ∈ mem)
    (vals : Array Value) (cs' : List V) (hl : vals.size = cs'.length) (hs : ∀ i, i < cs'.length → (cs'.getD i .any).sc = true)
    (hr : ∀ i, i < cs'.length → MR cx mem nx ι ρ w (cs'.getD i .any) (vals.getD i undef)) :
    ML cx (mem.map fun p => if p.1 = id then (id, .cells cs') else p) nx ι ρ (w.setRow (ι id) vals) ∧
    Kp cx mem nx ι ρ w (mem.map fun p => if p.1 = id then (id, .cells cs') else p) nx ι ρ (w.setRow (ι id) vals) := by
  obtain ⟨vals0, e, hh, -, -, -⟩ := h.obj _ hm
  have hin : ∀ q, q ∈ (mem.map fun p => if p.1 = id then (id, AObj.cells cs') else p) → ∃ p ∈ mem, q = (if p.1 = id then (id, AObj.cells cs') else p) ∧ blk ι ρ q = blk ι ρ p ∧ q.1 = p.1 := by
    intro q hq
    obtain ⟨p, hp, rfl⟩ := List.mem_map.1 hq
    refine ⟨p, hp, rfl, ?_⟩
    by_cases hpid : p.1 = id
    · have : p = (id, .cells cs) := h.keys p hp _ hm hpid
      subst this; simp [blk]
    · simp [hpid]
  have hO : ∀ b, OO cx.X (mem.map fun p => if p.1 = id then (id, AObj.cells cs') else p) ι ρ b → OO cx.X mem ι ρ b := by
    rintro b (hx | ⟨q, hq, hqb⟩)
    · exact .inl hx
    · obtain ⟨p, hp, -, hpb, -⟩ := hin q hq
      exact .inr ⟨p, hp, by rw [← hpb]; exact hqb⟩
  have hown : OO cx.X mem ι ρ (ι id) := .inr ⟨_, hm, rfl⟩
  have hk : Kp cx mem nx ι ρ w (mem.map fun p => if p.1 = id then (id, AObj.cells cs') else p) nx ι ρ (w.setRow (ι id) vals) := fun c v x hr => by
    refine hr.mono (fun a y hc hno => ?_) (fun _ _ => ⟨rfl, rfl⟩) (Nat.le_refl _)
    have hne : a.block ≠ ι id := fun e => hno (e ▸ hown)
    exact ⟨by rw [cell_setRow_other w _ _ _ hne]; exact hc, fun hn => hno (hO _ hn)⟩
  have hidown := h.own _ hm (ι id) rfl
  refine ⟨⟨h.os, h.tape, h.output, by simpa using h.size, fun b hb hd => ?_, ?_, ?_, ?_, ?_, h.xlt, ?_⟩, hk⟩
  · rw [setRow_other]; exact h.old b hb hd
    rintro rfl
    rcases hidown.2.1 with h1 | h1
    · omega
    · exact hd h1
  · intro p hp q hq e
    obtain ⟨p', hp', rfl, -, e1⟩ := hin p hp
    obtain ⟨q', hq', rfl, -, e2⟩ := hin q hq
    have : p' = q' := h.keys p' hp' q' hq' (by rw [← e1, ← e2]; exact e)
    rw [this]
  · intro p hp; obtain ⟨p', hp', -, -, e1⟩ := hin p hp; rw [e1]; exact h.lt p' hp'
  · intro p hp b hb; obtain ⟨p', hp', -, e1, -⟩ := hin p hp; rw [e1] at hb
    have := h.own p' hp' b hb; exact ⟨by simpa using this.1, this.2⟩
  · intro p hp q hq b hpb hqb
    obtain ⟨p', hp', rfl, e1, -⟩ := hin p hp
    obtain ⟨q', hq', rfl, e2, -⟩ := hin q hq
    have : p' = q' := h.inj p' hp' q' hq' b (by rw [← e1]; exact hpb) (by rw [← e2]; exact hqb)
    rw [this]
  · intro q hq
    obtain ⟨p, hp, rfl, -, -⟩ := hin q hq
    by_cases hpid : p.1 = id
    · simp only [hpid, if_true]
      refine ⟨vals, e, setRow_heap w _ _ _ _ _ hh, hl, hs, fun i hi => hk _ _ _ (hr i hi)⟩
    · simp only [hpid, if_false]
      refine OR.mono hk rfl rfl (fun b hb => setRow_other w _ _ _ ?_) (h.obj p hp)
      rintro rfl
      have := h.inj p hp _ hm (ι id) hb rfl
      exact hpid (by rw [this])

end Go.Proofs.Ytcphhbiehaimeaa
