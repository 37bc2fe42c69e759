/- A call that works on the caller's memory. -/
import Derived.Test.YtcphhbiehaimeaaAi12
namespace Go.Proofs.Ytcphhbiehaimeaa
open Go.RowKit
set_option linter.unusedVariables false
set_option linter.unusedSimpArgs false

/-! #### a call whose result the caller owns -/
/-- Called with what 'args' stands for, function f returns a slice of its own making: row (e, z, rows); and turns nothing that was there. -/
def CallsO (P : Program) (f : FuncId) (args : List V) (e z : Nat) (rows : List (List V)) : Prop :=
  ∀ (w : World) (X : Nat → Prop) (vs : Array Value), (∀ b, X b → b < w.heap.size) → vs.size = args.length →
    (∀ i, i < args.length → Rel w X (fun _ => 0) (fun _ => undef) 0 true (args.getD i .any) (vs.getD i undef)) →
    Calls P f vs w fun en w' => ∃ x xs, en = .returned x ∧ Below w.heap.size w w' ∧ w'.ownsRow w.heap.size e z x rows.length xs ∧
      RowsR w' (fun b => X b ∨ x.ownBlock = some b) (fun _ => 0) (fun _ => undef) 0 z rows xs

def stpO (P : Program) (σ : St) (op : Op) (K : V → St → Prop) : Prop :=
  match op with
  | .call { callee := .value f, args, argTypes } =>
    un none (σ.get f) fun vf =>
      match vf with
      | .fn f caps => unL none (args.toList.map σ.get) fun vs => okF P f = true ∧ V.clL (vs ++ caps) = true ∧ ∃ e z rows, CallsO P f (vs ++ caps) e z rows ∧ K (.own σ.nx) ⟨σ.env, (σ.nx, .row e z rows) :: σ.mem, σ.nx + 1⟩
      | _ => False
  | _ => False

def isO : Op → Bool
  | .call { callee := .value _, .. } => true
  | _ => false

section
variable {P : Program} {cx : Cx} {σ : St} {ι : Nat → Nat} {ρ : Nat → Value} {a : Act} {w : World} {K : V → St → Prop} {Q : Exit → Act → World → Prop} {o : Oper}

/-- A slice that a call has made comes into the call's own memory. -/
theorem ML.adopt {mem : Mem} {nx : Nat} {w' : World} (h : ML cx mem nx ι ρ w) (hb : Below w.heap.size w w') (x : Value) (e z : Nat) (rows : List (List V)) (xs : List Value)
    (hx : w'.ownsRow w.heap.size e z x rows.length xs) (hr : RowsR w' (fun b => OO cx.X mem ι ρ b ∨ x.ownBlock = some b) (fun _ => 0) (fun _ => undef) 0 z rows xs) :
    ML cx ((nx, .row e z rows) :: mem) (nx + 1) ι (fun id => if id = nx then x else ρ id) w' ∧ Kp cx mem nx ι ρ w ((nx, .row e z rows) :: mem) (nx + 1) ι (fun id => if id = nx then x else ρ id) w' := by
  have hlt := hx.lt
  have hblk' : ∀ p ∈ mem, blk ι (fun id => if id = nx then x else ρ id) p = blk ι ρ p := by
    rintro ⟨id, o'⟩ hp
    have := h.lt _ hp
    have e : id ≠ nx := by simp at this; omega
    cases o' <;> simp [blk, e]
  have hnew : blk ι (fun id => if id = nx then x else ρ id) (nx, .row e z rows) = x.ownBlock := by simp [blk]
  have hO : ∀ b, OO cx.X ((nx, .row e z rows) :: mem) ι (fun id => if id = nx then x else ρ id) b ↔ (OO cx.X mem ι ρ b ∨ x.ownBlock = some b) := by
    intro b
    constructor
    · rintro (hX | ⟨p, hp, hpb⟩)
      · exact .inl (.inl hX)
      · rcases List.mem_cons.1 hp with rfl | hp
        · exact .inr (by rw [← hnew]; exact hpb)
        · exact .inl (.inr ⟨p, hp, by rw [← hblk' p hp]; exact hpb⟩)
    · rintro ((hX | ⟨p, hp, hpb⟩) | hxb)
      · exact .inl hX
      · exact .inr ⟨p, List.mem_cons_of_mem _ hp, by rw [hblk' p hp]; exact hpb⟩
      · exact .inr ⟨_, List.mem_cons_self, by rw [hnew]; exact hxb⟩
  have hk : Kp cx mem nx ι ρ w ((nx, .row e z rows) :: mem) (nx + 1) ι (fun id => if id = nx then x else ρ id) w' := fun c v y hr => by
    refine hr.mono (fun ad u hc hno => ?_) (fun id hid => ⟨rfl, if_neg (by omega)⟩) (by omega)
    have hl := block_lt_of_cell hc
    refine ⟨cell_of_block hc (hb.block _ hl), fun hn => ?_⟩
    rcases (hO _).1 hn with hn | hn
    · exact hno hn
    · have := (hlt _ hn).1; omega
  refine ⟨⟨hb.os.trans h.os, hb.tape.trans h.tape, hb.output.trans h.output, Nat.le_trans h.size hb.size, fun b hb0 hd => ?_, ?_, ?_, ?_, ?_, h.xlt, ?_⟩, hk⟩
  · rw [hb.block _ (Nat.lt_of_lt_of_le hb0 h.size)]; exact h.old b hb0 hd
  · intro p hp q hq e
    rcases List.mem_cons.1 hp with rfl | hp <;> rcases List.mem_cons.1 hq with rfl | hq
    · rfl
    · have := h.lt q hq; simp at e; omega
    · have := h.lt p hp; simp at e; omega
    · exact h.keys p hp q hq e
  · intro p hp
    rcases List.mem_cons.1 hp with rfl | hp
    · simp
    · have := h.lt p hp; omega
  · intro p hp b hpb
    rcases List.mem_cons.1 hp with rfl | hp
    · rw [hnew] at hpb
      have := hlt _ hpb
      have h0 := h.size
      exact ⟨this.2, .inl (by omega), fun hX => by have := h.xlt _ hX; omega⟩
    · rw [hblk' p hp] at hpb
      have := h.own p hp b hpb
      exact ⟨Nat.lt_of_lt_of_le this.1 hb.size, this.2⟩
  · intro p hp q hq b hpb hqb
    rcases List.mem_cons.1 hp with rfl | hp <;> rcases List.mem_cons.1 hq with rfl | hq
    · rfl
    · rw [hnew] at hpb; rw [hblk' q hq] at hqb; have h1 := (hlt _ hpb).1; have := (h.own q hq b hqb).1; omega
    · rw [hnew] at hqb; rw [hblk' p hp] at hpb; have h1 := (hlt _ hqb).1; have := (h.own p hp b hpb).1; omega
    · rw [hblk' p hp] at hpb; rw [hblk' q hq] at hqb; exact h.inj p hp q hq b hpb hqb
  · intro p hp
    rcases List.mem_cons.1 hp with rfl | hp
    · refine OR_row.2 ⟨xs, ?_, ?_⟩
      · simp only [if_true]
        refine ⟨hx.1, ?_⟩
        rcases hx.2 with hn | ⟨g, cap, cur, h1, h2, h3⟩
        · exact .inl hn
        · exact .inr ⟨g, cap, cur, h1, Nat.zero_le _, h3⟩
      · refine ⟨hr.1, hr.2.1, hr.2.2.1, fun i j hi hj => ?_⟩
        exact ((hr.2.2.2 i j hi hj).free rfl true).mono (fun ad u hc hno => ⟨hc, fun hn => hno ((hO _).1 hn)⟩) (fun _ _ => ⟨rfl, rfl⟩) (Nat.le_refl _)
    · have hne : p.1 ≠ nx := by have := h.lt p hp; omega
      exact OR.mono hk rfl (if_neg hne) (fun b hpb => hb.block _ (h.own p hp b hpb).1) (h.obj p hp)

theorem stpO_sound (h : SR cx σ ι ρ a w) (hs : stpO P σ o.op K) : o.wp P a w (Nx cx o a K) Q := by
  generalize ho : o.op = op at hs
  unfold stpO at hs
  split at hs
  · rename_i f args ts
    obtain ⟨vf, hf', hs⟩ := un1 h rfl hs
    split at hs
    · rename_i fid caps
      obtain ⟨vs, hl, hr, hok, hcl, e, z, rows, hcall, hk⟩ := unL_run h rfl hs
      unfold MR at hf'
      generalize hfe : a.eval f = fv at hf'
      cases hf' with
      | fn _ _ _ cvs hcl' hcr =>
        have hrun : (execOp a.eval o).run P w = .ok (.enter fid (args.map a.eval ++ cvs)) w := by
          simp [execOp, ho, resolve, hfe, Deferred.ofValue, invoke, okF_spec hok]
        have hlen : args.size = vs.length := by simp at hl; omega
        have hall := appd (w := w) (O := OO cx.X σ.mem ι ρ) (ι := ι) (ρ := ρ) (nx := σ.nx) (c := false) (xs := args.map a.eval) (ys := cvs) (by simpa using hlen) hcl' (fun i hi => by
          have := hr i hi
          simpa [List.getD, Array.getD_eq_getD_getElem?, MR] using this) hcr
        have hc := hcall w (OO cx.X σ.mem ι ρ) (args.map a.eval ++ cvs) (fun b hb => by
            rcases hb with hb | ⟨p, hp, hb⟩
            · exact Nat.lt_of_lt_of_le (h.ml.xlt b hb) h.ml.size
            · exact (h.ml.own p hp b hb).1)
          (by simp [hcl', hlen]) (fun i hi => (((hall i hi).of_cl (V.clL_getD hcl i) true).free rfl true))
        unfold Oper.wp
        rw [hrun]
        refine hc.mono ?_
        rintro en w' ⟨x, xs, rfl, hb, hox, hrx⟩
        obtain ⟨m1, m2⟩ := h.ml.adopt hb x e z rows xs hox hrx
        refine ⟨.own σ.nx, ⟨σ.env, _, _⟩, ι, _, x, hk, rfl, h.step m1 m2, ?_⟩
        have hone : x.oneCell' = true := by
          rcases hox.2 with ⟨rfl, -⟩ | ⟨g, cap, cur, rfl, -⟩ <;> rfl
        have := Rel.own (w := w') (O := OO cx.X ((σ.nx, .row e z rows) :: σ.mem) ι (fun id => if id = σ.nx then x else ρ id)) (ι := ι) (ρ := fun id => if id = σ.nx then x else ρ id) (nx := σ.nx + 1) σ.nx (by omega) (by simpa using hone)
        simpa [MR] using this
    · exact hs.elim
  · exact hs.elim
end

mutual
def V.map (g : Nat → Nat) : V → V
  | .own k => .own (g k)
  | .ptr k off => .ptr (g k) off
  | .rp k z i j => .rp (g k) z i j
  | .agg cs => .agg (V.mapL g cs)
  | .fn f cs => .fn f (V.mapL g cs)
  | .tup cs => .tup (V.mapL g cs)
  | .gd b v => .gd b (v.map g)
  | .int k n => .int k n
  | .bool b => .bool b
  | .str s => .str s
  | .sl e r => .sl e r
  | .slc e r => .slc e r
  | .ub => .ub
  | .nf => .nf
  | .yl l => .yl l
  | .eq x v => .eq x (v.map g)
  | .nsl => .nsl
  | .ep es => .ep es
  | .any => .any
def V.mapL (g : Nat → Nat) : List V → List V
  | [] => []
  | v :: vs => v.map g :: V.mapL g vs
end
mutual
/-- What is named lies in Dp (variables), Do (slices). -/
def V.dom (Dp Do : Nat → Bool) : V → Bool
  | .own k => Do k
  | .ptr k _ => Dp k
  | .rp k _ _ _ => Do k
  | .agg cs => V.domL Dp Do cs
  | .fn _ cs => V.domL Dp Do cs
  | .tup cs => V.domL Dp Do cs
  | .gd _ v => v.dom Dp Do
  | .int _ _ => true
  | .bool _ => true
  | .str _ => true
  | .sl _ _ => true
  | .slc _ _ => true
  | .ub => true
  | .nf => true
  | .yl _ => true
  | .eq _ v => v.dom Dp Do
  | .nsl => true
  | .ep _ => true
  | .any => true
def V.domL (Dp Do : Nat → Bool) : List V → Bool
  | [] => true
  | v :: vs => v.dom Dp Do && V.domL Dp Do vs
end
theorem V.mapL_length (g : Nat → Nat) : ∀ (cs : List V), (V.mapL g cs).length = cs.length
  | [] => rfl
  | v :: vs => by simp [V.mapL, V.mapL_length g vs]
theorem V.mapL_getD (g : Nat → Nat) : ∀ (cs : List V) (k : Nat), (V.mapL g cs).getD k .any = (cs.getD k .any).map g
  | [], k => by simp [V.mapL, V.map]
  | v :: vs, 0 => by simp [V.mapL]
  | v :: vs, k + 1 => by simpa [V.mapL] using V.mapL_getD g vs k
theorem V.domL_getD {Dp Do : Nat → Bool} : ∀ {cs : List V} (_ : V.domL Dp Do cs = true) (k : Nat), (cs.getD k .any).dom Dp Do = true
  | [], _, k => by simp [V.dom]
  | v :: vs, h, 0 => by simp [V.domL] at h; simpa using h.1
  | v :: vs, h, k + 1 => by simp [V.domL] at h; simpa using V.domL_getD h.2 k
theorem V.sc_map (g : Nat → Nat) {v : V} (h : v.sc = true) : (v.map g).sc = true := by
  cases v <;> first | exact h | rfl | (cases h; done)

theorem Rel.clos {w w' : World} {O O' : Nat → Prop} {ι ι' : Nat → Nat} {ρ ρ' : Nat → Value} {nx nx' : Nat} (hw : ∀ a x, w.cell? a = some x → ¬ O a.block → w'.cell? a = some x ∧ ¬ O' a.block)
    {v : V} {x : Value} (h : Rel w O ι ρ nx true v x) : Rel w' O' ι' ρ' nx' true v x :=
  (h.free (ι' := ι') (ρ' := ρ') (nx' := nx') rfl true).mono hw (fun _ _ => ⟨rfl, rfl⟩) (Nat.le_refl _)

theorem Rel.mapF {w w' : World} {O O' : Nat → Prop} {ι ι' : Nat → Nat} {ρ ρ' : Nat → Value} {nx nx' : Nat} {g : Nat → Nat} {Dp Do : Nat → Bool}
    (hw : ∀ a x, w.cell? a = some x → ¬ O a.block → w'.cell? a = some x ∧ ¬ O' a.block)
    (hp : ∀ id, id < nx → Dp id = true → g id < nx' ∧ ι' (g id) = ι id) (ho : ∀ id, id < nx → Do id = true → g id < nx' ∧ ρ' (g id) = ρ id)
    {c : Bool} {v : V} {x : Value} (h : Rel w O ι ρ nx c v x) : v.dom Dp Do = true → Rel w' O' ι' ρ' nx' c (v.map g) x := by
  induction h with
  | int c k n => exact fun _ => .int c k n
  | bool c b => exact fun _ => .bool c b
  | str c s => exact fun _ => .str c s
  | agg c cs vs hl hs _ ih =>
    intro e
    refine .agg c _ vs (by rw [V.mapL_length]; exact hl) (fun k hk => ?_) (fun k hk => ?_) <;> (rw [V.mapL_length] at hk; rw [V.mapL_getD])
    · exact V.sc_map _ (hs k hk)
    · exact ih k hk (V.domL_getD (by simpa [V.dom] using e) k)
  | sl c esz rows b off len cap xs hl hc hm hz hs hx h _ => exact fun _ => .sl c esz rows b off len cap xs hl hc hm hz hs (fun i j hi hj => hw _ _ (hx i j hi hj).1 (hx i j hi hj).2) fun i j hi hj => (h i j hi hj).clos hw
  | slnil c esz => exact fun _ => .slnil c esz
  | nsl c => exact fun _ => .nsl c
  | slc c esz rows a n _ ih => exact fun _ => .slc c esz rows a n (ih rfl)
  | ub c b => exact fun _ => .ub c b
  | nf c => exact fun _ => .nf c
  | yl c l => exact fun _ => .yl c l
  | eq c v x _ ih => exact fun e => .eq c _ x (ih (by simpa [V.dom] using e))
  | ptr k off h =>
    intro e
    have := hp k h (by simpa [V.dom] using e)
    simp only [V.map]
    rw [← this.2]
    exact .ptr _ off this.1
  | ep c es b off xs hs hx h _ => exact fun _ => .ep c es b off xs hs (fun j hj => hw _ _ (hx j hj).1 (hx j hj).2) fun j hj => (h j hj).clos hw
  | own k h h1 =>
    intro e
    have := ho k h (by simpa [V.dom] using e)
    simp only [V.map]
    rw [← this.2]
    exact .own _ this.1 (by rw [this.2]; exact h1)
  | rp k z i j b h hb =>
    intro e
    have := ho k h (by simpa [V.dom] using e)
    exact .rp _ z i j b this.1 (by rw [this.2]; exact hb)
  | fn c f caps vs hl _ ih => exact fun e => .fn c f _ vs (by rw [V.mapL_length]; exact hl) fun k hk => by rw [V.mapL_length] at hk; rw [V.mapL_getD]; exact ih k hk (V.domL_getD (by simpa [V.dom] using e) k)
  | tup c ts vs hl _ ih => exact fun e => .tup c _ vs (by rw [V.mapL_length]; exact hl) fun k hk => by rw [V.mapL_length] at hk; rw [V.mapL_getD]; exact ih k hk (V.domL_getD (by simpa [V.dom] using e) k)
  | gd c g' v x _ h0 ih => exact fun e => .gd c g' _ x (fun hg => ih hg (by simpa [V.dom] using e)) h0
  | any c x => exact fun _ => .any c x

def AObj.map (o : AObj) (g : Nat → Nat) : AObj :=
  match o with
  | .cells cs => .cells (V.mapL g cs)
  | .row e z r => .row e z r
def AObj.dom (o : AObj) (Dp Do : Nat → Bool) : Bool :=
  match o with
  | .cells cs => V.domL Dp Do cs
  | .row .. => true
def AObj.isC : AObj → Bool
  | .cells _ => true
  | .row .. => false

def inJ : List Nat → Nat → Bool
  | [], _ => false
  | j :: js, i => i == j || inJ js i
def gJ : List Nat → Nat → Nat
  | [], _ => 0
  | j :: js, i => if i = j then 0 else gJ js i + 1
def hJ (js : List Nat) (nx k id : Nat) : Nat := if id < k then js.getD id 0 else nx + (id - k)
def ndJ : List Nat → Bool
  | [] => true
  | j :: js => !inJ js j && ndJ js
def ltJ : List Nat → Nat → Bool
  | [], _ => true
  | j :: js, n => Nat.blt j n && ltJ js n
def kC (pre : Mem) (k id : Nat) : Bool := Nat.ble k id || pre.any fun p => p.1 == id && p.2.isC
def kR (pre : Mem) (k id : Nat) : Bool := Nat.ble k id || pre.any fun p => p.1 == id && !p.2.isC
def footJ (js : List Nat) (mem : Mem) : Mem := (mem.filter fun p => inJ js p.1).map fun p => (gJ js p.1, p.2.map (gJ js))
def backJ (js : List Nat) (nx k : Nat) (mem' mem : Mem) : Mem := (mem'.map fun p => (hJ js nx k p.1, p.2.map (hJ js nx k))) ++ mem.filter fun p => !inJ js p.1

theorem gJ_spec : ∀ {js : List Nat} {i : Nat}, inJ js i = true → gJ js i < js.length ∧ js.getD (gJ js i) 0 = i
  | [], i, h => by cases h
  | j :: js, i, h => by
    simp only [gJ]
    by_cases e : i = j
    · rw [if_pos e]; exact ⟨by simp, by simp [e]⟩
    · rw [if_neg e]
      simp only [inJ, Bool.or_eq_true, beq_iff_eq, e, false_or] at h
      have := gJ_spec h
      exact ⟨by simp; exact this.1, by simpa using this.2⟩
theorem inJ_get : ∀ {js : List Nat} {k : Nat}, k < js.length → inJ js (js.getD k 0) = true
  | [], k, h => by simp at h
  | j :: js, 0, h => by simp [inJ]
  | j :: js, k + 1, h => by
    have := inJ_get (js := js) (k := k) (by simpa using h)
    simp only [inJ, List.getD_cons_succ, this, Bool.or_true]
theorem gJ_get : ∀ {js : List Nat} {k : Nat}, ndJ js = true → k < js.length → gJ js (js.getD k 0) = k
  | [], k, _, h => by simp at h
  | j :: js, 0, _, h => by simp [gJ]
  | j :: js, k + 1, hn, h => by
    simp only [ndJ, Bool.and_eq_true, Bool.not_eq_true'] at hn
    have h' : k < js.length := by simpa using h
    simp only [List.getD_cons_succ, gJ]
    have hne : js.getD k 0 ≠ j := fun e => by have := inJ_get h'; rw [e, hn.1] at this; cases this
    rw [if_neg hne, gJ_get hn.2 h']
theorem ltJ_get : ∀ {js : List Nat} {n k : Nat}, ltJ js n = true → k < js.length → js.getD k 0 < n
  | [], n, k, _, h => by simp at h
  | j :: js, n, 0, hn, h => by simp only [ltJ, Bool.and_eq_true] at hn; have := hn.1; simpa using this
  | j :: js, n, k + 1, hn, h => by
    simp only [ltJ, Bool.and_eq_true] at hn
    have := ltJ_get (k := k) hn.2 (by simpa using h)
    simpa using this

/-- Called on memory 'pre' (numbers below k), function f returns r and leaves mem' (numbers below k'; those of 'pre' stand for what they stood for). -/
def CallsM (P : Program) (f : FuncId) (args : List V) (pre : Mem) (k : Nat) (r : V) (mem' : Mem) (k' : Nat) : Prop :=
  ∀ (w : World) (X : Nat → Prop) (ι : Nat → Nat) (ρ : Nat → Value) (vs : Array Value),
    ML ⟨w, fun b => ∃ p ∈ pre, blk ι ρ p = some b, X, none, [], fun _ => undef⟩ pre k ι ρ w → vs.size = args.length →
    (∀ i, i < args.length → Rel w (OO X pre ι ρ) ι ρ k false (args.getD i .any) (vs.getD i undef)) →
    Calls P f vs w fun e w' => ∃ x ι' ρ', e = .returned x ∧ ML ⟨w, fun b => ∃ p ∈ pre, blk ι ρ p = some b, X, none, [], fun _ => undef⟩ mem' k' ι' ρ' w' ∧ Rel w' (OO X mem' ι' ρ') ι' ρ' k' false r x ∧ k ≤ k' ∧
      ∀ p ∈ pre, (p.2.isC = true → ι' p.1 = ι p.1) ∧ (p.2.isC = false → ρ' p.1 = ρ p.1)

def stpM (P : Program) (σ : St) (op : Op) (K : V → St → Prop) : Prop :=
  match op with
  | .call { callee := .value f, args, argTypes } =>
    un none (σ.get f) fun vf =>
      match vf with
      | .fn f caps => unL none (args.toList.map σ.get) fun vs => okF P f = true ∧ ∃ js r mem' k', CallsM P f (V.mapL (gJ js) (vs ++ caps)) (footJ js σ.mem) js.length r mem' k' ∧
          ndJ js = true ∧ ltJ js σ.nx = true ∧ V.domL (inJ js) (inJ js) (vs ++ caps) = true ∧ ((σ.mem.filter fun p => inJ js p.1).all fun p => p.2.dom (inJ js) (inJ js)) = true ∧
          r.dom (kC (footJ js σ.mem) js.length) (kR (footJ js σ.mem) js.length) = true ∧
          (mem'.all fun p => p.2.dom (kC (footJ js σ.mem) js.length) (kR (footJ js σ.mem) js.length) && (match p.2.isC with | true => kC (footJ js σ.mem) js.length p.1 | false => kR (footJ js σ.mem) js.length p.1)) = true ∧
          K (r.map (hJ js σ.nx js.length)) ⟨σ.env, backJ js σ.nx js.length mem' σ.mem, σ.nx + (k' - js.length)⟩
      | _ => False
  | _ => False
section
variable {P : Program} {cx : Cx} {σ : St} {ι : Nat → Nat} {ρ : Nat → Value} {a : Act} {w : World} {K : V → St → Prop} {Q : Exit → Act → World → Prop} {o : Oper}

theorem mem_foot {js : List Nat} {mem : Mem} {q : Nat × AObj} (h : q ∈ footJ js mem) : ∃ p ∈ mem, inJ js p.1 = true ∧ q = (gJ js p.1, p.2.map (gJ js)) := by
  obtain ⟨p, hp, rfl⟩ := List.mem_map.1 h
  have := List.mem_filter.1 hp
  exact ⟨p, this.1, this.2, rfl⟩
theorem AObj.isC_map (o : AObj) (g : Nat → Nat) : (o.map g).isC = o.isC := by cases o <;> rfl

theorem blk_foot {js : List Nat} {ι : Nat → Nat} {ρ : Nat → Value} {p : Nat × AObj} (h : inJ js p.1 = true) :
    blk (fun i => ι (js.getD i 0)) (fun i => ρ (js.getD i 0)) (gJ js p.1, p.2.map (gJ js)) = blk ι ρ p := by
  obtain ⟨i, o⟩ := p
  have := (gJ_spec h).2
  simp only at this
  cases o <;> simp only [blk, AObj.map, this]

/-- The part of memory that the call works on, by its own numbers. -/
theorem ML.foot {mem : Mem} {nx : Nat} (h : ML cx mem nx ι ρ w) {js : List Nat} (hn : ndJ js = true) (hlt : ltJ js nx = true) (hd : ((mem.filter fun p => inJ js p.1).all fun p => p.2.dom (inJ js) (inJ js)) = true) :
    ML ⟨w, fun b => ∃ p ∈ footJ js mem, blk (fun i => ι (js.getD i 0)) (fun i => ρ (js.getD i 0)) p = some b, OO cx.X (mem.filter fun p => !inJ js p.1) ι ρ, none, [], fun _ => undef⟩
      (footJ js mem) js.length (fun i => ι (js.getD i 0)) (fun i => ρ (js.getD i 0)) w := by
  have hsub : ∀ b, OO (OO cx.X (mem.filter fun p => !inJ js p.1) ι ρ) (footJ js mem) (fun i => ι (js.getD i 0)) (fun i => ρ (js.getD i 0)) b → OO cx.X mem ι ρ b := by
    rintro b ((hx | ⟨q, hq, hqb⟩) | ⟨q, hq, hqb⟩)
    · exact .inl hx
    · exact .inr ⟨q, (List.mem_filter.1 hq).1, hqb⟩
    · obtain ⟨p, hp, hj, rfl⟩ := mem_foot hq
      rw [blk_foot hj] at hqb
      exact .inr ⟨p, hp, hqb⟩
  refine ⟨rfl, rfl, rfl, Nat.le_refl _, fun _ _ _ => rfl, ?_, ?_, ?_, ?_, ?_, ?_⟩
  · intro q hq q' hq' e
    obtain ⟨p, hp, hj, rfl⟩ := mem_foot hq
    obtain ⟨p', hp', hj', rfl⟩ := mem_foot hq'
    simp only at e
    have e1 : p.1 = p'.1 := by rw [← (gJ_spec hj).2, ← (gJ_spec hj').2, e]
    rw [h.keys p hp p' hp' e1]
  · intro q hq
    obtain ⟨p, hp, hj, rfl⟩ := mem_foot hq
    exact (gJ_spec hj).1
  · intro q hq b hb
    obtain ⟨p, hp, hj, rfl⟩ := mem_foot hq
    have hb' := hb
    rw [blk_foot hj] at hb'
    have ho := h.own p hp b hb'
    refine ⟨ho.1, .inr ⟨_, hq, hb⟩, ?_⟩
    rintro (hx | ⟨q, hq2, hqb⟩)
    · exact ho.2.2 hx
    · have hf := List.mem_filter.1 hq2
      have := h.inj p hp q hf.1 b hb' hqb
      subst this
      have := hf.2
      rw [hj] at this; cases this
  · intro q hq q' hq' b hb hb'
    obtain ⟨p, hp, hj, rfl⟩ := mem_foot hq
    obtain ⟨p', hp', hj', rfl⟩ := mem_foot hq'
    rw [blk_foot hj] at hb
    rw [blk_foot hj'] at hb'
    rw [h.inj p hp p' hp' b hb hb']
  · rintro b (hx | ⟨q, hq, hqb⟩)
    · exact Nat.lt_of_lt_of_le (h.xlt b hx) h.size
    · exact (h.own q (List.mem_filter.1 hq).1 b hqb).1
  · intro q hq
    obtain ⟨p, hp, hj, rfl⟩ := mem_foot hq
    have hobj := h.obj p hp
    have hdp := List.all_eq_true.1 hd p (List.mem_filter.2 ⟨hp, hj⟩)
    have hget := (gJ_spec hj).2
    have hw : ∀ (a : Addr) x, w.cell? a = some x → ¬ OO cx.X mem ι ρ a.block → w.cell? a = some x ∧ ¬ OO (OO cx.X (mem.filter fun p => !inJ js p.1) ι ρ) (footJ js mem) (fun i => ι (js.getD i 0)) (fun i => ρ (js.getD i 0)) a.block :=
      fun a x hc hno => ⟨hc, fun hn => hno (hsub _ hn)⟩
    obtain ⟨i, o'⟩ := p
    cases o' with
    | cells cs =>
      obtain ⟨vals, e, h1, h2, h3, h4⟩ := hobj
      refine ⟨vals, e, ?_, by rw [V.mapL_length]; exact h2, fun m hm => ?_, fun m hm => ?_⟩
      · simp only at hget ⊢; rw [hget]; exact h1
      · rw [V.mapL_length] at hm; rw [V.mapL_getD]; exact V.sc_map _ (h3 m hm)
      · rw [V.mapL_length] at hm; rw [V.mapL_getD]
        refine (h4 m hm).mapF (Dp := inJ js) (Do := inJ js) hw (fun id _ hj' => ?_) (fun id _ hj' => ?_) (V.domL_getD (by simpa [AObj.dom] using hdp) m)
        · exact ⟨(gJ_spec hj').1, by rw [(gJ_spec hj').2]⟩
        · exact ⟨(gJ_spec hj').1, by rw [(gJ_spec hj').2]⟩
    | row e z r =>
      obtain ⟨xs, h1, h2, h3, h4⟩ := hobj
      refine ⟨xs, ?_, h2, h3, fun m n hm hn' => (h4 m n hm hn').clos hw⟩
      simp only at hget ⊢; rw [hget]; exact h1

theorem kC_spec {pre : Mem} {k id : Nat} (h : kC pre k id = true) : k ≤ id ∨ ∃ p ∈ pre, p.1 = id ∧ p.2.isC = true := by
  simp only [kC, Bool.or_eq_true, Nat.ble_eq, List.any_eq_true, Bool.and_eq_true, beq_iff_eq] at h
  exact h
theorem kR_spec {pre : Mem} {k id : Nat} (h : kR pre k id = true) : k ≤ id ∨ ∃ p ∈ pre, p.1 = id ∧ p.2.isC = false := by
  simp only [kR, Bool.or_eq_true, Nat.ble_eq, List.any_eq_true, Bool.and_eq_true, beq_iff_eq, Bool.not_eq_true'] at h
  exact h

/-- Back in the caller's memory. -/
theorem ML.back {mem : Mem} {nx : Nat} (h : ML cx mem nx ι ρ w) {js : List Nat} (hn : ndJ js = true) (hlt : ltJ js nx = true) {mem' : Mem} {k' : Nat} {ι' : Nat → Nat} {ρ' : Nat → Value} {w' : World}
    (h' : ML ⟨w, fun b => ∃ p ∈ footJ js mem, blk (fun i => ι (js.getD i 0)) (fun i => ρ (js.getD i 0)) p = some b, OO cx.X (mem.filter fun p => !inJ js p.1) ι ρ, none, [], fun _ => undef⟩ mem' k' ι' ρ' w')
    (hk : js.length ≤ k') (hpin : ∀ p ∈ footJ js mem, (p.2.isC = true → ι' p.1 = ι (js.getD p.1 0)) ∧ (p.2.isC = false → ρ' p.1 = ρ (js.getD p.1 0)))
    (hm : (mem'.all fun p => p.2.dom (kC (footJ js mem) js.length) (kR (footJ js mem) js.length) && (match p.2.isC with | true => kC (footJ js mem) js.length p.1 | false => kR (footJ js mem) js.length p.1)) = true) :
    ∃ ι'' ρ'', ML cx (backJ js nx js.length mem' mem) (nx + (k' - js.length)) ι'' ρ'' w' ∧ Kp cx mem nx ι ρ w (backJ js nx js.length mem' mem) (nx + (k' - js.length)) ι'' ρ'' w' ∧
      ∀ c v x, v.dom (kC (footJ js mem) js.length) (kR (footJ js mem) js.length) = true → Rel w' (OO (OO cx.X (mem.filter fun p => !inJ js p.1) ι ρ) mem' ι' ρ') ι' ρ' k' c v x →
        Rel w' (OO cx.X (backJ js nx js.length mem' mem) ι'' ρ'') ι'' ρ'' (nx + (k' - js.length)) c (v.map (hJ js nx js.length)) x := by
  refine ⟨fun i => if i < nx then ι i else ι' (i - nx + js.length), fun i => if i < nx then ρ i else ρ' (i - nx + js.length), ?_⟩
  generalize hι2 : (fun i => if i < nx then ι i else ι' (i - nx + js.length)) = ι''
  generalize hρ2 : (fun i => if i < nx then ρ i else ρ' (i - nx + js.length)) = ρ''
  have iold : ∀ i, i < nx → ι'' i = ι i ∧ ρ'' i = ρ i := fun i hi => by subst hι2; subst hρ2; exact ⟨if_pos hi, if_pos hi⟩
  have inew : ∀ i, js.length ≤ i → ι'' (hJ js nx js.length i) = ι' i ∧ ρ'' (hJ js nx js.length i) = ρ' i := fun i hi => by
    have e : hJ js nx js.length i = nx + (i - js.length) := if_neg (by omega)
    rw [e]; subst hι2; subst hρ2
    have e2 : nx + (i - js.length) - nx + js.length = i := by omega
    simp only [if_neg (show ¬ nx + (i - js.length) < nx by omega), e2]
    exact ⟨trivial, trivial⟩
  have hJl : ∀ i, i < js.length → hJ js nx js.length i = js.getD i 0 := fun i hi => if_pos hi
  have hJlt : ∀ i, i < k' → hJ js nx js.length i < nx + (k' - js.length) := fun i hi => by
    by_cases hc : i < js.length
    · rw [hJl i hc]; have := ltJ_get hlt hc; omega
    · have e : hJ js nx js.length i = nx + (i - js.length) := if_neg hc
      rw [e]; omega
  have cC : ∀ i, i < k' → kC (footJ js mem) js.length i = true → ι'' (hJ js nx js.length i) = ι' i := fun i hi hc => by
    by_cases hl : js.length ≤ i
    · exact (inew i hl).1
    · rcases kC_spec hc with h1 | ⟨p, hp, rfl, hpc⟩
      · omega
      · rw [hJl _ (by omega), (iold _ (ltJ_get hlt (by omega))).1, (hpin p hp).1 hpc]
  have cR : ∀ i, i < k' → kR (footJ js mem) js.length i = true → ρ'' (hJ js nx js.length i) = ρ' i := fun i hi hc => by
    by_cases hl : js.length ≤ i
    · exact (inew i hl).2
    · rcases kR_spec hc with h1 | ⟨p, hp, rfl, hpc⟩
      · omega
      · rw [hJl _ (by omega), (iold _ (ltJ_get hlt (by omega))).2, (hpin p hp).2 hpc]
  have hmf : ∀ p ∈ mem', p.2.dom (kC (footJ js mem) js.length) (kR (footJ js mem) js.length) = true ∧ (match p.2.isC with | true => kC (footJ js mem) js.length p.1 | false => kR (footJ js mem) js.length p.1) = true := fun p hp => by
    have := List.all_eq_true.1 hm p hp
    simpa [Bool.and_eq_true] using this
  have blkN : ∀ p ∈ mem', blk ι'' ρ'' (hJ js nx js.length p.1, p.2.map (hJ js nx js.length)) = blk ι' ρ' p := by
    intro p hp
    have hk' := h'.lt p hp
    have := (hmf p hp).2
    obtain ⟨i, o⟩ := p
    cases o with
    | cells cs => simp only [blk, AObj.map]; rw [cC i hk' (by simpa [AObj.isC] using this)]
    | row e z r => simp only [blk, AObj.map]; rw [cR i hk' (by simpa [AObj.isC] using this)]
  have blkO : ∀ p ∈ mem, blk ι'' ρ'' p = blk ι ρ p := by
    rintro ⟨i, o⟩ hp
    have := iold i (h.lt _ hp)
    cases o <;> simp only [blk, this.1, this.2]
  have dsub : ∀ b, (∃ p ∈ footJ js mem, blk (fun i => ι (js.getD i 0)) (fun i => ρ (js.getD i 0)) p = some b) → ∃ p ∈ mem, inJ js p.1 = true ∧ blk ι ρ p = some b := by
    rintro b ⟨q, hq, hqb⟩
    obtain ⟨p, hp, hj, rfl⟩ := mem_foot hq
    rw [blk_foot hj] at hqb
    exact ⟨p, hp, hj, hqb⟩
  have inv : ∀ q, q ∈ backJ js nx js.length mem' mem → (∃ p ∈ mem', q = (hJ js nx js.length p.1, p.2.map (hJ js nx js.length))) ∨ (q ∈ mem ∧ inJ js q.1 = false) := by
    intro q hq
    rcases List.mem_append.1 hq with hq | hq
    · obtain ⟨p, hp, rfl⟩ := List.mem_map.1 hq; exact .inl ⟨p, hp, rfl⟩
    · have := List.mem_filter.1 hq; exact .inr ⟨this.1, by simpa using this.2⟩
  have frin : ∀ q, q ∈ mem → inJ js q.1 = false → q ∈ mem.filter fun p => !inJ js p.1 := fun q hq hj => List.mem_filter.2 ⟨hq, by simp [hj]⟩
  have hOO : ∀ b, OO cx.X (backJ js nx js.length mem' mem) ι'' ρ'' b → OO (OO cx.X (mem.filter fun p => !inJ js p.1) ι ρ) mem' ι' ρ' b := by
    rintro b (hx | ⟨q, hq, hqb⟩)
    · exact .inl (.inl hx)
    · rcases inv q hq with ⟨p, hp, rfl⟩ | ⟨hqm, hj⟩
      · rw [blkN p hp] at hqb; exact .inr ⟨p, hp, hqb⟩
      · rw [blkO q hqm] at hqb; exact .inl (.inr ⟨q, frin q hqm hj, hqb⟩)
  have hcell : ∀ (a : Addr) x, w.cell? a = some x → ¬ OO cx.X mem ι ρ a.block → w'.cell? a = some x ∧ ¬ OO cx.X (backJ js nx js.length mem' mem) ι'' ρ'' a.block := by
    intro a x hc hno
    have hl := block_lt_of_cell hc
    have hnd : ¬ ∃ p ∈ footJ js mem, blk (fun i => ι (js.getD i 0)) (fun i => ρ (js.getD i 0)) p = some a.block := fun hd => by
      obtain ⟨p, hp, -, hb⟩ := dsub _ hd
      exact hno (.inr ⟨p, hp, hb⟩)
    refine ⟨cell_of_block hc (h'.old _ hl hnd), fun hn => ?_⟩
    rcases hOO _ hn with ((hx | ⟨q, hq, hqb⟩) | ⟨p, hp, hpb⟩)
    · exact hno (.inl hx)
    · exact hno (.inr ⟨q, (List.mem_filter.1 hq).1, hqb⟩)
    · rcases (h'.own p hp _ hpb).2.1 with h1 | h1
      · have : w.heap.size ≤ a.block := h1
        omega
      · exact hnd h1
  have hKp : Kp cx mem nx ι ρ w (backJ js nx js.length mem' mem) (nx + (k' - js.length)) ι'' ρ'' w' := fun c v x hr => hr.mono hcell iold (by omega)
  have hmapF : ∀ c v x, v.dom (kC (footJ js mem) js.length) (kR (footJ js mem) js.length) = true → Rel w' (OO (OO cx.X (mem.filter fun p => !inJ js p.1) ι ρ) mem' ι' ρ') ι' ρ' k' c v x →
        Rel w' (OO cx.X (backJ js nx js.length mem' mem) ι'' ρ'') ι'' ρ'' (nx + (k' - js.length)) c (v.map (hJ js nx js.length)) x := fun c v x hd hr =>
    hr.mapF (fun a y hc hno => ⟨hc, fun hn => hno (hOO _ hn)⟩) (fun id hid hc => ⟨hJlt id hid, cC id hid hc⟩) (fun id hid hc => ⟨hJlt id hid, cR id hid hc⟩) hd
  refine ⟨⟨h'.os.trans h.os, h'.tape.trans h.tape, h'.output.trans h.output, Nat.le_trans h.size h'.size, fun b hb hd => ?_, ?_, ?_, ?_, ?_, h.xlt, ?_⟩, hKp, hmapF⟩
  · rw [h'.old b (Nat.lt_of_lt_of_le hb h.size) ?_]
    · exact h.old b hb hd
    · intro hf
      obtain ⟨p, hp, -, hpb⟩ := dsub b hf
      rcases (h.own p hp b hpb).2.1 with h1 | h1
      · omega
      · exact hd h1
  · have cross : ∀ p ∈ mem', ∀ q ∈ mem, inJ js q.1 = false → hJ js nx js.length p.1 ≠ q.1 := fun p hp q hq hj e => by
      by_cases hc : p.1 < js.length
      · rw [hJl _ hc] at e
        have := inJ_get hc
        rw [e, hj] at this; cases this
      · have e2 : hJ js nx js.length p.1 = nx + (p.1 - js.length) := if_neg hc
        rw [e2] at e
        have := h.lt q hq
        omega
    have injh : ∀ p ∈ mem', ∀ q ∈ mem', hJ js nx js.length p.1 = hJ js nx js.length q.1 → p.1 = q.1 := fun p hp q hq e => by
      by_cases hc : p.1 < js.length <;> by_cases hd : q.1 < js.length
      · rw [hJl _ hc, hJl _ hd] at e
        rw [← gJ_get hn hc, ← gJ_get hn hd, e]
      · rw [hJl _ hc, show hJ js nx js.length q.1 = nx + (q.1 - js.length) from if_neg hd] at e
        have := ltJ_get hlt hc; omega
      · rw [hJl _ hd, show hJ js nx js.length p.1 = nx + (p.1 - js.length) from if_neg hc] at e
        have := ltJ_get hlt hd; omega
      · rw [show hJ js nx js.length p.1 = nx + (p.1 - js.length) from if_neg hc, show hJ js nx js.length q.1 = nx + (q.1 - js.length) from if_neg hd] at e
        omega
    intro p hp q hq e
    rcases inv p hp with ⟨p', hp', rfl⟩ | ⟨hpm, hpj⟩ <;> rcases inv q hq with ⟨q', hq', rfl⟩ | ⟨hqm, hqj⟩
    · rw [h'.keys p' hp' q' hq' (injh p' hp' q' hq' e)]
    · exact (cross p' hp' q hqm hqj e).elim
    · exact (cross q' hq' p hpm hpj e.symm).elim
    · exact h.keys p hpm q hqm e
  · intro p hp
    rcases inv p hp with ⟨p', hp', rfl⟩ | ⟨hpm, hpj⟩
    · exact hJlt _ (h'.lt p' hp')
    · have := h.lt p hpm; omega
  · intro p hp b hb
    rcases inv p hp with ⟨p', hp', rfl⟩ | ⟨hpm, hpj⟩
    · rw [blkN p' hp'] at hb
      have h1 := h'.own p' hp' b hb
      refine ⟨h1.1, ?_, fun hx => h1.2.2 (.inl hx)⟩
      rcases h1.2.1 with h2 | h2
      · exact .inl (Nat.le_trans h.size h2)
      · obtain ⟨q, hq, -, hqb⟩ := dsub b h2
        exact (h.own q hq b hqb).2.1
    · rw [blkO p hpm] at hb
      have h1 := h.own p hpm b hb
      exact ⟨Nat.lt_of_lt_of_le h1.1 h'.size, h1.2⟩
  · intro p hp q hq b hpb hqb
    rcases inv p hp with ⟨p', hp', rfl⟩ | ⟨hpm, hpj⟩ <;> rcases inv q hq with ⟨q', hq', rfl⟩ | ⟨hqm, hqj⟩
    · rw [blkN p' hp'] at hpb; rw [blkN q' hq'] at hqb
      rw [h'.inj p' hp' q' hq' b hpb hqb]
    · rw [blkN p' hp'] at hpb; rw [blkO q hqm] at hqb
      exact ((h'.own p' hp' b hpb).2.2 (.inr ⟨q, frin q hqm hqj, hqb⟩)).elim
    · rw [blkN q' hq'] at hqb; rw [blkO p hpm] at hpb
      exact ((h'.own q' hq' b hqb).2.2 (.inr ⟨p, frin p hpm hpj, hpb⟩)).elim
    · rw [blkO p hpm] at hpb; rw [blkO q hqm] at hqb
      exact h.inj p hpm q hqm b hpb hqb
  · intro p hp
    rcases inv p hp with ⟨p', hp', rfl⟩ | ⟨hpm, hpj⟩
    · have hobj := h'.obj p' hp'
      have hk' := h'.lt p' hp'
      obtain ⟨hd, hkind⟩ := hmf p' hp'
      obtain ⟨i, o'⟩ := p'
      cases o' with
      | cells cs =>
        obtain ⟨vals, e, h1, h2, h3, h4⟩ := hobj
        refine ⟨vals, e, ?_, by rw [V.mapL_length]; exact h2, fun m hm => ?_, fun m hm => ?_⟩
        · rw [cC i hk' (by simpa [AObj.isC] using hkind)]; exact h1
        · rw [V.mapL_length] at hm; rw [V.mapL_getD]; exact V.sc_map _ (h3 m hm)
        · rw [V.mapL_length] at hm; rw [V.mapL_getD]; exact hmapF _ _ _ (V.domL_getD (by simpa [AObj.dom] using hd) m) (h4 m hm)
      | row e z r =>
        obtain ⟨xs, h1, h2, h3, h4⟩ := hobj
        refine ⟨xs, ?_, h2, h3, fun m n hm hn' => (h4 m n hm hn').clos fun a y hc hno => ⟨hc, fun hn => hno (hOO _ hn)⟩⟩
        rw [cR i hk' (by simpa [AObj.isC] using hkind)]; exact h1
    · refine OR.mono hKp (iold _ (h.lt p hpm)).1 (iold _ (h.lt p hpm)).2 (fun b hb => h'.old b (h.own p hpm b hb).1 fun hf => ?_) (h.obj p hpm)
      obtain ⟨q, hq, hqj, hqb⟩ := dsub b hf
      have := h.inj p hpm q hq b hb hqb
      subst this
      rw [hpj] at hqj; cases hqj

theorem stpM_sound (h : SR cx σ ι ρ a w) (hs : stpM P σ o.op K) : o.wp P a w (Nx cx o a K) Q := by
  generalize ho : o.op = op at hs
  unfold stpM at hs
  split at hs
  · rename_i f args ts
    obtain ⟨vf, hf', hs⟩ := un1 h rfl hs
    split at hs
    · rename_i fid caps
      obtain ⟨vs, hl, hr, hok, js, r, mem', k', hcall, hnd, hlt, hdA, hdF, hdr, hdm, hk⟩ := unL_run h rfl hs
      unfold MR at hf'
      generalize hfe : a.eval f = fv at hf'
      cases hf' with
      | fn _ _ _ cvs hcl' hcr =>
        have hrun : (execOp a.eval o).run P w = .ok (.enter fid (args.map a.eval ++ cvs)) w := by
          simp [execOp, ho, resolve, hfe, Deferred.ofValue, invoke, okF_spec hok]
        have hlen : args.size = vs.length := by simp at hl; omega
        have hall := appd (w := w) (O := OO cx.X σ.mem ι ρ) (ι := ι) (ρ := ρ) (nx := σ.nx) (c := false) (xs := args.map a.eval) (ys := cvs) (by simpa using hlen) hcl' (fun i hi => by
          have := hr i hi
          simpa [List.getD, Array.getD_eq_getD_getElem?, MR] using this) hcr
        have hfoot := h.ml.foot hnd hlt hdF
        have hsub : ∀ b, OO (OO cx.X (σ.mem.filter fun p => !inJ js p.1) ι ρ) (footJ js σ.mem) (fun i => ι (js.getD i 0)) (fun i => ρ (js.getD i 0)) b → OO cx.X σ.mem ι ρ b := by
          rintro b ((hx | ⟨q, hq, hqb⟩) | ⟨q, hq, hqb⟩)
          · exact .inl hx
          · exact .inr ⟨q, (List.mem_filter.1 hq).1, hqb⟩
          · obtain ⟨p, hp, hj, rfl⟩ := mem_foot hq
            rw [blk_foot hj] at hqb
            exact .inr ⟨p, hp, hqb⟩
        have hc := hcall w (OO cx.X (σ.mem.filter fun p => !inJ js p.1) ι ρ) (fun i => ι (js.getD i 0)) (fun i => ρ (js.getD i 0)) (args.map a.eval ++ cvs) hfoot
          (by rw [V.mapL_length]; simp [hcl', hlen]) (fun i hi => by
            rw [V.mapL_length] at hi
            rw [V.mapL_getD]
            refine (hall i hi).mapF (Dp := inJ js) (Do := inJ js) (fun a y hc hno => ⟨hc, fun hn => hno (hsub _ hn)⟩) (fun id _ hj' => ?_) (fun id _ hj' => ?_) (V.domL_getD hdA i)
            · exact ⟨(gJ_spec hj').1, by rw [(gJ_spec hj').2]⟩
            · exact ⟨(gJ_spec hj').1, by rw [(gJ_spec hj').2]⟩)
        unfold Oper.wp
        rw [hrun]
        refine hc.mono ?_
        rintro en w' ⟨x, ι', ρ', rfl, hml', hrx, hkk, hpin⟩
        obtain ⟨ι'', ρ'', m1, m2, m3⟩ := h.ml.back hnd hlt hml' hkk hpin hdm
        exact ⟨_, _, ι'', ρ'', x, hk, rfl, h.step m1 m2, m3 _ _ _ hdr hrx⟩
    · exact hs.elim
  · exact hs.elim

theorem stpM_nodefer {op : Op} (h : stpM P σ op K) : ∀ c, op ≠ .defer c := fun c e => by subst e; exact h.elim
theorem stpO_nodefer {op : Op} (h : stpO P σ op K) : ∀ c, op ≠ .defer c := fun c e => by subst e; exact h.elim

/-- A call that is no plain one: it hands over a slice, or works on the caller's memory. -/
def stpX (P : Program) (σ : St) (op : Op) (K : V → St → Prop) : Prop := stpO P σ op K ∨ stpM P σ op K
theorem stpX_sound (h : SR cx σ ι ρ a w) (hs : stpX P σ o.op K) : o.wp P a w (Nx cx o a K) Q := by
  rcases hs with hs | hs
  · exact stpO_sound h hs
  · exact stpM_sound h hs
theorem stpX_nodefer {op : Op} (h : stpX P σ op K) : ∀ c, op ≠ .defer c := h.elim stpO_nodefer stpM_nodefer

end
end Go.Proofs.Ytcphhbiehaimeaa
