/- Texts of this proof, put together. -/
import Derived.Test.YtfamkbofdamkkaaGreatDoorKUa
import Derived.TacticsIn
import Derived.OrdersIn
import Derived.LoopNIn
import Derived.RangeFuncLeaves
import Derived.RangeFuncOwn
import Derived.RangeFuncKeeps
import Derived.Orders
import Derived.Test.YtfamkbofdamkkaaGreatDoorProg
import Derived.ProofKit
import Derived.SizedLaws
import Derived.OpenShut
import Derived.Deep.Slices
namespace Go.Proofs.YtfamkbofdamkkaaGreatDoor
open Go.RowKit
set_option linter.unusedVariables false
set_option linter.unusedSimpArgs false

/-! #### a call whose result the caller owns -/
/-- Called with what 'args' stands for, function f returns a slice of its own making: row (e, z, rows); and turns nothing that was there. -/
def CallsO (P : Program) (f : FuncId) (args : List V) (e z : Nat) (rows : List (List V)) : Prop :=
  ∀ (w : World) (X : Nat → Prop) (vs : Array Value), XL w (fun _ => False) X → vs.size = args.length →
    (∀ i, i < args.length → Rel w X (fun _ => 0) (fun _ => undef) 0 true (args.getD i .any) (vs.getD i undef)) →
    Calls P f vs w fun en w' => ∃ x xs, en = .returned x ∧ Below w.heap.size w w' ∧ w'.ownsRow w.heap.size e z x rows.length xs ∧
      RowsR w' (fun b => X b ∨ x.ownBlock = some b) (fun _ => 0) (fun _ => undef) 0 z rows xs

def stpO (P : Program) (σ : St) (op : Op) (K : V → St → Prop) : Prop :=
  match op with
  | .call { callee := .value f, args, argTypes } =>
    un none (σ.get f) fun vf =>
      match vf with
      | .fn f caps => unL none (args.toList.map σ.get) fun vs => okF P f = true ∧ V.clL (vs ++ caps) = true ∧ ∃ e z rows, CallsO P f (vs ++ caps) e z rows ∧ K (.own σ.nx) ⟨σ.env, (σ.nx, .row e z rows) :: σ.mem, σ.nx + 1⟩
      | _ => False
  | _ => False

def isO : Op → Bool
  | .call { callee := .value _, .. } => true
  | _ => false

section
variable {P : Program} {cx : Cx} {σ : St} {ι : Nat → Nat} {ρ : Nat → Value} {a : Act} {w : World} {K : V → St → Prop} {Q : Exit → Act → World → Prop} {o : Oper}

/-- A slice that a call has made comes into the call's own memory. -/
theorem ML.adopt {mem : Mem} {nx : Nat} {w' : World} (h : ML cx mem nx ι ρ w) (hb : Below w.heap.size w w') (x : Value) (e z : Nat) (rows : List (List V)) (xs : List Value)
    (hx : w'.ownsRow w.heap.size e z x rows.length xs) (hr : RowsR w' (fun b => OO cx.X mem ι ρ b ∨ x.ownBlock = some b) (fun _ => 0) (fun _ => undef) 0 z rows xs) :
    ML cx ((nx, .row e z rows) :: mem) (nx + 1) ι (fun id => if id = nx then x else ρ id) w' ∧ Kp cx mem nx ι ρ w ((nx, .row e z rows) :: mem) (nx + 1) ι (fun id => if id = nx then x else ρ id) w' := by
  have hlt := hx.lt
  have hblk' : ∀ p ∈ mem, blk ι (fun id => if id = nx then x else ρ id) p = blk ι ρ p := by
    rintro ⟨id, o'⟩ hp
    have := h.lt _ hp
    have e : id ≠ nx := by simp at this; omega
    cases o' <;> simp [blk, e]
  have hnew : blk ι (fun id => if id = nx then x else ρ id) (nx, .row e z rows) = x.ownBlock := by simp [blk]
  have hO : ∀ b, OO cx.X ((nx, .row e z rows) :: mem) ι (fun id => if id = nx then x else ρ id) b ↔ (OO cx.X mem ι ρ b ∨ x.ownBlock = some b) := by
    intro b
    constructor
    · rintro (hX | ⟨p, hp, hpb⟩)
      · exact .inl (.inl hX)
      · rcases List.mem_cons.1 hp with rfl | hp
        · exact .inr (by rw [← hnew]; exact hpb)
        · exact .inl (.inr ⟨p, hp, by rw [← hblk' p hp]; exact hpb⟩)
    · rintro ((hX | ⟨p, hp, hpb⟩) | hxb)
      · exact .inl hX
      · exact .inr ⟨p, List.mem_cons_of_mem _ hp, by rw [hblk' p hp]; exact hpb⟩
      · exact .inr ⟨_, List.mem_cons_self, by rw [hnew]; exact hxb⟩
  have hk : Kp cx mem nx ι ρ w ((nx, .row e z rows) :: mem) (nx + 1) ι (fun id => if id = nx then x else ρ id) w' := fun c v y hr => by
    refine hr.mono (fun ad u hc hno => ?_) (fun id hid => ⟨rfl, if_neg (by omega)⟩) (by omega)
    have hl := block_lt_of_vu hc
    refine ⟨vu_of_block hc (hb.block _ hl), fun hn => ?_⟩
    rcases (hO _).1 hn with hn | hn
    · exact hno hn
    · have := (hlt _ hn).1; omega
  refine ⟨⟨hb.os.trans h.os, hb.tape.trans h.tape, hb.output.trans h.output, Nat.le_trans h.size hb.size, fun b hb0 hd => ?_, ?_, ?_, ?_, ?_, h.xlt, ?_⟩, hk⟩
  · rw [hb.block _ (Nat.lt_of_lt_of_le hb0 h.size)]; exact h.old b hb0 hd
  · intro p hp q hq e
    rcases List.mem_cons.1 hp with rfl | hp <;> rcases List.mem_cons.1 hq with rfl | hq
    · rfl
    · have := h.lt q hq; simp at e; omega
    · have := h.lt p hp; simp at e; omega
    · exact h.keys p hp q hq e
  · intro p hp
    rcases List.mem_cons.1 hp with rfl | hp
    · simp
    · have := h.lt p hp; omega
  · intro p hp b hpb
    rcases List.mem_cons.1 hp with rfl | hp
    · rw [hnew] at hpb
      have := hlt _ hpb
      have h0 := h.size
      exact ⟨this.2, .inl (by omega), fun hX => by have := h.xlt.lt _ hX; omega⟩
    · rw [hblk' p hp] at hpb
      have := h.own p hp b hpb
      exact ⟨Nat.lt_of_lt_of_le this.1 hb.size, this.2⟩
  · intro p hp q hq b hpb hqb
    rcases List.mem_cons.1 hp with rfl | hp <;> rcases List.mem_cons.1 hq with rfl | hq
    · rfl
    · rw [hnew] at hpb; rw [hblk' q hq] at hqb; have h1 := (hlt _ hpb).1; have := (h.own q hq b hqb).1; omega
    · rw [hnew] at hqb; rw [hblk' p hp] at hpb; have h1 := (hlt _ hqb).1; have := (h.own p hp b hpb).1; omega
    · rw [hblk' p hp] at hpb; rw [hblk' q hq] at hqb; exact h.inj p hp q hq b hpb hqb
  · intro p hp
    rcases List.mem_cons.1 hp with rfl | hp
    · refine OR_row.2 ⟨xs, ?_, ?_⟩
      · simp only [if_true]
        refine ⟨hx.1, ?_⟩
        rcases hx.2 with hn | ⟨g, cap, cur, h1, h2, h3⟩
        · exact .inl hn
        · exact .inr ⟨g, cap, cur, h1, Nat.zero_le _, h3⟩
      · refine ⟨hr.1, hr.2.1, hr.2.2.1, fun i j hi hj => ?_⟩
        exact ((hr.2.2.2 i j hi hj).free rfl true).mono (fun ad u hc hno => ⟨hc, fun hn => hno ((hO _).1 hn)⟩) (fun _ _ => ⟨rfl, rfl⟩) (Nat.le_refl _)
    · have hne : p.1 ≠ nx := by have := h.lt p hp; omega
      exact OR.mono hk rfl (if_neg hne) (fun b hpb => hb.block _ (h.own p hp b hpb).1) (h.obj p hp)

theorem stpO_sound (h : SR cx σ ι ρ a w) (hs : stpO P σ o.op K) : o.wp P a w (Nx cx o a K) Q := by
  generalize ho : o.op = op at hs
  unfold stpO at hs
  split at hs
  · rename_i f args ts
    obtain ⟨vf, hf', hs⟩ := un1 h rfl hs
    split at hs
    · rename_i fid caps
      obtain ⟨vs, hl, hr, hok, hcl, e, z, rows, hcall, hk⟩ := unL_run h rfl hs
      unfold MR at hf'
      generalize hfe : a.eval f = fv at hf'
      cases hf' with
      | fn _ _ _ cvs hcl' hcr =>
        have hrun : (execOp a.eval o).run P w = .ok (.enter fid (args.map a.eval ++ cvs)) w := by
          simp [execOp, ho, resolve, hfe, Deferred.ofValue, invoke, okF_spec hok]
        have hlen : args.size = vs.length := by simp at hl; omega
        have hall := appd (w := w) (O := OO cx.X σ.mem ι ρ) (ι := ι) (ρ := ρ) (nx := σ.nx) (c := false) (xs := args.map a.eval) (ys := cvs) (by simpa using hlen) hcl' (fun i hi => by
          have := hr i hi
          simpa [List.getD, Array.getD_eq_getD_getElem?, MR] using this) hcr
        have hc := hcall w (OO cx.X σ.mem ι ρ) (args.map a.eval ++ cvs) h.ml.xl
          (by simp [hcl', hlen]) (fun i hi => (((hall i hi).of_cl (V.clL_getD hcl i) true).free rfl true))
        unfold Oper.wp
        rw [hrun]
        refine hc.mono ?_
        rintro en w' ⟨x, xs, rfl, hb, hox, hrx⟩
        obtain ⟨m1, m2⟩ := h.ml.adopt hb x e z rows xs hox hrx
        refine ⟨.own σ.nx, ⟨σ.env, _, _⟩, ι, _, x, hk, rfl, h.step m1 m2, ?_⟩
        have hone : x.oneCell' = true := by
          rcases hox.2 with ⟨rfl, -⟩ | ⟨g, cap, cur, rfl, -⟩ <;> rfl
        have := Rel.own (w := w') (O := OO cx.X ((σ.nx, .row e z rows) :: σ.mem) ι (fun id => if id = σ.nx then x else ρ id)) (ι := ι) (ρ := fun id => if id = σ.nx then x else ρ id) (nx := σ.nx + 1) σ.nx (by omega) (by simpa using hone)
        simpa [MR] using this
    · exact hs.elim
  · exact hs.elim
end

mutual
def V.map (g : Nat → Nat) : V → V
  | .own k => .own (g k)
  | .ptr k off => .ptr (g k) off
  | .rp k z i j => .rp (g k) z i j
  | .agg cs => .agg (V.mapL g cs)
  | .fn f cs => .fn f (V.mapL g cs)
  | .tup cs => .tup (V.mapL g cs)
  | .gd b v => .gd b (v.map g)
  | .int k n => .int k n
  | .bool b => .bool b
  | .str s => .str s
  | .sl e r => .sl e r
  | .slc e r => .slc e r
  | .ub => .ub
  | .nf => .nf
  | .np => .np
  | .nm => .nm
  | .mp k => .mp (g k)
  | .fm es => .fm es
  | .yl l => .yl l
  | .eq x v => .eq x (v.map g)
  | .nsl => .nsl
  | .ep es => .ep es
  | .any => .any
def V.mapL (g : Nat → Nat) : List V → List V
  | [] => []
  | v :: vs => v.map g :: V.mapL g vs
end
mutual
/-- What is named lies in Dp (variables), Do (slices). -/
def V.dom (Dp Do : Nat → Bool) : V → Bool
  | .own k => Do k
  | .ptr k _ => Dp k
  | .rp k _ _ _ => Do k
  | .agg cs => V.domL Dp Do cs
  | .fn _ cs => V.domL Dp Do cs
  | .tup cs => V.domL Dp Do cs
  | .gd _ v => v.dom Dp Do
  | .int _ _ => true
  | .bool _ => true
  | .str _ => true
  | .sl _ _ => true
  | .slc _ _ => true
  | .ub => true
  | .nf => true
  | .np => true
  | .nm => true
  | .mp k => Dp k
  | .fm _ => true
  | .yl _ => true
  | .eq _ v => v.dom Dp Do
  | .nsl => true
  | .ep _ => true
  | .any => true
def V.domL (Dp Do : Nat → Bool) : List V → Bool
  | [] => true
  | v :: vs => v.dom Dp Do && V.domL Dp Do vs
end
theorem V.mapL_length (g : Nat → Nat) : ∀ (cs : List V), (V.mapL g cs).length = cs.length
  | [] => rfl
  | v :: vs => by simp [V.mapL, V.mapL_length g vs]
theorem V.mapL_getD (g : Nat → Nat) : ∀ (cs : List V) (k : Nat), (V.mapL g cs).getD k .any = (cs.getD k .any).map g
  | [], k => by simp [V.mapL, V.map]
  | v :: vs, 0 => by simp [V.mapL]
  | v :: vs, k + 1 => by simpa [V.mapL] using V.mapL_getD g vs k
theorem V.domL_getD {Dp Do : Nat → Bool} : ∀ {cs : List V} (_ : V.domL Dp Do cs = true) (k : Nat), (cs.getD k .any).dom Dp Do = true
  | [], _, k => by simp [V.dom]
  | v :: vs, h, 0 => by simp [V.domL] at h; simpa using h.1
  | v :: vs, h, k + 1 => by simp [V.domL] at h; simpa using V.domL_getD h.2 k
theorem V.sc_map (g : Nat → Nat) {v : V} (h : v.sc = true) : (v.map g).sc = true := by
  cases v <;> first | exact h | rfl | (cases h; done)

theorem Rel.clos {w w' : World} {O O' : Nat → Prop} {ι ι' : Nat → Nat} {ρ ρ' : Nat → Value} {nx nx' : Nat} (hw : ∀ a x, vu? w a = some x → ¬ O a.block → vu? w' a = some x ∧ ¬ O' a.block)
    {v : V} {x : Value} (h : Rel w O ι ρ nx true v x) : Rel w' O' ι' ρ' nx' true v x :=
  (h.free (ι' := ι') (ρ' := ρ') (nx' := nx') rfl true).mono hw (fun _ _ => ⟨rfl, rfl⟩) (Nat.le_refl _)

theorem Rel.mapF {w w' : World} {O O' : Nat → Prop} {ι ι' : Nat → Nat} {ρ ρ' : Nat → Value} {nx nx' : Nat} {g : Nat → Nat} {Dp Do : Nat → Bool}
    (hw : ∀ a x, vu? w a = some x → ¬ O a.block → vu? w' a = some x ∧ ¬ O' a.block)
    (hp : ∀ id, id < nx → Dp id = true → g id < nx' ∧ ι' (g id) = ι id) (ho : ∀ id, id < nx → Do id = true → g id < nx' ∧ ρ' (g id) = ρ id)
    {c : Bool} {v : V} {x : Value} (h : Rel w O ι ρ nx c v x) : v.dom Dp Do = true → Rel w' O' ι' ρ' nx' c (v.map g) x := by
  induction h with
  | int c k n => exact fun _ => .int c k n
  | bool c b => exact fun _ => .bool c b
  | str c s => exact fun _ => .str c s
  | agg c cs vs hl hs _ ih =>
    intro e
    refine .agg c _ vs (by rw [V.mapL_length]; exact hl) (fun k hk => ?_) (fun k hk => ?_) <;> (rw [V.mapL_length] at hk; rw [V.mapL_getD])
    · exact V.sc_map _ (hs k hk)
    · exact ih k hk (V.domL_getD (by simpa [V.dom] using e) k)
  | sl c esz rows b off len cap xs hl hc hm hz hs hx h _ => exact fun _ => .sl c esz rows b off len cap xs hl hc hm hz hs (fun i j hi hj => (hw _ _ (vu_of_cell (hx i j hi hj).1) (hx i j hi hj).2).imp cell_of_vu id) fun i j hi hj => (h i j hi hj).clos hw
  | slnil c esz ad => exact fun _ => .slnil c esz ad
  | nsl c => exact fun _ => .nsl c
  | slc c esz rows a n _ ih => exact fun _ => .slc c esz rows a n (ih rfl)
  | ub c b => exact fun _ => .ub c b
  | nf c => exact fun _ => .nf c
  | np c => exact fun _ => .np c
  | nm c => exact fun _ => .nm c
  | fm c es b arr clk hx h =>
    obtain ⟨h1, h2⟩ := hw ⟨b, 0, none⟩ _ (vu_of_map hx.1) hx.2
    exact fun _ => .fm c es b arr clk ⟨map_of_vu h1, h2⟩ h
  | mp k h =>
    intro e
    have := hp k h (by simpa [V.dom] using e)
    simp only [V.map]
    rw [← this.2]
    exact .mp _ this.1
  | yl c l => exact fun _ => .yl c l
  | eq c v x _ ih => exact fun e => .eq c _ x (ih (by simpa [V.dom] using e))
  | ptr k off h =>
    intro e
    have := hp k h (by simpa [V.dom] using e)
    simp only [V.map]
    rw [← this.2]
    exact .ptr _ off this.1
  | ep c es b off xs hs hx h _ => exact fun _ => .ep c es b off xs hs (fun j hj => (hw _ _ (vu_of_cell (hx j hj).1) (hx j hj).2).imp cell_of_vu id) fun j hj => (h j hj).clos hw
  | own k h h1 =>
    intro e
    have := ho k h (by simpa [V.dom] using e)
    simp only [V.map]
    rw [← this.2]
    exact .own _ this.1 (by rw [this.2]; exact h1)
  | rp k z i j b h hb =>
    intro e
    have := ho k h (by simpa [V.dom] using e)
    exact .rp _ z i j b this.1 (by rw [this.2]; exact hb)
  | fn c f caps vs hl _ ih => exact fun e => .fn c f _ vs (by rw [V.mapL_length]; exact hl) fun k hk => by rw [V.mapL_length] at hk; rw [V.mapL_getD]; exact ih k hk (V.domL_getD (by simpa [V.dom] using e) k)
  | tup c ts vs hl _ ih => exact fun e => .tup c _ vs (by rw [V.mapL_length]; exact hl) fun k hk => by rw [V.mapL_length] at hk; rw [V.mapL_getD]; exact ih k hk (V.domL_getD (by simpa [V.dom] using e) k)
  | gd c g' v x _ h0 ih => exact fun e => .gd c g' _ x (fun hg => ih hg (by simpa [V.dom] using e)) h0
  | any c x => exact fun _ => .any c x

def AObj.map (o : AObj) (g : Nat → Nat) : AObj :=
  match o with
  | .cells cs => .cells (V.mapL g cs)
  | .row e z r => .row e z r
  | .orow e z r => .orow e z (r.map (V.mapL g))
  | .dict es => .dict es
def AObj.dom (o : AObj) (Dp Do : Nat → Bool) : Bool :=
  match o with
  | .cells cs => V.domL Dp Do cs
  | .row .. => true
  | .orow _ _ r => r.all (V.domL Dp Do)
  | .dict _ => true
def AObj.isC : AObj → Bool
  | .cells _ => true
  | .row .. => false
  | .orow .. => false
  | .dict _ => true

def inJ : List Nat → Nat → Bool
  | [], _ => false
  | j :: js, i => i == j || inJ js i
def gJ : List Nat → Nat → Nat
  | [], _ => 0
  | j :: js, i => if i = j then 0 else gJ js i + 1
def hJ (js : List Nat) (nx k id : Nat) : Nat := if id < k then js.getD id 0 else nx + (id - k)
def ndJ : List Nat → Bool
  | [] => true
  | j :: js => !inJ js j && ndJ js
def ltJ : List Nat → Nat → Bool
  | [], _ => true
  | j :: js, n => Nat.blt j n && ltJ js n
def kC (pre : Mem) (k id : Nat) : Bool := Nat.ble k id || pre.any fun p => p.1 == id && p.2.isC
def kR (pre : Mem) (k id : Nat) : Bool := Nat.ble k id || pre.any fun p => p.1 == id && !p.2.isC
def footJ (js : List Nat) (mem : Mem) : Mem := (mem.filter fun p => inJ js p.1).map fun p => (gJ js p.1, p.2.map (gJ js))
def backJ (js : List Nat) (nx k : Nat) (mem' mem : Mem) : Mem := (mem'.map fun p => (hJ js nx k p.1, p.2.map (hJ js nx k))) ++ mem.filter fun p => !inJ js p.1

theorem gJ_spec : ∀ {js : List Nat} {i : Nat}, inJ js i = true → gJ js i < js.length ∧ js.getD (gJ js i) 0 = i
  | [], i, h => by cases h
  | j :: js, i, h => by
    simp only [gJ]
    by_cases e : i = j
    · rw [if_pos e]; exact ⟨by simp, by simp [e]⟩
    · rw [if_neg e]
      simp only [inJ, Bool.or_eq_true, beq_iff_eq, e, false_or] at h
      have := gJ_spec h
      exact ⟨by simp; exact this.1, by simpa using this.2⟩
theorem inJ_get : ∀ {js : List Nat} {k : Nat}, k < js.length → inJ js (js.getD k 0) = true
  | [], k, h => by simp at h
  | j :: js, 0, h => by simp [inJ]
  | j :: js, k + 1, h => by
    have := inJ_get (js := js) (k := k) (by simpa using h)
    simp only [inJ, List.getD_cons_succ, this, Bool.or_true]
theorem gJ_get : ∀ {js : List Nat} {k : Nat}, ndJ js = true → k < js.length → gJ js (js.getD k 0) = k
  | [], k, _, h => by simp at h
  | j :: js, 0, _, h => by simp [gJ]
  | j :: js, k + 1, hn, h => by
    simp only [ndJ, Bool.and_eq_true, Bool.not_eq_true'] at hn
    have h' : k < js.length := by simpa using h
    simp only [List.getD_cons_succ, gJ]
    have hne : js.getD k 0 ≠ j := fun e => by have := inJ_get h'; rw [e, hn.1] at this; cases this
    rw [if_neg hne, gJ_get hn.2 h']
theorem ltJ_get : ∀ {js : List Nat} {n k : Nat}, ltJ js n = true → k < js.length → js.getD k 0 < n
  | [], n, k, _, h => by simp at h
  | j :: js, n, 0, hn, h => by simp only [ltJ, Bool.and_eq_true] at hn; have := hn.1; simpa using this
  | j :: js, n, k + 1, hn, h => by
    simp only [ltJ, Bool.and_eq_true] at hn
    have := ltJ_get (k := k) hn.2 (by simpa using h)
    simpa using this

/-- Called on memory 'pre' (numbers below k), function f returns r and leaves mem' (numbers below k'; those of 'pre' stand for what they stood for). -/
def CallsM (P : Program) (f : FuncId) (args : List V) (pre : Mem) (k : Nat) (r : V) (mem' : Mem) (k' : Nat) : Prop :=
  ∀ (w : World) (X : Nat → Prop) (ι : Nat → Nat) (ρ : Nat → Value) (vs : Array Value),
    ML ⟨w, fun b => ∃ p ∈ pre, blk ι ρ p = some b, X, none, [], fun _ => undef⟩ pre k ι ρ w → vs.size = args.length →
    (∀ i, i < args.length → Rel w (OO X pre ι ρ) ι ρ k false (args.getD i .any) (vs.getD i undef)) →
    Calls P f vs w fun e w' => ∃ x ι' ρ', e = .returned x ∧ ML ⟨w, fun b => ∃ p ∈ pre, blk ι ρ p = some b, X, none, [], fun _ => undef⟩ mem' k' ι' ρ' w' ∧ Rel w' (OO X mem' ι' ρ') ι' ρ' k' false r x ∧ k ≤ k' ∧
      ∀ p ∈ pre, (p.2.isC = true → ι' p.1 = ι p.1) ∧ (p.2.isC = false → ρ' p.1 = ρ p.1)

def stpM (P : Program) (σ : St) (op : Op) (K : V → St → Prop) : Prop :=
  match op with
  | .call { callee := .value f, args, argTypes } =>
    un none (σ.get f) fun vf =>
      match vf with
      | .fn f caps => unL none (args.toList.map σ.get) fun vs => okF P f = true ∧ ∃ js r mem' k', CallsM P f (V.mapL (gJ js) (vs ++ caps)) (footJ js σ.mem) js.length r mem' k' ∧
          ndJ js = true ∧ ltJ js σ.nx = true ∧ V.domL (inJ js) (inJ js) (vs ++ caps) = true ∧ ((σ.mem.filter fun p => inJ js p.1).all fun p => p.2.dom (inJ js) (inJ js)) = true ∧
          r.dom (kC (footJ js σ.mem) js.length) (kR (footJ js σ.mem) js.length) = true ∧
          (mem'.all fun p => p.2.dom (kC (footJ js σ.mem) js.length) (kR (footJ js σ.mem) js.length) && (match p.2.isC with | true => kC (footJ js σ.mem) js.length p.1 | false => kR (footJ js σ.mem) js.length p.1)) = true ∧
          K (r.map (hJ js σ.nx js.length)) ⟨σ.env, backJ js σ.nx js.length mem' σ.mem, σ.nx + (k' - js.length)⟩
      | _ => False
  | _ => False
section
variable {P : Program} {cx : Cx} {σ : St} {ι : Nat → Nat} {ρ : Nat → Value} {a : Act} {w : World} {K : V → St → Prop} {Q : Exit → Act → World → Prop} {o : Oper}

theorem mem_foot {js : List Nat} {mem : Mem} {q : Nat × AObj} (h : q ∈ footJ js mem) : ∃ p ∈ mem, inJ js p.1 = true ∧ q = (gJ js p.1, p.2.map (gJ js)) := by
  obtain ⟨p, hp, rfl⟩ := List.mem_map.1 h
  have := List.mem_filter.1 hp
  exact ⟨p, this.1, this.2, rfl⟩
theorem blk_foot {js : List Nat} {ι : Nat → Nat} {ρ : Nat → Value} {p : Nat × AObj} (h : inJ js p.1 = true) :
    blk (fun i => ι (js.getD i 0)) (fun i => ρ (js.getD i 0)) (gJ js p.1, p.2.map (gJ js)) = blk ι ρ p := by
  obtain ⟨i, o⟩ := p
  have := (gJ_spec h).2
  simp only at this
  cases o <;> simp only [blk, AObj.map, this]

/-- The part of memory that the call works on, by its own numbers. -/
theorem ML.foot {mem : Mem} {nx : Nat} (h : ML cx mem nx ι ρ w) {js : List Nat} (hn : ndJ js = true) (hlt : ltJ js nx = true) (hd : ((mem.filter fun p => inJ js p.1).all fun p => p.2.dom (inJ js) (inJ js)) = true) :
    ML ⟨w, fun b => ∃ p ∈ footJ js mem, blk (fun i => ι (js.getD i 0)) (fun i => ρ (js.getD i 0)) p = some b, OO cx.X (mem.filter fun p => !inJ js p.1) ι ρ, none, [], fun _ => undef⟩
      (footJ js mem) js.length (fun i => ι (js.getD i 0)) (fun i => ρ (js.getD i 0)) w := by
  have hsub : ∀ b, OO (OO cx.X (mem.filter fun p => !inJ js p.1) ι ρ) (footJ js mem) (fun i => ι (js.getD i 0)) (fun i => ρ (js.getD i 0)) b → OO cx.X mem ι ρ b := by
    rintro b ((hx | ⟨q, hq, hqb⟩) | ⟨q, hq, hqb⟩)
    · exact .inl hx
    · exact .inr ⟨q, (List.mem_filter.1 hq).1, hqb⟩
    · obtain ⟨p, hp, hj, rfl⟩ := mem_foot hq
      rw [blk_foot hj] at hqb
      exact .inr ⟨p, hp, hqb⟩
  refine ⟨rfl, rfl, rfl, Nat.le_refl _, fun _ _ _ => rfl, ?_, ?_, ?_, ?_, ?_, ?_⟩
  · intro q hq q' hq' e
    obtain ⟨p, hp, hj, rfl⟩ := mem_foot hq
    obtain ⟨p', hp', hj', rfl⟩ := mem_foot hq'
    simp only at e
    have e1 : p.1 = p'.1 := by rw [← (gJ_spec hj).2, ← (gJ_spec hj').2, e]
    rw [h.keys p hp p' hp' e1]
  · intro q hq
    obtain ⟨p, hp, hj, rfl⟩ := mem_foot hq
    exact (gJ_spec hj).1
  · intro q hq b hb
    obtain ⟨p, hp, hj, rfl⟩ := mem_foot hq
    have hb' := hb
    rw [blk_foot hj] at hb'
    have ho := h.own p hp b hb'
    refine ⟨ho.1, .inr ⟨_, hq, hb⟩, ?_⟩
    rintro (hx | ⟨q, hq2, hqb⟩)
    · exact ho.2.2 hx
    · have hf := List.mem_filter.1 hq2
      have := h.inj p hp q hf.1 b hb' hqb
      subst this
      have := hf.2
      rw [hj] at this; cases this
  · intro q hq q' hq' b hb hb'
    obtain ⟨p, hp, hj, rfl⟩ := mem_foot hq
    obtain ⟨p', hp', hj', rfl⟩ := mem_foot hq'
    rw [blk_foot hj] at hb
    rw [blk_foot hj'] at hb'
    rw [h.inj p hp p' hp' b hb hb']
  · refine ⟨?_, h.gtc.mono fun a x hc hn => ⟨hc, fun ho => hn (hsub _ (ho.elim .inr .inl))⟩⟩
    rintro b (hx | ⟨q, hq, hqb⟩)
    · exact Nat.lt_of_lt_of_le (h.xlt.lt b hx) h.size
    · exact (h.own q (List.mem_filter.1 hq).1 b hqb).1
  · intro q hq
    obtain ⟨p, hp, hj, rfl⟩ := mem_foot hq
    have hobj := h.obj p hp
    have hdp := List.all_eq_true.1 hd p (List.mem_filter.2 ⟨hp, hj⟩)
    have hget := (gJ_spec hj).2
    have hw : ∀ (a : Addr) x, vu? w a = some x → ¬ OO cx.X mem ι ρ a.block → vu? w a = some x ∧ ¬ OO (OO cx.X (mem.filter fun p => !inJ js p.1) ι ρ) (footJ js mem) (fun i => ι (js.getD i 0)) (fun i => ρ (js.getD i 0)) a.block :=
      fun a x hc hno => ⟨hc, fun hn => hno (hsub _ hn)⟩
    obtain ⟨i, o'⟩ := p
    cases o' with
    | cells cs =>
      obtain ⟨vals, e, h1, h2, h3, h4⟩ := hobj
      refine ⟨vals, e, ?_, by rw [V.mapL_length]; exact h2, fun m hm => ?_, fun m hm => ?_⟩
      · simp only at hget ⊢; rw [hget]; exact h1
      · rw [V.mapL_length] at hm; rw [V.mapL_getD]; exact V.sc_map _ (h3 m hm)
      · rw [V.mapL_length] at hm; rw [V.mapL_getD]
        refine (h4 m hm).mapF (Dp := inJ js) (Do := inJ js) hw (fun id _ hj' => ?_) (fun id _ hj' => ?_) (V.domL_getD (by simpa [AObj.dom] using hdp) m)
        · exact ⟨(gJ_spec hj').1, by rw [(gJ_spec hj').2]⟩
        · exact ⟨(gJ_spec hj').1, by rw [(gJ_spec hj').2]⟩
    | row e z r =>
      obtain ⟨xs, h1, h2, h3, h4⟩ := hobj
      refine ⟨xs, ?_, h2, h3, fun m n hm hn' => (h4 m n hm hn').clos hw⟩
      simp only at hget ⊢; rw [hget]; exact h1
    | orow e z r =>
      obtain ⟨xs, h1, h2, h3, h4⟩ := hobj
      refine ⟨xs, ?_, fun m hm => ?_, fun m n hm hn' => ?_, fun m n hm hn' => ?_⟩
      · simp only at hget ⊢; rw [hget, List.length_map]; exact h1
      all_goals (rw [List.length_map] at hm; rw [mapR_getD rfl])
      · rw [V.mapL_length]; exact h2 m hm
      · rw [V.mapL_getD]; exact V.sc_map _ (h3 m n hm hn')
      · rw [V.mapL_getD]
        refine (h4 m n hm hn').mapF (Dp := inJ js) (Do := inJ js) hw (fun id _ hj' => ?_) (fun id _ hj' => ?_) (V.domL_getD (List.all_eq_true.1 (by simpa [AObj.dom] using hdp : r.all (V.domL (inJ js) (inJ js)) = true) _ (getD_row hm)) n)
        · exact ⟨(gJ_spec hj').1, by rw [(gJ_spec hj').2]⟩
        · exact ⟨(gJ_spec hj').1, by rw [(gJ_spec hj').2]⟩
    | dict es =>
      obtain ⟨arr, clk, h1, h2⟩ := hobj
      refine ⟨arr, clk, ?_, h2⟩
      simp only at hget ⊢; rw [hget]; exact h1

theorem kC_spec {pre : Mem} {k id : Nat} (h : kC pre k id = true) : k ≤ id ∨ ∃ p ∈ pre, p.1 = id ∧ p.2.isC = true := by
  simp only [kC, Bool.or_eq_true, Nat.ble_eq, List.any_eq_true, Bool.and_eq_true, beq_iff_eq] at h
  exact h
theorem kR_spec {pre : Mem} {k id : Nat} (h : kR pre k id = true) : k ≤ id ∨ ∃ p ∈ pre, p.1 = id ∧ p.2.isC = false := by
  simp only [kR, Bool.or_eq_true, Nat.ble_eq, List.any_eq_true, Bool.and_eq_true, beq_iff_eq, Bool.not_eq_true'] at h
  exact h

/-- Back in the caller's memory. -/
theorem ML.back {mem : Mem} {nx : Nat} (h : ML cx mem nx ι ρ w) {js : List Nat} (hn : ndJ js = true) (hlt : ltJ js nx = true) {mem' : Mem} {k' : Nat} {ι' : Nat → Nat} {ρ' : Nat → Value} {w' : World}
    (h' : ML ⟨w, fun b => ∃ p ∈ footJ js mem, blk (fun i => ι (js.getD i 0)) (fun i => ρ (js.getD i 0)) p = some b, OO cx.X (mem.filter fun p => !inJ js p.1) ι ρ, none, [], fun _ => undef⟩ mem' k' ι' ρ' w')
    (hk : js.length ≤ k') (hpin : ∀ p ∈ footJ js mem, (p.2.isC = true → ι' p.1 = ι (js.getD p.1 0)) ∧ (p.2.isC = false → ρ' p.1 = ρ (js.getD p.1 0)))
    (hm : (mem'.all fun p => p.2.dom (kC (footJ js mem) js.length) (kR (footJ js mem) js.length) && (match p.2.isC with | true => kC (footJ js mem) js.length p.1 | false => kR (footJ js mem) js.length p.1)) = true) :
    ∃ ι'' ρ'', ML cx (backJ js nx js.length mem' mem) (nx + (k' - js.length)) ι'' ρ'' w' ∧ Kp cx mem nx ι ρ w (backJ js nx js.length mem' mem) (nx + (k' - js.length)) ι'' ρ'' w' ∧
      ∀ c v x, v.dom (kC (footJ js mem) js.length) (kR (footJ js mem) js.length) = true → Rel w' (OO (OO cx.X (mem.filter fun p => !inJ js p.1) ι ρ) mem' ι' ρ') ι' ρ' k' c v x →
        Rel w' (OO cx.X (backJ js nx js.length mem' mem) ι'' ρ'') ι'' ρ'' (nx + (k' - js.length)) c (v.map (hJ js nx js.length)) x := by
  refine ⟨fun i => if i < nx then ι i else ι' (i - nx + js.length), fun i => if i < nx then ρ i else ρ' (i - nx + js.length), ?_⟩
  generalize hι2 : (fun i => if i < nx then ι i else ι' (i - nx + js.length)) = ι''
  generalize hρ2 : (fun i => if i < nx then ρ i else ρ' (i - nx + js.length)) = ρ''
  have iold : ∀ i, i < nx → ι'' i = ι i ∧ ρ'' i = ρ i := fun i hi => by subst hι2; subst hρ2; exact ⟨if_pos hi, if_pos hi⟩
  have inew : ∀ i, js.length ≤ i → ι'' (hJ js nx js.length i) = ι' i ∧ ρ'' (hJ js nx js.length i) = ρ' i := fun i hi => by
    have e : hJ js nx js.length i = nx + (i - js.length) := if_neg (by omega)
    rw [e]; subst hι2; subst hρ2
    have e2 : nx + (i - js.length) - nx + js.length = i := by omega
    simp only [if_neg (show ¬ nx + (i - js.length) < nx by omega), e2]
    exact ⟨trivial, trivial⟩
  have hJl : ∀ i, i < js.length → hJ js nx js.length i = js.getD i 0 := fun i hi => if_pos hi
  have hJlt : ∀ i, i < k' → hJ js nx js.length i < nx + (k' - js.length) := fun i hi => by
    by_cases hc : i < js.length
    · rw [hJl i hc]; have := ltJ_get hlt hc; omega
    · have e : hJ js nx js.length i = nx + (i - js.length) := if_neg hc
      rw [e]; omega
  have cC : ∀ i, i < k' → kC (footJ js mem) js.length i = true → ι'' (hJ js nx js.length i) = ι' i := fun i hi hc => by
    by_cases hl : js.length ≤ i
    · exact (inew i hl).1
    · rcases kC_spec hc with h1 | ⟨p, hp, rfl, hpc⟩
      · omega
      · rw [hJl _ (by omega), (iold _ (ltJ_get hlt (by omega))).1, (hpin p hp).1 hpc]
  have cR : ∀ i, i < k' → kR (footJ js mem) js.length i = true → ρ'' (hJ js nx js.length i) = ρ' i := fun i hi hc => by
    by_cases hl : js.length ≤ i
    · exact (inew i hl).2
    · rcases kR_spec hc with h1 | ⟨p, hp, rfl, hpc⟩
      · omega
      · rw [hJl _ (by omega), (iold _ (ltJ_get hlt (by omega))).2, (hpin p hp).2 hpc]
  have hmf : ∀ p ∈ mem', p.2.dom (kC (footJ js mem) js.length) (kR (footJ js mem) js.length) = true ∧ (match p.2.isC with | true => kC (footJ js mem) js.length p.1 | false => kR (footJ js mem) js.length p.1) = true := fun p hp => by
    have := List.all_eq_true.1 hm p hp
    simpa [Bool.and_eq_true] using this
  have blkN : ∀ p ∈ mem', blk ι'' ρ'' (hJ js nx js.length p.1, p.2.map (hJ js nx js.length)) = blk ι' ρ' p := by
    intro p hp
    have hk' := h'.lt p hp
    have := (hmf p hp).2
    obtain ⟨i, o⟩ := p
    cases o with
    | cells cs => simp only [blk, AObj.map]; rw [cC i hk' (by simpa [AObj.isC] using this)]
    | row e z r => simp only [blk, AObj.map]; rw [cR i hk' (by simpa [AObj.isC] using this)]
    | orow e z r => simp only [blk, AObj.map]; rw [cR i hk' (by simpa [AObj.isC] using this)]
    | dict es => simp only [blk, AObj.map]; rw [cC i hk' (by simpa [AObj.isC] using this)]
  have blkO : ∀ p ∈ mem, blk ι'' ρ'' p = blk ι ρ p := by
    rintro ⟨i, o⟩ hp
    have := iold i (h.lt _ hp)
    cases o <;> simp only [blk, this.1, this.2]
  have dsub : ∀ b, (∃ p ∈ footJ js mem, blk (fun i => ι (js.getD i 0)) (fun i => ρ (js.getD i 0)) p = some b) → ∃ p ∈ mem, inJ js p.1 = true ∧ blk ι ρ p = some b := by
    rintro b ⟨q, hq, hqb⟩
    obtain ⟨p, hp, hj, rfl⟩ := mem_foot hq
    rw [blk_foot hj] at hqb
    exact ⟨p, hp, hj, hqb⟩
  have inv : ∀ q, q ∈ backJ js nx js.length mem' mem → (∃ p ∈ mem', q = (hJ js nx js.length p.1, p.2.map (hJ js nx js.length))) ∨ (q ∈ mem ∧ inJ js q.1 = false) := by
    intro q hq
    rcases List.mem_append.1 hq with hq | hq
    · obtain ⟨p, hp, rfl⟩ := List.mem_map.1 hq; exact .inl ⟨p, hp, rfl⟩
    · have := List.mem_filter.1 hq; exact .inr ⟨this.1, by simpa using this.2⟩
  have frin : ∀ q, q ∈ mem → inJ js q.1 = false → q ∈ mem.filter fun p => !inJ js p.1 := fun q hq hj => List.mem_filter.2 ⟨hq, by simp [hj]⟩
  have hOO : ∀ b, OO cx.X (backJ js nx js.length mem' mem) ι'' ρ'' b → OO (OO cx.X (mem.filter fun p => !inJ js p.1) ι ρ) mem' ι' ρ' b := by
    rintro b (hx | ⟨q, hq, hqb⟩)
    · exact .inl (.inl hx)
    · rcases inv q hq with ⟨p, hp, rfl⟩ | ⟨hqm, hj⟩
      · rw [blkN p hp] at hqb; exact .inr ⟨p, hp, hqb⟩
      · rw [blkO q hqm] at hqb; exact .inl (.inr ⟨q, frin q hqm hj, hqb⟩)
  have hcell : ∀ (a : Addr) x, vu? w a = some x → ¬ OO cx.X mem ι ρ a.block → vu? w' a = some x ∧ ¬ OO cx.X (backJ js nx js.length mem' mem) ι'' ρ'' a.block := by
    intro a x hc hno
    have hl := block_lt_of_vu hc
    have hnd : ¬ ∃ p ∈ footJ js mem, blk (fun i => ι (js.getD i 0)) (fun i => ρ (js.getD i 0)) p = some a.block := fun hd => by
      obtain ⟨p, hp, -, hb⟩ := dsub _ hd
      exact hno (.inr ⟨p, hp, hb⟩)
    refine ⟨vu_of_block hc (h'.old _ hl hnd), fun hn => ?_⟩
    rcases hOO _ hn with ((hx | ⟨q, hq, hqb⟩) | ⟨p, hp, hpb⟩)
    · exact hno (.inl hx)
    · exact hno (.inr ⟨q, (List.mem_filter.1 hq).1, hqb⟩)
    · rcases (h'.own p hp _ hpb).2.1 with h1 | h1
      · have : w.heap.size ≤ a.block := h1
        omega
      · exact hnd h1
  have hKp : Kp cx mem nx ι ρ w (backJ js nx js.length mem' mem) (nx + (k' - js.length)) ι'' ρ'' w' := fun c v x hr => hr.mono hcell iold (by omega)
  have hmapF : ∀ c v x, v.dom (kC (footJ js mem) js.length) (kR (footJ js mem) js.length) = true → Rel w' (OO (OO cx.X (mem.filter fun p => !inJ js p.1) ι ρ) mem' ι' ρ') ι' ρ' k' c v x →
        Rel w' (OO cx.X (backJ js nx js.length mem' mem) ι'' ρ'') ι'' ρ'' (nx + (k' - js.length)) c (v.map (hJ js nx js.length)) x := fun c v x hd hr =>
    hr.mapF (fun a y hc hno => ⟨hc, fun hn => hno (hOO _ hn)⟩) (fun id hid hc => ⟨hJlt id hid, cC id hid hc⟩) (fun id hid hc => ⟨hJlt id hid, cR id hid hc⟩) hd
  refine ⟨⟨h'.os.trans h.os, h'.tape.trans h.tape, h'.output.trans h.output, Nat.le_trans h.size h'.size, fun b hb hd => ?_, ?_, ?_, ?_, ?_, h.xlt, ?_⟩, hKp, hmapF⟩
  · rw [h'.old b (Nat.lt_of_lt_of_le hb h.size) ?_]
    · exact h.old b hb hd
    · intro hf
      obtain ⟨p, hp, -, hpb⟩ := dsub b hf
      rcases (h.own p hp b hpb).2.1 with h1 | h1
      · omega
      · exact hd h1
  · have cross : ∀ p ∈ mem', ∀ q ∈ mem, inJ js q.1 = false → hJ js nx js.length p.1 ≠ q.1 := fun p hp q hq hj e => by
      by_cases hc : p.1 < js.length
      · rw [hJl _ hc] at e
        have := inJ_get hc
        rw [e, hj] at this; cases this
      · have e2 : hJ js nx js.length p.1 = nx + (p.1 - js.length) := if_neg hc
        rw [e2] at e
        have := h.lt q hq
        omega
    have injh : ∀ p ∈ mem', ∀ q ∈ mem', hJ js nx js.length p.1 = hJ js nx js.length q.1 → p.1 = q.1 := fun p hp q hq e => by
      by_cases hc : p.1 < js.length <;> by_cases hd : q.1 < js.length
      · rw [hJl _ hc, hJl _ hd] at e
        rw [← gJ_get hn hc, ← gJ_get hn hd, e]
      · rw [hJl _ hc, show hJ js nx js.length q.1 = nx + (q.1 - js.length) from if_neg hd] at e
        have := ltJ_get hlt hc; omega
      · rw [hJl _ hd, show hJ js nx js.length p.1 = nx + (p.1 - js.length) from if_neg hc] at e
        have := ltJ_get hlt hd; omega
      · rw [show hJ js nx js.length p.1 = nx + (p.1 - js.length) from if_neg hc, show hJ js nx js.length q.1 = nx + (q.1 - js.length) from if_neg hd] at e
        omega
    intro p hp q hq e
    rcases inv p hp with ⟨p', hp', rfl⟩ | ⟨hpm, hpj⟩ <;> rcases inv q hq with ⟨q', hq', rfl⟩ | ⟨hqm, hqj⟩
    · rw [h'.keys p' hp' q' hq' (injh p' hp' q' hq' e)]
    · exact (cross p' hp' q hqm hqj e).elim
    · exact (cross q' hq' p hpm hpj e.symm).elim
    · exact h.keys p hpm q hqm e
  · intro p hp
    rcases inv p hp with ⟨p', hp', rfl⟩ | ⟨hpm, hpj⟩
    · exact hJlt _ (h'.lt p' hp')
    · have := h.lt p hpm; omega
  · intro p hp b hb
    rcases inv p hp with ⟨p', hp', rfl⟩ | ⟨hpm, hpj⟩
    · rw [blkN p' hp'] at hb
      have h1 := h'.own p' hp' b hb
      refine ⟨h1.1, ?_, fun hx => h1.2.2 (.inl hx)⟩
      rcases h1.2.1 with h2 | h2
      · exact .inl (Nat.le_trans h.size h2)
      · obtain ⟨q, hq, -, hqb⟩ := dsub b h2
        exact (h.own q hq b hqb).2.1
    · rw [blkO p hpm] at hb
      have h1 := h.own p hpm b hb
      exact ⟨Nat.lt_of_lt_of_le h1.1 h'.size, h1.2⟩
  · intro p hp q hq b hpb hqb
    rcases inv p hp with ⟨p', hp', rfl⟩ | ⟨hpm, hpj⟩ <;> rcases inv q hq with ⟨q', hq', rfl⟩ | ⟨hqm, hqj⟩
    · rw [blkN p' hp'] at hpb; rw [blkN q' hq'] at hqb
      rw [h'.inj p' hp' q' hq' b hpb hqb]
    · rw [blkN p' hp'] at hpb; rw [blkO q hqm] at hqb
      exact ((h'.own p' hp' b hpb).2.2 (.inr ⟨q, frin q hqm hqj, hqb⟩)).elim
    · rw [blkN q' hq'] at hqb; rw [blkO p hpm] at hpb
      exact ((h'.own q' hq' b hqb).2.2 (.inr ⟨p, frin p hpm hpj, hpb⟩)).elim
    · rw [blkO p hpm] at hpb; rw [blkO q hqm] at hqb
      exact h.inj p hpm q hqm b hpb hqb
  · intro p hp
    rcases inv p hp with ⟨p', hp', rfl⟩ | ⟨hpm, hpj⟩
    · have hobj := h'.obj p' hp'
      have hk' := h'.lt p' hp'
      obtain ⟨hd, hkind⟩ := hmf p' hp'
      obtain ⟨i, o'⟩ := p'
      cases o' with
      | cells cs =>
        obtain ⟨vals, e, h1, h2, h3, h4⟩ := hobj
        refine ⟨vals, e, ?_, by rw [V.mapL_length]; exact h2, fun m hm => ?_, fun m hm => ?_⟩
        · rw [cC i hk' (by simpa [AObj.isC] using hkind)]; exact h1
        · rw [V.mapL_length] at hm; rw [V.mapL_getD]; exact V.sc_map _ (h3 m hm)
        · rw [V.mapL_length] at hm; rw [V.mapL_getD]; exact hmapF _ _ _ (V.domL_getD (by simpa [AObj.dom] using hd) m) (h4 m hm)
      | row e z r =>
        obtain ⟨xs, h1, h2, h3, h4⟩ := hobj
        refine ⟨xs, ?_, h2, h3, fun m n hm hn' => (h4 m n hm hn').clos fun a y hc hno => ⟨hc, fun hn => hno (hOO _ hn)⟩⟩
        rw [cR i hk' (by simpa [AObj.isC] using hkind)]; exact h1
      | orow e z r =>
        obtain ⟨xs, h1, h2, h3, h4⟩ := hobj
        refine ⟨xs, ?_, fun m hm => ?_, fun m n hm hn' => ?_, fun m n hm hn' => ?_⟩
        · rw [cR i hk' (by simpa [AObj.isC] using hkind), List.length_map]; exact h1
        all_goals (rw [List.length_map] at hm; rw [mapR_getD rfl])
        · rw [V.mapL_length]; exact h2 m hm
        · rw [V.mapL_getD]; exact V.sc_map _ (h3 m n hm hn')
        · rw [V.mapL_getD]; exact hmapF _ _ _ (V.domL_getD (List.all_eq_true.1 (by simpa [AObj.dom] using hd : r.all _ = true) _ (getD_row hm)) n) (h4 m n hm hn')
      | dict es =>
        obtain ⟨arr, clk, h1, h2⟩ := hobj
        refine ⟨arr, clk, ?_, h2⟩
        rw [cC i hk' (by simpa [AObj.isC] using hkind)]; exact h1
    · refine OR.mono hKp (iold _ (h.lt p hpm)).1 (iold _ (h.lt p hpm)).2 (fun b hb => h'.old b (h.own p hpm b hb).1 fun hf => ?_) (h.obj p hpm)
      obtain ⟨q, hq, hqj, hqb⟩ := dsub b hf
      have := h.inj p hpm q hq b hb hqb
      subst this
      rw [hpj] at hqj; cases hqj

theorem stpM_sound (h : SR cx σ ι ρ a w) (hs : stpM P σ o.op K) : o.wp P a w (Nx cx o a K) Q := by
  generalize ho : o.op = op at hs
  unfold stpM at hs
  split at hs
  · rename_i f args ts
    obtain ⟨vf, hf', hs⟩ := un1 h rfl hs
    split at hs
    · rename_i fid caps
      obtain ⟨vs, hl, hr, hok, js, r, mem', k', hcall, hnd, hlt, hdA, hdF, hdr, hdm, hk⟩ := unL_run h rfl hs
      unfold MR at hf'
      generalize hfe : a.eval f = fv at hf'
      cases hf' with
      | fn _ _ _ cvs hcl' hcr =>
        have hrun : (execOp a.eval o).run P w = .ok (.enter fid (args.map a.eval ++ cvs)) w := by
          simp [execOp, ho, resolve, hfe, Deferred.ofValue, invoke, okF_spec hok]
        have hlen : args.size = vs.length := by simp at hl; omega
        have hall := appd (w := w) (O := OO cx.X σ.mem ι ρ) (ι := ι) (ρ := ρ) (nx := σ.nx) (c := false) (xs := args.map a.eval) (ys := cvs) (by simpa using hlen) hcl' (fun i hi => by
          have := hr i hi
          simpa [List.getD, Array.getD_eq_getD_getElem?, MR] using this) hcr
        have hfoot := h.ml.foot hnd hlt hdF
        have hsub : ∀ b, OO (OO cx.X (σ.mem.filter fun p => !inJ js p.1) ι ρ) (footJ js σ.mem) (fun i => ι (js.getD i 0)) (fun i => ρ (js.getD i 0)) b → OO cx.X σ.mem ι ρ b := by
          rintro b ((hx | ⟨q, hq, hqb⟩) | ⟨q, hq, hqb⟩)
          · exact .inl hx
          · exact .inr ⟨q, (List.mem_filter.1 hq).1, hqb⟩
          · obtain ⟨p, hp, hj, rfl⟩ := mem_foot hq
            rw [blk_foot hj] at hqb
            exact .inr ⟨p, hp, hqb⟩
        have hc := hcall w (OO cx.X (σ.mem.filter fun p => !inJ js p.1) ι ρ) (fun i => ι (js.getD i 0)) (fun i => ρ (js.getD i 0)) (args.map a.eval ++ cvs) hfoot
          (by rw [V.mapL_length]; simp [hcl', hlen]) (fun i hi => by
            rw [V.mapL_length] at hi
            rw [V.mapL_getD]
            refine (hall i hi).mapF (Dp := inJ js) (Do := inJ js) (fun a y hc hno => ⟨hc, fun hn => hno (hsub _ hn)⟩) (fun id _ hj' => ?_) (fun id _ hj' => ?_) (V.domL_getD hdA i)
            · exact ⟨(gJ_spec hj').1, by rw [(gJ_spec hj').2]⟩
            · exact ⟨(gJ_spec hj').1, by rw [(gJ_spec hj').2]⟩)
        unfold Oper.wp
        rw [hrun]
        refine hc.mono ?_
        rintro en w' ⟨x, ι', ρ', rfl, hml', hrx, hkk, hpin⟩
        obtain ⟨ι'', ρ'', m1, m2, m3⟩ := h.ml.back hnd hlt hml' hkk hpin hdm
        exact ⟨_, _, ι'', ρ'', x, hk, rfl, h.step m1 m2, m3 _ _ _ hdr hrx⟩
    · exact hs.elim
  · exact hs.elim

theorem stpM_nodefer {op : Op} (h : stpM P σ op K) : ∀ c, op ≠ .defer c := fun c e => by subst e; exact h.elim
theorem stpO_nodefer {op : Op} (h : stpO P σ op K) : ∀ c, op ≠ .defer c := fun c e => by subst e; exact h.elim

/-- A call that is no plain one: it hands over a slice, or works on the caller's memory. -/
def stpX (P : Program) (σ : St) (op : Op) (K : V → St → Prop) : Prop := stpO P σ op K ∨ stpM P σ op K
theorem stpX_sound (h : SR cx σ ι ρ a w) (hs : stpX P σ o.op K) : o.wp P a w (Nx cx o a K) Q := by
  rcases hs with hs | hs
  · exact stpO_sound h hs
  · exact stpM_sound h hs
theorem stpX_nodefer {op : Op} (h : stpX P σ op K) : ∀ c, op ≠ .defer c := h.elim stpO_nodefer stpM_nodefer

end
/-- The fence that lets all in, in a round of a loop over an iterator, or in none. -/
def Fr (r : Option Nat) : Fence := { fn := fun _ => True, depth := none, alive := false, round := r }
theorem rowsIn_wide {n : Nat} {P : Program} {row : String} {args : Array Value} {w : World} {R : Value → World → Prop} (h : Rows P row args w R) : RowsIn Fence.wide n P row args w R :=
 fun c cs _ => let ⟨v, w', r, s⟩ := h c cs; ⟨v, w', r, stepsIn_wide.2 s⟩
theorem Oper.wpIn_of_wp {P : Program} {o : Oper} {a : Act} {w : World} {K : Act → World → Prop} {Q : Exit → Act → World → Prop} {r : Option Nat} {n : Nat} (hd : ∀ c, o.op ≠ .defer c) (h : o.wp P a w K Q) :
  o.wpIn (Fr r) n P a w K Q := by
 refine ⟨fun _ _ => trivial, ?_⟩
 rw [Oper.semAt_eq _ _ _ hd]
 unfold Oper.wp at h
 generalize (execOp a.eval o).run P w = res at h
 have hn : (Fr r).depth.isSome = true → 1 ≤ n := fun h => by simp [Fr] at h
 cases res with
 | ok x w' =>
  cases x <;> simp only [Oper.upon] at h <;> simp only [Oper.uponIn] <;>
   first
    | exact h
    | exact ⟨hn, (callsIn_wide.2 h : CallsIn Fence.wide (n - 1) P _ _ _ _)⟩
    | exact ⟨hn, (rowsIn_wide h : RowsIn Fence.wide (n - 1) P _ _ _ _)⟩
    | exact h.elim
 | halt x w' => cases x <;> simp only [Oper.upon] at h <;> simp only [Oper.uponIn] <;> first | exact h | exact h.elim
theorem stp_nodefer {P : Program} {σ : St} {g : Option Bool} {op : Op} {K : V → St → Prop} (h : stp P σ g op K) : ∀ c, op ≠ .defer c := fun c e => by subst e; exact h.elim

/-! #### an operation, under its guard -/
def gof (v : V) (want : Bool) (K : Bool → Prop) : Prop :=
 match v with
 | .bool b => K (b == want)
 | .gd g' (.bool b) => K (g' && (b == want))
 | _ => False

def St.put (σ : St) (d : Option Tmp) (v : V) : St :=
 match d with
 | some d => ⟨(d, v) :: σ.env, σ.mem, σ.nx⟩
 | none => σ

def dstIn (N : Nat) (d : Option Tmp) : Bool :=
 match d with
 | some d => decide (d < N) && decide (d < 1000000)
 | none => true

/-- The slot that operation number j writes. -/
def nth : List (Option Tmp) → Nat → Option Tmp
 | [], _ => none
 | d :: _, 0 => d
 | _ :: ds, j + 1 => nth ds j

/-- The state of a frame of N slots. -/
structure SF (N : Nat) (cx : Cx) (σ : St) (ι : Nat → Nat) (ρ : Nat → Value) (a : Act) (w : World) : Prop where
 sr : SR cx σ ι ρ a w
 size : a.tmps.size = N
 defers : a.defers = cx.df


/-- What a walk may do to the world beside what the states say. S: where it may stand; L: how the world of reference may turn; Y: operations that the walk has beside its own. -/
structure Ctl (P : Program) (N : Nat) where
 S : Cx → Prop
 L : Cx → Cx → Prop
 Y : Op → St → (V → St → Prop) → Prop
 refl : ∀ {a}, S a → L a a
 trans : ∀ {a b c}, L a b → L b c → L a c
 pres : ∀ {a b}, L a b → S a → S b
 hr : ∀ {a b}, L a b → b.r = a.r
 ys : ∀ {cx : Cx} {σ : St} {ι : Nat → Nat} {ρ : Nat → Value} {a : Act} {w : World} {o : Oper} {K : V → St → Prop} {Q : Exit → Act → World → Prop}, S cx → SF N cx σ ι ρ a w → Y o.op σ K →
  o.wpIn (Fr cx.r) 0 P a w (fun a' w' => ∃ (cx' : Cx) (v : V) (σ' : St) (ι' : Nat → Nat) (ρ' : Nat → Value) (x : Value), K v σ' ∧ L cx cx' ∧ a' = a.put o.dst x ∧ SF N cx' σ' ι' ρ' a w' ∧ MR cx' σ'.mem σ'.nx ι' ρ' w' v x) Q

def evO (P : Program) (ds : List (Option Tmp)) (o : Oper) (σ : St) (K : St → Prop) : Prop :=
 match o.guard with
 | none => stp P σ none o.op fun v σ' => K (σ'.put o.dst v)
 | some (j, want) =>
  match nth ds j with
  | some d => gof (σ.get (.tmp d)) want fun gb => ∃ v0, (gb = true → stp P σ (some gb) o.op fun v σ' => v = v0 ∧ σ' = σ) ∧ K (σ.put o.dst (.gd gb v0))
  | none => False

def evY {P : Program} {N : Nat} (C : Ctl P N) (ds : List (Option Tmp)) (o : Oper) (σ : St) (K : St → Prop) : Prop :=
 match o.guard with
 | none => C.Y o.op σ fun v σ' => K (σ'.put o.dst v)
 | some (j, want) =>
  match nth ds j with
  | some d => gof (σ.get (.tmp d)) want fun gb => (gb = true → C.Y o.op σ fun v σ' => K (σ'.put o.dst (.gd true v))) ∧ (gb = false → ∃ v0, K (σ.put o.dst (.gd false v0)))
  | none => False

def evR {P : Program} {N : Nat} (C : Ctl P N) (ds : List (Option Tmp)) : List Oper → St → (St → Prop) → Prop
 | [], σ, K => K σ
 | o :: rest, σ, K => (evO P ds o σ fun σ' => evR C ds rest σ' K) ∨ (o.guard = none ∧ stpX P σ o.op fun v σ' => evR C ds rest (σ'.put o.dst v) K) ∨ evY C ds o σ fun σ' => evR C ds rest σ' K

theorem nth_eq (ops : Array Oper) (j : Nat) : nth (ops.toList.map (·.dst)) j = (ops[j]?).bind (·.dst) := by
 have h : ∀ (l : List Oper) (j : Nat), nth (l.map (·.dst)) j = (l[j]?).bind (·.dst) := by
  intro l
  induction l with
  | nil => intro j; simp [nth]
  | cons o l ih => intro j; cases j with
   | zero => simp [nth]
   | succ j => simp [nth, ih]
 rw [h]; simp

section
variable {P : Program} {N : Nat} {cx : Cx} {σ : St} {ι : Nat → Nat} {ρ : Nat → Value} {a : Act} {w : World} {Q : Exit → Act → World → Prop} {o : Oper}

theorem SF.put (h : SF N cx σ ι ρ a w) {d : Option Tmp} (hd : dstIn N d = true) {v : V} {x : Value} (hr : MR cx σ.mem σ.nx ι ρ w v x) : SF N cx (σ.put d v) ι ρ (a.put d x) w := by
 cases d with
 | none => exact h
 | some d =>
  have hd0 : d < N ∧ d < 1000000 := by simpa [dstIn] using hd
  have hd' : d < a.tmps.size := by rw [h.size]; exact hd0.1
  refine ⟨⟨h.sr.ml, fun t => ?_⟩, by simp [Act.put, h.size], h.defers⟩
  simp only [St.put, St.slot, Act.put, List.lookup_cons]
  by_cases e : t = d
  ·
   subst e
   unfold tv
   rw [if_pos hd0.2]
   simp [Array.getD, hd']
   exact hr
  ·
   have e1 : (t == d) = false := by simpa using e
   have e2 : (a.tmps.setIfInBounds d x).getD t undef = a.tmps.getD t undef := by
    rw [Array.getD_eq_getD_getElem?, Array.getElem?_setIfInBounds_ne (Ne.symm e), ← Array.getD_eq_getD_getElem?]
   have e3 : tv cx { a with tmps := a.tmps.setIfInBounds d x } t = tv cx a t := by unfold tv; split <;> first | rfl | exact e2
   rw [e1]
   have e4 := h.sr.env t
   rw [← e3] at e4
   exact e4

theorem gof_sound {ops : Array Oper} {j d : Nat} {want : Bool} {K : Bool → Prop} (hj : (ops[j]?).bind (·.dst) = some d) (h : SR cx σ ι ρ a w) (hd : d < a.tmps.size) (hs : gof (σ.get (.tmp d)) want K) :
  ∃ gb, K gb ∧ (gb = true ↔ yielded ops a.tmps j = some want) := by
 have hr := h.get (.tmp d)
 rw [show a.eval (.tmp d) = a.tmps.getD d undef from rfl] at hr
 have hy : yielded ops a.tmps j = match a.tmps.getD d undef with | .bool b => some b | _ => none := by
  unfold yielded
  rw [hj]
  simp only [Option.bind_some, Array.getElem?_eq_getElem hd, Array.getD, dif_pos hd]
  show _ = match a.tmps[d] with | .bool b => some b | _ => none
  cases a.tmps[d] <;> rfl
 unfold gof at hs
 split at hs
 ·
  rename_i b hb
  rw [hb] at hr
  rw [hr.bool_inv] at hy
  exact ⟨_, hs, by rw [hy]; simp⟩
 ·
  rename_i g' b hb
  rw [hb] at hr
  refine ⟨_, hs, ?_⟩
  unfold MR at hr
  generalize a.tmps.getD d undef = x at hr hy
  cases hr with
  | gd _ _ _ _ h1 h0 =>
   cases g' with
   | true => have := (h1 rfl).bool_inv; subst this; rw [hy]; simp
   | false => have := h0 rfl; subst this; rw [hy]; simp [undef]
 ·
  exact hs.elim

theorem evO_sound {ops : Array Oper} {K : St → Prop} {rest : List Oper} {Q : Exit → Act → World → Prop} (hs : evO P (ops.toList.map (·.dst)) o σ K) (hd : dstIn N o.dst = true) (hN : ∀ (j d : Nat), (ops[j]?).bind (·.dst) = some d → d < N) (h : SF N cx σ ι ρ a w)
  (hrest : ∀ σ' ι' ρ' a' w', K σ' → SF N cx σ' ι' ρ' a' w' → wpListIn (Fr cx.r) 0 P ops Q rest a' w') : wpListIn (Fr cx.r) 0 P ops Q (o :: rest) a w := by
 unfold evO at hs
 split at hs
 ·
  rename_i hg
  unfold wpListIn
  rw [if_pos (by simp [Region.wanted, hg])]
  refine Oper.wpIn_of_wp (stp_nodefer hs) (Oper.wp_mono (fun a' w' ⟨v, σ', ι', ρ', x, hk, ha, hsr, hmr⟩ => ?_) (stp_sound (cx := cx) h.sr rfl hs))
  subst ha
  exact hrest _ ι' ρ' _ _ hk (SF.put ⟨hsr, h.size, h.defers⟩ hd hmr)
 ·
  rename_i j want hg
  split at hs
  ·
   rename_i d hj
   rw [nth_eq] at hj
   obtain ⟨gb, hs, hiff⟩ := gof_sound hj h.sr (by rw [h.size]; exact hN j d hj) hs
   unfold wpListIn
   by_cases hw : Region.wanted o (yielded ops a.tmps) = true
   ·
    rw [if_pos hw]
    have hgb : gb = true := hiff.2 (by simpa [Region.wanted, hg] using hw)
    obtain ⟨v0, hs, hK⟩ := hs
    refine Oper.wpIn_of_wp (stp_nodefer (hs hgb)) (Oper.wp_mono (fun a' w' ⟨v, σ', ι', ρ', x, hk, ha, hsr, hmr⟩ => ?_) (stp_sound (cx := cx) h.sr (by simpa using hgb) (hs hgb)))
    subst ha
    obtain ⟨rfl, rfl⟩ := hk
    exact hrest _ ι' ρ' _ _ hK (SF.put ⟨hsr, h.size, h.defers⟩ hd (.gd _ _ _ _ (fun _ => hmr) (fun e => by rw [hgb] at e; cases e)))
   ·
    rw [if_neg hw]
    refine ⟨fun _ _ => trivial, ?_⟩
    have hgb : gb = false := by
     cases gb with
     | false => rfl
     | true => exact (hw (by simpa [Region.wanted, hg] using hiff.1 rfl)).elim
    obtain ⟨v0, -, hK⟩ := hs
    exact hrest _ ι ρ _ _ hK (SF.put h hd (.gd _ _ _ _ (fun e => by rw [hgb] at e; cases e) (fun _ => rfl)))
  ·
   exact hs.elim

theorem evY_sound {C : Ctl P N} {ops : Array Oper} {K : St → Prop} {rest : List Oper} {Q : Exit → Act → World → Prop} (hS : C.S cx) (hs : evY C (ops.toList.map (·.dst)) o σ K) (hd : dstIn N o.dst = true) (hN : ∀ (j d : Nat), (ops[j]?).bind (·.dst) = some d → d < N) (h : SF N cx σ ι ρ a w)
  (hrest : ∀ cx' σ' ι' ρ' a' w', C.L cx cx' → K σ' → SF N cx' σ' ι' ρ' a' w' → wpListIn (Fr cx.r) 0 P ops Q rest a' w') : wpListIn (Fr cx.r) 0 P ops Q (o :: rest) a w := by
 unfold evY at hs
 split at hs
 ·
  rename_i hg
  unfold wpListIn
  rw [if_pos (by simp [Region.wanted, hg])]
  refine Oper.wpIn_mono (fun a' w' hq => ?_) (C.ys hS h hs)
  obtain ⟨cx', v, σ', ι', ρ', x, hk, hL, rfl, hsf, hmr⟩ := hq
  exact hrest cx' _ ι' ρ' _ _ hL hk (hsf.put hd hmr)
 ·
  rename_i j want hg
  split at hs
  ·
   rename_i d hj
   rw [nth_eq] at hj
   obtain ⟨gb, hs, hiff⟩ := gof_sound hj h.sr (by rw [h.size]; exact hN j d hj) hs
   unfold wpListIn
   by_cases hw : Region.wanted o (yielded ops a.tmps) = true
   ·
    rw [if_pos hw]
    have hgb : gb = true := hiff.2 (by simpa [Region.wanted, hg] using hw)
    refine Oper.wpIn_mono (fun a' w' hq => ?_) (C.ys hS h (hs.1 hgb))
    obtain ⟨cx', v, σ', ι', ρ', x, hk, hL, rfl, hsf, hmr⟩ := hq
    exact hrest cx' _ ι' ρ' _ _ hL hk (hsf.put hd (.gd _ _ _ _ (fun _ => hmr) (fun e => by cases e)))
   ·
    rw [if_neg hw]
    refine ⟨fun _ _ => trivial, ?_⟩
    have hgb : gb = false := by
     cases gb with
     | false => rfl
     | true => exact (hw (by simpa [Region.wanted, hg] using hiff.1 rfl)).elim
    obtain ⟨v0, hk0⟩ := hs.2 hgb
    exact hrest cx _ ι ρ _ _ (C.refl hS) hk0 (SF.put h hd (.gd _ _ _ _ (fun e => by cases e) (fun _ => rfl)))
  ·
   exact hs.elim

theorem evR_sound {C : Ctl P N} {ops : Array Oper} {Q : Exit → Act → World → Prop} (hN : ∀ (j d : Nat), (ops[j]?).bind (·.dst) = some d → d < N) {K : St → Prop} : ∀ {l : List Oper} {cx : Cx} {σ : St} {ι : Nat → Nat} {ρ : Nat → Value} {a : Act} {w : World}, (∀ o ∈ l, dstIn N o.dst = true) → C.S cx → evR C (ops.toList.map (·.dst)) l σ K → SF N cx σ ι ρ a w →
  (∀ cx' σ' ι' ρ' a' w', C.L cx cx' → K σ' → SF N cx' σ' ι' ρ' a' w' → Q .normal a' w') → wpListIn (Fr cx.r) 0 P ops Q l a w
 | [], cx, σ, ι, ρ, a, w, _, hS, h, hf, hq => wpListIn_nil (hq cx σ ι ρ a w (C.refl hS) h hf)
 | o :: l, cx, σ, ι, ρ, a, w, hl, hS, .inl h, hf, hq => evO_sound h (hl o (by simp)) hN hf fun σ' ι' ρ' a' w' hk hf' => evR_sound hN (fun o ho => hl o (by simp [ho])) hS hk hf' hq
 | o :: l, cx, σ, ι, ρ, a, w, hl, hS, .inr (.inl ⟨hg, hs⟩), hf, hq => by
  unfold wpListIn
  rw [if_pos (by simp [Region.wanted, hg])]
  refine Oper.wpIn_of_wp (stpX_nodefer hs) (Oper.wp_mono (fun a' w' ⟨v, σ', ι', ρ', x, hk, ha, hsr, hmr⟩ => ?_) (stpX_sound (cx := cx) hf.sr hs))
  subst ha
  exact evR_sound hN (fun o ho => hl o (by simp [ho])) hS hk (SF.put ⟨hsr, hf.size, hf.defers⟩ (hl o (by simp)) hmr) hq
 | o :: l, cx, σ, ι, ρ, a, w, hl, hS, .inr (.inr hs), hf, hq => evY_sound hS hs (hl o (by simp)) hN hf fun cx' σ' ι' ρ' a' w' hL hk hf' => by
  have e := C.hr hL
  rw [← e]
  exact evR_sound hN (fun o ho => hl o (by simp [ho])) (C.pres hL hS) hk hf' fun cx2 σ2 ι2 ρ2 a2 w2 hL2 => hq cx2 σ2 ι2 ρ2 a2 w2 (C.trans hL hL2)

end

/-! #### code -/
def St.norm (keep : List Nat) (σ : St) : St := ⟨keep.filterMap fun s => (σ.env.lookup s).map fun v => (s, v), σ.mem, σ.nx⟩

theorem lookup_norm (keep : List Nat) (env : List (Nat × V)) (t : Nat) : ((keep.filterMap fun s => (env.lookup s).map fun v => (s, v)).lookup t) = none ∨ ((keep.filterMap fun s => (env.lookup s).map fun v => (s, v)).lookup t) = env.lookup t := by
 induction keep with
 | nil => exact .inl rfl
 | cons s keep ih =>
  simp only [List.filterMap_cons]
  cases hs : env.lookup s with
  | none => exact ih
  | some v =>
   simp only [Option.map_some, List.lookup_cons]
   by_cases e : t = s
   ·
    subst e; simp [hs]
   ·
    have e1 : (t == s) = false := by simpa using e
    rw [e1]; exact ih

theorem SR.norm {cx : Cx} {σ : St} {ι : Nat → Nat} {ρ : Nat → Value} {a : Act} {w : World} (h : SR cx σ ι ρ a w) (keep : List Nat) : SR cx (σ.norm keep) ι ρ a w := by
 refine ⟨h.ml, fun t => ?_⟩
 simp only [St.norm, St.slot]
 rcases lookup_norm keep σ.env t with e | e
 ·
  rw [e]; exact .any ..
 ·
  rw [e]; exact h.env t

/-- From a state for which σ stands, the code comes to one for which a σ' stands, that is as Ψ asks. -/
def Tr {P : Program} {N : Nat} (C : Ctl P N) (c : Code) (σ : St) (Ψ : Exit → St → Prop) : Prop :=
 ∀ (cx : Cx) (ι : Nat → Nat) (ρ : Nat → Value) (a : Act) (w : World), C.S cx → SF N cx σ ι ρ a w → c.wpIn (Fr cx.r) 0 P (fun e a' w' => ∃ cx' σ' ι' ρ', C.L cx cx' ∧ Ψ e σ' ∧ SF N cx' σ' ι' ρ' a' w') a w

def thenE (K : St → Prop) (Ψ : Exit → St → Prop) : Exit → St → Prop
 | .normal, σ => K σ
 | e, σ => Ψ e σ
def inBlkE (id : Nat) (Ψ : Exit → St → Prop) : Exit → St → Prop
 | .exit id', σ => if id' = id then Ψ .normal σ else Ψ (.exit id') σ
 | e, σ => Ψ e σ

/-- Each slot that the region writes is one of the N; the table of its own that a guard asks. -/
def dstsIn (N : Nat) (ops : List Oper) : Bool := ops.all fun o => dstIn N o.dst

def evC {P : Program} {N : Nat} (C : Ctl P N) (keep : List Nat) : Code → St → (Exit → St → Prop) → Prop
 | .skip, σ, Ψ => Ψ .normal σ
 | .label _, σ, Ψ => Ψ .normal σ
 | .ret, σ, Ψ => Ψ .ret σ
 | .exit id, σ, Ψ => Ψ (.exit id) σ
 | .region _ ops false, σ, Ψ => dstsIn N ops.toList = true ∧ evR C (ops.toList.map (·.dst)) ops.toList σ fun σ' => Ψ .normal (σ'.norm keep)
 | .seq x y, σ, Ψ => evC C keep x σ (thenE (fun σ' => evC C keep y σ' Ψ) Ψ)
 | .cond c x y, σ, Ψ =>
  match σ.get c with
  | .bool b => (b = true → evC C keep x σ Ψ) ∧ (b = false → evC C keep y σ Ψ)
  | _ => False
 | .block id c, σ, Ψ => evC C keep c σ (inBlkE id Ψ)
 | c, σ, Ψ => Tr C c σ Ψ

section
variable {P : Program} {N : Nat} {C : Ctl P N} {keep : List Nat}

theorem Tr.mono {c : Code} {σ : St} {Ψ Ψ' : Exit → St → Prop} (h : Tr C c σ Ψ) (hq : ∀ e σ, Ψ e σ → Ψ' e σ) : Tr C c σ Ψ' :=
 fun cx ι ρ a w hR hf => Code.wpIn_mono (fun e a' w' ⟨cx', σ', ι', ρ', hL, h1, h2⟩ => ⟨cx', σ', ι', ρ', hL, hq _ _ h1, h2⟩) (h cx ι ρ a w hR hf)

theorem dstsIn_spec {ops : Array Oper} (h : dstsIn N ops.toList = true) (j d : Nat) (hj : (ops[j]?).bind (·.dst) = some d) : d < N := by
 cases ho : ops[j]? with
 | none => simp [ho] at hj
 | some o =>
  simp [ho] at hj
  have := List.all_eq_true.1 h o (by simpa using Array.mem_of_getElem? ho)
  have h2 : d < N ∧ d < 1000000 := by simpa [dstIn, hj] using this
  exact h2.1

theorem evC_sound : ∀ (c : Code) (σ : St) (Ψ : Exit → St → Prop), evC C keep c σ Ψ → Tr C c σ Ψ
 | .skip, σ, Ψ, h => fun cx ι ρ a w hR hf => wpIn_skip ⟨cx, σ, ι, ρ, C.refl hR, h, hf⟩
 | .label l, σ, Ψ, h => fun cx ι ρ a w hR hf => wpIn_label ⟨cx, σ, ι, ρ, C.refl hR, h, hf⟩
 | .ret, σ, Ψ, h => fun cx ι ρ a w hR hf => wpIn_ret ⟨cx, σ, ι, ρ, C.refl hR, h, hf⟩
 | .exit id, σ, Ψ, h => fun cx ι ρ a w hR hf => wpIn_exit ⟨cx, σ, ι, ρ, C.refl hR, h, hf⟩
 | .region id ops false, σ, Ψ, h => fun cx ι ρ a w hR hf => by
  refine wpIn_region_list (evR_sound (dstsIn_spec h.1) (fun o ho => List.all_eq_true.1 h.1 o ho) hR h.2 hf fun cx' σ' ι' ρ' a' w' hL hk hf' => ⟨cx', _, ι', ρ', hL, hk, ⟨hf'.sr.norm keep, hf'.size, hf'.defers⟩⟩)
 | .region id ops true, σ, Ψ, h => h
 | .seq x y, σ, Ψ, h => fun cx ι ρ a w hR hf => by
  refine wpIn_seq (Code.wpIn_mono (fun e a' w' hq => ?_) (evC_sound x σ _ h cx ι ρ a w hR hf))
  obtain ⟨cx', σ', ι', ρ', hL, h1, h2⟩ := hq
  cases e with
  | normal =>
   have e := C.hr hL
   rw [← e]
   exact Code.wpIn_mono (fun e a' w' ⟨cx2, σ2, ι2, ρ2, hL2, k⟩ => ⟨cx2, σ2, ι2, ρ2, C.trans hL hL2, k⟩) (evC_sound y σ' Ψ h1 cx' ι' ρ' a' w' (C.pres hL hR) h2)
  | _ => exact ⟨cx', σ', ι', ρ', hL, h1, h2⟩
 | .cond c x y, σ, Ψ, h => fun cx ι ρ a w hR hf => by
  unfold evC at h
  split at h
  ·
   rename_i b hb
   have hr := hf.sr.get c
   rw [hb] at hr
   exact wpIn_cond_split hr.bool_inv (fun ht => evC_sound x σ Ψ (h.1 ht) cx ι ρ a w hR hf) (fun ht => evC_sound y σ Ψ (h.2 ht) cx ι ρ a w hR hf)
  ·
   exact h.elim
 | .block id c, σ, Ψ, h => fun cx ι ρ a w hR hf => by
  refine wpIn_block (Code.wpIn_mono (fun e a' w' hq => ?_) (evC_sound c σ _ h cx ι ρ a w hR hf))
  obtain ⟨cx', σ', ι', ρ', hL, h1, h2⟩ := hq
  cases e with
  | exit id' =>
   simp only [inBlkE] at h1
   simp only [Exit.inBlock]
   split
   ·
    rename_i he; rw [if_pos he] at h1; exact ⟨cx', σ', ι', ρ', hL, h1, h2⟩
   ·
    rename_i he; rw [if_neg he] at h1; exact ⟨cx', σ', ι', ρ', hL, h1, h2⟩
  | _ => exact ⟨cx', σ', ι', ρ', hL, h1, h2⟩
 | .loop c, σ, Ψ, h => h
 | .rangeFunc .., σ, Ψ, h => h
 | .scope c, σ, Ψ, h => h
 | .goto l, σ, Ψ, h => h
 | .refuse s, σ, Ψ, h => h

theorem evR_step {ds : List (Option Tmp)} {o : Oper} {l : List Oper} {σ : St} {K : St → Prop} (h : ∀ K' : St → Prop, (∀ σ', evR C ds l σ' K → K' σ') → evO P ds o σ K') : evR C ds (o :: l) σ K :=
 .inl (h _ fun _ h => h)
theorem evR_stepX {ds : List (Option Tmp)} {dst : Option Tmp} {op : Op} {ty : TypeId} {pos : String} {after : Array Edge} {l : List Oper} {σ : St} {K : St → Prop} (h : ∀ K' : St → Prop, (∀ σ', evR C ds l σ' K → K' σ') → stpX P σ op fun v σ' => K' (σ'.put dst v)) : evR C ds (⟨dst, op, ty, pos, after, none⟩ :: l) σ K :=
 .inr (.inl ⟨rfl, h _ fun _ h => h⟩)
theorem evR_stepY {ds : List (Option Tmp)} {dst : Option Tmp} {op : Op} {ty : TypeId} {pos : String} {after : Array Edge} {j : Nat} {want b : Bool} {d : Nat} {l : List Oper} {σ : St} {K : St → Prop} (hj : nth ds j = some d) (hb : σ.get (.tmp d) = .bool b)
  (h : ∀ K' : St → Prop, (∀ σ', evR C ds l σ' K → K' σ') → ((b == want) = true → C.Y op σ fun v σ' => K' (σ'.put dst (.gd true v))) ∧ ((b == want) = false → ∃ v0, K' (σ.put dst (.gd false v0)))) : evR C ds (⟨dst, op, ty, pos, after, some (j, want)⟩ :: l) σ K := by
 refine .inr (.inr ?_)
 unfold evY
 simp only [hj, hb]
 exact h _ fun _ h => h
theorem evO_guard {ds : List (Option Tmp)} {dst : Option Tmp} {op : Op} {ty : TypeId} {pos : String} {after : Array Edge} {j : Nat} {want : Bool} {d : Nat} {σ : St} {K : St → Prop} (hj : nth ds j = some d) {gb : Bool}
  (hg : ∀ K' : Bool → Prop, K' gb → gof (σ.get (.tmp d)) want K') {v0 : V} (hs : gb = true → stp P σ (some gb) op fun v σ' => v = v0 ∧ σ' = σ) (hK : K (σ.put dst (.gd gb v0))) :
  evO P ds ⟨dst, op, ty, pos, after, some (j, want)⟩ σ K := by
 unfold evO; simp only [hj]; exact hg _ ⟨v0, hs, hK⟩
theorem evC_region {id : Nat} {l : List Oper} {ds : List (Option Tmp)} {σ : St} {Ψ : Exit → St → Prop} (hd : dstsIn N l = true) (hds : l.map (·.dst) = ds)
  (h : ∀ K : St → Prop, (∀ σ', Ψ .normal (σ'.norm keep) → K σ') → evR C ds l σ K) : evC C keep (.region id l.toArray false) σ Ψ :=
 ⟨hd, by rw [show l.toArray.toList = l from rfl, hds]; exact h _ fun _ h => h⟩
/-! #### a call -/
def envOf : Nat → List V → List (Nat × V)
 | _, [] => []
 | k, v :: vs => (k, v) :: envOf (k + 1) vs

theorem lookup_envOf : ∀ (vs : List V) (k t : Nat), (envOf k vs).lookup t = if k ≤ t then vs[t - k]? else none
 | [], k, t => by simp [envOf]
 | v :: vs, k, t => by
  simp only [envOf, List.lookup_cons, lookup_envOf vs (k + 1) t]
  by_cases e : t = k
  ·
   subst e; simp
  ·
   have e1 : (t == k) = false := by simpa using e
   rw [e1]
   by_cases hle : k ≤ t
   ·
    rw [if_pos hle, if_pos (by omega)]
    have : t - k = (t - (k + 1)) + 1 := by omega
    rw [this]; simp
   ·
    rw [if_neg hle, if_neg (by omega)]

def resV1 (P : Program) (σ : St) : ResultVar → (V → Prop) → Prop
 | .tmp t, K => K (σ.get (.tmp t))
 | .cell p ty, K => loadV (lay P ty) σ.mem (σ.get (.tmp p)) K

/-- The results of a function, when it ends in σ; what it made is written no more. -/
def postA (P : Program) (rs : List ResultVar) (K : V → Prop) (e : Exit) (σ : St) : Prop :=
 let σ' := fzAll σ (σ.mem.map fun p => .own p.1)
 (match e with | .normal => True | .ret => True | _ => False) ∧
 match rs with
 | [] => K (.tup [])
 | [r] => resV1 P σ' r fun v => v.cl = true ∧ K v
 | [r, s] => resV1 P σ' r fun v => resV1 P σ' s fun u => v.cl = true ∧ u.cl = true ∧ K (.tup [v, u])
 | [r, s, t] => resV1 P σ' r fun v => resV1 P σ' s fun u => resV1 P σ' t fun x => v.cl = true ∧ u.cl = true ∧ x.cl = true ∧ K (.tup [v, u, x])
 | _ => False

end
section
variable {P : Program} {N : Nat} {cx : Cx} {σ : St} {ι : Nat → Nat} {ρ : Nat → Value} {a : Act} {w : World}

def rvRun (tmps : Array Value) : ResultVar → Sem Value
 | .tmp t => pure (tmps.getD t undef)
 | .cell p ty => do loadVar ty (← asAddr (tmps.getD p undef))

theorem loadAt_addr {ty : TypeId} {x y : Value} {w w' : World} (h : (Instr.loadAt ty x).run P w = .ok y w') : (do loadVar ty (← asAddr x) : Sem Value).run P w = .ok y w' := by
 cases x with
 | pointer ad =>
  cases ad with
  | some ad => exact h
  | none => simp [Instr.loadAt, Instr.sureAddr] at h
 | _ => simp [Instr.loadAt, Instr.sureAddr] at h

theorem resV1_sound {rv : ResultVar} {K : V → Prop} (h : SR cx σ ι ρ a w) (hs : resV1 P σ rv K) :
  ∃ x v, (rvRun a.tmps rv).run P w = .ok x w ∧ MR cx σ.mem σ.nx ι ρ w v x ∧ K v := by
 cases rv with
 | tmp t => exact ⟨_, _, rfl, h.get (.tmp t), hs⟩
 | cell p ty =>
  obtain ⟨v, y, h1, h2, h3⟩ := loadV_sound h.ml hs (h.get (.tmp p))
  exact ⟨y, v, loadAt_addr h1, h2, h3⟩

theorem results_eq (fn : Func) (tmps : Array Value) : results fn tmps = (do
  let vs ← fn.results.mapM (rvRun tmps)
  pure (if h : vs.size = 1 then vs[0] else .tuple vs)) := by
 unfold results
 congr 1

theorem results0 {fn : Func} {tmps : Array Value} (h : fn.results.toList = []) : (results fn tmps).run P w = .ok (.tuple #[]) w := by
 have e : fn.results = #[] := by apply Array.toList_inj.1; simpa using h
 rw [results_eq, e]; simp
theorem results1 {fn : Func} {tmps : Array Value} {r : ResultVar} {x : Value} (h : fn.results.toList = [r]) (h1 : (rvRun tmps r).run P w = .ok x w) : (results fn tmps).run P w = .ok x w := by
 have e : fn.results = #[r] := by apply Array.toList_inj.1; simpa using h
 rw [results_eq, e]; simp [Array.mapM_eq_mapM_toList, h1]
theorem results2 {fn : Func} {tmps : Array Value} {r s : ResultVar} {x y : Value} (h : fn.results.toList = [r, s]) (h1 : (rvRun tmps r).run P w = .ok x w) (h2 : (rvRun tmps s).run P w = .ok y w) :
  (results fn tmps).run P w = .ok (.tuple #[x, y]) w := by
 have e : fn.results = #[r, s] := by apply Array.toList_inj.1; simpa using h
 rw [results_eq, e]; simp [Array.mapM_eq_mapM_toList, h1, h2]
theorem results3 {fn : Func} {tmps : Array Value} {r s t : ResultVar} {x y z : Value} (h : fn.results.toList = [r, s, t]) (h1 : (rvRun tmps r).run P w = .ok x w) (h2 : (rvRun tmps s).run P w = .ok y w) (h3 : (rvRun tmps t).run P w = .ok z w) :
  (results fn tmps).run P w = .ok (.tuple #[x, y, z]) w := by
 have e : fn.results = #[r, s, t] := by apply Array.toList_inj.1; simpa using h
 rw [results_eq, e]; simp [Array.mapM_eq_mapM_toList, h1, h2, h3]

theorem postA_sound {fn : Func} {K : V → Prop} {e : Exit} (hf : SF N cx σ ι ρ a w) (h : postA P fn.results.toList K e σ) :
  (e = .normal ∨ e = .ret) ∧ ∃ x v mem, (results fn a.tmps).run P w = .ok x w ∧ Rel w (OO cx.X mem ι ρ) ι ρ σ.nx true v x ∧ K v := by
 have hnx : ∀ (vs : List V) (σ : St), (fzAll σ vs).nx = σ.nx := by
  intro vs
  induction vs with
  | nil => intro σ; rfl
  | cons v vs ih =>
   intro σ
   unfold fzAll
   split
   ·
    rfl
   ·
    rename_i heq; cases heq; split
    ·
     rw [ih]; rfl
    ·
     split
     ·
      rw [ih]; rfl
     ·
      exact ih σ
    ·
     exact ih σ
   ·
    rename_i heq; cases heq; split
    ·
     split
     ·
      rw [ih]; rfl
     ·
      exact ih σ
    ·
     exact ih σ
   ·
    rename_i heq; cases heq; split
    ·
     rw [ih]; rfl
    ·
     exact ih σ
   ·
    rename_i heq; cases heq; exact ih σ
 unfold postA at h
 simp only at h
 have hz := hf.sr.fzAll (σ.mem.map fun p => .own p.1)
 have hn := hnx (σ.mem.map fun p => .own p.1) σ
 generalize fzAll σ (σ.mem.map fun p => .own p.1) = σ' at h hz hn
 obtain ⟨he, h⟩ := h
 rw [← hn]
 refine ⟨by cases e <;> simp_all, ?_⟩
 split at h
 ·
  rename_i hr; exact ⟨_, _, σ'.mem, results0 hr, .tup _ _ _ rfl (by simp), h⟩
 ·
  rename_i r hr
  obtain ⟨x, v, h1, h2, hc, hk⟩ := resV1_sound hz h
  exact ⟨x, v, σ'.mem, results1 hr h1, h2.of_cl hc true, hk⟩
 ·
  rename_i r s hr
  obtain ⟨x, v, h1, h2, h⟩ := resV1_sound hz h
  obtain ⟨y, u, h3, h4, hc, hd, hk⟩ := resV1_sound hz h
  refine ⟨_, _, σ'.mem, results2 hr h1 h3, .tup _ _ _ rfl fun i hi => ?_, hk⟩
  have : i = 0 ∨ i = 1 := by simp at hi; omega
  rcases this with rfl | rfl
  ·
   simpa using h2.of_cl hc true
  ·
   simpa using h4.of_cl hd true
 ·
  rename_i r s t hr
  obtain ⟨x, v, h1, h2, h⟩ := resV1_sound hz h
  obtain ⟨y, u, h3, h4, h⟩ := resV1_sound hz h
  obtain ⟨z, q, h5, h6, hc, hd, hq, hk⟩ := resV1_sound hz h
  refine ⟨_, _, σ'.mem, results3 hr h1 h3 h5, .tup _ _ _ rfl fun i hi => ?_, hk⟩
  have : i = 0 ∨ i = 1 ∨ i = 2 := by simp at hi; omega
  rcases this with rfl | rfl | rfl
  ·
   simpa using h2.of_cl hc true
  ·
   simpa using h4.of_cl hd true
  ·
   simpa using h6.of_cl hq true
 ·
  exact h.elim

/-- How the world of reference may turn: marks come upon the deferred calls. -/
def mrk (D : Nat) : Deferred := { target := .collected D, args := #[] }
structure Ltr (a b : Cx) : Prop where
 r : b.r = a.r
 X : b.X = a.X
 G : b.G = a.G
 os : b.w0.os = a.w0.os
 tape : b.w0.tape = a.w0.tape
 output : b.w0.output = a.w0.output
 size : a.w0.heap.size ≤ b.w0.heap.size
 old : ∀ k, k < a.w0.heap.size → ¬ a.D k → b.w0.heap[k]? = a.w0.heap[k]?
 d : ∀ k, k < a.w0.heap.size → b.D k → a.D k
 df : ∃ ms : List Nat, b.df = ms.map mrk ++ a.df ∧ ms.Nodup ∧ ∀ D ∈ ms, a.w0.heap.size ≤ D ∧ b.w0.heap[D]? = some (.deferred (some [])) ∧ ¬ b.D D

theorem Ltr.refl (a : Cx) : Ltr a a := ⟨rfl, rfl, rfl, rfl, rfl, rfl, Nat.le_refl _, fun _ _ _ => rfl, fun _ _ h => h, [], rfl, .nil, by simp⟩
theorem some_lt {w : World} {k : Nat} {o : Obj} (h : w.heap[k]? = some o) : k < w.heap.size := (Array.getElem?_eq_some_iff.1 h).1
theorem Ltr.trans {a b c : Cx} (h : Ltr a b) (k : Ltr b c) : Ltr a c := by
 obtain ⟨ms, h1, h2, h3⟩ := h.df
 obtain ⟨ns, k1, k2, k3⟩ := k.df
 have hms : ∀ D ∈ ms, a.w0.heap.size ≤ D ∧ c.w0.heap[D]? = some (.deferred (some [])) ∧ ¬ c.D D := fun D hD => by
  obtain ⟨e1, e2, e3⟩ := h3 D hD
  have hc : c.w0.heap[D]? = some (.deferred (some [])) := by rw [k.old D (some_lt e2) e3]; exact e2
  exact ⟨e1, hc, fun hd => e3 (k.d D (some_lt e2) hd)⟩
 refine ⟨k.r.trans h.r, k.X.trans h.X, k.G.trans h.G, k.os.trans h.os, k.tape.trans h.tape, k.output.trans h.output, Nat.le_trans h.size k.size, fun i hi hd => ?_, fun i hi hd => h.d i hi (k.d i (Nat.lt_of_lt_of_le hi h.size) hd), ns ++ ms, by simp [h1, k1], ?_, fun D hD => ?_⟩
 ·
  rw [k.old i (Nat.lt_of_lt_of_le hi h.size) (fun hb => hd (h.d i hi hb))]; exact h.old i hi hd
 ·
  refine List.nodup_append.2 ⟨k2, h2, fun x hx y hy e => ?_⟩
  subst e
  have := (k3 x hx).1
  have := some_lt (h3 x hy).2.1
  omega
 ·
  rcases List.mem_append.1 hD with hD | hD
  ·
   have := k3 D hD; exact ⟨Nat.le_trans h.size this.1, this.2⟩
  ·
   exact hms D hD

/-- The walk of a function that is called. -/
def C0 (P : Program) (N : Nat) : Ctl P N where
 S := fun a => a.r = none
 L := Ltr
 Y := fun _ _ _ => False
 refl := fun _ => Ltr.refl _
 trans := Ltr.trans
 pres := fun h k => h.r.trans k
 hr := Ltr.r
 ys := fun _ _ h => h.elim

theorem ML.rebase {a b : Cx} {mem : Mem} {nx : Nat} {w : World} (hL : Ltr a b) (hx : XL a.w0 a.D a.X) (h : ML b mem nx ι ρ w) : ML a mem nx ι ρ w := by
 refine ⟨h.os.trans hL.os, h.tape.trans hL.tape, h.output.trans hL.output, Nat.le_trans hL.size h.size, fun i hi hd => ?_, h.keys, h.lt, fun p hp k hk => ?_, h.inj, hx, fun p hp => ?_⟩
 ·
  rw [h.old i (Nat.lt_of_lt_of_le hi hL.size) (fun hb => hd (hL.d i hi hb))]; exact hL.old i hi hd
 ·
  have := h.own p hp k hk
  refine ⟨this.1, ?_, by rw [← hL.X]; exact this.2.2⟩
  by_cases hi : k < a.w0.heap.size
  ·
   right
   rcases this.2.1 with h1 | h1
   ·
    have := hL.size; omega
   ·
    exact hL.d k hi h1
  ·
   left; omega
 ·
  have := h.obj p hp; rw [hL.X] at this; exact this
theorem SF.back {a b : Cx} {c : Act} {w : World} (hL : Ltr a b) (hx : XL a.w0 a.D a.X) (h : SF N b σ ι ρ c w) (ds : List Deferred) : SF N { a with df := ds } σ ι ρ { c with defers := ds } w := by
 refine ⟨⟨?_, fun t => ?_⟩, h.size, rfl⟩
 ·
  have := h.sr.ml.rebase hL hx
  exact ⟨this.os, this.tape, this.output, this.size, this.old, this.keys, this.lt, this.own, this.inj, this.xlt, this.obj⟩
 ·
  have := h.sr.env t
  have e1 : tv b c t = tv { a with df := ds } { c with defers := ds } t := by unfold tv; split <;> first | rfl | rw [hL.G]
  rw [e1] at this
  unfold MR at this ⊢
  rw [hL.X] at this
  exact this

/-- A block that holds no cells, and lies beyond the world of reference, turns. -/
theorem SF.turn {c : Act} {w : World} {D : Nat} {o o' : Obj} (h : SF N cx σ ι ρ c w) (hD : w.heap[D]? = some o) (ho : isDataO o = false) (hn : cx.w0.heap.size ≤ D) : SF N cx σ ι ρ c (w.putObj D o') := by
 have hb : ∀ b, b ≠ D → (w.putObj D o').heap[b]? = w.heap[b]? := fun b hb => World.putObj_heap_other hb
 have hc : ∀ a x, vu? w a = some x → a.block ≠ D := fun a x hx e => by
  unfold vu? World.cell? at hx
  rw [e, hD] at hx
  cases o <;> first | (cases ho; done) | (simp only [Option.map_none] at hx; cases hx; done) | (cases hx; done)
 have hm := h.sr.ml
 have hk : ∀ c v x, Rel w (OO cx.X σ.mem ι ρ) ι ρ σ.nx c v x → Rel (w.putObj D o') (OO cx.X σ.mem ι ρ) ι ρ σ.nx c v x := fun c v x hr =>
  hr.mono (fun a y hy hno => ⟨vu_of_block hy (hb _ (hc _ _ hy)), hno⟩) (fun _ _ => ⟨rfl, rfl⟩) (Nat.le_refl _)
 have hown : ∀ p ∈ σ.mem, ∀ b, blk ι ρ p = some b → b ≠ D := by
  rintro p hp b hpb rfl
  obtain ⟨i, ob⟩ := p
  have hob := hm.obj _ hp
  cases ob with
  | cells cs =>
   obtain ⟨vals, e, h1, _⟩ := hob
   simp [blk] at hpb
   simp only at h1
   rw [hpb, hD] at h1
   cases h1; cases ho
  | row e z rows =>
   obtain ⟨xs, h1, _⟩ := hob
   simp only [blk] at hpb
   rcases h1.2 with ⟨hv, _⟩ | ⟨g, cap, cur, hv, _, hg, _⟩
   ·
    simp only at hv; rw [hv] at hpb; cases hpb
   ·
    simp only at hv; rw [hv] at hpb
    simp [Value.ownBlock] at hpb
    rw [hpb, hD] at hg
    cases hg; cases ho
  | orow e z rows =>
   obtain ⟨xs, h1, _⟩ := hob
   simp only [blk] at hpb
   rcases h1.2 with ⟨hv, _⟩ | ⟨g, cap, cur, hv, _, hg, _⟩
   ·
    simp only at hv; rw [hv] at hpb; cases hpb
   ·
    simp only at hv; rw [hv] at hpb
    simp [Value.ownBlock] at hpb
    rw [hpb, hD] at hg
    cases hg; cases ho
  | dict es =>
   obtain ⟨arr, clk, h1, _⟩ := hob
   simp [blk] at hpb
   simp only at h1
   rw [hpb, hD] at h1
   cases h1; cases ho
 refine ⟨⟨⟨hm.os, hm.tape, hm.output, by simpa using hm.size, fun b hb0 hd => ?_, hm.keys, hm.lt, fun p hp b hpb => ?_, hm.inj, hm.xlt, fun p hp => ?_⟩, fun t => hk _ _ _ (h.sr.env t)⟩, h.size, h.defers⟩
 ·
  rw [hb b (by omega)]; exact hm.old b hb0 hd
 ·
  have := hm.own p hp b hpb; exact ⟨by simpa using this.1, this.2⟩
 ·
  exact OR.mono hk rfl rfl (fun b hpb => hb b (hown p hp b hpb)) (hm.obj p hp)

/-- The way out, by the marks. -/
theorem leaves_marks {fn : Func} {c : Act} {R : Ending → World → Prop} : ∀ (ms : List Nat) (w : World), ms.Nodup → (∀ D ∈ ms, cx.w0.heap.size ≤ D ∧ w.heap[D]? = some (.deferred (some []))) → SF N cx σ ι ρ c w →
  (∀ w', SF N cx σ ι ρ c w' → LeavesIn (Fr none) 0 P fn c.tmps R [] .returning w') → LeavesInM (Fr none) 0 P fn c.tmps R (ms.map mrk) .returning w
 | [], w, _, _, h, hk => hk w h
 | D :: ms, w, hn, hD, h, hk => by
  have h1 := hD D (by simp)
  refine ⟨by simp, .inl ⟨D, _, rfl, run_takeDeferred h1.2, ?_⟩⟩
  have hn' := List.nodup_cons.1 hn
  refine leaves_marks ms _ hn'.2 (fun E hE => ?_) (h.turn h1.2 rfl h1.1) hk
  have h2 := hD E (List.mem_cons_of_mem _ hE)
  refine ⟨h2.1, ?_⟩
  have hne : E ≠ D := by rintro rfl; exact hn'.1 hE
  rw [World.putObj_heap_other hne]; exact h2.2

/-- A call, by what its code comes to. -/
theorem calls_of_tr {f : FuncId} {fn : Func} {c : Code} (hf : P.funcs[f]? = some fn) (hb : fn.body = some c) {vs : Array Value} {Ψ : Exit → St → Prop} {R : Ending → World → Prop}
  (hr : cx.r = none) (hdf : cx.df = []) (h0 : SF fn.ntmps cx σ ι ρ { tmps := vs ++ Array.replicate (fn.ntmps - vs.size) undef, defers := [] } w) (h : Tr (C0 P fn.ntmps) c σ Ψ) (hΨ : ∀ e σ, Ψ e σ → e = .normal ∨ e = .ret)
  (hfin : ∀ e σ' ι' ρ' a' w', Ψ e σ' → SF fn.ntmps cx σ' ι' ρ' a' w' → ∃ x, (results fn a'.tmps).run P w' = .ok x w' ∧ R (.returned x) w') : Calls P f vs w R := by
 refine callsIn_wide.1 (callsIn_of_wp_marks (F := Fr none) (n := 0) hf hb trivial ?_)
 have hwp := h cx ι ρ _ w hr h0
 rw [hr] at hwp
 refine Code.wpIn_mono (fun e a' w' hq => ?_) hwp
 obtain ⟨cx', σ', ι', ρ', hL, hp, hs⟩ := hq
 have key : LeavesInM (Fr none) 0 P fn a'.tmps R a'.defers .returning w' := by
  obtain ⟨ms, h1, h2, h3⟩ := hL.df
  have hd : a'.defers = ms.map mrk := by rw [hs.defers, h1, hdf]; simp
  rw [hd]
  have hm := hs.sr.ml
  have hsb := hs.back hL h0.sr.ml.xlt []
  refine leaves_marks (cx := { cx with df := [] }) (c := { a' with defers := [] }) ms w' h2 (fun D hD => ?_) hsb fun w2 h4 => ?_
  ·
   obtain ⟨e1, e2, e3⟩ := h3 D hD
   exact ⟨e1, by rw [hm.old D (some_lt e2) e3]; exact e2⟩
  ·
   have hcx : ({ cx with df := [] } : Cx) = cx := by rw [← hdf]
   rw [hcx] at h4
   obtain ⟨x, hx, hR⟩ := hfin e σ' ι' ρ' _ w2 hp h4
   exact ⟨x, hx, hR⟩
 rcases hΨ e σ' hp with rfl | rfl
 ·
  exact key
 ·
  exact key

/-- **A call, by the statement over its code.** -/
theorem callsA_of_tr {f : FuncId} {fn : Func} {c : Code} (hf : P.funcs[f]? = some fn) (hb : fn.body = some c) {args : List V} {r : V} (hn : args.length ≤ fn.ntmps)
  (h : Tr (C0 P fn.ntmps) c ⟨envOf 0 args, [], 0⟩ (postA P fn.results.toList fun v => v = r)) : CallsA P f args r := by
 intro w X vs hX hl hr
 let cx : Cx := ⟨w, fun _ => False, X, none, [], fun t => vs.getD t undef⟩
 have hsf : SF fn.ntmps cx ⟨envOf 0 args, [], 0⟩ (fun _ => 0) (fun _ => undef) { tmps := vs ++ Array.replicate (fn.ntmps - vs.size) undef, defers := [] } w := by
  refine ⟨⟨⟨rfl, rfl, rfl, Nat.le_refl _, fun _ _ _ => rfl, by simp, by simp, by simp, by simp, hX, by simp⟩, fun t => ?_⟩, by simp; omega, rfl⟩
  simp only [St.slot, lookup_envOf]
  simp only [Nat.zero_le, if_true, Nat.sub_zero]
  by_cases ht : t < args.length
  ·
   have h1 := hr t ht
   have e1 : args[t]?.getD .any = args.getD t .any := rfl
   have e2 : tv cx { tmps := vs ++ Array.replicate (fn.ntmps - vs.size) undef, defers := [] } t = vs.getD t undef := by
    unfold tv
    split
    ·
     simp [Array.getD_eq_getD_getElem?, Array.getElem?_append_left (show t < vs.size by omega)]
    ·
     rfl
   rw [e1, e2]
   refine Rel.mono (fun a x hc hno => ⟨hc, fun h => ?_⟩) (fun _ _ => ⟨rfl, rfl⟩) (Nat.le_refl _) (h1.free rfl false)
   rcases h with h | ⟨p, hp, _⟩
   ·
    exact hno h
   ·
    cases hp
  ·
   rw [List.getElem?_eq_none (by omega)]; exact .any ..
 refine calls_of_tr hf hb rfl rfl hsf h (fun e σ hp => (by unfold postA at hp; cases e <;> simp_all)) fun e σ' ι' ρ' a' w' hp hs => ?_
 obtain ⟨he, x, v, mem, h1, h2, rfl⟩ := postA_sound hs hp
 have hm := hs.sr.ml
 have hbel : Below w.heap.size w w' := ⟨hm.os, hm.tape, hm.output, hm.size, fun b hb => hm.old b hb (fun h => h)⟩
 exact ⟨x, h1, x, rfl, hbel, Rel.mono (fun a y hc hno => ⟨hc, fun hx => hno (.inl hx)⟩) (fun _ _ => ⟨rfl, rfl⟩) (Nat.le_refl _) (h2.free rfl true)⟩

end
section
variable {P : Program} {N : Nat} {C : Ctl P N} {keep : List Nat}

theorem exists_least {p : Nat → Prop} : ∀ n, p n → ∃ n, p n ∧ ∀ m, p m → n ≤ m := by
 intro n
 induction n using Nat.strongRecOn with
 | _ n ih =>
  intro h
  by_cases hm : ∃ m, m < n ∧ p m
  ·
   obtain ⟨m, hlt, hp⟩ := hm; exact ih m hlt hp
  ·
   exact ⟨n, h, fun m hp => Nat.le_of_not_lt fun hlt => hm ⟨m, hlt, hp⟩⟩

open Classical in
theorem tr_loop {c : Code} {σ : St} {Ψ : Exit → St → Prop} (Inv : Nat → St → Prop) (n0 : Nat) (h0 : Inv n0 σ)
  (round : ∀ n σ, Inv n σ → Tr C c σ (thenE (fun σ' => ∃ m, m < n ∧ Inv m σ') Ψ)) : Tr C (.loop c) σ Ψ := by
 intro cx ι ρ a w hR hf
 let Q : Act → World → Nat → Prop := fun a w n => ∃ cx' σ ι ρ, C.L cx cx' ∧ Inv n σ ∧ SF N cx' σ ι ρ a w
 let I : Act → World → Prop := fun a w => ∃ n, Q a w n
 let μ : Act → World → Nat := fun a w => if h : ∃ n, Q a w n ∧ ∀ m, Q a w m → n ≤ m then Classical.choose h else 0
 have hμ : ∀ a w (h : I a w), Q a w (μ a w) ∧ ∀ m, Q a w m → μ a w ≤ m := by
  intro a w h
  obtain ⟨n, hn⟩ := h
  have h' := exists_least n hn
  have e : μ a w = Classical.choose h' := dif_pos h'
  rw [e]
  exact Classical.choose_spec h'
 refine wpIn_loop I μ ⟨n0, cx, σ, ι, ρ, C.refl hR, h0, hf⟩ fun a w hI => ?_
 obtain ⟨⟨cx1, σ1, ι1, ρ1, hL1, h1, h2⟩, -⟩ := hμ a w hI
 have hwp := round _ σ1 h1 cx1 ι1 ρ1 a w (C.pres hL1 hR) h2
 rw [C.hr hL1] at hwp
 refine Code.wpIn_mono (fun e a' w' hq => ?_) hwp
 obtain ⟨cx', σ', ι', ρ', hL2, hk, hs⟩ := hq
 replace hL2 := C.trans hL1 hL2
 cases e with
 | normal =>
  obtain ⟨m, hm, hi⟩ := hk
  have hI' : I a' w' := ⟨m, cx', σ', ι', ρ', hL2, hi, hs⟩
  exact ⟨hI', Nat.lt_of_le_of_lt ((hμ a' w' hI').2 m ⟨cx', σ', ι', ρ', hL2, hi, hs⟩) hm⟩
 | _ => exact ⟨cx', σ', ι', ρ', hL2, hk, hs⟩

/-- σ' says no more than σ. -/
def Wk (N : Nat) (σ σ' : St) : Prop := ∀ (cx : Cx) (ι : Nat → Nat) (ρ : Nat → Value) (a : Act) (w : World), SF N cx σ ι ρ a w → ∃ ι' ρ', SF N cx σ' ι' ρ' a w

theorem Wk.refl (σ : St) : Wk N σ σ := fun _ ι ρ _ _ h => ⟨ι, ρ, h⟩
theorem Wk.trans {σ σ1 σ2 : St} (h : Wk N σ σ1) (k : Wk N σ1 σ2) : Wk N σ σ2 := fun cx ι ρ a w hf => by
 obtain ⟨ι', ρ', h1⟩ := h cx ι ρ a w hf
 exact k cx ι' ρ' a w h1

theorem evC_wk {c : Code} {σ σ' : St} {Ψ : Exit → St → Prop} (hw : Wk N σ σ') (h : Tr C c σ' Ψ) : Tr C c σ Ψ := fun cx ι ρ a w hR hf => by
 obtain ⟨ι', ρ', h1⟩ := hw cx ι ρ a w hf
 exact h cx ι' ρ' a w hR h1

/-- Slots may be forgotten. -/
theorem Wk.norm (σ : St) (keep : List Nat) : Wk N σ (σ.norm keep) := fun _ ι ρ _ _ h => ⟨ι, ρ, ⟨h.sr.norm keep, h.size, h.defers⟩⟩
/-- What is written no more. -/
theorem Wk.fz {σ : St} {id : Nat} {o : AObj} (hl : σ.mem.look id = some o) (hc : o.clo = true) : Wk N σ (σ.fz id o) := fun _ ι ρ _ _ h => ⟨ι, ρ, ⟨h.sr.fz hl hc, h.size, h.defers⟩⟩

/-- Objects may be forgotten. -/
theorem Wk.drop {σ : St} (ids : Nat → Bool) : Wk N σ ⟨σ.env, σ.mem.filter (fun p => ids p.1), σ.nx⟩ := fun cx ι ρ a w h => by
 have hm := h.sr.ml
 have hin : ∀ p, p ∈ σ.mem.filter (fun p => ids p.1) → p ∈ σ.mem := fun p hp => (List.mem_filter.1 hp).1
 have hO : ∀ b, OO cx.X (σ.mem.filter (fun p => ids p.1)) ι ρ b → OO cx.X σ.mem ι ρ b := by
  rintro b (hx | ⟨p, hp, hpb⟩)
  ·
   exact .inl hx
  ·
   exact .inr ⟨p, hin p hp, hpb⟩
 have hk : ∀ c v x, Rel w (OO cx.X σ.mem ι ρ) ι ρ σ.nx c v x → Rel w (OO cx.X (σ.mem.filter (fun p => ids p.1)) ι ρ) ι ρ σ.nx c v x := fun c v x hr =>
  hr.mono (fun a y hc hn => ⟨hc, fun h => hn (hO _ h)⟩) (fun _ _ => ⟨rfl, rfl⟩) (Nat.le_refl _)
 exact ⟨ι, ρ, ⟨⟨⟨hm.os, hm.tape, hm.output, hm.size, hm.old, fun p hp q hq => hm.keys p (hin p hp) q (hin q hq), fun p hp => hm.lt p (hin p hp), fun p hp => hm.own p (hin p hp),
  fun p hp q hq => hm.inj p (hin p hp) q (hin q hq), hm.xlt, fun p hp => OR.mono hk rfl rfl (fun _ _ => rfl) (hm.obj p (hin p hp))⟩, fun t => hk _ _ _ (h.sr.env t)⟩, h.size, h.defers⟩⟩

end
/-- F comes to one value. -/
def Pt {α : Type} (F : (α → Prop) → Prop) : Prop := ∀ K, F K → ∃ v, (∀ K' : α → Prop, K' v → F K') ∧ K v

theorem Pt.bind {α β : Type} {F : (α → Prop) → Prop} {G : α → (β → Prop) → Prop} (hF : Pt F) (hG : ∀ v, Pt (G v)) : Pt fun K => F fun v => G v K := fun K h => by
 obtain ⟨v, h1, h2⟩ := hF _ h
 obtain ⟨u, h3, h4⟩ := hG v K h2
 exact ⟨u, fun K' hk => h1 _ (h3 K' hk), h4⟩
theorem Pt.ret {α : Type} (v : α) : Pt fun K : α → Prop => K v := fun K h => ⟨v, fun _ h => h, h⟩
theorem Pt.no {α : Type} : Pt fun _ : α → Prop => False := fun _ h => h.elim
theorem Pt.and {α : Type} {p : Prop} {F : (α → Prop) → Prop} (hF : Pt F) : Pt fun K => p ∧ F K := fun K h => by
 obtain ⟨v, h1, h2⟩ := hF K h.2
 exact ⟨v, fun K' hk => ⟨h.1, h1 K' hk⟩, h2⟩

theorem Pt.un (g : Option Bool) (v : V) : Pt (un g v) := fun K h => by
 unfold Proofs.YtfamkbofdamkkaaGreatDoor.un at h ⊢
 split at h
 ·
  exact ⟨_, fun K' hk => ⟨h.1, hk⟩, h.2⟩
 ·
  exact ⟨_, fun K' hk => hk, h⟩
 ·
  exact ⟨_, fun K' hk => hk, h⟩
theorem Pt.unL (g : Option Bool) : ∀ vs : List V, Pt (unL g vs)
 | [] => Pt.ret []
 | v :: vs => Pt.bind (F := Proofs.YtfamkbofdamkkaaGreatDoor.un g v) (G := fun v' K => Proofs.YtfamkbofdamkkaaGreatDoor.unL g vs fun vs' => K (v' :: vs')) (Pt.un g v) fun v' => Pt.bind (G := fun vs' K => K (v' :: vs')) (Pt.unL g vs) fun vs' => Pt.ret _
theorem Pt.pickV (t : Bool) (a b : V) : Pt (pickV t a b) := by
 unfold Proofs.YtfamkbofdamkkaaGreatDoor.pickV
 split
 ·
  exact Pt.ret _
 ·
  exact Pt.and (Pt.ret _)
 ·
  exact Pt.no
theorem Pt.binV (op : BinOp) (t : Bool) (fl : Option (Nat × IntKind)) (s : Bool) (a b : V) : Pt (binV op t fl s a b) := by
 unfold Proofs.YtfamkbofdamkkaaGreatDoor.binV
 split <;> first | exact Pt.no | exact Pt.and (Pt.ret _) | exact Pt.and (Pt.and (Pt.ret _)) | (split <;> first | exact Pt.no | exact Pt.and (Pt.and (Pt.and (Pt.and (Pt.ret _)))))
theorem Pt.unV (op : UnOp) (a : V) : Pt (unV op a) := by
 unfold Proofs.YtfamkbofdamkkaaGreatDoor.unV
 split <;> first | exact Pt.ret _ | exact Pt.no
theorem Pt.loadV (l : Option (Nat × Bool)) (m : Mem) (a : V) : Pt (loadV l m a) := by
 unfold Proofs.YtfamkbofdamkkaaGreatDoor.loadV
 split
 ·
  exact Pt.and (Pt.ret _)
 ·
  split
  ·
   exact Pt.and (Pt.ret _)
  ·
   exact Pt.no
 ·
  split
  ·
   exact Pt.and (Pt.and (Pt.and (Pt.ret _)))
  ·
   exact Pt.and (Pt.and (Pt.and (Pt.ret _)))
  ·
   exact Pt.no
 ·
  exact Pt.no
theorem Pt.idxV (s : Option (TypeId × Nat × Nat)) (ar : Option (Nat × TypeId × Nat)) (m : Mem) (x i : V) : Pt (idxV s ar m x i) := by
 unfold Proofs.YtfamkbofdamkkaaGreatDoor.idxV
 repeat' split
 all_goals first | exact Pt.no | exact Pt.and (Pt.and (Pt.and (Pt.ret _))) | exact Pt.and (Pt.and (Pt.ret _))
theorem Pt.fldV (f : Option (Nat × Nat × Bool)) (x : V) : Pt (fldV f x) := by
 unfold Proofs.YtfamkbofdamkkaaGreatDoor.fldV
 split <;> first | exact Pt.no | exact Pt.and (Pt.ret _)
theorem Pt.partV (l : Option (Nat × Bool)) (n : Nat) (x : V) : Pt (partV l n x) := by
 unfold Proofs.YtfamkbofdamkkaaGreatDoor.partV
 split <;> first | exact Pt.no | exact Pt.and (Pt.ret _)
theorem Pt.fillV (pl : List (Nat × Nat)) : ∀ (ps : List (Nat × V)) (cs : List V), Pt (fillV pl cs ps)
 | [], cs => Pt.ret _
 | (i, v) :: ps, cs => by
  show Pt fun K => Proofs.YtfamkbofdamkkaaGreatDoor.fillV pl cs ((i, v) :: ps) K
  simp only [Proofs.YtfamkbofdamkkaaGreatDoor.fillV]
  split
  ·
   exact Pt.and (Pt.and (Pt.and (Pt.fillV pl ps _)))
  ·
   exact Pt.no
theorem Pt.buildV (z : Option (List V)) (pl : Option (List (Nat × Nat))) (ps : List (Nat × V)) : Pt (buildV z pl ps) := by
 unfold Proofs.YtfamkbofdamkkaaGreatDoor.buildV
 split
 ·
  exact Pt.and (Pt.bind (Pt.fillV _ _ _) fun v => Pt.ret _)
 ·
  exact Pt.no
theorem Pt.rowsV (size : Nat) : ∀ (ps : List (Nat × V)) (rows : List (List V)), Pt (rowsV size rows ps)
 | [], rows => Pt.ret _
 | (i, v) :: ps, rows => by
  show Pt fun K => Proofs.YtfamkbofdamkkaaGreatDoor.rowsV size rows ((i, v) :: ps) K
  simp only [Proofs.YtfamkbofdamkkaaGreatDoor.rowsV]
  exact Pt.and (Pt.and (Pt.and (Pt.and (Pt.rowsV size ps _))))
theorem Pt.sliV (s : Option (TypeId × Nat × Nat)) (x : V) (lo hi : Option V) : Pt (sliV s x lo hi) := by
 unfold Proofs.YtfamkbofdamkkaaGreatDoor.sliV
 split <;> first | exact Pt.no | exact Pt.and (Pt.and (Pt.and (Pt.and (Pt.ret _)))) | exact Pt.and (Pt.and (Pt.and (Pt.ret _))) | exact Pt.and (Pt.ret _)
theorem Pt.lenV (s : Option (TypeId × Nat × Nat)) (ar : Option (Nat × TypeId × Nat)) (m : Mem) (x : V) : Pt (lenV s ar m x) := by
 unfold Proofs.YtfamkbofdamkkaaGreatDoor.lenV
 split
 ·
  exact Pt.ret _
 ·
  exact Pt.ret _
 ·
  split
  ·
   exact Pt.ret _
  ·
   exact Pt.ret _
  ·
   exact Pt.no
 ·
  exact Pt.no

theorem Pt.lookV (m : Mem) (x k : V) : Pt (lookV m x k) := by
 unfold Proofs.YtfamkbofdamkkaaGreatDoor.lookV
 split
 ·
  exact Pt.ret _
 ·
  exact Pt.ret _
 ·
  split
  ·
   exact Pt.ret _
  ·
   exact Pt.no
 ·
  exact Pt.no
theorem lookV_look {m m' : Mem} {x k : V} {K : V → Prop} (h : ∀ id, m'.look id = m.look id) : lookV m' x k K = lookV m x k K := by
 unfold lookV
 split <;> first | rfl | (simp only [h])
theorem lookV_csh {m : Mem} {x k : V} {K : V → Prop} (h : lookV (csh m) x k K) : lookV m x k K := by
 unfold lookV at h ⊢
 split at h
 ·
  exact h
 ·
  exact h
 ·
  rw [csh_look] at h
  rename_i id k0
  cases hl : Mem.look m id with
  | none => simp [hl] at h
  | some o =>
   cases o with
   | cells cs => simp [hl, AObj.csh] at h
   | row e z rows => simp [hl, AObj.csh] at h
   | orow e z rows => simp [hl, AObj.csh] at h
   | dict es => simp [hl, AObj.csh] at h
 ·
  exact h.elim
theorem lookV_nil {m : Mem} {x k : V} {K : V → Prop} (h : lookV [] x k K) : lookV m x k K := by
 unfold lookV at h ⊢
 split at h
 ·
  exact h
 ·
  exact h
 ·
  exact h.elim
 ·
  exact h.elim
/-- Effects on the call's own memory. -/
def isEff : Op → Bool
 | .alloc _ | .box .. | .buildSlice .. | .makeSlice .. | .store .. | .mapUpdate .. => true
 | .call { callee := .builtin .append, .. } => true
 | _ => false
/-- What is read of the call's own memory. -/
def isRd : Op → Bool
 | .load .. => true
 | .lookup .. => true
 | _ => false
/-- What hangs on how long the call's own slices are. -/
def isSh : Op → Bool
 | .indexAddr .. => true
 | .call { callee := .builtin .len, .. } => true
 | _ => false
def isSt : Op → Bool
 | .store .. => true
 | _ => false
/-- What makes a new variable or slice, and turns nothing that is there (but the slice that is appended to). -/
def isAl : Op → Bool
 | .alloc _ => true
 | .buildSlice .. => true
 | .call { callee := .builtin .append, .. } => true
 | _ => false
def unw : V → V
 | .gd _ v => v
 | .eq _ v => v
 | v => v
/-- The slice that is appended to. -/
def appOwn (σ : St) : Op → Option Nat
 | .call { callee := .builtin .append, args, .. } =>
  match args.toList with
  | [s, _] =>
   match unw (σ.get s) with
   | .own id => some id
   | _ => none
  | _ => none
 | _ => none

def sameOn (σ σ' : St) (op : Op) : Prop := ∀ x ∈ op.operands.toList, σ'.get x = σ.get x

section
variable {P : Program} {σ : St} {K : V → St → Prop}

theorem map_same {σ σ' : St} {xs : List Operand} (h : ∀ x ∈ xs, σ'.get x = σ.get x) : xs.map σ'.get = xs.map σ.get := List.map_congr_left h

theorem idxV_look {s : Option (TypeId × Nat × Nat)} {ar : Option (Nat × TypeId × Nat)} {m m' : Mem} {x i : V} {K : V → Prop} (h : ∀ id, m'.look id = m.look id) : idxV s ar m' x i K = idxV s ar m x i K := by
 unfold idxV
 split <;> first | rfl | (simp only [h])
theorem lenV_look {s : Option (TypeId × Nat × Nat)} {ar : Option (Nat × TypeId × Nat)} {m m' : Mem} {x : V} {K : V → Prop} (h : ∀ id, m'.look id = m.look id) : lenV s ar m' x K = lenV s ar m x K := by
 unfold lenV
 split <;> first | rfl | (simp only [h])
theorem Pt.appF (t : TypeId) (s x : V) : Pt (Proofs.YtfamkbofdamkkaaGreatDoor.appF P t s x) := by
 unfold Proofs.YtfamkbofdamkkaaGreatDoor.appF
 split
 ·
  refine Pt.and (Pt.and (Pt.and ?_))
  split
  ·
   exact Pt.and (Pt.and (Pt.and (Pt.ret _)))
  ·
   exact Pt.no
 ·
  exact Pt.no
theorem pt_stp {gb : Bool} {op : Op} (h : stp P σ (some gb) op K) :
  ∃ v, K v σ ∧ ∀ (σ' : St) (K' : V → St → Prop), sameOn σ σ' op → ((isRd op = true → ∀ id, σ'.mem.look id = σ.mem.look id) ∧ (isSh op = true → ∀ id, (shp σ'.mem).look id = (shp σ.mem).look id)) → K' v σ' → stp P σ' (some gb) op K' := by
 -- from F at the operands
 have fin : ∀ {F : (V → Prop) → Prop}, Pt F → F (fun v => K v σ) → (∀ (σ' : St) (K' : V → St → Prop), sameOn σ σ' op → ((isRd op = true → ∀ id, σ'.mem.look id = σ.mem.look id) ∧ (isSh op = true → ∀ id, (shp σ'.mem).look id = (shp σ.mem).look id)) → F (fun v => K' v σ') → stp P σ' (some gb) op K') →
   ∃ v, K v σ ∧ ∀ (σ' : St) (K' : V → St → Prop), sameOn σ σ' op → ((isRd op = true → ∀ id, σ'.mem.look id = σ.mem.look id) ∧ (isSh op = true → ∀ id, (shp σ'.mem).look id = (shp σ.mem).look id)) → K' v σ' → stp P σ' (some gb) op K' := by
  intro F hF hs hb
  obtain ⟨v, h1, h2⟩ := hF _ hs
  exact ⟨v, h2, fun σ' K' hl hm hk => hb σ' K' hl hm (h1 _ hk)⟩
 cases op
 case move x => exact fin (Pt.un _ _) h fun σ' K' hl hm hk => by simp only [stp]; rw [hl x (by simp [Op.operands])]; exact hk
 case assign x => exact fin (Pt.un _ _) h fun σ' K' hl hm hk => by simp only [stp]; rw [hl x (by simp [Op.operands])]; exact hk
 case pick c a b =>
  refine fin (F := fun K => un (some gb) (σ.get c) fun c => match c with
   | .bool t => un (some ((some gb).getD true && t)) (σ.get a) fun a => un (some ((some gb).getD true && !t)) (σ.get b) fun b => pickV t a b K
   | _ => False) (Pt.bind (Pt.un _ _) fun c => ?_) h fun σ' K' hl hm hk => ?_
  ·
   split
   ·
    exact Pt.bind (Pt.un _ _) fun _ => Pt.bind (Pt.un _ _) fun _ => Pt.pickV _ _ _
   ·
    exact Pt.no
  ·
   simp only [stp]; rw [hl c (by simp [Op.operands]), hl a (by simp [Op.operands]), hl b (by simp [Op.operands])]; exact hk
 case build T ps =>
  refine fin (F := fun K => unL (some gb) (ps.toList.map fun (p : Nat × Operand) => σ.get p.2) fun vs => buildV (zeroT P T) (plT P T) ((ps.toList.map fun (p : Nat × Operand) => p.1).zip vs) K) (Pt.bind (Pt.unL _ _) fun _ => Pt.buildV _ _ _) h fun σ' K' hl hm hk => ?_
  simp only [stp]
  rw [show (ps.toList.map fun p => σ'.get p.2) = ps.toList.map fun p => σ.get p.2 from List.map_congr_left fun p hp => hl p.2 (by simp only [Op.operands, List.mem_map]; exact ⟨p, hp, rfl⟩)]
  exact hk
 case load T x =>
  refine fin (F := fun K => un (some gb) (σ.get x) fun a => loadV (lay P T) σ.mem a K) (Pt.bind (Pt.un _ _) fun _ => Pt.loadV _ _ _) h fun σ' K' hl hm hk => ?_
  simp only [stp]; rw [hl x (by simp [Op.operands])]; simp only [loadV_look (hm.1 rfl)]; exact hk
 case binOp op T x y u =>
  refine fin (F := fun K => un (some gb) (σ.get x) fun x => un (some gb) (σ.get y) fun y => binV op (boolT P T) (flatT P T) (slT P T).isSome x y K) (Pt.bind (Pt.un _ _) fun _ => Pt.bind (Pt.un _ _) fun _ => Pt.binV _ _ _ _ _ _) h fun σ' K' hl hm hk => ?_
  simp only [stp]; rw [hl x (by simp [Op.operands]), hl y (by simp [Op.operands])]; exact hk
 case unOp op T x =>
  refine fin (F := fun K => un (some gb) (σ.get x) fun x => unV op x K) (Pt.bind (Pt.un _ _) fun _ => Pt.unV _ _) h fun σ' K' hl hm hk => ?_
  simp only [stp]; rw [hl x (by simp [Op.operands])]; exact hk
 case convert T U x =>
  refine fin (F := fun K => un (some gb) (σ.get x) fun x => match intT P T, intT P U, x with
   | some _, some k, .int _ n => K (.int k (k.wrap n))
   | _, _, _ => False) (Pt.bind (Pt.un _ _) fun _ => ?_) h fun σ' K' hl hm hk => ?_
  ·
   split
   ·
    exact Pt.ret _
   ·
    exact Pt.no
  ·
   simp only [stp]; rw [hl x (by simp [Op.operands])]; exact hk
 case makeFunc fn first caps =>
  cases fn <;> try exact h.elim
  case func f =>
   refine fin (F := fun K => first = #[] ∧ unL (some gb) (caps.toList.map σ.get) fun vs => K (.fn f vs)) (Pt.and (Pt.bind (Pt.unL _ _) fun _ => Pt.ret _)) h fun σ' K' hl hm hk => ?_
   simp only [stp]
   rw [map_same (σ := σ) (σ' := σ') fun x hx => hl x (by simp only [Op.operands, Array.toList_append, List.mem_append]; exact .inr hx)]
   exact hk
 case slice T x lo hi mx =>
  cases mx with
  | some m =>
   cases lo with
   | some l => exact h.elim
   | none =>
    cases hi with
    | none => exact h.elim
    | some hh =>
     refine fin (F := fun K => un (some gb) (σ.get x) fun x => un (some gb) (σ.get hh) fun h => un (some gb) (σ.get m) fun m => match slT P T, x, h, m with
      | some (_, c, _), .sl esz rows, .int _ h, .int _ m => c = esz ∧ h = m ∧ 0 ≤ h ∧ h ≤ rows.length ∧ K (.slc esz (rows.take h.toNat))
      | _, _, _, _ => False) (Pt.bind (Pt.un _ _) fun _ => Pt.bind (Pt.un _ _) fun _ => Pt.bind (Pt.un _ _) fun _ => ?_) h fun σ' K' hl hm hk => ?_
     ·
      split
      ·
       exact Pt.and (Pt.and (Pt.and (Pt.and (Pt.ret _))))
      ·
       exact Pt.no
     ·
      simp only [stp]; rw [hl x (by simp [Op.operands]), hl hh (by simp [Op.operands]), hl m (by simp [Op.operands])]; exact hk
  | none =>
  have e : ∀ (σ' : St), sameOn σ σ' (.slice T x lo hi none) → lo.map σ'.get = lo.map σ.get ∧ hi.map σ'.get = hi.map σ.get := fun σ' hl => by
   refine ⟨?_, ?_⟩
   ·
    cases lo with
    | none => rfl
    | some y => simp only [Option.map_some]; rw [hl y (by simp [Op.operands])]
   ·
    cases hi with
    | none => rfl
    | some y => simp only [Option.map_some]; rw [hl y (by simp [Op.operands])]
  simp only [stp] at h
  obtain ⟨vx, hv, h⟩ := Pt.un _ _ _ h
  split at h
  ·
   split at h
   ·
    obtain ⟨h, -⟩ := h; cases h
   ·
    exact h.elim
  ·
   rename_i es n e' c har
   obtain ⟨h1, h2, h3, h4, h5, hk⟩ := h
   refine ⟨_, hk, fun σ' K' hl hm hk' => ?_⟩
   simp only [stp]
   rw [hl x (by simp [Op.operands])]
   refine hv _ ?_
   simp only [har]
   exact ⟨h1, h2, h3, h4, h5, hk'⟩
  ·
   rename_i hn1 hn2
   obtain ⟨v, h1, h2⟩ := Pt.sliV _ _ _ _ _ h
   refine ⟨v, h2, fun σ' K' hl hm hk' => ?_⟩
   simp only [stp]
   rw [hl x (by simp [Op.operands]), (e σ' hl).1, (e σ' hl).2]
   refine hv _ ?_
   split
   ·
    rename_i id n e' c har; exact (hn1 _ _ _ _ rfl har).elim
   ·
    rename_i es n e' c har; exact (hn2 _ _ _ _ rfl har).elim
   ·
    exact h1 _ hk'
 case fieldAddr S x f =>
  refine fin (F := fun K => un (some gb) (σ.get x) fun x => fldV (stT P S f) x K) (Pt.bind (Pt.un _ _) fun _ => Pt.fldV _ _) h fun σ' K' hl hm hk => ?_
  simp only [stp]; rw [hl x (by simp [Op.operands])]; exact hk
 case field S x f =>
  refine fin (F := fun K => un (some gb) (σ.get x) fun x => match stT P S f with
   | some (off, c, ag) => partV (some (c, ag)) off x K
   | none => False) (Pt.bind (Pt.un _ _) fun _ => ?_) h fun σ' K' hl hm hk => ?_
  ·
   split
   ·
    exact Pt.partV _ _ _
   ·
    exact Pt.no
  ·
   simp only [stp]; rw [hl x (by simp [Op.operands])]; exact hk
 case indexAddr T x i =>
  refine fin (F := fun K => un (some gb) (σ.get x) fun x => un (some gb) (σ.get i) fun i => idxV (slT P T) (arT P T) (shp σ.mem) x i K) (Pt.bind (Pt.un _ _) fun _ => Pt.bind (Pt.un _ _) fun _ => Pt.idxV _ _ _ _ _) h fun σ' K' hl hm hk => ?_
  simp only [stp]; rw [hl x (by simp [Op.operands]), hl i (by simp [Op.operands])]; simp only [idxV_look (hm.2 rfl)]; exact hk
 case index T x i =>
  refine fin (F := fun K => un (some gb) (σ.get x) fun x => un (some gb) (σ.get i) fun i => match x, i with
   | .str s, .int _ n => strT P T = true ∧ 0 ≤ n ∧ n.toNat < s.size ∧ K (.int .u8 (s.get! n.toNat).toNat)
   | x, i =>
    match arT P T, i with
    | some (len, e, c), .int _ n => 0 ≤ n ∧ n < len ∧ partV (lay P e) (n.toNat * c) x K
    | _, _ => False) (Pt.bind (Pt.un _ _) fun _ => Pt.bind (Pt.un _ _) fun _ => ?_) h fun σ' K' hl hm hk => ?_
  ·
   split
   ·
    exact Pt.and (Pt.and (Pt.and (Pt.ret _)))
   ·
    split
    ·
     exact Pt.and (Pt.and (Pt.partV _ _ _))
    ·
     exact Pt.no
  ·
   simp only [stp]; rw [hl x (by simp [Op.operands]), hl i (by simp [Op.operands])]; exact hk
 case nilCheck x =>
  refine fin (F := fun K => un (some gb) (σ.get x) fun x => match x with
   | .ep es => K (.ep es)
   | .ptr id off => K (.ptr id off)
   | .rp id z i j => K (.rp id z i j)
   | _ => False) (Pt.bind (Pt.un _ _) fun _ => ?_) h fun σ' K' hl hm hk => ?_
  ·
   split
   ·
    exact Pt.ret _
   ·
    exact Pt.ret _
   ·
    exact Pt.ret _
   ·
    exact Pt.no
  ·
   simp only [stp]; rw [hl x (by simp [Op.operands])]; exact hk
 case extract x i =>
  refine fin (F := fun K => un (some gb) (σ.get x) fun t => match t with
   | .tup vs => i < vs.length ∧ K (vs.getD i .any)
   | _ => False) (Pt.bind (Pt.un _ _) fun _ => ?_) h fun σ' K' hl hm hk => ?_
  ·
   split
   ·
    exact Pt.and (Pt.ret _)
   ·
    exact Pt.no
  ·
   simp only [stp]; rw [hl x (by simp [Op.operands])]; exact hk
 case alloc => simp only [stp] at h; cases h.1
 case box => simp only [stp] at h; cases h.1
 case buildSlice T len ps =>
  simp only [stp] at h
  split at h
  ·
   rename_i e z by' hT
   split at h
   ·
    rename_i zs hz
    obtain ⟨h1, h2, h3, h4, h5, h⟩ := h
    obtain ⟨vs, hvs, h⟩ := Pt.unL _ _ _ h
    obtain ⟨rows, hrows, h⟩ := Pt.rowsV _ _ _ _ h
    rcases h with ⟨h, -⟩ | h | h
    ·
     cases h
    ·
     refine ⟨_, h, fun σ' K' hl hm hk => ?_⟩
     simp only [stp, hT, hz]
     rw [show (ps.toList.map fun p => σ'.get p.2) = ps.toList.map fun p => σ.get p.2 from List.map_congr_left fun p hp => hl p.2 (by simp only [Op.operands, List.mem_map]; exact ⟨p, hp, rfl⟩)]
     exact ⟨h1, h2, h3, h4, h5, hvs _ (hrows _ (.inr (.inl hk)))⟩
    ·
     refine ⟨_, h, fun σ' K' hl hm hk => ?_⟩
     simp only [stp, hT, hz]
     rw [show (ps.toList.map fun p => σ'.get p.2) = ps.toList.map fun p => σ.get p.2 from List.map_congr_left fun p hp => hl p.2 (by simp only [Op.operands, List.mem_map]; exact ⟨p, hp, rfl⟩)]
     exact ⟨h1, h2, h3, h4, h5, hvs _ (hrows _ (.inr (.inr hk)))⟩
   ·
    exact h.elim
  ·
   exact h.elim
 case store => simp only [stp] at h; cases h.1
 case makeSlice => simp only [stp] at h; cases h.1
 case call c =>
  obtain ⟨callee, args, ts⟩ := c
  cases callee with
  | value f =>
   simp only [stp] at h
   obtain ⟨vf, hv, h⟩ := Pt.un _ _ _ h
   split at h
   ·
    rename_i fid caps
    obtain ⟨vs, hvs, h1, h2, r, h3, h4⟩ := Pt.unL _ _ _ h
    refine ⟨r, h4, fun σ' K' hl hm hk => ?_⟩
    simp only [stp]
    rw [hl f (by simp [Op.operands, Call.operands]), map_same (σ := σ) (σ' := σ') fun x hx => hl x (by simp only [Op.operands, Call.operands, Array.toList_append, List.mem_append]; exact .inr hx)]
    exact hv _ (hvs _ ⟨h1, h2, r, h3, hk⟩)
   ·
    exact h.elim
  | invoke r m => exact h.elim
  | builtin b =>
   cases b <;> try exact h.elim
   case append =>
    simp only [stp] at h
    split at h
    ·
     rename_i s x t t' hx ht
     obtain ⟨rfl, h⟩ := h
     refine fin (F := fun K => un (some gb) (σ.get s) fun s => un (some gb) (σ.get x) fun x => appF P t s x K) (Pt.bind (Pt.un _ _) fun _ => Pt.bind (Pt.un _ _) fun _ => Pt.appF _ _ _) h fun σ' K' hl hm hk => ?_
     simp only [stp, hx, ht]
     rw [hl s (by simp [Op.operands, Call.operands, hx]), hl x (by simp [Op.operands, Call.operands, hx])]
     exact ⟨trivial, hk⟩
    ·
     exact h.elim
   case len =>
    have h0 := h
    simp only [stp] at h
    split at h
    ·
     rename_i x t hx ht
     obtain ⟨v, hv, h⟩ := Pt.un _ _ _ h
     obtain ⟨u, hu, h⟩ := Pt.lenV _ _ _ _ _ h
     refine ⟨u, h, fun σ' K' hl hm hk => ?_⟩
     simp only [stp, hx, ht]
     rw [hl x (by simp [Op.operands, Call.operands, hx])]
     simp only [lenV_look (hm.2 rfl)]
     exact hv _ (hu _ hk)
    ·
     exact h.elim
   all_goals
    simp only [stp] at h
    split at h
    ·
     rename_i x y hx
     obtain ⟨v, hv, h⟩ := Pt.un _ _ _ h
     obtain ⟨u, hu, h⟩ := Pt.un _ _ _ h
     split at h
     ·
      refine ⟨_, h, fun σ' K' hl hm hk => ?_⟩
      simp only [stp, hx]
      rw [hl x (by simp [Op.operands, Call.operands, hx]), hl y (by simp [Op.operands, Call.operands, hx])]
      exact hv _ (hu _ hk)
     ·
      exact h.elim
    ·
     exact h.elim
 case makeMap T c => cases c <;> first | exact h.elim | (simp only [stp] at h; exact absurd h.1 (by simp))
 case mapUpdate T m k x => simp only [stp] at h; exact absurd h.1 (by simp)
 case lookup T m k c =>
  cases c with
  | true => exact h.elim
  | false =>
   refine fin (F := fun K => mapT P T = true ∧ un (some gb) (σ.get m) fun m => un (some gb) (σ.get k) fun k => lookV σ.mem m k K) (Pt.and (Pt.bind (Pt.un _ _) fun _ => Pt.bind (Pt.un _ _) fun _ => Pt.lookV _ _ _)) h fun σ' K' hl hm hk => ?_
   simp only [stp]; rw [hl m (by simp [Op.operands]), hl k (by simp [Op.operands])]; simp only [lookV_look (hm.1 rfl)]; exact hk
 all_goals exact h.elim

theorem stp_free {gb : Bool} {op : Op} {e : List (Nat × V)} {m : Mem} {n : Nat} {K : V → Prop} (h : stp P ⟨e, [], n⟩ (some gb) op fun v _ => K v) : stp P ⟨e, m, n⟩ (some gb) op fun v _ => K v := by
 have hg : ∀ x, (⟨e, m, n⟩ : St).get x = (⟨e, [], n⟩ : St).get x := fun x => by cases x <;> rfl
 by_cases hr : (isRd op || isSh op) = true
 ·
  cases op <;> try (simp only [isRd, isSh] at hr; cases hr; done)
  case load T x =>
   simp only [stp] at h ⊢
   obtain ⟨v, hv, h⟩ := Pt.un _ _ _ h
   rw [hg x]
   refine hv _ ?_
   unfold loadV at h ⊢
   split at h
   ·
    exact h
   ·
    exact h.elim
   ·
    exact h.elim
   ·
    exact h.elim
  case lookup T x i c =>
   cases c with
   | true => exact h.elim
   | false =>
    simp only [stp] at h ⊢
    obtain ⟨ht, h⟩ := h
    obtain ⟨v, hv, h⟩ := Pt.un _ _ _ h
    obtain ⟨u, hu, h⟩ := Pt.un _ _ _ h
    rw [hg x, hg i]
    exact ⟨ht, hv _ (hu _ (lookV_nil h))⟩
  case indexAddr T x i =>
   simp only [stp] at h ⊢
   obtain ⟨v, hv, h⟩ := Pt.un _ _ _ h
   obtain ⟨u, hu, h⟩ := Pt.un _ _ _ h
   rw [hg x, hg i]
   refine hv _ (hu _ ?_)
   unfold idxV at h ⊢
   split at h
   ·
    exact h
   ·
    exact h
   ·
    exact h
   ·
    split at h
    ·
     exact h.elim
    ·
     exact h.elim
   ·
    exact h.elim
  case call c =>
   obtain ⟨callee, args, ts⟩ := c
   cases callee with
   | value f => simp only [isRd, isSh] at hr; cases hr
   | invoke r m => simp only [isRd, isSh] at hr; cases hr
   | builtin b =>
    cases b <;> try (simp only [isRd, isSh] at hr; cases hr; done)
    case len =>
     simp only [stp] at h ⊢
     split at h
     ·
      rename_i x t hx ht
      obtain ⟨v, hv, h⟩ := Pt.un _ _ _ h
      rw [hg x]
      refine hv _ ?_
      unfold lenV at h ⊢
      split at h
      ·
       exact h
      ·
       exact h
      ·
       exact h.elim
      ·
       exact h.elim
     ·
      exact h.elim
 ·
  obtain ⟨v, hk, hb⟩ := pt_stp h
  exact hb _ _ (fun x _ => hg x) ⟨fun e => (hr (by rw [e]; rfl)).elim, fun e => (hr (by rw [e, Bool.or_true])).elim⟩ hk

theorem stp_csh {gb : Bool} {op : Op} {e : List (Nat × V)} {m : Mem} {n : Nat} {K : V → Prop} (hr : isRd op = true) (h : stp P ⟨e, csh m, n⟩ (some gb) op fun v _ => K v) : stp P ⟨e, m, n⟩ (some gb) op fun v _ => K v := by
 have hg : ∀ x, (⟨e, m, n⟩ : St).get x = (⟨e, csh m, n⟩ : St).get x := fun x => by cases x <;> rfl
 cases op <;> try (simp only [isRd] at hr; cases hr; done)
 case load T x =>
  simp only [stp] at h ⊢
  obtain ⟨v, hv, h⟩ := Pt.un _ _ _ h
  rw [hg x]
  exact hv _ (loadV_csh h)
 case lookup T x i c =>
  cases c with
  | true => exact h.elim
  | false =>
   simp only [stp] at h ⊢
   obtain ⟨ht, h⟩ := h
   obtain ⟨v, hv, h⟩ := Pt.un _ _ _ h
   obtain ⟨u, hu, h⟩ := Pt.un _ _ _ h
   rw [hg x, hg i]
   exact ⟨ht, hv _ (hu _ (lookV_csh h))⟩
/-- The memory below number n. -/
def lowM (n : Nat) (m : Mem) : Mem := m.filter fun p => decide (p.1 < n)
theorem lowM_look (n : Nat) : ∀ (m : Mem) (id : Nat), (lowM n m).look id = if id < n then m.look id else none
 | [], id => by simp [lowM, Mem.look]
 | (i, o) :: m, id => by
  have ih := lowM_look n m id
  unfold lowM at ih ⊢
  by_cases hi : i < n
  ·
   rw [List.filter_cons_of_pos (by simpa using hi)]
   by_cases e : i = id
   ·
    subst e; simp [Mem.look, hi]
   ·
    simp only [Mem.look, List.find?_cons, decide_eq_false e] at ih ⊢
    exact ih
  ·
   rw [List.filter_cons_of_neg (by simpa using hi)]
   by_cases e : i = id
   ·
    subst e
    rw [ih, if_neg hi, if_neg hi]
   ·
    rw [ih]
    simp only [Mem.look, List.find?_cons, decide_eq_false e]
theorem loadV_low {l : Option (Nat × Bool)} {n : Nat} {mem : Mem} {a : V} {K : V → Prop} (h : loadV l (lowM n mem) a K) : loadV l mem a K := by
 have key : ∀ id o, (lowM n mem).look id = some o → mem.look id = some o := fun id o e => by
  rw [lowM_look] at e
  split at e
  ·
   exact e
  ·
   cases e
 unfold loadV at h ⊢
 split at h
 ·
  exact h
 ·
  split at h
  ·
   rename_i cs hl; rw [key _ _ hl]; exact h
  ·
   exact h.elim
 ·
  split at h
  ·
   rename_i e z rows hl; rw [key _ _ hl]; exact h
  ·
   rename_i e z rows hl; rw [key _ _ hl]; exact h
  ·
   exact h.elim
 ·
  exact h.elim
theorem lookV_low {n : Nat} {m : Mem} {x k : V} {K : V → Prop} (h : lookV (lowM n m) x k K) : lookV m x k K := by
 have key : ∀ id o, (lowM n m).look id = some o → m.look id = some o := fun id o e => by
  rw [lowM_look] at e
  split at e
  ·
   exact e
  ·
   cases e
 unfold lookV at h ⊢
 split at h
 ·
  exact h
 ·
  exact h
 ·
  split at h
  ·
   rename_i es hl; rw [key _ _ hl]; exact h
  ·
   exact h.elim
 ·
  exact h.elim
theorem shp_key {k : Nat} {m : Mem} {id : Nat} {o : AObj} (h : (shp (lowM k m)).look id = some o) : (shp m).look id = some o := by
 rw [shp_look] at h ⊢
 rw [lowM_look] at h
 split at h
 ·
  exact h
 ·
  cases h
theorem stp_lowS {gb : Bool} {op : Op} {e : List (Nat × V)} {m : Mem} {k n : Nat} {K : V → Prop} (hr : isSh op = true) (h : stp P ⟨e, lowM k m, n⟩ (some gb) op fun v _ => K v) : stp P ⟨e, m, n⟩ (some gb) op fun v _ => K v := by
 have hg : ∀ x, (⟨e, m, n⟩ : St).get x = (⟨e, lowM k m, n⟩ : St).get x := fun x => by cases x <;> rfl
 unfold isSh at hr
 split at hr
 ·
  rename_i T x i
  simp only [stp] at h ⊢
  obtain ⟨v, hv, h⟩ := Pt.un _ _ _ h
  obtain ⟨u, hu, h⟩ := Pt.un _ _ _ h
  rw [hg x, hg i]
  refine hv _ (hu _ ?_)
  unfold idxV at h ⊢
  split at h
  ·
   exact h
  ·
   exact h
  ·
   exact h
  ·
   split at h
   ·
    split at h
    ·
     rename_i hl; rw [shp_key hl]; exact h
    ·
     rename_i hl; rw [shp_key hl]; exact h
    ·
     exact h.elim
   ·
    exact h.elim
  ·
   exact h.elim
 ·
  rename_i args tys
  simp only [stp] at h ⊢
  split at h
  ·
   obtain ⟨v, hv, h⟩ := Pt.un _ _ _ h
   rw [hg]
   refine hv _ ?_
   unfold lenV at h ⊢
   split at h
   ·
    exact h
   ·
    exact h
   ·
    split at h
    ·
     rename_i hl; rw [shp_key hl]; exact h
    ·
     rename_i hl; rw [shp_key hl]; exact h
    ·
     exact h.elim
   ·
    exact h.elim
  ·
   exact h.elim
 ·
  cases hr
theorem stp_low {gb : Bool} {op : Op} {e : List (Nat × V)} {m : Mem} {k n : Nat} {K : V → Prop} (hr : isRd op = true) (h : stp P ⟨e, lowM k m, n⟩ (some gb) op fun v _ => K v) : stp P ⟨e, m, n⟩ (some gb) op fun v _ => K v := by
 have hg : ∀ x, (⟨e, m, n⟩ : St).get x = (⟨e, lowM k m, n⟩ : St).get x := fun x => by cases x <;> rfl
 cases op <;> try (simp only [isRd] at hr; cases hr; done)
 case load T x =>
  simp only [stp] at h ⊢
  obtain ⟨v, hv, h⟩ := Pt.un _ _ _ h
  rw [hg x]
  exact hv _ (loadV_low h)
 case lookup T x i c =>
  cases c with
  | true => exact h.elim
  | false =>
   simp only [stp] at h ⊢
   obtain ⟨ht, h⟩ := h
   obtain ⟨v, hv, h⟩ := Pt.un _ _ _ h
   obtain ⟨u, hu, h⟩ := Pt.un _ _ _ h
   rw [hg x, hg i]
   exact ⟨ht, hv _ (hu _ (lookV_low h))⟩
/-- A store into a slice of the call's own. -/
def isRpS (σ : St) : Op → Bool
 | .store _ a _ => match σ.get a with
  | .rp _ _ _ _ => true
  | _ => false
 | _ => false
theorem shp_store {mem : Mem} {id : Nat} {o o' : AObj} (hl : mem.look id = some o) (ho : o'.shp = o.shp) (k : Nat) : (shp (mem.map fun p => if p.1 = id then (id, o') else p)).look k = (shp mem).look k := by
 rw [shp_look, shp_look]
 by_cases hk : k = id
 ·
  subst hk
  have : (Mem.look (mem.map fun p => if p.1 = k then (k, o') else p) k) = some o' := by
   induction mem with
   | nil => simp [Mem.look] at hl
   | cons p m ih =>
    obtain ⟨i, q⟩ := p
    by_cases e : i = k
    ·
     subst e; simp [Mem.look]
    ·
     have : Mem.look m k = some o := by simpa [Mem.look, e] using hl
     simpa [Mem.look, e] using ih this
  rw [this, hl]; simp [ho]
 ·
  have : (Mem.look (mem.map fun p => if p.1 = id then (id, o') else p) k) = mem.look k := by
   clear hl
   induction mem with
   | nil => rfl
   | cons p m ih =>
    obtain ⟨i, q⟩ := p
    by_cases e : i = id
    ·
     subst e; simpa [Mem.look, Ne.symm hk] using ih
    ·
     by_cases e2 : i = k
     ·
      subst e2; simp [Mem.look, e]
     ·
      simpa [Mem.look, e, e2] using ih
  rw [this]

theorem pt_eff0 {op : Op} (he : isEff op = true) (h : stp P σ none op K) :
  ∃ v m n, K v ⟨σ.env, m, n⟩ ∧ ∀ (env' : List (Nat × V)) (K' : V → St → Prop), sameOn σ ⟨env', σ.mem, σ.nx⟩ op → K' v ⟨env', m, n⟩ → stp P ⟨env', σ.mem, σ.nx⟩ none op K' := by
 cases op <;> try (simp only [isEff] at he; cases he; done)
 case alloc T =>
  simp only [stp] at h
  obtain ⟨-, h⟩ := h
  split at h
  ·
   rename_i cs hz
   refine ⟨_, _, _, h.2, fun env' K' hl hk => ?_⟩
   simp only [stp, hz]
   exact ⟨trivial, h.1, hk⟩
  ·
   exact h.elim
 case mapUpdate T m k x =>
  simp only [stp] at h
  obtain ⟨-, hT, h⟩ := h
  obtain ⟨vm, hm, h⟩ := Pt.un _ _ _ h
  obtain ⟨vk, hk, h⟩ := Pt.un _ _ _ h
  obtain ⟨vx, hx, h⟩ := Pt.un _ _ _ h
  split at h
  ·
   rename_i id kk bb
   split at h
   ·
    rename_i es hes
    refine ⟨_, _, _, h.2, fun env' K' hl hk' => ?_⟩
    simp only [stp]
    rw [hl m (by simp [Op.operands]), hl k (by simp [Op.operands]), hl x (by simp [Op.operands])]
    refine ⟨trivial, hT, hm _ (hk _ (hx _ ?_))⟩
    simp only [hes]
    exact ⟨h.1, hk'⟩
   ·
    exact h.elim
  ·
   exact h.elim
 case box T x =>
  simp only [stp] at h
  obtain ⟨-, h⟩ := h
  obtain ⟨v, hv, h1, h2⟩ := Pt.un _ _ _ h
  refine ⟨_, _, _, h2, fun env' K' hl hk => ?_⟩
  simp only [stp]
  rw [hl x (by simp [Op.operands])]
  exact ⟨trivial, hv _ ⟨h1, hk⟩⟩
 case buildSlice T len ps =>
  simp only [stp] at h
  split at h
  ·
   rename_i e z by' hT
   split at h
   ·
    rename_i zs hz
    obtain ⟨h1, h2, h3, h4, h5, h⟩ := h
    obtain ⟨vs, hvs, h⟩ := Pt.unL _ _ _ h
    obtain ⟨rows, hrows, h⟩ := Pt.rowsV _ _ _ _ h
    rcases h with ⟨-, h⟩ | h | h
    ·
     refine ⟨_, _, _, h, fun env' K' hl hk => ?_⟩
     simp only [stp, hT, hz]
     rw [show (ps.toList.map fun p => (⟨env', σ.mem, σ.nx⟩ : St).get p.2) = ps.toList.map fun p => σ.get p.2 from List.map_congr_left fun p hp => hl p.2 (by simp only [Op.operands, List.mem_map]; exact ⟨p, hp, rfl⟩)]
     exact ⟨h1, h2, h3, h4, h5, hvs _ (hrows _ (.inl ⟨trivial, hk⟩))⟩
    ·
     refine ⟨_, _, _, h, fun env' K' hl hk => ?_⟩
     simp only [stp, hT, hz]
     rw [show (ps.toList.map fun p => (⟨env', σ.mem, σ.nx⟩ : St).get p.2) = ps.toList.map fun p => σ.get p.2 from List.map_congr_left fun p hp => hl p.2 (by simp only [Op.operands, List.mem_map]; exact ⟨p, hp, rfl⟩)]
     exact ⟨h1, h2, h3, h4, h5, hvs _ (hrows _ (.inr (.inl hk)))⟩
    ·
     refine ⟨_, _, _, h, fun env' K' hl hk => ?_⟩
     simp only [stp, hT, hz]
     rw [show (ps.toList.map fun p => (⟨env', σ.mem, σ.nx⟩ : St).get p.2) = ps.toList.map fun p => σ.get p.2 from List.map_congr_left fun p hp => hl p.2 (by simp only [Op.operands, List.mem_map]; exact ⟨p, hp, rfl⟩)]
     exact ⟨h1, h2, h3, h4, h5, hvs _ (hrows _ (.inr (.inr hk)))⟩
   ·
    exact h.elim
  ·
   exact h.elim
 case makeSlice T l c =>
  simp only [stp] at h
  obtain ⟨-, rfl, h⟩ := h
  obtain ⟨vn, hv, h⟩ := Pt.un _ _ _ h
  split at h
  ·
   rename_i e z by' k n hT
   split at h
   ·
    rename_i zs hz
    obtain ⟨h1, h2, h3, h4, h5, h6, h7, h⟩ := h
    refine ⟨_, _, _, h, fun env' K' hl hk => ?_⟩
    simp only [stp, hT]
    rw [hl l (by simp [Op.operands])]
    refine ⟨trivial, trivial, hv _ ?_⟩
    simp only [hz]
    exact ⟨h1, h2, h3, h4, h5, h6, h7, hk⟩
   ·
    exact h.elim
  ·
   exact h.elim
 case store T x y =>
  simp only [stp] at h
  obtain ⟨-, h⟩ := h
  obtain ⟨v, hv, h⟩ := Pt.un _ _ _ h
  obtain ⟨u, hu, h⟩ := Pt.un _ _ _ h
  split at h
  ·
   rename_i n ag id off hl0 hvx
   split at h
   ·
    rename_i cs hcs
    obtain ⟨h1, h2, h3, h⟩ := h
    refine ⟨_, _, _, h, fun env' K' hl hk => ?_⟩
    simp only [stp]
    rw [hl x (by simp [Op.operands]), hl y (by simp [Op.operands])]
    refine ⟨trivial, hv _ (hu _ ?_)⟩
    simp only [hl0, hcs]
    exact ⟨h1, h2, h3, hk⟩
   ·
    exact h.elim
  ·
   rename_i n ag id z i j hl0 hvx
   split at h
   ·
    rename_i e z' rows hcs
    obtain ⟨h1, h2, h3, h4, h5, h6, h⟩ := h
    refine ⟨_, _, _, h, fun env' K' hl hk => ?_⟩
    simp only [stp]
    rw [hl x (by simp [Op.operands]), hl y (by simp [Op.operands])]
    refine ⟨trivial, hv _ (hu _ ?_)⟩
    simp only [hl0, hcs]
    exact ⟨h1, h2, h3, h4, h5, h6, hk⟩
   ·
    rename_i e z' rows hcs
    obtain ⟨h1, h2, h3, h4, h5, h⟩ := h
    refine ⟨_, _, _, h, fun env' K' hl hk => ?_⟩
    simp only [stp]
    rw [hl x (by simp [Op.operands]), hl y (by simp [Op.operands])]
    refine ⟨trivial, hv _ (hu _ ?_)⟩
    simp only [hl0, hcs]
    exact ⟨h1, h2, h3, h4, h5, hk⟩
   ·
    exact h.elim
  ·
   exact h.elim
 case call c =>
  obtain ⟨callee, args, ts⟩ := c
  cases callee with
  | value f => simp only [isEff] at he; cases he
  | invoke r m => simp only [isEff] at he; cases he
  | builtin b =>
   cases b <;> try (simp only [isEff] at he; cases he; done)
   case append =>
    simp only [stp] at h
    split at h
    ·
     rename_i s x t t' hx ht
     obtain ⟨-, h0, h⟩ := h
     obtain ⟨v, hv, h⟩ := Pt.un _ _ _ h
     obtain ⟨u, hu, h⟩ := Pt.un _ _ _ h
     have key : ∃ y m n, K y ⟨σ.env, m, n⟩ ∧ ∀ (env' : List (Nat × V)) (K' : V → St → Prop), K' y ⟨env', m, n⟩ → appV P t ⟨env', σ.mem, σ.nx⟩ v u K' := by
      unfold appV at h ⊢
      split at h
      ·
       rename_i e z bytes hT
       obtain ⟨h1, h2, h3, h⟩ := h
       split at h
       ·
        rename_i rows' hr
        split at h
        ·
         obtain ⟨h4, h⟩ := h
         exact ⟨_, _, _, h, fun env' K' hk => ⟨h1, h2, h3, by simp only [hr]; exact ⟨h4, hk⟩⟩⟩
        ·
         rename_i id
         split at h
         ·
          rename_i e' z' rows hl
          obtain ⟨h4, h5, h6, h⟩ := h
          exact ⟨_, _, _, h, fun env' K' hk => ⟨h1, h2, h3, by simp only [hr, hl]; exact ⟨h4, h5, h6, hk⟩⟩⟩
         ·
          exact h.elim
        ·
         obtain ⟨h4, h5, h6, h⟩ := h
         exact ⟨_, _, _, h, fun env' K' hk => ⟨h1, h2, h3, by simp only [hr]; exact ⟨h4, h5, h6, hk⟩⟩⟩
        ·
         exact h.elim
       ·
        exact h.elim
      ·
       exact h.elim
     obtain ⟨y, m, n, hk, hb⟩ := key
     refine ⟨y, m, n, hk, fun env' K' hl hk' => ?_⟩
     simp only [stp, hx, ht]
     rw [hl s (by simp [Op.operands, Call.operands, hx]), hl x (by simp [Op.operands, Call.operands, hx])]
     exact ⟨trivial, h0, hv _ (hu _ (hb _ _ hk'))⟩
    ·
     exact h.elim


end

section
variable {P : Program} {σ : St} {K : V → St → Prop}
theorem look_new {m : Mem} {n id : Nat} {o : AObj} (h : id < n) : Mem.look ((n, o) :: m) id = m.look id := by
 simp [Mem.look, show ¬ n = id by omega]
theorem look_cut {m : Mem} {i id : Nat} (h : id ≠ i) : Mem.look (m.filter (·.1 ≠ i)) id = m.look id := by
 induction m with
 | nil => rfl
 | cons p m ih =>
  obtain ⟨k, o⟩ := p
  by_cases e : k = i
  ·
   subst e
   rw [List.filter_cons_of_neg (by simp), ih]
   simp [Mem.look, Ne.symm h]
  ·
   rw [List.filter_cons_of_pos (by simpa using e)]
   by_cases e2 : k = id <;> simp [Mem.look, e2] at ih ⊢ <;> first | exact ih | skip
theorem stp_lowA {op : Op} (hal : isAl op = true) (h : stp P σ none op K) : stp P σ none op fun v σ' => K v σ' ∧ ∀ id, id < σ.nx → appOwn σ op ≠ some id → σ'.mem.look id = σ.mem.look id := by
 unfold stp at h ⊢
 split at h <;> try (simp only [isAl] at hal; cases hal; done)
 ·
  obtain ⟨h0, h⟩ := h
  refine ⟨h0, ?_⟩
  split at h
  ·
   exact ⟨h.1, h.2, fun id hid _ => look_new hid⟩
  ·
   exact h.elim
 ·
  split at h
  ·
   split at h
   ·
    obtain ⟨h1, h2, h3, h4, h5, h⟩ := h
    refine ⟨h1, h2, h3, h4, h5, ?_⟩
    obtain ⟨vs, hv, h⟩ := Pt.unL _ _ _ h
    refine hv _ ?_
    obtain ⟨rows, hr, h⟩ := Pt.rowsV _ _ _ _ h
    refine hr _ ?_
    rcases h with ⟨h0, h⟩ | h | h
    ·
     exact .inl ⟨h0, h, fun id hid _ => look_new hid⟩
    ·
     exact .inr (.inl ⟨h, fun _ _ _ => rfl⟩)
    ·
     exact .inr (.inr ⟨h, fun _ _ _ => rfl⟩)
   ·
    exact h.elim
  ·
   exact h.elim
 all_goals try (simp only [isAl] at hal; cases hal; done)
 ·
  split at h
  ·
   rename_i s x t t' e1 e2
   obtain ⟨h0, h1, h⟩ := h
   refine ⟨h0, h1, ?_⟩
   obtain ⟨v, hv, h⟩ := Pt.un _ _ _ h
   obtain ⟨u, hu, h⟩ := Pt.un _ _ _ h
   have hown : ∀ id, v = .own id → unw (σ.get s) = .own id := fun id e => by
    have h9 := hv (fun z => z = v) rfl
    unfold un at h9
    split at h9 <;> simp_all [unw]
   refine hv _ (hu _ ?_)
   unfold appV at h ⊢
   split at h
   ·
    obtain ⟨k1, k2, k3, h⟩ := h
    refine ⟨k1, k2, k3, ?_⟩
    split at h
    ·
     split at h
     ·
      exact ⟨h.1, h.2, fun id hid _ => look_new (by omega)⟩
     ·
      rename_i id
      split at h
      ·
       refine ⟨h.1, h.2.1, h.2.2.1, h.2.2.2, fun j hj hne => ?_⟩
       rw [look_new hj]
       refine look_cut fun e => hne ?_
       subst e
       simp only [appOwn, e1, hown _ rfl]
      ·
       exact h.elim
     ·
      exact ⟨h.1, h.2.1, h.2.2.1, h.2.2.2, fun id hid _ => look_new (by omega)⟩
     ·
      exact h.elim
    ·
     exact h.elim
   ·
    exact h.elim
  ·
   exact h.elim
theorem pt_eff {op : Op} (he : isEff op = true) (h : stp P σ none op K) :
  ∃ v m n, K v ⟨σ.env, m, n⟩ ∧ (∀ (env' : List (Nat × V)) (K' : V → St → Prop), sameOn σ ⟨env', σ.mem, σ.nx⟩ op → K' v ⟨env', m, n⟩ → stp P ⟨env', σ.mem, σ.nx⟩ none op K') ∧
   (isSt op = true → isRpS σ op = true → ∀ id, (shp m).look id = (shp σ.mem).look id) ∧ (isAl op = true → ∀ id, id < σ.nx → appOwn σ op ≠ some id → m.look id = σ.mem.look id) := by
 by_cases hal : isAl op = true
 ·
  obtain ⟨v, m, n, ⟨h1, h3⟩, h2⟩ := pt_eff0 he (stp_lowA hal h)
  refine ⟨v, m, n, h1, h2, fun e => ?_, fun _ => h3⟩
  exfalso
  cases op <;> simp [isSt, isAl] at e hal
 by_cases hs : isSt op = true
 ·
  cases op <;> try (simp only [isSt] at hs; cases hs; done)
  case store T x y =>
   simp only [stp] at h
   obtain ⟨-, h⟩ := h
   obtain ⟨v, hv, h⟩ := Pt.un _ _ _ h
   obtain ⟨u, hu, h⟩ := Pt.un _ _ _ h
   split at h
   ·
    rename_i n ag id off hl0 hvx
    split at h
    ·
     rename_i cs hcs
     obtain ⟨h1, h2, h3, h⟩ := h
     refine ⟨_, _, _, h, fun env' K' hl hk => ?_, fun _ hrp k => ?_, fun e => (hal e).elim⟩
     rotate_left 1
     ·
      exfalso
      have h0 := hv (fun u => u = V.ptr id off) rfl
      simp only [isRpS] at hrp
      split at hrp
      ·
       rename_i hg; rw [hg] at h0; simp [un] at h0
      ·
       cases hrp
     simp only [stp]
     rw [hl x (by simp [Op.operands]), hl y (by simp [Op.operands])]
     refine ⟨trivial, hv _ (hu _ ?_)⟩
     simp only [hl0, hcs]
     exact ⟨h1, h2, h3, hk⟩
    ·
     exact h.elim
   ·
    rename_i n ag id z i j hl0 hvx
    split at h
    ·
     rename_i e z' rows hcs
     obtain ⟨h1, h2, h3, h4, h5, h6, h⟩ := h
     refine ⟨_, _, _, h, fun env' K' hl hk => ?_, fun _ _ k => shp_store (o' := .row e z (rows.set i (spl (rows.getD i []) j u.parts))) hcs (by subst h1; simp [AObj.shp]) k, fun e => (hal e).elim⟩
     simp only [stp]
     rw [hl x (by simp [Op.operands]), hl y (by simp [Op.operands])]
     refine ⟨trivial, hv _ (hu _ ?_)⟩
     simp only [hl0, hcs]
     exact ⟨h1, h2, h3, h4, h5, h6, hk⟩
    ·
     rename_i e z' rows hcs
     obtain ⟨h1, h2, h3, h4, h5, h⟩ := h
     refine ⟨_, _, _, h, fun env' K' hl hk => ?_, fun _ _ k => shp_store (o' := .orow e z (rows.set i (spl (rows.getD i []) j u.parts))) hcs (by subst h1; simp [AObj.shp]) k, fun e => (hal e).elim⟩
     simp only [stp]
     rw [hl x (by simp [Op.operands]), hl y (by simp [Op.operands])]
     refine ⟨trivial, hv _ (hu _ ?_)⟩
     simp only [hl0, hcs]
     exact ⟨h1, h2, h3, h4, h5, hk⟩
    ·
     exact h.elim
   ·
    exact h.elim
 ·
  obtain ⟨v, m, n, h1, h2⟩ := pt_eff0 he h
  exact ⟨v, m, n, h1, h2, fun e => (hs e).elim, fun e => (hal e).elim⟩
end
section
variable {P : Program} {cx : Cx} {σ : St} {ι : Nat → Nat} {ρ : Nat → Value} {a : Act} {w : World} {K : V → St → Prop} {Q : Exit → Act → World → Prop} {o : Oper}

theorem pt_O {op : Op} (h : stpO P σ op K) :
  ∃ v m n, K v ⟨σ.env, m, n⟩ ∧ ∀ (env' : List (Nat × V)) (K' : V → St → Prop), sameOn σ ⟨env', σ.mem, σ.nx⟩ op → K' v ⟨env', m, n⟩ → stpO P ⟨env', σ.mem, σ.nx⟩ op K' := by
 unfold stpO at h
 split at h
 ·
  rename_i f args ts
  obtain ⟨vf, hv, h⟩ := Pt.un _ _ _ h
  split at h
  ·
   rename_i fid caps
   obtain ⟨vs, hvs, h1, h2, e, z, rows, h3, h4⟩ := Pt.unL _ _ _ h
   refine ⟨_, _, _, h4, fun env' K' hl hk => ?_⟩
   simp only [stpO]
   rw [hl f (by simp [Op.operands, Call.operands]), map_same (σ := σ) (σ' := ⟨env', σ.mem, σ.nx⟩) fun x hx => hl x (by simp only [Op.operands, Call.operands, Array.toList_append, List.mem_append]; exact .inr hx)]
   exact hv _ (hvs _ ⟨h1, h2, e, z, rows, h3, hk⟩)
  ·
   exact h.elim
 ·
  exact h.elim
theorem pt_M {op : Op} (h : stpM P σ op K) :
  ∃ v m n, K v ⟨σ.env, m, n⟩ ∧ ∀ (env' : List (Nat × V)) (K' : V → St → Prop), sameOn σ ⟨env', σ.mem, σ.nx⟩ op → K' v ⟨env', m, n⟩ → stpM P ⟨env', σ.mem, σ.nx⟩ op K' := by
 unfold stpM at h
 split at h
 ·
  rename_i f args ts
  obtain ⟨vf, hv, h⟩ := Pt.un _ _ _ h
  split at h
  ·
   rename_i fid caps
   obtain ⟨vs, hvs, h1, js, r, mem', k', h3, h4, h5, h6, h7, h8, h9, h10⟩ := Pt.unL _ _ _ h
   refine ⟨_, _, _, h10, fun env' K' hl hk => ?_⟩
   simp only [stpM]
   rw [hl f (by simp [Op.operands, Call.operands]), map_same (σ := σ) (σ' := ⟨env', σ.mem, σ.nx⟩) fun x hx => hl x (by simp only [Op.operands, Call.operands, Array.toList_append, List.mem_append]; exact .inr hx)]
   exact hv _ (hvs _ ⟨h1, js, r, mem', k', h3, h4, h5, h6, h7, h8, h9, hk⟩)
  ·
   exact h.elim
 ·
  exact h.elim

theorem pt_X {op : Op} (h : stpX P σ op K) :
  ∃ v m n, K v ⟨σ.env, m, n⟩ ∧ ∀ (env' : List (Nat × V)) (K' : V → St → Prop), sameOn σ ⟨env', σ.mem, σ.nx⟩ op → K' v ⟨env', m, n⟩ → stpX P ⟨env', σ.mem, σ.nx⟩ op K' := by
 rcases h with h | h
 ·
  obtain ⟨v, m, n, h1, h2⟩ := pt_O h
  exact ⟨v, m, n, h1, fun env' K' hl hk => .inl (h2 env' K' hl hk)⟩
 ·
  obtain ⟨v, m, n, h1, h2⟩ := pt_M h
  exact ⟨v, m, n, h1, fun env' K' hl hk => .inr (h2 env' K' hl hk)⟩
end
def notIn : List Nat → Option Nat → Bool
  | [], _ => true
  | _ :: l, none => notIn l none
  | d :: l, some t => !(d == t) && notIn l (some t)
/-- An effect on the call's own memory: but a slice that is built, and frozen at once, is none. -/
def isE (fz : List Nat) (o : Oper) : Bool := if isO o.op then !notIn fz o.dst else isEff o.op && notIn fz o.dst

/-- In a region of this kind all stores go into slices, and what is loaded lies in variables. -/
def rowM (fz : List Nat) : Bool := !notIn fz (some 999999)
/-- In a region of this kind what is loaded lies in variables that stood at its begin, below this number: new variables turn nothing of it. -/
def lowN : List Nat → Option Nat
  | [] => none
  | d :: l => if 3000000 ≤ d then some (d - 3000000) else lowN l
def lowQ (fz : List Nat) (σ : St) (op : Op) : Prop :=
  match lowN fz with
  | some k => k ≤ σ.nx ∧ (match appOwn σ op with | some id => k ≤ id | none => True)
  | none => True
theorem appOwn_same {σ σ' : St} {op : Op} (h : sameOn σ σ' op) : appOwn σ' op = appOwn σ op := by
  unfold appOwn
  split
  · rename_i args ts
    split
    · rename_i s x e1
      have e : args = #[s, x] := by apply Array.toList_inj.1; simpa using e1
      rw [h s (by simp [Op.operands, Call.operands, e])]
    · rfl
  · rfl
theorem lowQ_same {fz : List Nat} {σ σ' : St} {op : Op} (h : sameOn σ σ' op) (hn : σ'.nx = σ.nx) (hq : lowQ fz σ op) : lowQ fz σ' op := by
  unfold lowQ at hq ⊢
  rw [appOwn_same h, hn]; exact hq
/-- In a region of this kind unguarded addresses and lengths, too, hang on what stood at its begin. -/
def shL (fz : List Nat) (o : Oper) : Bool := isSh o.op && (!notIn fz (some 4000000) && (o.guard.isNone && (lowN fz).isSome))
/-- Without the call's own memory, where what is read does not lie there. -/
def St.bare (σ : St) (fz : List Nat) (o : Oper) : St := match rowM fz && isRd o.op with
  | true => ⟨σ.env, csh σ.mem, σ.nx⟩
  | false => match notIn fz o.dst with
    | true => match lowN fz, isRd o.op || shL fz o with
      | some k, true => ⟨σ.env, lowM k σ.mem, σ.nx⟩
      | _, _ => σ
    | false => ⟨σ.env, [], σ.nx⟩

def evDO (fz : List Nat) (P : Program) (ds : List (Option Tmp)) (o : Oper) (σ : St) (K : St → Prop) : Prop :=
  match o.guard with
  | none =>
    match isE fz o with
    | true => (if isO o.op then stpX P σ o.op fun v σ' => K (σ'.put o.dst v) else (rowM fz = true → isSt o.op = true → isRpS σ o.op = true) ∧ lowQ fz σ o.op ∧ stp P σ none o.op fun v σ' => K (σ'.put o.dst v))
    | false => stp P (σ.bare fz o) (some true) o.op fun v _ => K (σ.put o.dst v)
  | some (j, want) => isE fz o = false ∧
    match nth ds j with
    | some d => gof (σ.get (.tmp d)) want fun gb => ∃ v0, (gb = true → stp P σ (some gb) o.op fun v σ' => v = v0 ∧ σ' = σ) ∧ K (σ.put o.dst (.gd gb v0))
    | none => False

def evD (fz : List Nat) (P : Program) (ds : List (Option Tmp)) : List Oper → St → (St → Prop) → Prop
  | [], σ, K => K σ
  | o :: rest, σ, K => evDO fz P ds o σ fun σ' => evD fz P ds rest σ' K

/-! #### what must stand before what -/
def depsOf (o : Oper) : List Nat := (o.after.toList.filter (Region.binds .any)).map (·.on)

def befs : List (List Nat) → List Nat → List Nat
  | [], acc => acc
  | d :: ds, acc => befs ds (acc ++ [d.foldl (fun s k => s ||| 2 ^ k ||| acc.getD k 0) 0])

/-- k stands before j. -/
inductive Reach (dep : Nat → List Nat) : Nat → Nat → Prop where
  | one {j k : Nat} (h : k ∈ dep j) : Reach dep j k
  | more {j i k : Nat} (h : i ∈ dep j) (h' : Reach dep i k) : Reach dep j k

theorem fold_bit (acc : List Nat) : ∀ (d : List Nat) (s k : Nat), (d.foldl (fun s k => s ||| 2 ^ k ||| acc.getD k 0) s).testBit k = true → s.testBit k = true ∨ ∃ i ∈ d, k = i ∨ (acc.getD i 0).testBit k = true
  | [], s, k, h => .inl h
  | i :: d, s, k, h => by
    rcases fold_bit acc d _ k h with h | ⟨i', hi, h⟩
    · simp only [Nat.testBit_or, Bool.or_eq_true, Nat.testBit_two_pow, decide_eq_true_eq] at h
      rcases h with (h | h) | h
      · exact .inl h
      · exact .inr ⟨i, by simp, .inl h.symm⟩
      · exact .inr ⟨i, by simp, .inr h⟩
    · exact .inr ⟨i', by simp [hi], h⟩

theorem befs_spec (dep : Nat → List Nat) : ∀ (ds : List (List Nat)) (acc : List Nat), (∀ i, i < ds.length → ds.getD i [] = dep (acc.length + i)) →
    (∀ j k, (acc.getD j 0).testBit k = true → Reach dep j k) → ∀ j k, ((befs ds acc).getD j 0).testBit k = true → Reach dep j k
  | [], acc, _, h, j, k, hb => h j k hb
  | d :: ds, acc, hd, h, j, k, hb => by
    refine befs_spec dep ds _ (fun i hi => ?_) (fun j k hb => ?_) j k hb
    · have := hd (i + 1) (by simpa using hi)
      simp only [List.getD_cons_succ] at this
      rw [this]; congr 1; simp; omega
    · by_cases hj : j < acc.length
      · refine h j k ?_
        simpa [List.getD, List.getElem?_append_left hj] using hb
      · by_cases hj2 : j = acc.length
        · subst hj2
          have h0 := hd 0 (by simp)
          simp at h0
          simp only [List.getD, List.getElem?_append_right (Nat.le_refl _), Nat.sub_self, List.getElem?_cons_zero, Option.getD_some] at hb
          rcases fold_bit acc d 0 k hb with hb | ⟨i, hi, rfl | hb⟩
          · simp at hb
          · exact .one (by rw [← h0]; exact hi)
          · exact .more (by rw [← h0]; exact hi) (h i k hb)
        · have : (acc ++ [d.foldl (fun s k => s ||| 2 ^ k ||| acc.getD k 0) 0])[j]? = none := List.getElem?_eq_none (by simp; omega)
          have hb0 : (acc ++ [d.foldl (fun s k => s ||| 2 ^ k ||| acc.getD k 0) 0]).getD j 0 = 0 := by
            show Option.getD ((acc ++ [d.foldl (fun s k => s ||| 2 ^ k ||| acc.getD k 0) 0])[j]?) 0 = 0
            rw [this]; rfl
          rw [hb0] at hb; simp at hb

/-- The slots that an operation looks at. -/
def looks (ds : List (Option Tmp)) (o : Oper) : List Tmp :=
  (o.op.operands.toList.filterMap fun x => match x with | .tmp t => some t | _ => none) ++
  (match o.guard with | some (j, _) => (nth ds j).toList | none => [])

/-- What hangs on how long the call's own slices are, and is not listed as hanging on none. -/
def shN (fz : List Nat) (o : Oper) : Bool := isSh o.op && ((notIn fz o.dst && !shL fz o) || o.guard.isSome)
def touches (fz : List Nat) (o : Oper) : Bool := isE fz o || (isRd o.op && ((!rowM fz && (notIn fz o.dst && (lowN fz).isNone)) || o.guard.isSome))

/-- Number i stands before number j, or j before i, as in the text. -/
def ordered (b : List Nat) (i j : Nat) : Bool := if i < j then (b.getD j 0).testBit i else (b.getD i 0).testBit j

def drawOK (fz : List Nat) (l : List Oper) : Bool :=
  let ds := l.map (·.dst)
  let b := befs (l.map depsOf) []
  (List.range l.length).all fun j =>
    match l[j]? with
    | none => true
    | some o =>
      (depsOf o).all (fun k => Nat.blt k j) &&
      (List.range l.length).all fun i =>
        i == j ||
        match l[i]? with
        | none => true
        | some o' =>
          (match o'.dst with
           | some d => (o.dst != some d) && (!(looks ds o).contains d || ordered b i j)
           | none => true) &&
          (!(isE fz o' && touches fz o) || ordered b i j) && (!(isE fz o' && (!(rowM fz && isSt o'.op) && (shN fz o || isRd o.op))) || (rowM fz == false && shN fz o == false) || ordered b i j) && (!(isE fz o' && ((isRd o.op || shL fz o) && ((lowN fz).isSome && !isAl o'.op))) || ordered b i j)

section
variable {fz : List Nat} {P : Program} {N : Nat} {C : Ctl P N} {keep : List Nat}

/-- What the two states have in common, as far as the operation looks. -/
def agree (fz : List Nat) (ds : List (Option Tmp)) (σ σ' : St) (o : Oper) : Prop :=
  (∀ t ∈ looks ds o, σ'.slot t = σ.slot t) ∧ (touches fz o = true → σ'.mem = σ.mem ∧ σ'.nx = σ.nx) ∧ ((shN fz o = true ∨ (rowM fz && isRd o.op) = true) → ∀ id, (shp σ'.mem).look id = (shp σ.mem).look id) ∧ (∀ k, lowN fz = some k → (isRd o.op || shL fz o) = true → ∀ id, id < k → σ'.mem.look id = σ.mem.look id)

theorem St.bare_get (σ : St) (fz : List Nat) (o : Oper) (x : Operand) : (σ.bare fz o).get x = σ.get x := by
  unfold St.bare
  split
  · cases x <;> rfl
  · split
    · split
      · cases x <;> rfl
      · rfl
    · cases x <;> rfl

theorem agree_op {ds : List (Option Tmp)} {σ σ' : St} {o : Oper} (h : agree fz ds σ σ' o) : sameOn σ σ' o.op := by
  intro x hx
  cases x with
  | tmp t =>
    simp only [St.get]
    rw [h.1 t ?_]
    unfold looks
    exact List.mem_append_left _ (List.mem_filterMap.2 ⟨.tmp t, hx, rfl⟩)
  | _ => rfl

/-- One step of the text's order: the value v that comes into the slot, the memory behind it. -/
def SP (fz : List Nat) (P : Program) (ds : List (Option Tmp)) (o : Oper) (σ : St) (v : V) (m : Mem) (n : Nat) : Prop :=
  (isE fz o = false → m = σ.mem ∧ n = σ.nx) ∧
  (∀ σ', agree fz ds σ σ' o → evDO fz P ds o σ' fun τ => τ = St.put ⟨σ'.env, if isE fz o then m else σ'.mem, if isE fz o then n else σ'.nx⟩ o.dst v) ∧
  (isE fz o = true → (rowM fz && isSt o.op) = true → ∀ id, (shp m).look id = (shp σ.mem).look id) ∧
  (isE fz o = true → isAl o.op = true → ∀ k, lowN fz = some k → ∀ id, id < k → m.look id = σ.mem.look id)

theorem sp_of {ds : List (Option Tmp)} {o : Oper} {σ : St} {K : St → Prop} (h : evDO fz P ds o σ K) : ∃ v m n, SP fz P ds o σ v m n ∧ K (St.put ⟨σ.env, m, n⟩ o.dst v) := by
  unfold evDO at h
  split at h
  · rename_i hg
    split at h
    · rename_i he
      split at h
      · rename_i hO
        obtain ⟨v, m, n, hk, hb⟩ := pt_X h
        refine ⟨v, m, n, ⟨(by rw [he]; intro e; cases e), fun σ' ha => ?_, fun _ hst => ?_, fun _ hst => ?_⟩, hk⟩
        rotate_left 1
        · exfalso
          rw [Bool.and_eq_true] at hst
          replace hst := hst.2
          cases ho : o.op <;> rw [ho] at hst hO <;> first | (cases hst; done) | (cases hO; done)
        · exfalso
          unfold isAl at hst
          split at hst <;> first | (cases hst; done) | (rename_i hx; rw [hx] at hO; simp [isO] at hO)
        unfold evDO
        rw [hg]
        simp only [he, if_true, if_pos hO]
        have hm := ha.2.1 (by simp [touches, he])
        obtain ⟨env', m', n'⟩ := σ'
        simp only at hm
        obtain ⟨rfl, rfl⟩ := hm
        exact hb env' _ (agree_op ha) rfl
      · rename_i hO
        obtain ⟨hrp, hlq, h⟩ := h
        obtain ⟨v, m, n, hk, hb, hsh, hal⟩ := pt_eff (by unfold isE at he; rw [if_neg hO] at he; exact (Bool.and_eq_true_iff.1 he).1) h
        refine ⟨v, m, n, ⟨(by rw [he]; intro e; cases e), fun σ' ha => ?_, fun _ hst => ?_, fun _ ha2 k hk2 id hid => ?_⟩, hk⟩
        rotate_left 1
        · rw [Bool.and_eq_true] at hst; exact hsh hst.2 (hrp hst.1 hst.2)
        · unfold lowQ at hlq
          rw [hk2] at hlq
          refine hal ha2 id (Nat.lt_of_lt_of_le hid hlq.1) fun e => ?_
          have h9 := hlq.2
          rw [e] at h9
          simp only at h9
          omega
        unfold evDO
        rw [hg]
        simp only [he, if_true, if_neg hO]
        have hm := ha.2.1 (by simp [touches, he])
        obtain ⟨env', m', n'⟩ := σ'
        simp only at hm
        obtain ⟨rfl, rfl⟩ := hm
        refine ⟨fun h1 h2 => ?_, lowQ_same (agree_op ha) rfl hlq, hb env' _ (agree_op ha) rfl⟩
        have h3 := hrp h1 h2
        have h4 := agree_op ha
        cases ho : o.op <;> rw [ho] at h2 <;> try (cases h2; done)
        rename_i T ad x
        rw [ho] at h3 h4
        simp only [isRpS] at h3 ⊢
        rw [h4 ad (by simp [Op.operands])]
        exact h3
    · rename_i he
      obtain ⟨v, hk, hb⟩ := pt_stp h
      refine ⟨v, σ.mem, σ.nx, ⟨fun _ => ⟨rfl, rfl⟩, fun σ' ha => ?_, fun _ _ _ => rfl, fun _ _ _ _ _ _ => rfl⟩, hk⟩
      unfold evDO
      rw [hg]
      simp only [he]
      refine hb (σ'.bare fz o) _ (fun x hx => ?_) ⟨fun hr => ?_, fun hr => ?_⟩ rfl
      · rw [St.bare_get, St.bare_get]; exact agree_op ha x hx
      · unfold St.bare
        cases hm : rowM fz && isRd o.op with
        | true => exact csh_of_shp (ha.2.2.1 (.inr hm))
        | false =>
          simp only
          have hm2 : rowM fz = false := by rw [hr, Bool.and_true] at hm; exact hm
          cases hn : notIn fz o.dst with
          | true =>
            simp only
            cases hlo : lowN fz with
            | none => simp only; rw [(ha.2.1 (by simp [touches, hr, hn, hm2, hlo])).1]; exact fun _ => rfl
            | some k =>
              rw [hr]
              simp only [Bool.true_or]
              intro id
              rw [lowM_look, lowM_look]
              split
              · exact ha.2.2.2 k hlo (by rw [hr]; rfl) id (by assumption)
              · rfl
          | false => exact fun _ => rfl
      · unfold St.bare
        have hrd : isRd o.op = false := by cases ho : o.op <;> rw [ho] at hr <;> first | rfl | (cases hr; done)
        rw [hrd, Bool.and_false]
        cases hn : notIn fz o.dst with
        | true =>
          cases hsl : shL fz o with
          | false =>
            have e1 : ∀ τ : St, (match lowN fz, false with | some k, true => (⟨τ.env, lowM k τ.mem, τ.nx⟩ : St) | _, _ => τ) = τ := fun τ => by cases lowN fz <;> rfl
            simp only [hrd, Bool.or_false, e1]
            exact ha.2.2.1 (.inl (by simp [shN, hr, hn, hsl]))
          | true =>
            have hlo : (lowN fz).isSome = true := by simp only [shL, Bool.and_eq_true] at hsl; exact hsl.2.2.2
            cases hk : lowN fz with
            | none => rw [hk] at hlo; cases hlo
            | some k =>
              simp only [hrd, Bool.or_true]
              intro id
              rw [shp_look, shp_look, lowM_look, lowM_look]
              split
              · rw [ha.2.2.2 k hk (by rw [hsl, Bool.or_true]) id (by assumption)]
              · rfl
        | false => exact fun _ => rfl
  · rename_i j want hg
    obtain ⟨he, h⟩ := h
    split at h
    · rename_i d hd
      have hgo : ∃ gb, (∀ (σ' : St) (K' : Bool → Prop), σ'.slot d = σ.slot d → K' gb → gof (σ'.get (.tmp d)) want K') ∧ ∃ v0, (gb = true → stp P σ (some gb) o.op fun v σ' => v = v0 ∧ σ' = σ) ∧ K (σ.put o.dst (.gd gb v0)) := by
        unfold gof at h
        split at h
        · rename_i b hb; exact ⟨_, fun σ' K' e hk => by rw [show σ'.get (.tmp d) = σ.get (.tmp d) by simp only [St.get]; rw [e], hb]; exact hk, h⟩
        · rename_i g' b hb; exact ⟨_, fun σ' K' e hk => by rw [show σ'.get (.tmp d) = σ.get (.tmp d) by simp only [St.get]; rw [e], hb]; exact hk, h⟩
        · exact h.elim
      obtain ⟨gb, hgb, v, h, hk⟩ := hgo
      refine ⟨.gd gb v, σ.mem, σ.nx, ⟨fun _ => ⟨rfl, rfl⟩, fun σ' ha => ?_, fun _ _ _ => rfl, fun _ _ _ _ _ _ => rfl⟩, hk⟩
      unfold evDO
      rw [hg]
      simp only [he, hd]
      refine ⟨trivial, hgb σ' _ (ha.1 d ?_) ?_⟩
      · unfold looks; rw [hg]; exact List.mem_append_right _ (by simp [hd])
      · refine ⟨v, fun hgt => ?_, rfl⟩
        obtain ⟨v', ⟨hv, -⟩, hb⟩ := pt_stp (h hgt)
        exact hb σ' _ (agree_op ha) ⟨fun hr => by rw [(ha.2.1 (by simp [touches, hr, hg])).1]; exact fun _ => rfl, fun hr => ha.2.2.1 (.inl (by simp [shN, hr, hg]))⟩ ⟨hv, rfl⟩
    · exact h.elim

theorem slot_put (σ : St) (d : Option Tmp) (v : V) (t : Nat) : (σ.put d v).slot t = if d = some t then v else σ.slot t := by
  cases d with
  | none => simp [St.put]
  | some d =>
    simp only [St.put, St.slot, List.lookup_cons, Option.some.injEq]
    by_cases e : t = d
    · subst e; simp
    · have e1 : (t == d) = false := by simpa using e
      rw [e1, if_neg (Ne.symm e)]
theorem put_mem (σ : St) (d : Option Tmp) (v : V) : (σ.put d v).mem = σ.mem ∧ (σ.put d v).nx = σ.nx := by cases d <;> exact ⟨rfl, rfl⟩

/-- The whole of the text's order. -/
theorem trace_of {ds : List (Option Tmp)} {K : St → Prop} : ∀ (l : List Oper) (σ : St), evD fz P ds l σ K → ∃ (s : Nat → St) (v : Nat → V), s 0 = σ ∧ K (s l.length) ∧
    ∀ j o, l[j]? = some o → SP fz P ds o (s j) (v j) (s (j + 1)).mem (s (j + 1)).nx ∧ s (j + 1) = St.put ⟨(s j).env, (s (j + 1)).mem, (s (j + 1)).nx⟩ o.dst (v j)
  | [], σ, h => ⟨fun _ => σ, fun _ => .any, rfl, h, fun j o hj => by simp at hj⟩
  | o :: l, σ, h => by
    obtain ⟨v, m, n, h1, h2⟩ := sp_of h
    obtain ⟨s, vs, h3, h4, h5⟩ := trace_of l _ h2
    have hm := put_mem ⟨σ.env, m, n⟩ o.dst v
    refine ⟨fun j => match j with | 0 => σ | j + 1 => s j, fun j => match j with | 0 => v | j + 1 => vs j, rfl, by simpa using h4, fun j o' hj => ?_⟩
    cases j with
    | zero =>
      simp at hj; subst hj
      simp only [h3, hm]
      exact ⟨h1, trivial⟩
    | succ j => exact h5 j o' (by simpa using hj)

/-- What has come up, and what it has left. -/
structure At (fz : List Nat) (cx : Cx) (N : Nat) (l : List Oper) (s : Nat → St) (v : Nat → V) (L : Nat → Bool) (a : Act) (w : World) : Prop where
  sf : ∃ σ ι ρ p, SF N cx σ ι ρ a w ∧ p ≤ l.length ∧ σ.mem = (s p).mem ∧ σ.nx = (s p).nx ∧
    (∀ i o, l[i]? = some o → isE fz o = true → (L i = true ↔ i < p)) ∧
    (∀ i o t, l[i]? = some o → L i = true → o.dst = some t → σ.slot t = v i) ∧
    (∀ t, (∀ i o, l[i]? = some o → L i = true → o.dst ≠ some t) → σ.slot t = (s 0).slot t)

/-- The facts of the check. -/
structure DrawFacts (fz : List Nat) (l : List Oper) : Prop where
  low : ∀ (j : Nat) (o : Oper), l[j]? = some o → ∀ k ∈ depsOf o, k < j
  uniq : ∀ (i j : Nat) (o o' : Oper) (t : Tmp), l[i]? = some o → l[j]? = some o' → i ≠ j → o.dst = some t → o'.dst ≠ some t
  look : ∀ (i j : Nat) (o' o : Oper) (t : Tmp), l[i]? = some o' → l[j]? = some o → i ≠ j → o'.dst = some t → t ∈ looks (l.map (·.dst)) o →
    (i < j → Reach (fun j => ((l[j]?).map depsOf).getD []) j i) ∧ (j < i → Reach (fun j => ((l[j]?).map depsOf).getD []) i j)
  sh : ∀ (i j : Nat) (o' o : Oper), l[i]? = some o' → l[j]? = some o → i ≠ j → isE fz o' = true → (rowM fz && isSt o'.op) = false → (shN fz o = true ∨ (rowM fz && isRd o.op) = true) →
    (i < j → Reach (fun j => ((l[j]?).map depsOf).getD []) j i) ∧ (j < i → Reach (fun j => ((l[j]?).map depsOf).getD []) i j)
  eff : ∀ (i j : Nat) (o' o : Oper), l[i]? = some o' → l[j]? = some o → i ≠ j → isE fz o' = true → touches fz o = true →
    (i < j → Reach (fun j => ((l[j]?).map depsOf).getD []) j i) ∧ (j < i → Reach (fun j => ((l[j]?).map depsOf).getD []) i j)
  lo : ∀ (i j : Nat) (o' o : Oper), l[i]? = some o' → l[j]? = some o → i ≠ j → isE fz o' = true → (isRd o.op || shL fz o) = true → (lowN fz).isSome = true → isAl o'.op = false →
    (i < j → Reach (fun j => ((l[j]?).map depsOf).getD []) j i) ∧ (j < i → Reach (fun j => ((l[j]?).map depsOf).getD []) i j)

theorem ordered_reach {l : List Oper} {i j : Nat} (h : ordered (befs (l.map depsOf) []) i j = true) (hne : i ≠ j) :
    (i < j → Reach (fun j => ((l[j]?).map depsOf).getD []) j i) ∧ (j < i → Reach (fun j => ((l[j]?).map depsOf).getD []) i j) := by
  have hs := befs_spec (fun j => ((l[j]?).map depsOf).getD []) (l.map depsOf) [] (fun i hi => by simp [List.getD]) (fun j k hb => by simp at hb)
  unfold ordered at h
  split at h
  · rename_i hlt; exact ⟨fun _ => hs _ _ h, fun h' => by omega⟩
  · exact ⟨fun h' => by omega, fun _ => hs _ _ h⟩

theorem drawOK_facts {l : List Oper} (h : drawOK fz l = true) : DrawFacts fz l := by
  have h1 : ∀ (j : Nat) (o : Oper), l[j]? = some o → ((depsOf o).all (fun k => Nat.blt k j) = true) ∧ ∀ (i : Nat) (o' : Oper), l[i]? = some o' → i ≠ j →
      (∀ d, o'.dst = some d → o.dst ≠ some d ∧ (d ∈ looks (l.map (·.dst)) o → ordered (befs (l.map depsOf) []) i j = true)) ∧
      (isE fz o' = true → touches fz o = true → ordered (befs (l.map depsOf) []) i j = true) ∧
      (isE fz o' = true → (rowM fz && isSt o'.op) = false → (shN fz o = true ∨ (rowM fz && isRd o.op) = true) → ordered (befs (l.map depsOf) []) i j = true) ∧
      (isE fz o' = true → (isRd o.op || shL fz o) = true → (lowN fz).isSome = true → isAl o'.op = false → ordered (befs (l.map depsOf) []) i j = true) := by
    intro j o hj
    have hlt : j < l.length := (List.getElem?_eq_some_iff.1 hj).1
    have h2 := List.all_eq_true.1 h j (List.mem_range.2 hlt)
    simp only [hj, Bool.and_eq_true] at h2
    refine ⟨h2.1, fun i o' hi hne => ?_⟩
    have hlt' : i < l.length := (List.getElem?_eq_some_iff.1 hi).1
    have h3 := List.all_eq_true.1 h2.2 i (List.mem_range.2 hlt')
    simp only [hi, Bool.or_eq_true, Bool.and_eq_true, beq_iff_eq] at h3
    rcases h3 with h3 | ⟨⟨⟨h3, h4⟩, h6⟩, h7⟩
    · exact (hne h3).elim
    · refine ⟨fun d hd => ?_, fun he ht => ?_, fun he hst hsh => by
        rw [he, hst] at h6
        rcases hsh with hsh | hsh
        · rw [hsh] at h6; simpa using h6
        · rw [Bool.and_eq_true] at hsh; rw [hsh.1, hsh.2] at h6; simpa using h6, fun he hr hl ha => by rw [he, hr, hl, ha] at h7; simpa using h7⟩
      · rw [hd] at h3
        simp only [Bool.and_eq_true, bne_iff_ne, ne_eq, Bool.or_eq_true, Bool.not_eq_true', List.contains_eq_mem, decide_eq_false_iff_not] at h3
        exact ⟨h3.1, fun hm => by rcases h3.2 with h5 | h5; · exact (h5 hm).elim
                                  · exact h5⟩
      · rw [he, ht] at h4; simpa using h4
  refine ⟨fun j o hj k hk => ?_, fun i j o o' t hi hj hne hd => ?_, fun i j o' o t hi hj hne hd hm => ?_, fun i j o' o hi hj hne he hst hsh => ordered_reach (((h1 j o hj).2 i o' hi hne).2.2.1 he hst hsh) hne, fun i j o' o hi hj hne he ht => ?_, fun i j o' o hi hj hne he hr hl ha => ordered_reach (((h1 j o hj).2 i o' hi hne).2.2.2 he hr hl ha) hne⟩
  · have := List.all_eq_true.1 (h1 j o hj).1 k hk
    simpa using this
  · exact (((h1 j o' hj).2 i o hi hne).1 t hd).1
  · exact ordered_reach ((((h1 j o hj).2 i o' hi hne).1 t hd).2 hm) hne
  · exact ordered_reach (((h1 j o hj).2 i o' hi hne).2.1 he ht) hne

/-- What has come up is closed under what stands before. -/
def Closed (l : List Oper) (L : Nat → Bool) : Prop := ∀ j o, l[j]? = some o → L j = true → ∀ k ∈ depsOf o, L k = true

theorem closed_reach {l : List Oper} {L : Nat → Bool} (hc : Closed l L) {j k : Nat} (hr : Reach (fun j => ((l[j]?).map depsOf).getD []) j k) :
    (∀ i ∈ ((l[j]?).map depsOf).getD [], L i = true) → L k = true := by
  induction hr with
  | one h => exact fun hd => hd _ h
  | more h h' ih =>
    intro hd
    refine ih fun i' hi' => ?_
    rename_i j i k
    cases ho : l[i]? with
    | none => simp [ho] at hi'
    | some o => simp only [ho, Option.map_some, Option.getD_some] at hi'; exact hc i o ho (hd i h) i' hi'

theorem slot_final {l : List Oper} {s : Nat → St} {v : Nat → V} (huniq : ∀ (i j : Nat) (o o' : Oper) (t : Tmp), l[i]? = some o → l[j]? = some o' → i ≠ j → o.dst = some t → o'.dst ≠ some t)
    (hs : ∀ j o, l[j]? = some o → s (j + 1) = St.put ⟨(s j).env, (s (j + 1)).mem, (s (j + 1)).nx⟩ o.dst (v j)) : ∀ j, j ≤ l.length →
    (∀ i o t, l[i]? = some o → i < j → o.dst = some t → (s j).slot t = v i) ∧ (∀ t, (∀ i o, l[i]? = some o → i < j → o.dst ≠ some t) → (s j).slot t = (s 0).slot t)
  | 0, _ => ⟨fun i o t _ h => by omega, fun t _ => rfl⟩
  | j + 1, hj => by
    obtain ⟨h1, h2⟩ := slot_final huniq hs j (by omega)
    obtain ⟨o, ho⟩ : ∃ o, l[j]? = some o := ⟨l[j], List.getElem?_eq_getElem (by omega)⟩
    have e := hs j o ho
    have esl : ∀ t, (s (j + 1)).slot t = if o.dst = some t then v j else (s j).slot t := fun t => by
      have := slot_put ⟨(s j).env, (s (j + 1)).mem, (s (j + 1)).nx⟩ o.dst (v j) t
      rw [← e] at this; exact this
    refine ⟨fun i o' t hi hlt hd => ?_, fun t ht => ?_⟩
    · rw [esl]
      by_cases hij : i = j
      · subst hij; rw [ho] at hi; cases hi; rw [if_pos hd]
      · rw [if_neg (fun h => huniq i j o' o t hi ho hij hd h)]
        exact h1 i o' t hi (by omega) hd
    · rw [esl, if_neg (ht j o ho (by omega))]
      exact h2 t fun i o' hi hlt => ht i o' hi (by omega)

theorem mem_const {l : List Oper} {s : Nat → St} (hs : ∀ j o, l[j]? = some o → isE fz o = false → (s (j + 1)).mem = (s j).mem ∧ (s (j + 1)).nx = (s j).nx) (p : Nat) : ∀ q, p ≤ q → q ≤ l.length →
    (∀ i o, l[i]? = some o → p ≤ i → i < q → isE fz o = false) → (s q).mem = (s p).mem ∧ (s q).nx = (s p).nx
  | q, hpq, hq, h => by
    induction q with
    | zero => have : p = 0 := by omega
              subst this; exact ⟨rfl, rfl⟩
    | succ q ih =>
      by_cases e : p = q + 1
      · subst e; exact ⟨rfl, rfl⟩
      · obtain ⟨o, ho⟩ : ∃ o, l[q]? = some o := ⟨l[q], List.getElem?_eq_getElem (by omega)⟩
        have h1 := hs q o ho (h q o ho (by omega) (by omega))
        have h2 := ih (by omega) (by omega) fun i o hi h3 h4 => h i o hi h3 (by omega)
        exact ⟨h1.1.trans h2.1, h1.2.trans h2.2⟩

theorem shp_const {l : List Oper} {s : Nat → St} (hs : ∀ j o, l[j]? = some o → isE fz o = false → (s (j + 1)).mem = (s j).mem ∧ (s (j + 1)).nx = (s j).nx)
    (hst : ∀ j o, l[j]? = some o → isE fz o = true → (rowM fz && isSt o.op) = true → ∀ id, (shp (s (j + 1)).mem).look id = (shp (s j).mem).look id) (p : Nat) : ∀ q, p ≤ q → q ≤ l.length →
    (∀ i o, l[i]? = some o → p ≤ i → i < q → isE fz o = true → (rowM fz && isSt o.op) = true) → ∀ id, (shp (s q).mem).look id = (shp (s p).mem).look id
  | q, hpq, hq, h => by
    induction q with
    | zero => have : p = 0 := by omega
              subst this; exact fun _ => rfl
    | succ q ih =>
      by_cases e : p = q + 1
      · subst e; exact fun _ => rfl
      · obtain ⟨o, ho⟩ : ∃ o, l[q]? = some o := ⟨l[q], List.getElem?_eq_getElem (by omega)⟩
        have h2 := ih (by omega) (by omega) fun i o hi h3 h4 => h i o hi h3 (by omega)
        intro id
        rw [← h2 id]
        cases hE : isE fz o with
        | false => rw [(hs q o ho hE).1]
        | true => exact hst q o ho hE (h q o ho (by omega) (by omega) hE) id

theorem low_const {l : List Oper} {s : Nat → St} (hs : ∀ j o, l[j]? = some o → isE fz o = false → (s (j + 1)).mem = (s j).mem ∧ (s (j + 1)).nx = (s j).nx) {k : Nat}
    (hst : ∀ j o, l[j]? = some o → isE fz o = true → isAl o.op = true → ∀ id, id < k → (s (j + 1)).mem.look id = (s j).mem.look id) (p : Nat) : ∀ q, p ≤ q → q ≤ l.length →
    (∀ i o, l[i]? = some o → p ≤ i → i < q → isE fz o = true → isAl o.op = true) → ∀ id, id < k → (s q).mem.look id = (s p).mem.look id
  | q, hpq, hq, h => by
    induction q with
    | zero => have : p = 0 := by omega
              subst this; exact fun _ _ => rfl
    | succ q ih =>
      by_cases e : p = q + 1
      · subst e; exact fun _ _ => rfl
      · obtain ⟨o, ho⟩ : ∃ o, l[q]? = some o := ⟨l[q], List.getElem?_eq_getElem (by omega)⟩
        have h2 := ih (by omega) (by omega) fun i o hi h3 h4 => h i o hi h3 (by omega)
        intro id hid
        rw [← h2 id hid]
        cases hE : isE fz o with
        | false => rw [(hs q o ho hE).1]
        | true => exact hst q o ho hE (h q o ho (by omega) (by omega) hE) id hid

end
section
variable {fz : List Nat} {P : Program} {N : Nat} {C : Ctl P N} {keep : List Nat} {cx : Cx}

theorem evDO_sound {ops : Array Oper} {i : Nat} {o : Oper} {σ : St} {ι : Nat → Nat} {ρ : Nat → Value} {a : Act} {w : World} {K : St → Prop} {Kc : Act → World → Prop} {Q : Exit → Act → World → Prop}
  (hs : evDO fz P (ops.toList.map (·.dst)) o σ K) (hi : ops[i]? = some o) (hd : dstIn N o.dst = true) (hN : ∀ (j d : Nat), (ops[j]?).bind (·.dst) = some d → d < N) (h : SF N cx σ ι ρ a w)
  (hrest : ∀ σ' ι' ρ' a' w', K σ' → SF N cx σ' ι' ρ' a' w' → Kc a' w') : wpOpIn (Fr cx.r) 0 P ops Q i Kc a w := by
 unfold wpOpIn
 simp only [hi]
 have plain : ∀ {g : Option Bool}, g.getD true = true → (stp P σ g o.op fun v σ' => K (σ'.put o.dst v)) → o.guard = none → (if Region.wanted o (yielded ops a.tmps) = true then o.wpIn (Fr cx.r) 0 P a w Kc Q else (∀ f, o.about P w a.eval = some f → (Fr cx.r).fn f) ∧ Kc (a.put o.dst undef) w) := by
  intro g hg hs hgd
  rw [if_pos (by simp [Region.wanted, hgd])]
  refine Oper.wpIn_of_wp (stp_nodefer hs) (Oper.wp_mono (fun a' w' ⟨v, σ', ι', ρ', x, hk, ha, hsr, hmr⟩ => ?_) (stp_sound (cx := cx) h.sr hg hs))
  subst ha
  exact hrest _ ι' ρ' _ _ hk (SF.put ⟨hsr, h.size, h.defers⟩ hd hmr)
 unfold evDO at hs
 split at hs
 ·
  rename_i hg
  split at hs
  ·
   split at hs
   ·
    rw [if_pos (by simp [Region.wanted, hg])]
    refine Oper.wpIn_of_wp (stpX_nodefer hs) (Oper.wp_mono (fun a' w' ⟨v, σ', ι', ρ', x, hk, ha, hsr, hmr⟩ => ?_) (stpX_sound (cx := cx) h.sr hs))
    subst ha
    exact hrest _ ι' ρ' _ _ hk (SF.put ⟨hsr, h.size, h.defers⟩ hd hmr)
   ·
    exact plain rfl hs.2.2 hg
  ·
   refine plain (g := some true) rfl ?_ hg
   have h2 : stp P σ (some true) o.op fun v _ => K (σ.put o.dst v) := by
    unfold St.bare at hs
    split at hs
    ·
     rename_i hm
     rw [Bool.and_eq_true] at hm
     obtain ⟨e, m, n⟩ := σ; exact stp_csh hm.2 hs
    ·
     split at hs
     ·
      split at hs
      ·
       rename_i hrd
       obtain ⟨e, m, n⟩ := σ
       rw [Bool.or_eq_true] at hrd
       rcases hrd with hrd | hrd
       ·
        exact stp_low hrd hs
       ·
        exact stp_lowS (by simp only [shL, Bool.and_eq_true] at hrd; exact hrd.1) hs
      ·
       exact hs
     ·
      obtain ⟨e, m, n⟩ := σ; exact stp_free hs
   obtain ⟨v, hk, hb⟩ := pt_stp h2
   exact hb _ _ (fun _ _ => rfl) ⟨fun _ _ => rfl, fun _ _ => rfl⟩ hk
 ·
  rename_i j want hg
  obtain ⟨-, hs⟩ := hs
  split at hs
  ·
   rename_i d hj
   rw [nth_eq] at hj
   obtain ⟨gb, hs, hiff⟩ := gof_sound hj h.sr (by rw [h.size]; exact hN j d hj) hs
   by_cases hw : Region.wanted o (yielded ops a.tmps) = true
   ·
    rw [if_pos hw]
    have hgb : gb = true := hiff.2 (by simpa [Region.wanted, hg] using hw)
    obtain ⟨v0, hs, hK⟩ := hs
    refine Oper.wpIn_of_wp (stp_nodefer (hs hgb)) (Oper.wp_mono (fun a' w' ⟨v, σ', ι', ρ', x, hk, ha, hsr, hmr⟩ => ?_) (stp_sound (cx := cx) h.sr (by simpa using hgb) (hs hgb)))
    subst ha
    obtain ⟨rfl, rfl⟩ := hk
    exact hrest _ ι' ρ' _ _ hK (SF.put ⟨hsr, h.size, h.defers⟩ hd (.gd _ _ _ _ (fun _ => hmr) (fun e => by rw [hgb] at e; cases e)))
   ·
    rw [if_neg hw]
    refine ⟨fun _ _ => trivial, ?_⟩
    have hgb : gb = false := by
     cases gb with
     | false => rfl
     | true => exact (hw (by simpa [Region.wanted, hg] using hiff.1 rfl)).elim
    obtain ⟨v0, -, hK⟩ := hs
    exact hrest _ ι ρ _ _ hK (SF.put h hd (.gd _ _ _ _ (fun e => by rw [hgb] at e; cases e) (fun _ => rfl)))
  ·
   exact hs.elim

theorem deps_mem {o : Oper} {L : Nat → Bool} (h : ∀ e ∈ o.after, Region.binds .any e = true → L e.on = true) : ∀ k ∈ depsOf o, L k = true := by
 intro k hk
 obtain ⟨e, he, rfl⟩ := List.mem_map.1 hk
 have := List.mem_filter.1 he
 exact h e (by simpa using this.1) this.2
theorem deps_of {o : Oper} {L : Nat → Bool} (h : ∀ k ∈ depsOf o, L k = true) : ∀ e ∈ o.after, Region.binds .any e = true → L e.on = true :=
 fun e he hb => h _ (List.mem_map.2 ⟨e, List.mem_filter.2 ⟨by simpa using he, hb⟩, rfl⟩)

theorem all_up {ops : Array Oper} (hf : DrawFacts fz ops.toList) {listed : Array Bool} (hsz : listed.size = ops.size) (hr : Region.ready .any ops listed = []) : ∀ i, i < ops.size → listed.getD i false = true := by
 intro i
 induction i using Nat.strongRecOn with
 | _ i ih =>
  intro hi
  cases hL : listed.getD i false with
  | true => rfl
  | false =>
   have : i ∈ Region.ready .any ops listed := by
    rw [mem_ready]
    refine ⟨by simpa [Array.getD, hsz, hi] using hL, ops[i], by simp [hi], deps_of (L := fun k => listed.getD k false) fun k hk => ?_⟩
    have hlow := hf.low i ops[i] (by simp [hi]) k hk
    exact ih k hlow (by omega)
   rw [hr] at this; cases this

theorem draw_main {ops : Array Oper} (hf : DrawFacts fz ops.toList) (hN : dstsIn N ops.toList = true) {s : Nat → St} {v : Nat → V} {K : St → Prop} {Q : Exit → Act → World → Prop} (hK : K (s ops.size))
  (hs : ∀ j o, ops.toList[j]? = some o → SP fz P (ops.toList.map (·.dst)) o (s j) (v j) (s (j + 1)).mem (s (j + 1)).nx ∧ s (j + 1) = St.put ⟨(s j).env, (s (j + 1)).mem, (s (j + 1)).nx⟩ o.dst (v j))
  (hq : ∀ σ' ι' ρ' a' w', K σ' → SF N cx σ' ι' ρ' a' w' → Q .normal a' w') :
  ∀ (fuel : Nat) (listed : Array Bool) (a : Act) (w : World), listed.size = ops.size → ((List.range ops.size).filter fun i => !listed.getD i false).length ≤ fuel → Closed ops.toList (fun i => listed.getD i false) →
   At fz cx N ops.toList s v (fun i => listed.getD i false) a w → wpAnyIn (Fr cx.r) 0 P .any ops Q fuel listed a w := by
 have hlen : ops.toList.length = ops.size := by simp
 have hmem : ∀ j o, ops.toList[j]? = some o → isE fz o = false → (s (j + 1)).mem = (s j).mem ∧ (s (j + 1)).nx = (s j).nx := fun j o hj he => (hs j o hj).1.1 he
 have hslot := slot_final hf.uniq (fun j o hj => (hs j o hj).2)
 -- all have come up
 have done : ∀ (listed : Array Bool) (a : Act) (w : World), (∀ i, i < ops.size → listed.getD i false = true) → At fz cx N ops.toList s v (fun i => listed.getD i false) a w → Q .normal a w := by
  rintro listed a w hall ⟨σ, ι, ρ, p, hsf, hp, hm, hn, he, h1, h2⟩
  refine hq _ ι ρ a w hK ?_
  have hc := mem_const hmem p ops.size (by omega) (by omega) fun i o hi hpi hin => by
   cases hE : isE fz o with
   | false => rfl
   | true => have := (he i o hi hE).1 (hall i hin); omega
  have hsl := hslot ops.size (by omega)
  have esl : ∀ t, (s ops.size).slot t = σ.slot t := fun t => by
   by_cases hw : ∃ (i : Nat) (o : Oper), ops.toList[i]? = some o ∧ o.dst = some t
   ·
    obtain ⟨i, o, hi, hd⟩ := hw
    have hlt : i < ops.size := by rw [← hlen]; exact (List.getElem?_eq_some_iff.1 hi).1
    rw [hsl.1 i o t hi hlt hd, h1 i o t hi (hall i hlt) hd]
   ·
    rw [hsl.2 t (fun i o hi _ hd => hw ⟨i, o, hi, hd⟩), h2 t (fun i o hi _ hd => hw ⟨i, o, hi, hd⟩)]
  have em : (s ops.size).mem = σ.mem := hc.1.trans hm.symm
  have en : (s ops.size).nx = σ.nx := hc.2.trans hn.symm
  exact ⟨⟨by rw [em, en]; exact hsf.sr.ml, fun t => by rw [em, en, esl]; exact hsf.sr.env t⟩, hsf.size, hsf.defers⟩
 intro fuel
 induction fuel with
 | zero =>
  intro listed a w hsz hcnt hcl hat
  have hall : ∀ i, i < ops.size → listed.getD i false = true := by
   intro i hi
   cases hL : listed.getD i false with
   | true => rfl
   | false =>
    have : i ∈ (List.range ops.size).filter fun i => !listed.getD i false := List.mem_filter.2 ⟨List.mem_range.2 hi, by rw [hL]; rfl⟩
    have := List.length_pos_of_mem this
    omega
  refine ⟨?_, done listed a w hall hat⟩
  cases hr : Region.ready .any ops listed with
  | nil => rfl
  | cons i r =>
   have : i ∈ Region.ready .any ops listed := by rw [hr]; simp
   rw [mem_ready] at this
   obtain ⟨h0, o, ho, -⟩ := this
   have hi : i < ops.size := (Array.getElem?_eq_some_iff.1 ho).1
   have := hall i hi
   simp [Array.getD, hsz, hi] at h0 this
   rw [h0] at this; cases this
 | succ fuel ih =>
  intro listed a w hsz hcnt hcl hat
  refine ⟨fun hr => done listed a w (all_up hf hsz hr) hat, fun i hi => ?_⟩
  rw [mem_ready] at hi
  obtain ⟨h0, o, ho, hdeps⟩ := hi
  have hil : i < ops.size := (Array.getElem?_eq_some_iff.1 ho).1
  have hoL : ops.toList[i]? = some o := by simpa using ho
  have hLi : listed.getD i false = false := by simpa [Array.getD, hsz, hil] using h0
  have hdep : ∀ k ∈ ((ops.toList[i]?).map depsOf).getD [], listed.getD k false = true := by
   rw [hoL]; simpa using deps_mem (L := fun k => listed.getD k false) hdeps
  obtain ⟨σ, ι, ρ, p, hsf, hp, hm, hn, he, h1, h2⟩ := hat
  -- what stands before i has come up; what stands behind has not
  have before : ∀ k, Reach (fun j => ((ops.toList[j]?).map depsOf).getD []) i k → listed.getD k false = true := fun k hr => closed_reach hcl hr hdep
  have behind : ∀ k o', ops.toList[k]? = some o' → Reach (fun j => ((ops.toList[j]?).map depsOf).getD []) k i → listed.getD k false = false := fun k o' hk hr => by
   cases hL : listed.getD k false with
   | false => rfl
   | true =>
    have := closed_reach hcl hr (by rw [hk]; simpa using hcl k o' hk hL)
    rw [hLi] at this; cases this
  have hslI := hslot i (by omega)
  have hag : agree fz (ops.toList.map (·.dst)) (s i) σ o := by
   refine ⟨fun t ht => ?_, fun htc => ?_, fun hsh => ?_, fun kk hkk hrd => ?_⟩
   rotate_left 3
   ·
    have heff : ∀ k o', ops.toList[k]? = some o' → isE fz o' = true → isAl o'.op = false → (k < p ↔ k < i) := fun k o' hk hE hst => by
     rw [← he k o' hk hE]
     by_cases hki : k = i
     ·
      subst hki; rw [hLi]; simp
     ·
      have hord := hf.lo k i o' o hk hoL hki hE hrd (by rw [hkk]; rfl) hst
      rcases Nat.lt_or_gt_of_ne hki with hlt | hgt
      ·
       simp [before k (hord.1 hlt), hlt]
      ·
       rw [behind k o' hk (hord.2 hgt)]; simp; omega
    intro id hid
    rw [hm]
    have hst : ∀ j o, ops.toList[j]? = some o → isE fz o = true → isAl o.op = true → ∀ id, id < kk → (s (j + 1)).mem.look id = (s j).mem.look id := fun j o hj hE hs' id hid => (hs j o hj).1.2.2.2 hE hs' kk hkk id hid
    rcases Nat.le_total p i with hpi | hpi
    ·
     refine (low_const hmem hst p i hpi (by omega) (fun k o' hk h3 h4 hE => ?_) id hid).symm
     cases hc : isAl o'.op with
     | true => rfl
     | false => have := (heff k o' hk hE hc).2 h4; omega
    ·
     refine low_const hmem hst i p hpi hp (fun k o' hk h3 h4 hE => ?_) id hid
     cases hc : isAl o'.op with
     | true => rfl
     | false => have := (heff k o' hk hE hc).1 h4; omega
   rotate_left 2
   ·
    have heff : ∀ k o', ops.toList[k]? = some o' → isE fz o' = true → (rowM fz && isSt o'.op) = false → (k < p ↔ k < i) := fun k o' hk hE hst => by
     rw [← he k o' hk hE]
     by_cases hki : k = i
     ·
      subst hki; rw [hLi]; simp
     ·
      have hord := hf.sh k i o' o hk hoL hki hE hst hsh
      rcases Nat.lt_or_gt_of_ne hki with hlt | hgt
      ·
       simp [before k (hord.1 hlt), hlt]
      ·
       rw [behind k o' hk (hord.2 hgt)]; simp; omega
    intro id
    rw [hm]
    have hst : ∀ j o, ops.toList[j]? = some o → isE fz o = true → (rowM fz && isSt o.op) = true → ∀ id, (shp (s (j + 1)).mem).look id = (shp (s j).mem).look id := fun j o hj hE hs' => (hs j o hj).1.2.2.1 hE hs'
    rcases Nat.le_total p i with hpi | hpi
    ·
     refine (shp_const hmem hst p i hpi (by omega) (fun k o' hk h3 h4 hE => ?_) id).symm
     cases hc : rowM fz && isSt o'.op with
     | true => rfl
     | false => have := (heff k o' hk hE hc).2 h4; omega
    ·
     refine shp_const hmem hst i p hpi hp (fun k o' hk h3 h4 hE => ?_) id
     cases hc : rowM fz && isSt o'.op with
     | true => rfl
     | false => have := (heff k o' hk hE hc).1 h4; omega
   ·
    by_cases hw : ∃ (k : Nat) (o' : Oper), ops.toList[k]? = some o' ∧ o'.dst = some t
    ·
     obtain ⟨k, o', hk, hd⟩ := hw
     by_cases hki : k = i
     ·
      subst hki
      rw [h2 t fun i' o'' hi' hL hd' => ?_, hslI.2 t fun i' o'' hi' hlt hd' => ?_]
      ·
       by_cases e : i' = k
       ·
        omega
       ·
        exact hf.uniq i' k o'' o' t hi' hk e hd' hd
      ·
       by_cases e : i' = k
       ·
        subst e; rw [hLi] at hL; cases hL
       ·
        exact hf.uniq i' k o'' o' t hi' hk e hd' hd
     ·
      have hord := hf.look k i o' o t hk hoL hki hd ht
      rcases Nat.lt_or_gt_of_ne hki with hlt | hgt
      ·
       rw [h1 k o' t hk (before k (hord.1 hlt)) hd, hslI.1 k o' t hk hlt hd]
      ·
       have hLk := behind k o' hk (hord.2 hgt)
       rw [h2 t fun i' o'' hi' hL hd' => ?_, hslI.2 t fun i' o'' hi' hlt hd' => ?_]
       ·
        by_cases e : i' = k
        ·
         omega
        ·
         exact hf.uniq i' k o'' o' t hi' hk e hd' hd
       ·
        by_cases e : i' = k
        ·
         subst e; rw [hLk] at hL; cases hL
        ·
         exact hf.uniq i' k o'' o' t hi' hk e hd' hd
    ·
     rw [h2 t (fun i o hi _ hd => hw ⟨i, o, hi, hd⟩), hslI.2 t (fun i o hi _ hd => hw ⟨i, o, hi, hd⟩)]
   ·
    have heff : ∀ k o', ops.toList[k]? = some o' → isE fz o' = true → (k < p ↔ k < i) := fun k o' hk hE => by
     rw [← he k o' hk hE]
     by_cases hki : k = i
     ·
      subst hki; rw [hLi]; simp
     ·
      have hord := hf.eff k i o' o hk hoL hki hE htc
      rcases Nat.lt_or_gt_of_ne hki with hlt | hgt
      ·
       simp [before k (hord.1 hlt), hlt]
      ·
       rw [behind k o' hk (hord.2 hgt)]; simp; omega
    rw [hm, hn]
    rcases Nat.le_total p i with hpi | hpi
    ·
     have := mem_const hmem p i hpi (by omega) fun k o' hk h3 h4 => by
      cases hE : isE fz o' with
      | false => rfl
      | true => have := (heff k o' hk hE).2 h4; omega
     exact ⟨this.1.symm, this.2.symm⟩
    ·
     exact mem_const hmem i p hpi hp fun k o' hk h3 h4 => by
      cases hE : isE fz o' with
      | false => rfl
      | true => have := (heff k o' hk hE).1 h4; omega
  have hsp := (hs i o hoL).1.2.1 σ hag
  have hdo : dstIn N o.dst = true := List.all_eq_true.1 hN o (by simpa using Array.mem_of_getElem? ho)
  refine evDO_sound hsp ho hdo (dstsIn_spec hN) hsf fun τ ι' ρ' a' w' hτ hsf' => ?_
  have hget : ∀ k, (listed.setIfInBounds i true).getD k false = if k = i then true else listed.getD k false := fun k => by
   rw [Array.getD_eq_getD_getElem?, Array.getD_eq_getD_getElem?]
   by_cases e : k = i
   ·
    subst e; simp [hsz, hil]
   ·
    rw [if_neg e, Array.getElem?_setIfInBounds_ne (Ne.symm e)]
  refine ih _ a' w' (by simpa using hsz) ?_ ?_ ?_
  ·
   have hsub : ((List.range ops.size).filter fun k => !(listed.setIfInBounds i true).getD k false) = ((List.range ops.size).filter fun k => !listed.getD k false).filter fun k => k ≠ i := by
    rw [List.filter_filter]
    refine List.filter_congr fun k _ => ?_
    rw [hget]
    by_cases e : k = i
    ·
     subst e; simp
    ·
     simp [e]
   rw [hsub]
   have hin : i ∈ (List.range ops.size).filter fun k => !listed.getD k false := List.mem_filter.2 ⟨List.mem_range.2 hil, by rw [hLi]; rfl⟩
   have := (List.length_filter_lt_length_iff_exists (p := fun k => decide (k ≠ i)) (l := (List.range ops.size).filter fun k => !listed.getD k false)).2 ⟨i, hin, by simp⟩
   omega
  ·
   intro j o' hj hL k hk
   simp only [hget] at hL ⊢
   by_cases hki : k = i
   ·
    rw [if_pos hki]
   ·
    rw [if_neg hki]
    by_cases hji : j = i
    ·
     subst hji; rw [hoL] at hj; cases hj
     exact hdep k (by rw [hoL]; simpa using hk)
    ·
     rw [if_neg hji] at hL; exact hcl j o' hj hL k hk
  ·
   have esl : ∀ t, τ.slot t = if o.dst = some t then v i else σ.slot t := fun t => by rw [hτ, slot_put]; rfl
   have emem : τ.mem = (if isE fz o then (s (i + 1)).mem else σ.mem) ∧ τ.nx = (if isE fz o then (s (i + 1)).nx else σ.nx) := by rw [hτ]; exact put_mem _ _ _
   refine ⟨τ, ι', ρ', if isE fz o then i + 1 else p, hsf', ?_, ?_, ?_, ?_, ?_, ?_⟩
   ·
    split <;> omega
   ·
    rw [emem.1]; cases hE : isE fz o <;> simp [hm]
   ·
    rw [emem.2]; cases hE : isE fz o <;> simp [hn]
   ·
    intro k o' hk hE'
    rw [hget]
    by_cases hki : k = i
    ·
     subst hki; rw [hoL] at hk; cases hk; simp [hE']
    ·
     rw [if_neg hki]
     cases hE : isE fz o with
     | false => simpa using he k o' hk hE'
     | true =>
      have hord := hf.eff k i o' o hk hoL hki hE' (by simp [touches, hE])
      simp only [if_true]
      rcases Nat.lt_or_gt_of_ne hki with hlt | hgt
      ·
       simp [before k (hord.1 hlt)]; omega
      ·
       rw [behind k o' hk (hord.2 hgt)]; simp; omega
   ·
    intro k o' t hk hL hd
    rw [hget] at hL
    rw [esl]
    by_cases hki : k = i
    ·
     subst hki; rw [hoL] at hk; cases hk; rw [if_pos hd]
    ·
     rw [if_neg hki] at hL
     rw [if_neg (hf.uniq k i o' o t hk hoL hki hd)]
     exact h1 k o' t hk hL hd
   ·
    intro t ht
    rw [esl, if_neg (ht i o hoL (by rw [hget, if_pos rfl]))]
    exact h2 t fun k o' hk hL => ht k o' hk (by rw [hget]; split <;> first | rfl | exact hL)

theorem SF.drew {σ : St} {ι : Nat → Nat} {ρ : Nat → Value} {a : Act} {w : World} (h : SF N cx σ ι ρ a w) : SF N cx σ ι ρ a { w with drawn := w.drawn + 1 } := by
 obtain ⟨m1, m2⟩ := h.sr.ml.grow (w' := { w with drawn := w.drawn + 1 }) rfl rfl rfl (Nat.le_refl _) (fun _ _ => rfl)
 exact ⟨⟨m1, fun t => m2 _ _ _ (h.sr.env t)⟩, h.size, h.defers⟩

/-- **A region whose order is open.** -/
theorem evC_draw {id : Nat} {l : List Oper} {ds : List (Option Tmp)} {σ : St} {Ψ : Exit → St → Prop} (hm : P.follows .mixedOrders = true) (hd : dstsIn N l = true) (hok : drawOK fz l = true) (hds : l.map (·.dst) = ds)
  (h : ∀ K : St → Prop, (∀ σ', Ψ .normal (σ'.norm keep) → K σ') → evD fz P ds l σ K) : evC C keep (.region id l.toArray true) σ Ψ := by
 show Tr C (.region id l.toArray true) σ Ψ
 intro cx ι ρ a w hR hf
 subst hds
 obtain ⟨s, v, h0, hK, hs⟩ := trace_of l σ (h (fun σ' => Ψ .normal (σ'.norm keep)) fun _ h => h)
 refine wpIn_region_any hm ?_
 refine draw_main (cx := cx) (ops := l.toArray) (drawOK_facts hok) hd (K := fun σ' => Ψ .normal (σ'.norm keep)) (by simpa using hK) (by simpa using hs)
  (fun σ' ι' ρ' a' w' hk hsf => ⟨cx, _, ι', ρ', C.refl hR, hk, ⟨hsf.sr.norm keep, hsf.size, hsf.defers⟩⟩) _ _ a _ (by simp) ?_ ?_ ?_
 ·
  exact Nat.le_trans (List.length_filter_le _ _) (by simp)
 ·
  intro j o hj hL; exfalso; simp [Array.getD] at hL
 ·
  have hLf : ∀ i, (Array.replicate l.toArray.size false).getD i false = false := fun i => by simp [Array.getD]
  refine ⟨σ, ι, ρ, 0, hf.drew, Nat.zero_le _, by rw [h0], by rw [h0], fun i o hi he => by rw [hLf]; simp, (fun i o t hi hL => by rw [hLf] at hL; cases hL), fun t _ => by rw [h0]⟩

theorem evDO_guard {ds : List (Option Tmp)} {dst : Option Tmp} {op : Op} {ty : TypeId} {pos : String} {after : Array Edge} {j : Nat} {want : Bool} {d : Nat} {σ : St} {K : St → Prop} (he : isE fz ⟨dst, op, ty, pos, after, some (j, want)⟩ = false) (hj : nth ds j = some d) {gb : Bool}
  (hg : ∀ K' : Bool → Prop, K' gb → gof (σ.get (.tmp d)) want K') {v0 : V} (hs : gb = true → stp P σ (some gb) op fun v σ' => v = v0 ∧ σ' = σ) (hK : K (σ.put dst (.gd gb v0))) :
  evDO fz P ds ⟨dst, op, ty, pos, after, some (j, want)⟩ σ K := by
 unfold evDO; simp only [hj]; exact ⟨he, hg _ ⟨v0, hs, hK⟩⟩
theorem evD_step {ds : List (Option Tmp)} {o : Oper} {l : List Oper} {σ : St} {K : St → Prop} (h : ∀ K' : St → Prop, (∀ σ', evD fz P ds l σ' K → K' σ') → evDO fz P ds o σ K') : evD fz P ds (o :: l) σ K :=
 h _ fun _ h => h

end
mutual
def V.ren (i j : Nat) : V → V
 | .own k => .own (if k = i then j else k)
 | .ptr k off => .ptr (if k = i then j else k) off
 | .rp k z r s => .rp (if k = i then j else k) z r s
 | .agg cs => .agg (V.renL i j cs)
 | .fn f cs => .fn f (V.renL i j cs)
 | .tup cs => .tup (V.renL i j cs)
 | .gd g v => .gd g (v.ren i j)
 | .int k n => .int k n
 | .bool b => .bool b
 | .str s => .str s
 | .sl e r => .sl e r
 | .nsl => .nsl
 | .slc e r => .slc e r
 | .ub => .ub
 | .nf => .nf
 | .np => .np
 | .nm => .nm
 | .mp k => .mp (if k = i then j else k)
 | .fm es => .fm es
 | .yl l => .yl l
 | .eq x v => .eq x (v.ren i j)
 | .ep es => .ep es
 | .any => .any
def V.renL (i j : Nat) : List V → List V
 | [] => []
 | v :: vs => v.ren i j :: V.renL i j vs
end
mutual
/-- Number j is not named. -/
def V.no (j : Nat) : V → Bool
 | .own k => k != j
 | .ptr k _ => k != j
 | .rp k _ _ _ => k != j
 | .agg cs => V.noL j cs
 | .fn _ cs => V.noL j cs
 | .tup cs => V.noL j cs
 | .gd _ v => v.no j
 | .int _ _ => true
 | .bool _ => true
 | .str _ => true
 | .sl _ _ => true
 | .nsl => true
 | .slc _ _ => true
 | .ub => true
 | .nf => true
 | .np => true
 | .nm => true
 | .mp k => k != j
 | .fm _ => true
 | .yl _ => true
 | .eq _ v => v.no j
 | .ep _ => true
 | .any => true
def V.noL (j : Nat) : List V → Bool
 | [] => true
 | v :: vs => v.no j && V.noL j vs
end

theorem V.renL_length (i j : Nat) : ∀ (cs : List V), (V.renL i j cs).length = cs.length
 | [] => rfl
 | v :: vs => by simp [V.renL, V.renL_length i j vs]
theorem V.renL_getD (i j : Nat) : ∀ (cs : List V) (k : Nat), (V.renL i j cs).getD k .any = (cs.getD k .any).ren i j
 | [], k => by simp [V.renL, V.ren]
 | v :: vs, 0 => by simp [V.renL]
 | v :: vs, k + 1 => by simpa [V.renL] using V.renL_getD i j vs k
theorem V.noL_getD {j : Nat} : ∀ {cs : List V} (_ : V.noL j cs = true) (k : Nat), (cs.getD k .any).no j = true
 | [], _, k => by simp [V.no]
 | v :: vs, h, 0 => by simp [V.noL] at h; simpa using h.1
 | v :: vs, h, k + 1 => by simp [V.noL] at h; simpa using V.noL_getD h.2 k
theorem V.sc_ren (i j : Nat) {v : V} (h : v.sc = true) : (v.ren i j).sc = true := by
 cases v <;> first | exact h | rfl | (cases h; done)

theorem Rel.ren {w : World} {O : Nat → Prop} {ι : Nat → Nat} {ρ : Nat → Value} {nx i j : Nat} (hj : j < nx) {c : Bool} {v : V} {x : Value} (h : Rel w O ι ρ nx c v x) : v.no j = true →
  Rel w O (fun k => if k = j then ι i else ι k) (fun k => if k = j then ρ i else ρ k) nx c (v.ren i j) x := by
 induction h with
 | int c k n => exact fun _ => .int c k n
 | bool c b => exact fun _ => .bool c b
 | str c s => exact fun _ => .str c s
 | agg c cs vs hl hs _ ih =>
  intro e
  refine .agg c _ vs (by rw [V.renL_length]; exact hl) (fun k hk => ?_) (fun k hk => ?_) <;> (rw [V.renL_length] at hk; rw [V.renL_getD])
  ·
   exact V.sc_ren _ _ (hs k hk)
  ·
   exact ih k hk (V.noL_getD (by simpa [V.no] using e) k)
 | sl c esz rows b off len cap xs hl hc hm hz hs hx h _ => exact fun _ => .sl c esz rows b off len cap xs hl hc hm hz hs hx fun i' j' hi hj' => (h i' j' hi hj').free rfl true
 | slnil c esz ad => exact fun _ => .slnil c esz ad
 | nsl c => exact fun _ => .nsl c
 | slc c esz rows a n _ ih => exact fun _ => .slc c esz rows a n (ih rfl)
 | ub c b => exact fun _ => .ub c b
 | nf c => exact fun _ => .nf c
 | np c => exact fun _ => .np c
 | nm c => exact fun _ => .nm c
 | fm c es b arr clk hx h => exact fun _ => .fm c es b arr clk hx h
 | mp k h =>
  intro e
  simp [V.no] at e
  simp only [V.ren]
  by_cases hk : k = i
  ·
   subst hk
   have := Rel.mp (w := w) (O := O) (ι := fun q => if q = j then ι k else ι q) (ρ := fun q => if q = j then ρ k else ρ q) (nx := nx) j hj
   simpa using this
  ·
   have := Rel.mp (w := w) (O := O) (ι := fun q => if q = j then ι i else ι q) (ρ := fun q => if q = j then ρ i else ρ q) (nx := nx) k h
   simpa [hk, e] using this
 | yl c l => exact fun _ => .yl c l
 | eq c v x _ ih => exact fun e => .eq c _ x (ih (by simpa [V.no] using e))
 | ptr k off h =>
  intro e
  simp [V.no] at e
  simp only [V.ren]
  by_cases hk : k = i
  ·
   subst hk
   rw [if_pos rfl]
   have := Rel.ptr (w := w) (O := O) (ι := fun m => if m = j then ι k else ι m) (ρ := fun m => if m = j then ρ k else ρ m) (nx := nx) j off hj
   simpa using this
  ·
   rw [if_neg hk]
   have := Rel.ptr (w := w) (O := O) (ι := fun m => if m = j then ι i else ι m) (ρ := fun m => if m = j then ρ i else ρ m) (nx := nx) k off h
   simpa [e] using this
 | ep c es b off xs hs hx h _ => exact fun _ => .ep c es b off xs hs hx fun j' hj' => (h j' hj').free rfl true
 | own k h h1 =>
  intro e
  simp [V.no] at e
  simp only [V.ren]
  by_cases hk : k = i
  ·
   subst hk
   rw [if_pos rfl]
   have := Rel.own (w := w) (O := O) (ι := fun m => if m = j then ι k else ι m) (ρ := fun m => if m = j then ρ k else ρ m) (nx := nx) j hj (by simpa using h1)
   simpa using this
  ·
   rw [if_neg hk]
   have := Rel.own (w := w) (O := O) (ι := fun m => if m = j then ι i else ι m) (ρ := fun m => if m = j then ρ i else ρ m) (nx := nx) k h (by simpa [e] using h1)
   simpa [e] using this
 | rp k z r s b h hb =>
  intro e
  simp [V.no] at e
  simp only [V.ren]
  by_cases hk : k = i
  ·
   subst hk
   rw [if_pos rfl]
   have := Rel.rp (w := w) (O := O) (ι := fun m => if m = j then ι k else ι m) (ρ := fun m => if m = j then ρ k else ρ m) (nx := nx) j z r s b hj (by simpa using hb)
   simpa using this
  ·
   rw [if_neg hk]
   have := Rel.rp (w := w) (O := O) (ι := fun m => if m = j then ι i else ι m) (ρ := fun m => if m = j then ρ i else ρ m) (nx := nx) k z r s b h (by simpa [e] using hb)
   simpa [e] using this
 | fn c f caps vs hl _ ih => exact fun e => .fn c f _ vs (by rw [V.renL_length]; exact hl) fun k hk => by rw [V.renL_length] at hk; rw [V.renL_getD]; exact ih k hk (V.noL_getD (by simpa [V.no] using e) k)
 | tup c ts vs hl _ ih => exact fun e => .tup c _ vs (by rw [V.renL_length]; exact hl) fun k hk => by rw [V.renL_length] at hk; rw [V.renL_getD]; exact ih k hk (V.noL_getD (by simpa [V.no] using e) k)
 | gd c g v x _ h0 ih => exact fun e => .gd c g _ x (fun hg => ih hg (by simpa [V.no] using e)) h0
 | any c x => exact fun _ => .any c x

def AObj.ren (o : AObj) (i j : Nat) : AObj :=
 match o with
 | .cells cs => .cells (V.renL i j cs)
 | .row e z r => .row e z r
 | .orow e z r => .orow e z (r.map (V.renL i j))
 | .dict es => .dict es
def AObj.no (o : AObj) (j : Nat) : Bool :=
 match o with
 | .cells cs => V.noL j cs
 | .row .. => true
 | .orow _ _ r => r.all (V.noL j)
 | .dict _ => true
def AObj.upto (o : AObj) (n : Nat) : Bool :=
 match o with
 | .cells cs => V.uptoL n cs
 | .row .. => true
 | .orow _ _ r => r.all (V.uptoL n)
 | .dict _ => true

def St.ren (σ : St) (i j : Nat) : St := ⟨σ.env.map fun p => (p.1, p.2.ren i j), σ.mem.map fun p => (if p.1 = i then j else p.1, p.2.ren i j), σ.nx⟩
def St.noSt (σ : St) (j : Nat) : Bool := σ.env.all (fun p => p.2.no j) && σ.mem.all fun p => p.1 != j && p.2.no j

theorem slot_ren (σ : St) (i j t : Nat) : (σ.ren i j).slot t = (σ.slot t).ren i j := by
 unfold St.slot St.ren
 simp only
 have : ∀ (l : List (Nat × V)), (l.map fun p => (p.1, p.2.ren i j)).lookup t = (l.lookup t).map fun v => v.ren i j := by
  intro l
  induction l with
  | nil => rfl
  | cons p l ih =>
   obtain ⟨q, v⟩ := p
   simp only [List.map_cons, List.lookup_cons]
   cases t == q <;> simp [ih]
 rw [this]
 cases σ.env.lookup t <;> simp [V.ren]

theorem slot_no {σ : St} {j : Nat} (h : σ.env.all (fun p => p.2.no j) = true) (t : Nat) : (σ.slot t).no j = true := by
 unfold St.slot
 cases hl : σ.env.lookup t with
 | none => simp [V.no]
 | some v =>
  have : ∀ (l : List (Nat × V)), l.all (fun p => p.2.no j) = true → l.lookup t = some v → v.no j = true := by
   intro l
   induction l with
   | nil => intro _ h; cases h
   | cons p l ih =>
    obtain ⟨q, u⟩ := p
    intro h1 h2
    simp only [List.all_cons, Bool.and_eq_true] at h1
    simp only [List.lookup_cons] at h2
    cases e : t == q with
    | true => simp [e] at h2; subst h2; exact h1.1
    | false => simp [e] at h2; exact ih h1.2 h2
  exact this _ h hl

theorem Wk.ren {N : Nat} {σ : St} (i j : Nat) (hj : j < σ.nx) (hi : i < σ.nx) (hno : σ.noSt j = true) : Wk N σ (σ.ren i j) := fun cx ι ρ a w h => by
 have hm := h.sr.ml
 simp only [St.noSt, Bool.and_eq_true] at hno
 have hnm : ∀ p ∈ σ.mem, p.1 ≠ j ∧ p.2.no j = true := fun p hp => by
  have := List.all_eq_true.1 hno.2 p hp
  simpa using this
 let ι' : Nat → Nat := fun k => if k = j then ι i else ι k
 let ρ' : Nat → Value := fun k => if k = j then ρ i else ρ k
 have hin : ∀ q ∈ (σ.ren i j).mem, ∃ p ∈ σ.mem, q = (if p.1 = i then j else p.1, p.2.ren i j) := fun q hq => by
  obtain ⟨p, hp, rfl⟩ := List.mem_map.1 hq; exact ⟨p, hp, rfl⟩
 have hblk : ∀ p ∈ σ.mem, blk ι' ρ' (if p.1 = i then j else p.1, p.2.ren i j) = blk ι ρ p := by
  rintro ⟨k, o⟩ hp
  have hk := (hnm _ hp).1
  simp only at hk
  by_cases e : k = i
  ·
   subst e; cases o <;> simp [blk, AObj.ren, ι', ρ']
  ·
   cases o <;> simp [blk, AObj.ren, ι', ρ', e, hk]
 have hO : ∀ b, OO cx.X (σ.ren i j).mem ι' ρ' b → OO cx.X σ.mem ι ρ b := by
  rintro b (hx | ⟨q, hq, hb⟩)
  ·
   exact .inl hx
  ·
   obtain ⟨p, hp, rfl⟩ := hin q hq
   exact .inr ⟨p, hp, by rw [← hblk p hp]; exact hb⟩
 have hk : ∀ c v x, v.no j = true → Rel w (OO cx.X σ.mem ι ρ) ι ρ σ.nx c v x → Rel w (OO cx.X (σ.ren i j).mem ι' ρ') ι' ρ' σ.nx c (v.ren i j) x := fun c v x hv hr =>
  ((hr.ren hj hv).mono (fun a y hc hn => ⟨hc, fun h => hn (hO _ h)⟩) (fun _ _ => ⟨rfl, rfl⟩) (Nat.le_refl _))
 have hkc : ∀ v x, Rel w (OO cx.X σ.mem ι ρ) ι ρ σ.nx true v x → Rel w (OO cx.X (σ.ren i j).mem ι' ρ') ι' ρ' σ.nx true v x := fun v x hr =>
  Rel.mono (fun a y hc hn => ⟨hc, fun h => hn (hO _ h)⟩) (fun _ _ => ⟨rfl, rfl⟩) (Nat.le_refl _) (hr.free (ι' := ι') (ρ' := ρ') (nx' := σ.nx) rfl true)
 have inj : ∀ p ∈ σ.mem, ∀ q ∈ σ.mem, (if p.1 = i then j else p.1) = (if q.1 = i then j else q.1) → p = q := by
  intro p hp q hq e
  refine hm.keys p hp q hq ?_
  have h1 := (hnm p hp).1
  have h2 := (hnm q hq).1
  split at e <;> split at e <;> omega
 refine ⟨ι', ρ', ⟨⟨⟨hm.os, hm.tape, hm.output, hm.size, hm.old, ?_, ?_, ?_, ?_, hm.xlt, ?_⟩, fun t => ?_⟩, h.size, h.defers⟩⟩
 ·
  intro p hp q hq e
  obtain ⟨p', hp', rfl⟩ := hin p hp
  obtain ⟨q', hq', rfl⟩ := hin q hq
  rw [inj p' hp' q' hq' e]
 ·
  intro p hp
  obtain ⟨p', hp', rfl⟩ := hin p hp
  have := hm.lt p' hp'
  show (if p'.1 = i then j else p'.1) < σ.nx
  split <;> omega
 ·
  intro p hp b hb
  obtain ⟨p', hp', rfl⟩ := hin p hp
  rw [hblk p' hp'] at hb
  exact hm.own p' hp' b hb
 ·
  intro p hp q hq b hpb hqb
  obtain ⟨p', hp', rfl⟩ := hin p hp
  obtain ⟨q', hq', rfl⟩ := hin q hq
  rw [hblk p' hp'] at hpb; rw [hblk q' hq'] at hqb
  rw [hm.inj p' hp' q' hq' b hpb hqb]
 ·
  intro q hq
  obtain ⟨p, hp, rfl⟩ := hin q hq
  have ho := hm.obj p hp
  have hn := hnm p hp
  obtain ⟨k, o⟩ := p
  simp only at hn ho ⊢
  have ei : ι' (if k = i then j else k) = ι k := by
   by_cases e : k = i
   ·
    subst e; simp [ι']
   ·
    simp [ι', e, hn.1]
  have er : ρ' (if k = i then j else k) = ρ k := by
   by_cases e : k = i
   ·
    subst e; simp [ρ']
   ·
    simp [ρ', e, hn.1]
  cases o with
  | cells cs =>
   obtain ⟨vals, e, h1, h2, h3, h4⟩ := ho
   refine ⟨vals, e, by rw [ei]; exact h1, by rw [V.renL_length]; exact h2, fun m hm' => ?_, fun m hm' => ?_⟩ <;> (rw [V.renL_length] at hm'; rw [V.renL_getD])
   ·
    exact V.sc_ren _ _ (h3 m hm')
   ·
    exact hk _ _ _ (V.noL_getD (by simpa [AObj.no] using hn.2) m) (h4 m hm')
  | row e z r =>
   obtain ⟨xs, h1, h2, h3, h4⟩ := ho
   exact ⟨xs, by rw [er]; exact h1, h2, h3, fun m n hm' hn' => hkc _ _ (h4 m n hm' hn')⟩
  | orow e z r =>
   obtain ⟨xs, h1, h2, h3, h4⟩ := ho
   refine ⟨xs, by rw [er, List.length_map]; exact h1, fun m hm' => ?_, fun m n hm' hn' => ?_, fun m n hm' hn' => ?_⟩ <;> (rw [List.length_map] at hm'; rw [mapR_getD rfl])
   ·
    rw [V.renL_length]; exact h2 m hm'
   ·
    rw [V.renL_getD]; exact V.sc_ren _ _ (h3 m n hm' hn')
   ·
    rw [V.renL_getD]; exact hk _ _ _ (V.noL_getD (List.all_eq_true.1 (by simpa [AObj.no] using hn.2 : r.all (V.noL j) = true) _ (getD_row hm')) n) (h4 m n hm' hn')
  | dict es =>
   obtain ⟨arr, clk, h1, h2⟩ := ho
   exact ⟨arr, clk, by rw [ei]; exact h1, h2⟩
 ·
  rw [slot_ren]
  exact hk _ _ _ (slot_no hno.1 t) (h.sr.env t)

/-- Numbers from n on are forgotten. -/
def St.cut (σ : St) (n : Nat) : St := ⟨σ.env, σ.mem.filter (fun p => Nat.blt p.1 n), n⟩
def St.cutOK (σ : St) (n : Nat) : Bool := σ.env.all (fun p => p.2.upto n) && (σ.mem.filter (fun p => Nat.blt p.1 n)).all fun p => p.2.upto n

theorem slot_upto {σ : St} {n : Nat} (h : σ.env.all (fun p => p.2.upto n) = true) (t : Nat) : (σ.slot t).upto n = true := by
 unfold St.slot
 cases hl : σ.env.lookup t with
 | none => simp [V.upto]
 | some v =>
  have : ∀ (l : List (Nat × V)), l.all (fun p => p.2.upto n) = true → l.lookup t = some v → v.upto n = true := by
   intro l
   induction l with
   | nil => intro _ h; cases h
   | cons p l ih =>
    obtain ⟨q, u⟩ := p
    intro h1 h2
    simp only [List.all_cons, Bool.and_eq_true] at h1
    simp only [List.lookup_cons] at h2
    cases e : t == q with
    | true => simp [e] at h2; subst h2; exact h1.1
    | false => simp [e] at h2; exact ih h1.2 h2
  exact this _ h hl

theorem Wk.cut {N : Nat} {σ : St} (n : Nat) (hok : σ.cutOK n = true) : Wk N σ (σ.cut n) := fun cx ι ρ a w h => by
 obtain ⟨ι', ρ', hd⟩ := Wk.drop (N := N) (σ := σ) (fun k => Nat.blt k n) cx ι ρ a w h
 have hm := hd.sr.ml
 simp only [St.cutOK, Bool.and_eq_true] at hok
 refine ⟨ι', ρ', ⟨⟨⟨hm.os, hm.tape, hm.output, hm.size, hm.old, hm.keys, fun p hp => ?_, hm.own, hm.inj, hm.xlt, fun p hp => ?_⟩, fun t => Rel.of_below (hd.sr.env t) (slot_upto hok.1 t)⟩, hd.size, hd.defers⟩⟩
 ·
  have := (List.mem_filter.1 hp).2; simpa [St.cut] using this
 ·
  have ho := hm.obj p hp
  have hu := List.all_eq_true.1 hok.2 p hp
  obtain ⟨k, o⟩ := p
  cases o with
  | cells cs =>
   obtain ⟨vals, e, h1, h2, h3, h4⟩ := ho
   exact ⟨vals, e, h1, h2, h3, fun m hm' => (h4 m hm').of_below (V.uptoL_getD (by simpa [AObj.upto, St.cut] using hu) m)⟩
  | row e z r =>
   obtain ⟨xs, h1, h2, h3, h4⟩ := ho
   exact ⟨xs, h1, h2, h3, fun m n' hm' hn' => (h4 m n' hm' hn').free rfl true⟩
  | orow e z r =>
   obtain ⟨xs, h1, h2, h3, h4⟩ := ho
   exact ⟨xs, h1, h2, h3, fun m n' hm' hn' => (h4 m n' hm' hn').of_below (V.uptoL_getD (List.all_eq_true.1 (by simpa [AObj.upto, St.cut] using hu : r.all (V.uptoL n) = true) _ (getD_row hm')) n')⟩
  | dict es => exact ho

section
variable {P : Program} {N : Nat} {C : Ctl P N}

theorem tr_region {id : Nat} {l : List Oper} {ds : List (Option Tmp)} {σ : St} {Ψ : Exit → St → Prop} (kp : List Nat) (hd : dstsIn N l = true) (hds : l.map (·.dst) = ds)
  (h : ∀ K : St → Prop, (∀ σ', Ψ .normal (σ'.norm kp) → K σ') → evR C ds l σ K) : Tr C (.region id l.toArray false) σ Ψ := evC_sound (keep := kp) _ _ _ (evC_region hd hds h)
theorem tr_draw (fz : List Nat) {id : Nat} {l : List Oper} {ds : List (Option Tmp)} {σ : St} {Ψ : Exit → St → Prop} (kp : List Nat) (hm : P.follows .mixedOrders = true) (hd : dstsIn N l = true) (hok : drawOK fz l = true) (hds : l.map (·.dst) = ds)
  (h : ∀ K : St → Prop, (∀ σ', Ψ .normal (σ'.norm kp) → K σ') → evD fz P ds l σ K) : Tr C (.region id l.toArray true) σ Ψ := evC_sound (keep := kp) _ _ _ (evC_draw hm hd hok hds h)
theorem tr_seq {x y : Code} {σ : St} {Ψ : Exit → St → Prop} (h : ∀ K : St → Prop, (∀ σ', Tr C y σ' Ψ → K σ') → Tr C x σ (thenE K Ψ)) : Tr C (.seq x y) σ Ψ := fun cx ι ρ a w hR hf => by
 refine wpIn_seq (Code.wpIn_mono (fun e a' w' hq => ?_) (h (fun σ' => Tr C y σ' Ψ) (fun _ h => h) cx ι ρ a w hR hf))
 obtain ⟨cx', σ', ι', ρ', hL, h1, h2⟩ := hq
 cases e with
 | normal =>
  have e := C.hr hL
  rw [← e]
  exact Code.wpIn_mono (fun e a' w' ⟨cx2, σ2, ι2, ρ2, hL2, k⟩ => ⟨cx2, σ2, ι2, ρ2, C.trans hL hL2, k⟩) (h1 cx' ι' ρ' a' w' (C.pres hL hR) h2)
 | _ => exact ⟨cx', σ', ι', ρ', hL, h1, h2⟩
theorem tr_block {id : Nat} {c : Code} {σ : St} {Ψ : Exit → St → Prop} (h : Tr C c σ (inBlkE id Ψ)) : Tr C (.block id c) σ Ψ := fun cx ι ρ a w hR hf => by
 refine wpIn_block (Code.wpIn_mono (fun e a' w' hq => ?_) (h cx ι ρ a w hR hf))
 obtain ⟨cx', σ', ι', ρ', hL, h1, h2⟩ := hq
 cases e with
 | exit id' =>
  simp only [inBlkE] at h1
  simp only [Exit.inBlock]
  split
  ·
   rename_i he; rw [if_pos he] at h1; exact ⟨cx', σ', ι', ρ', hL, h1, h2⟩
  ·
   rename_i he; rw [if_neg he] at h1; exact ⟨cx', σ', ι', ρ', hL, h1, h2⟩
 | _ => exact ⟨cx', σ', ι', ρ', hL, h1, h2⟩
theorem tr_cond {c : Operand} {x y : Code} {σ : St} {Ψ : Exit → St → Prop} {b : Bool} (hb : σ.get c = .bool b) (ht : b = true → Tr C x σ Ψ) (hf : b = false → Tr C y σ Ψ) : Tr C (.cond c x y) σ Ψ :=
 fun cx ι ρ a w hR h => by
  have hr := h.sr.get c
  rw [hb] at hr
  exact wpIn_cond_split hr.bool_inv (fun e => ht e cx ι ρ a w hR h) (fun e => hf e cx ι ρ a w hR h)
theorem Rel.ub_inv {w : World} {O : Nat → Prop} {ι : Nat → Nat} {ρ : Nat → Value} {nx : Nat} {c : Bool} {x : Value} (h : Rel w O ι ρ nx c .ub x) : ∃ b, x = .bool b := by cases h; exact ⟨_, rfl⟩
/-- A test of which nothing is known. -/
theorem tr_cond_ub {c : Operand} {x y : Code} {σ : St} {Ψ : Exit → St → Prop} (hb : σ.get c = .ub) (ht : Tr C x σ Ψ) (hf : Tr C y σ Ψ) : Tr C (.cond c x y) σ Ψ :=
 fun cx ι ρ a w hR h => by
  have hr := h.sr.get c
  rw [hb] at hr
  obtain ⟨b, hb⟩ := hr.ub_inv
  exact wpIn_cond_split hb (fun _ => ht cx ι ρ a w hR h) (fun _ => hf cx ι ρ a w hR h)
theorem tr_skip {σ : St} {Ψ : Exit → St → Prop} (h : Ψ .normal σ) : Tr C .skip σ Ψ := fun cx ι ρ a w hR hf => wpIn_skip ⟨cx, σ, ι, ρ, C.refl hR, h, hf⟩
theorem tr_ret {σ : St} {Ψ : Exit → St → Prop} (h : Ψ .ret σ) : Tr C .ret σ Ψ := fun cx ι ρ a w hR hf => wpIn_ret ⟨cx, σ, ι, ρ, C.refl hR, h, hf⟩
theorem tr_exit {id : Nat} {σ : St} {Ψ : Exit → St → Prop} (h : Ψ (.exit id) σ) : Tr C (.exit id) σ Ψ := fun cx ι ρ a w hR hf => wpIn_exit ⟨cx, σ, ι, ρ, C.refl hR, h, hf⟩
theorem tr_wk {c : Code} {σ σ' : St} {Ψ : Exit → St → Prop} (hw : Wk N σ σ') (h : Tr C c σ' Ψ) : Tr C c σ Ψ := evC_wk hw h

theorem tr_loopW {c : Code} {σ : St} {Ψ : Exit → St → Prop} (Inv : Nat → St → Prop) (n0 : Nat) (h0 : ∃ σ', Wk N σ σ' ∧ Inv n0 σ')
  (round : ∀ n σ, Inv n σ → ∀ K : St → Prop, (∀ σ', (∃ m σ'', m < n ∧ Wk N σ' σ'' ∧ Inv m σ'') → K σ') → Tr C c σ (thenE K Ψ)) : Tr C (.loop c) σ Ψ := by
 obtain ⟨σ', hw, h0⟩ := h0
 refine evC_wk hw (tr_loop Inv n0 h0 fun n σ h => ?_)
 intro cx ι ρ a w hR hf
 refine Code.wpIn_mono (fun e a' w' hq => ?_) (round n σ h _ (fun _ h => h) cx ι ρ a w hR hf)
 obtain ⟨cx1, σ1, ι1, ρ1, hL, hk, hs⟩ := hq
 cases e with
 | normal =>
  obtain ⟨m, σ2, hm, hw2, hi⟩ := hk
  obtain ⟨ι2, ρ2, hs2⟩ := hw2 cx1 ι1 ρ1 a' w' hs
  exact ⟨cx1, σ2, ι2, ρ2, hL, ⟨m, hm, hi⟩, hs2⟩
 | _ => exact ⟨cx1, σ1, ι1, ρ1, hL, hk, hs⟩

end

theorem Mem.look_cons (id k : Nat) (o : AObj) (m : Mem) : Mem.look ((k, o) :: m) id = if k = id then some o else Mem.look m id := by
 unfold Mem.look
 by_cases e : k = id <;> simp [e]
theorem Mem.look_nil (id : Nat) : Mem.look [] id = none := rfl

/-! #### how lists are laid -/
def encI (xs : List Int) : List (List V) := xs.map fun x => [V.int .i64 x]
theorem encI_length (xs : List Int) : (encI xs).length = xs.length := by simp [encI]
theorem encI_getD (xs : List Int) (k : Nat) (h : k < xs.length) : (encI xs).getD k [] = [V.int .i64 (xs.getD k 0)] := by simp [encI, List.getD, h]
def cellsI (xs : List Int) : List V := xs.map (V.int .i64)
theorem cellsI_length (xs : List Int) : (cellsI xs).length = xs.length := by simp [cellsI]
theorem cellsI_getD (xs : List Int) (k : Nat) (h : k < xs.length) : (cellsI xs).getD k .any = V.int .i64 (xs.getD k 0) := by simp [cellsI, List.getD, h]
theorem cellsI_sc (xs : List Int) : (cellsI xs).all V.sc = true := by simp [cellsI, V.sc]
theorem cellsI_cl : ∀ (xs : List Int), V.clL (cellsI xs) = true
 | [] => rfl
 | x :: xs => by simpa [cellsI, V.clL, V.cl] using cellsI_cl xs
theorem cellsI_take (xs : List Int) (n : Nat) (h : xs.length = n) : List.take n (cellsI xs) = cellsI xs := List.take_of_length_le (by simp [cellsI, h])
theorem cellsI_dropD (xs : List Int) (k : Nat) (h : k < xs.length) : (List.drop k (cellsI xs)).getD 0 .any = V.int .i64 (xs.getD k 0) := by simp [cellsI, List.getD, h]
theorem cellsI_set (xs : List Int) (k : Nat) (x : Int) (h : k < xs.length) : spl (cellsI xs) k [V.int .i64 x] = cellsI (xs.set k x) := by
 apply List.ext_getElem?
 intro i
 simp only [spl, cellsI, List.getElem?_append, List.length_take, List.length_map, List.getElem?_take, List.getElem?_map, List.getElem?_set]
 have hm : min k xs.length = k := by omega
 rw [hm]
 by_cases h1 : i < k
 ·
  simp [h1, show ¬ k = i by omega]
 ·
  by_cases h2 : i = k
  ·
   subst h2; simp [h]
  ·
   have h3 : i - k ≠ 0 := by omega
   simp [h1, show ¬ k = i by omega]
   obtain ⟨d, hd⟩ : ∃ d, i - k = d + 1 := ⟨i - k - 1, by omega⟩
   rw [hd]; simp
   congr 2; omega
mutual
theorem V.fz_cl (id : Nat) (o : AObj) : ∀ (v : V), v.cl = true → v.fz id o = v
 | .agg cs, h => by rw [V.fz, V.fzL_cl id o cs (by simpa [V.cl] using h)]
 | .fn f cs, h => by rw [V.fz, V.fzL_cl id o cs (by simpa [V.cl] using h)]
 | .tup cs, h => by rw [V.fz, V.fzL_cl id o cs (by simpa [V.cl] using h)]
 | .gd g v, h => by rw [V.fz, V.fz_cl id o v (by simpa [V.cl] using h)]
 | .eq x v, h => by rw [V.fz, V.fz_cl id o v (by simpa [V.cl] using h)]
 | .own i, h => by simp [V.cl] at h
 | .ptr i off, h => by simp [V.cl] at h
 | .rp .., _ => rfl
 | .int .., _ => rfl
 | .bool _, _ => rfl
 | .str _, _ => rfl
 | .sl .., _ => rfl
 | .nsl, _ => rfl
 | .slc .., _ => rfl
 | .ub, _ => rfl
 | .nf, _ => rfl
 | .np, _ => rfl
 | .nm, _ => rfl
 | .mp i, h => by simp [V.cl] at h
 | .fm _, _ => rfl
 | .yl _, _ => rfl
 | .ep _, _ => rfl
 | .any, _ => rfl
theorem V.fzL_cl (id : Nat) (o : AObj) : ∀ (cs : List V), V.clL cs = true → V.fzL id o cs = cs
 | [], _ => rfl
 | v :: vs, h => by
  simp only [V.clL, Bool.and_eq_true] at h
  rw [V.fzL, V.fz_cl id o v h.1, V.fzL_cl id o vs h.2]
end
theorem cellsI_fzL (id : Nat) (o : AObj) : ∀ (xs : List Int), V.fzL id o (cellsI xs) = cellsI xs
 | [] => rfl
 | x :: xs => by
  have := cellsI_fzL id o xs
  simpa [cellsI, V.fzL, V.fz] using this
theorem cellsI_uptoL (n : Nat) : ∀ (xs : List Int), V.uptoL n (cellsI xs) = true
 | [] => rfl
 | x :: xs => by
  have := cellsI_uptoL n xs
  simpa [cellsI, V.uptoL, V.upto] using this

section
variable {P : Program} {N : Nat} {C : Ctl P N}
/-- What lies in the call's own memory may be written no more from here on. -/
theorem tr_fzAll (vs : List V) {c : Code} {σ : St} {Ψ : Exit → St → Prop} (h : Tr C c (fzAll σ vs) Ψ) : Tr C c σ Ψ :=
 fun cx ι ρ a w hR hf => h cx ι ρ a w hR ⟨hf.sr.fzAll vs, hf.size, hf.defers⟩

theorem tr_fz (vs : List V) {c : Code} {σ σ' : St} {Ψ : Exit → St → Prop} (he : fzAll σ vs = σ') (h : Tr C c σ' Ψ) : Tr C c σ Ψ := tr_fzAll vs (he ▸ h)

/-- The one result is a slice of the call's own. -/
def postO (P : Program) (rs : List ResultVar) (e z : Nat) (rows : List (List V)) (ex : Exit) (σ : St) : Prop :=
 (match ex with | .normal => True | .ret => True | _ => False) ∧
 match rs with
 | [r] => resV1 P σ r fun v => ∃ id, v = .own id ∧ σ.mem.look id = some (.row e z rows)
 | _ => False

end

def gv (p : Nat × AObj) : V :=
 match p.2 with
 | .cells _ => .ptr p.1 0
 | .row .. => .own p.1
 | .orow .. => .own p.1
 | .dict _ => .mp p.1
/-- Ghosts: what the numbers of 'pre' stood for. -/
def gh : Mem → List (Nat × V)
 | [] => []
 | p :: ps => (1000000 + p.1, gv p) :: gh ps
def ghOK : Mem → St → Prop
 | [], _ => True
 | p :: ps, σ => σ.slot (1000000 + p.1) = gv p ∧ ghOK ps σ
theorem ghOK_mem : ∀ {pre : Mem} {σ : St}, ghOK pre σ → ∀ p ∈ pre, σ.slot (1000000 + p.1) = gv p
 | [], _, _, p, hp => by cases hp
 | q :: ps, σ, h, p, hp => by
  rcases List.mem_cons.1 hp with rfl | hp
  ·
   exact h.1
  ·
   exact ghOK_mem h.2 p hp
theorem gh_lookup : ∀ {pre : Mem} {t : Nat} {v : V}, (gh pre).lookup t = some v → ∃ p ∈ pre, t = 1000000 + p.1 ∧ v = gv p
 | [], t, v, h => by simp [gh] at h
 | q :: ps, t, v, h => by
  simp only [gh, List.lookup_cons] at h
  by_cases e : t = 1000000 + q.1
  ·
   have e1 : (t == 1000000 + q.1) = true := by simpa using e
   rw [e1] at h
   exact ⟨q, by simp, e, by cases h; rfl⟩
  ·
   have e1 : (t == 1000000 + q.1) = false := by simpa using e
   rw [e1] at h
   obtain ⟨p, hp, h1⟩ := gh_lookup h
   exact ⟨p, List.mem_cons_of_mem _ hp, h1⟩
theorem lookup_app : ∀ (l m : List (Nat × V)) (t : Nat), (l ++ m).lookup t = match l.lookup t with | some v => some v | none => m.lookup t
 | [], m, t => by simp
 | (a, b) :: l, m, t => by
  simp only [List.cons_append, List.lookup_cons]
  cases t == a
  ·
   exact lookup_app l m t
  ·
   rfl

def postM (P : Program) (rs : List ResultVar) (pre : Mem) (r : V) (mem' : Mem) (k' : Nat) (e : Exit) (σ : St) : Prop :=
 (match e with | .normal => True | .ret => True | _ => False) ∧ ghOK pre σ ∧ σ.mem = mem' ∧ σ.nx = k' ∧
 match rs with
 | [] => r = .tup []
 | [a] => resV1 P σ a fun v => v = r
 | [a, b] => resV1 P σ a fun v => resV1 P σ b fun u => r = .tup [v, u]
 | _ => False

def gG (pre : Mem) (ι : Nat → Nat) (ρ : Nat → Value) (t : Nat) : Value :=
 match pre.find? (fun p => p.1 == t - 1000000) with
 | some (id, .cells _) => .pointer (some ⟨ι id, 0, none⟩)
 | some (id, .row ..) => ρ id
 | some (id, .orow ..) => ρ id
 | some (id, .dict _) => .map (some (ι id))
 | none => undef
theorem gG_spec {pre : Mem} {ι : Nat → Nat} {ρ : Nat → Value} (hk : ∀ p ∈ pre, ∀ q ∈ pre, p.1 = q.1 → p = q) {p : Nat × AObj} (hp : p ∈ pre) :
  gG pre ι ρ (1000000 + p.1) = match p.2 with | .cells _ => .pointer (some ⟨ι p.1, 0, none⟩) | .row .. => ρ p.1 | .orow .. => ρ p.1 | .dict _ => .map (some (ι p.1)) := by
 unfold gG
 rw [show 1000000 + p.1 - 1000000 = p.1 by omega]
 cases hf : pre.find? (fun q => q.1 == p.1) with
 | none =>
  have := List.find?_eq_none.1 hf p hp
  simp at this
 | some q =>
  have h1 := List.find?_some hf
  have h2 := List.mem_of_find?_eq_some hf
  have : q = p := hk q h2 p hp (by simpa using h1)
  subst this
  obtain ⟨i, o⟩ := q
  cases o <;> rfl

section
variable {P : Program}
/-- .. at a state that may be seen as less. -/
def postW (N : Nat) (P : Program) (rs : List ResultVar) (pre : Mem) (r : V) (mem' : Mem) (k' : Nat) (e : Exit) (σ : St) : Prop := ∃ σ2, Wk N σ σ2 ∧ postM P rs pre r mem' k' e σ2
theorem callsM_of_tr {f : FuncId} {fn : Func} {c : Code} (hf : P.funcs[f]? = some fn) (hb : fn.body = some c) {args : List V} {pre : Mem} {k : Nat} {r : V} {mem' : Mem} {k' : Nat} (hn : args.length ≤ fn.ntmps) (hg : args.length ≤ 1000000) (hk : k ≤ k')
  (h : Tr (C0 P fn.ntmps) c ⟨envOf 0 args ++ gh pre, pre, k⟩ (postW fn.ntmps P fn.results.toList pre r mem' k')) : CallsM P f args pre k r mem' k' := by
 intro w X ι ρ vs hml hl hr
 let cx : Cx := ⟨w, fun b => ∃ p ∈ pre, blk ι ρ p = some b, X, none, [], gG pre ι ρ⟩
 have hml2 : ML cx pre k ι ρ w := ⟨hml.os, hml.tape, hml.output, hml.size, hml.old, hml.keys, hml.lt, hml.own, hml.inj, hml.xlt, hml.obj⟩
 have hsf : SF fn.ntmps cx ⟨envOf 0 args ++ gh pre, pre, k⟩ ι ρ { tmps := vs ++ Array.replicate (fn.ntmps - vs.size) undef, defers := [] } w := by
  refine ⟨⟨hml2, fun t => ?_⟩, by simp; omega, rfl⟩
  simp only [St.slot, lookup_app, lookup_envOf, Nat.zero_le, if_true, Nat.sub_zero]
  by_cases ht : t < args.length
  ·
   have h1 := hr t ht
   have e1 : args[t]? = some (args.getD t .any) := by simp [List.getD, ht]
   have e2 : tv cx { tmps := vs ++ Array.replicate (fn.ntmps - vs.size) undef, defers := [] } t = vs.getD t undef := by
    unfold tv
    rw [if_pos (by omega)]
    simp [Array.getD_eq_getD_getElem?, Array.getElem?_append_left (show t < vs.size by omega)]
   rw [e1, e2]
   exact h1
  ·
   rw [List.getElem?_eq_none (by omega)]
   simp only
   cases hl2 : (gh pre).lookup t with
   | none => exact .any ..
   | some v =>
    obtain ⟨p, hp, rfl, rfl⟩ := gh_lookup hl2
    have e2 : tv cx { tmps := vs ++ Array.replicate (fn.ntmps - vs.size) undef, defers := [] } (1000000 + p.1) = gG pre ι ρ (1000000 + p.1) := by
     unfold tv; rw [if_neg (by omega)]
    rw [e2, gG_spec hml.keys hp]
    have hlt := hml.lt p hp
    have hob := hml.obj p hp
    obtain ⟨i, o⟩ := p
    cases o with
    | cells cs => exact .ptr _ _ hlt
    | row e z rows =>
     obtain ⟨xs, ho, -⟩ := hob
     refine .own _ hlt ?_
     rcases ho.2 with ⟨h1, -⟩ | ⟨g, cap, cur, h1, -⟩ <;> (simp only at h1 ⊢; rw [h1]; rfl)
    | orow e z rows =>
     obtain ⟨xs, ho, -⟩ := hob
     refine .own _ hlt ?_
     rcases ho.2 with ⟨h1, -⟩ | ⟨g, cap, cur, h1, -⟩ <;> (simp only at h1 ⊢; rw [h1]; rfl)
    | dict es => exact .mp _ hlt
 refine calls_of_tr hf hb rfl rfl hsf h (fun e σ ⟨σ2, _, hp⟩ => (by unfold postM at hp; cases e <;> simp_all)) fun e σ1 ι1 ρ1 a' w' hq hs1 => ?_
 obtain ⟨σ', hw, hq⟩ := hq
 obtain ⟨ι', ρ', hs⟩ := hw cx ι1 ρ1 a' w' hs1
 obtain ⟨he, hgh, hmm, hnn, hres⟩ := hq
 subst hmm; subst hnn
 have hm := hs.sr.ml
 have hpin : ∀ p ∈ pre, (p.2.isC = true → ι' p.1 = ι p.1) ∧ (p.2.isC = false → ρ' p.1 = ρ p.1) := fun p hp => by
  have h1 := hs.sr.env (1000000 + p.1)
  rw [ghOK_mem hgh p hp] at h1
  have e2 : tv cx a' (1000000 + p.1) = gG pre ι ρ (1000000 + p.1) := by unfold tv; rw [if_neg (by omega)]
  rw [e2, gG_spec hml.keys hp] at h1
  obtain ⟨i, o⟩ := p
  unfold MR at h1
  cases o with
  | cells cs =>
   refine ⟨fun _ => ?_, fun hc => (by cases hc)⟩
   simp only [gv] at h1
   generalize hx : Value.pointer (some ⟨ι i, 0, none⟩) = x at h1
   cases h1
   simp only [Value.pointer.injEq, Option.some.injEq, Addr.mk.injEq, and_true] at hx
   exact hx.symm
  | row e z rows =>
   refine ⟨fun hc => (by cases hc), fun _ => ?_⟩
   simp only [gv] at h1
   generalize hx : ρ i = x at h1 ⊢
   cases h1
   rfl
  | orow e z rows =>
   refine ⟨fun hc => (by cases hc), fun _ => ?_⟩
   simp only [gv] at h1
   generalize hx : ρ i = x at h1 ⊢
   cases h1
   rfl
  | dict es =>
   refine ⟨fun _ => ?_, fun hc => (by cases hc)⟩
   simp only [gv] at h1
   generalize hx : Value.map (some (ι i)) = x at h1
   cases h1
   simp only [Value.map.injEq, Option.some.injEq] at hx
   exact hx.symm
 have hml3 : ML ⟨w, fun b => ∃ p ∈ pre, blk ι ρ p = some b, X, none, [], fun _ => undef⟩ σ'.mem σ'.nx ι' ρ' w' := ⟨hm.os, hm.tape, hm.output, hm.size, hm.old, hm.keys, hm.lt, hm.own, hm.inj, hm.xlt, hm.obj⟩
 have fin : ∀ x, (results fn a'.tmps).run P w' = .ok x w' → Rel w' (OO X σ'.mem ι' ρ') ι' ρ' σ'.nx false r x →
   ∃ x, (results fn a'.tmps).run P w' = .ok x w' ∧ ∃ x_1 ι' ρ'_1, Ending.returned x = .returned x_1 ∧ ML ⟨w, fun b => ∃ p ∈ pre, blk ι ρ p = some b, X, none, [], fun _ => undef⟩ σ'.mem σ'.nx ι' ρ'_1 w' ∧ Rel w' (OO X σ'.mem ι' ρ'_1) ι' ρ'_1 σ'.nx false r x_1 ∧ k ≤ σ'.nx ∧
    ∀ p ∈ pre, (p.2.isC = true → ι' p.1 = ι p.1) ∧ (p.2.isC = false → ρ'_1 p.1 = ρ p.1) := by
  intro x hx hrx
  exact ⟨x, hx, x, ι', ρ', rfl, hml3, hrx, hk, hpin⟩
 split at hres
 ·
  rename_i hrs
  subst hres
  exact fin _ (results0 hrs) (.tup _ _ _ rfl (by simp))
 ·
  rename_i rv hrs
  obtain ⟨x, v, h1, h2, rfl⟩ := resV1_sound hs.sr hres
  exact fin x (results1 hrs h1) h2
 ·
  rename_i rv rv2 hrs
  obtain ⟨x, v, h1, h2, hres⟩ := resV1_sound hs.sr hres
  obtain ⟨y, u, h3, h4, rfl⟩ := resV1_sound hs.sr hres
  refine fin _ (results2 hrs h1 h3) (.tup _ _ _ rfl fun i hi => ?_)
  have : i = 0 ∨ i = 1 := by simp at hi; omega
  rcases this with rfl | rfl
  ·
   simpa [MR] using h2
  ·
   simpa [MR] using h4
 ·
  exact hres.elim
end

/-! #### less -/
/-- One level deep. -/
inductive V.Le0 : V → V → Prop where
 | refl (v : V) : V.Le0 v v
 | nsl (e : Nat) : V.Le0 .nsl (.sl e [])
 | slc (e : Nat) (rows : List (List V)) : V.Le0 (.slc e rows) (.sl e rows)
theorem Le0.sc {v u : V} (h : V.Le0 v u) (hs : v.sc = true) : u.sc = true := by
 cases h with
 | refl => exact hs
 | nsl => rfl
 | slc => rfl
theorem Rel.le0 {w : World} {O : Nat → Prop} {ι : Nat → Nat} {ρ : Nat → Value} {nx : Nat} {c : Bool} {v u : V} {x : Value} (hl : V.Le0 v u) (h : Rel w O ι ρ nx c v x) : Rel w O ι ρ nx c u x := by
 cases hl with
 | refl => exact h
 | nsl e => cases h; exact .slnil _ _ _
 | slc e rows => cases h with | slc _ _ _ _ _ h => exact h
mutual
/-- What v stands for, u stands for too. -/
inductive V.Le : V → V → Prop where
 | refl (v : V) : V.Le v v
 | nsl (e : Nat) : V.Le .nsl (.sl e [])
 | slc (e : Nat) (rows : List (List V)) : V.Le (.slc e rows) (.sl e rows)
 | agg {cs ds : List V} (h : V.LeL cs ds) : V.Le (.agg cs) (.agg ds)
 | tup {cs ds : List V} (h : V.LeL cs ds) : V.Le (.tup cs) (.tup ds)
 | sl (e : Nat) {r r' : List (List V)} (hl : r'.length = r.length) (hr : ∀ i, i < r.length → (r'.getD i []).length = (r.getD i []).length) (h : ∀ i j, i < r.length → V.Le0 ((r.getD i []).getD j .any) ((r'.getD i []).getD j .any)) : V.Le (.sl e r) (.sl e r')
inductive V.LeL : List V → List V → Prop where
 | nil : V.LeL [] []
 | cons {v u : V} {cs ds : List V} (h : V.Le v u) (hs : V.LeL cs ds) : V.LeL (v :: cs) (u :: ds)
end
theorem V.LeL.refl : ∀ cs : List V, V.LeL cs cs
 | [] => .nil
 | v :: vs => .cons (.refl v) (V.LeL.refl vs)
theorem Le.sc {v u : V} (h : V.Le v u) (hs : v.sc = true) : u.sc = true := by
 cases h with
 | refl => exact hs
 | nsl => rfl
 | slc => rfl
 | agg => cases hs
 | tup => cases hs
 | sl => rfl
mutual
theorem Rel.le {w : World} {O : Nat → Prop} {ι : Nat → Nat} {ρ : Nat → Value} {nx : Nat} {c : Bool} : ∀ {v u : V} {x : Value}, V.Le v u → Rel w O ι ρ nx c v x → Rel w O ι ρ nx c u x
 | _, _, _, .refl _, h => h
 | _, _, _, .nsl e, h => by cases h; exact .slnil _ _ _
 | _, _, _, .slc e rows, h => by cases h with | slc _ _ _ _ _ h => exact h
 | _, _, _, .agg hl, h => by
  cases h with
  | agg _ _ vs h1 h2 h3 =>
   obtain ⟨e, k1, k2⟩ := Rel.leL hl vs h1 h2 h3
   exact .agg _ _ vs e k1 k2
 | _, _, _, .tup hl, h => by
  cases h with
  | tup _ _ vs h1 h3 =>
   obtain ⟨e, k2⟩ := Rel.leT hl vs h1 h3
   exact .tup _ _ vs e k2
 | _, _, _, .sl e hl hr hq, h => by
  cases h with
  | sl _ _ _ b off len cap xs k1 k2 k3 k4 k5 k6 k7 =>
   exact .sl _ _ _ b off len cap xs (by omega) k2 k3 (fun i hi => by rw [hr i (by omega)]; exact k4 i (by omega)) (fun i j hi hj => Le0.sc (hq i j (by omega)) (k5 i j (by omega) hj)) (fun i j hi hj => k6 i j (by omega) hj) (fun i j hi hj => Rel.le0 (hq i j (by omega)) (k7 i j (by omega) hj))
  | slnil _ _ a =>
   have h9 := List.length_eq_zero_iff.1 hl
   rw [h9]; exact .slnil _ _ _
theorem Rel.leL {w : World} {O : Nat → Prop} {ι : Nat → Nat} {ρ : Nat → Value} {nx : Nat} {c : Bool} : ∀ {cs ds : List V}, V.LeL cs ds → ∀ (vs : Array Value), vs.size = cs.length → (∀ i, i < cs.length → (cs.getD i .any).sc = true) →
  (∀ i, i < cs.length → Rel w O ι ρ nx c (cs.getD i .any) (vs.getD i undef)) → vs.size = ds.length ∧ (∀ i, i < ds.length → (ds.getD i .any).sc = true) ∧ ∀ i, i < ds.length → Rel w O ι ρ nx c (ds.getD i .any) (vs.getD i undef)
 | _, _, .nil, vs, h1, h2, h3 => ⟨h1, h2, h3⟩
 | v :: cs, u :: ds, .cons h hs, vs, h1, h2, h3 => by
  have hd : ∀ i, i < cs.length → Rel w O ι ρ nx c (cs.getD i .any) ((vs.extract 1 vs.size).getD i undef) := fun i hi => by
   have := h3 (i + 1) (by simpa using hi)
   simp only [List.getD_cons_succ] at this
   have e : (vs.extract 1 vs.size).getD i undef = vs.getD (i + 1) undef := by
    rw [Array.getD_eq_getD_getElem?, Array.getD_eq_getD_getElem?]
    simp only [List.length_cons] at h1
    simp [Array.getElem?_extract, Nat.add_comm 1 i, show i < vs.size - 1 by omega, show i + 1 < vs.size by omega]
   rw [e]; exact this
  simp only [List.length_cons] at h1
  obtain ⟨e, k1, k2⟩ := Rel.leL hs (vs.extract 1 vs.size) (by simp; omega) (fun i hi => by simpa using h2 (i + 1) (by simpa using hi)) hd
  have e' : vs.size = ds.length + 1 := by simp at e; omega
  refine ⟨by simpa using e', fun i hi => ?_, fun i hi => ?_⟩
  ·
   cases i with
   | zero => simpa using Le.sc h (by simpa using h2 0 (by simp))
   | succ i => simpa using k1 i (by simpa using hi)
  ·
   cases i with
   | zero => simpa using Rel.le h (by simpa using h3 0 (by simp))
   | succ i =>
    have := k2 i (by simpa using hi)
    have e2 : (vs.extract 1 vs.size).getD i undef = vs.getD (i + 1) undef := by
     rw [Array.getD_eq_getD_getElem?, Array.getD_eq_getD_getElem?]
     simp only [List.length_cons] at hi
     simp [Array.getElem?_extract, Nat.add_comm 1 i, show i < vs.size - 1 by omega, show i + 1 < vs.size by omega]
    rw [e2] at this
    simpa using this
theorem Rel.leT {w : World} {O : Nat → Prop} {ι : Nat → Nat} {ρ : Nat → Value} {nx : Nat} {c : Bool} : ∀ {cs ds : List V}, V.LeL cs ds → ∀ (vs : Array Value), vs.size = cs.length →
  (∀ i, i < cs.length → Rel w O ι ρ nx c (cs.getD i .any) (vs.getD i undef)) → vs.size = ds.length ∧ ∀ i, i < ds.length → Rel w O ι ρ nx c (ds.getD i .any) (vs.getD i undef)
 | _, _, .nil, vs, h1, h3 => ⟨h1, h3⟩
 | v :: cs, u :: ds, .cons h hs, vs, h1, h3 => by
  simp only [List.length_cons] at h1
  have ex : ∀ i, i < vs.size - 1 → (vs.extract 1 vs.size).getD i undef = vs.getD (i + 1) undef := fun i hi => by
   rw [Array.getD_eq_getD_getElem?, Array.getD_eq_getD_getElem?]
   simp [Array.getElem?_extract, Nat.add_comm 1 i, hi, show i + 1 < vs.size by omega]
  obtain ⟨e, k2⟩ := Rel.leT hs (vs.extract 1 vs.size) (by simp; omega) (fun i hi => by
   rw [ex i (by omega)]
   simpa using h3 (i + 1) (by simpa using hi))
  have e' : vs.size = ds.length + 1 := by simp at e; omega
  refine ⟨by simpa using e', fun i hi => ?_⟩
  cases i with
  | zero => simpa using Rel.le h (by simpa using h3 0 (by simp))
  | succ i =>
   simp only [List.length_cons] at hi
   have := k2 i (by omega)
   rw [ex i (by omega)] at this
   simpa using this
end
theorem CallsA.le {P : Program} {f : FuncId} {args : List V} {r r' : V} (h : CallsA P f args r) (hl : V.Le r r') : CallsA P f args r' := fun w X vs hX hs hr =>
 (h w X vs hX hs hr).mono fun e w' ⟨x, h1, h2, h3⟩ => ⟨x, h1, h2, h3.le hl⟩
theorem CallsA.arg {P : Program} {f : FuncId} {args args' : List V} {r : V} (h : CallsA P f args' r) (hl : V.LeL args args') : CallsA P f args r := fun w X vs hX hs hr => by
 obtain ⟨e, k⟩ := Rel.leT hl vs hs hr
 exact h w X vs hX e k
section
variable {P : Program}
/-- **A call, by the statement over its code.** -/
theorem callsA_of_trL {f : FuncId} {fn : Func} {c : Code} (hf : P.funcs[f]? = some fn) (hb : fn.body = some c) {args : List V} {r : V} (hn : args.length ≤ fn.ntmps)
  (h : Tr (C0 P fn.ntmps) c ⟨envOf 0 args, [], 0⟩ (postA P fn.results.toList fun v => V.Le v r)) : CallsA P f args r := by
 intro w X vs hX hl hr
 let cx : Cx := ⟨w, fun _ => False, X, none, [], fun t => vs.getD t undef⟩
 have hsf : SF fn.ntmps cx ⟨envOf 0 args, [], 0⟩ (fun _ => 0) (fun _ => undef) { tmps := vs ++ Array.replicate (fn.ntmps - vs.size) undef, defers := [] } w := by
  refine ⟨⟨⟨rfl, rfl, rfl, Nat.le_refl _, fun _ _ _ => rfl, by simp, by simp, by simp, by simp, hX, by simp⟩, fun t => ?_⟩, by simp; omega, rfl⟩
  simp only [St.slot, lookup_envOf]
  simp only [Nat.zero_le, if_true, Nat.sub_zero]
  by_cases ht : t < args.length
  ·
   have h1 := hr t ht
   have e1 : args[t]?.getD .any = args.getD t .any := rfl
   have e2 : tv cx { tmps := vs ++ Array.replicate (fn.ntmps - vs.size) undef, defers := [] } t = vs.getD t undef := by
    unfold tv
    split
    ·
     simp [Array.getD_eq_getD_getElem?, Array.getElem?_append_left (show t < vs.size by omega)]
    ·
     rfl
   rw [e1, e2]
   refine Rel.mono (fun a x hc hno => ⟨hc, fun h => ?_⟩) (fun _ _ => ⟨rfl, rfl⟩) (Nat.le_refl _) (h1.free rfl false)
   rcases h with h | ⟨p, hp, _⟩
   ·
    exact hno h
   ·
    cases hp
  ·
   rw [List.getElem?_eq_none (by omega)]; exact .any ..
 refine calls_of_tr hf hb rfl rfl hsf h (fun e σ hp => (by unfold postA at hp; cases e <;> simp_all)) fun e σ' ι' ρ' a' w' hp hs => ?_
 obtain ⟨he, x, v, mem, h1, h2, hle⟩ := postA_sound hs hp
 replace h2 := h2.le hle
 have hm := hs.sr.ml
 have hbel : Below w.heap.size w w' := ⟨hm.os, hm.tape, hm.output, hm.size, fun b hb => hm.old b hb (fun h => h)⟩
 exact ⟨x, h1, x, rfl, hbel, Rel.mono (fun a y hc hno => ⟨hc, fun hx => hno (.inl hx)⟩) (fun _ _ => ⟨rfl, rfl⟩) (Nat.le_refl _) (h2.free rfl true)⟩

end

section
variable {cx : Cx} {mem : Mem} {nx : Nat} {ι : Nat → Nat} {ρ : Nat → Value} {w : World}
/-- A variable's cells, seen as less. -/
theorem ML.recell (h : ML cx mem nx ι ρ w) {i : Nat} {cs cs' : List V} (hl : cs'.length = cs.length) (hm : (i, .cells cs) ∈ mem)
  (hs : ∀ k, k < cs.length → (cs.getD k .any).sc = true → (cs'.getD k .any).sc = true)
  (hr : ∀ k x, k < cs.length → Rel w (OO cx.X mem ι ρ) ι ρ nx false (cs.getD k .any) x → Rel w (OO cx.X mem ι ρ) ι ρ nx false (cs'.getD k .any) x) :
  ML cx (mem.map fun p => if p.1 = i then (i, .cells cs') else p) nx ι ρ w ∧ ∀ b, OO cx.X (mem.map fun p => if p.1 = i then (i, .cells cs') else p) ι ρ b → OO cx.X mem ι ρ b := by
 have hin : ∀ q, q ∈ (mem.map fun p => if p.1 = i then (i, AObj.cells cs') else p) → ∃ p ∈ mem, q = (if p.1 = i then (i, AObj.cells cs') else p) ∧ blk ι ρ q = blk ι ρ p ∧ q.1 = p.1 := by
  intro q hq
  obtain ⟨p, hp, rfl⟩ := List.mem_map.1 hq
  refine ⟨p, hp, rfl, ?_⟩
  by_cases hpid : p.1 = i
  ·
   have : p = (i, .cells cs) := h.keys p hp _ hm hpid
   subst this; simp [blk]
  ·
   simp [hpid]
 have hO : ∀ b, OO cx.X (mem.map fun p => if p.1 = i then (i, AObj.cells cs') else p) ι ρ b → OO cx.X mem ι ρ b := by
  rintro b (hx | ⟨q, hq, hqb⟩)
  ·
   exact .inl hx
  ·
   obtain ⟨p, hp, -, hpb, -⟩ := hin q hq
   exact .inr ⟨p, hp, by rw [← hpb]; exact hqb⟩
 have hk : ∀ c v x, Rel w (OO cx.X mem ι ρ) ι ρ nx c v x → Rel w (OO cx.X (mem.map fun p => if p.1 = i then (i, AObj.cells cs') else p) ι ρ) ι ρ nx c v x := fun c v x hr =>
  hr.mono (fun a y hc hno => ⟨hc, fun hn => hno (hO _ hn)⟩) (fun _ _ => ⟨rfl, rfl⟩) (Nat.le_refl _)
 refine ⟨⟨h.os, h.tape, h.output, h.size, h.old, ?_, ?_, ?_, ?_, h.xlt, ?_⟩, hO⟩
 ·
  intro p hp q hq e
  obtain ⟨p', hp', rfl, -, e1⟩ := hin p hp
  obtain ⟨q', hq', rfl, -, e2⟩ := hin q hq
  have : p' = q' := h.keys p' hp' q' hq' (by rw [← e1, ← e2]; exact e)
  rw [this]
 ·
  intro p hp; obtain ⟨p', hp', -, -, e1⟩ := hin p hp; rw [e1]; exact h.lt p' hp'
 ·
  intro p hp b hb; obtain ⟨p', hp', -, e1, -⟩ := hin p hp; rw [e1] at hb; exact h.own p' hp' b hb
 ·
  intro p hp q hq b hpb hqb
  obtain ⟨p', hp', rfl, e1, -⟩ := hin p hp
  obtain ⟨q', hq', rfl, e2, -⟩ := hin q hq
  have : p' = q' := h.inj p' hp' q' hq' b (by rw [← e1]; exact hpb) (by rw [← e2]; exact hqb)
  rw [this]
 ·
  intro q hq
  obtain ⟨p, hp, rfl, -, -⟩ := hin q hq
  by_cases hpid : p.1 = i
  ·
   have : p = (i, .cells cs) := h.keys p hp _ hm hpid
   subst this
   obtain ⟨vals, e, h1, h2, h3, h4⟩ := h.obj _ hm
   simp only [if_true]
   exact ⟨vals, e, h1, by rw [hl]; exact h2, fun k hk' => hs k (by omega) (h3 k (by omega)), fun k hk' => hk _ _ _ (hr k _ (by omega) (h4 k (by omega)))⟩
  ·
   simp only [if_neg hpid]
   exact OR.mono hk rfl rfl (fun b hb => rfl) (h.obj p hp)
end
/-- A nil slice in a variable, as a slice of the call's own that has not grown yet. -/
theorem Wk.nilown {N : Nat} {σ : St} (e z i j : Nat) {cs : List V} (hl : σ.mem.look i = some (.cells cs)) (hj : j < cs.length) (hn : cs.getD j .any = .nsl) :
  Wk N σ ⟨σ.env, ((σ.nx, AObj.row e z []) :: σ.mem).map fun p => if p.1 = i then (i, .cells (cs.set j (.own σ.nx))) else p, σ.nx + 1⟩ := fun cx ι ρ a w h => by
 obtain ⟨m1, m2⟩ := h.sr.ml.addNil e z
 have hmem := Mem.look_mem hl
 have gs : ∀ k, (cs.set j (.own σ.nx)).getD k .any = if k = j then .own σ.nx else cs.getD k .any := fun k => by
  simp only [List.getD, List.getElem?_set]
  by_cases e : j = k
  ·
   subst e; simp [hj]
  ·
   rw [if_neg e, if_neg (Ne.symm e)]
 obtain ⟨m3, m4⟩ := m1.recell (i := i) (cs := cs) (cs' := cs.set j (.own σ.nx)) (by simp) (List.mem_cons_of_mem _ hmem) (fun k hk hs => by
   rw [gs]; split
   ·
    rfl
   ·
    exact hs) (fun k x hk hr => by
   rw [gs]; split
   ·
    rename_i e; subst e
    rw [hn] at hr
    have hx : x = .slice none 0 0 := by cases hr; rfl
    have := Rel.own (w := w) (O := OO cx.X ((σ.nx, AObj.row e z []) :: σ.mem) ι (fun i => if i = σ.nx then .slice none 0 0 else ρ i)) (ι := ι) (ρ := fun i => if i = σ.nx then (.slice none 0 0 : Value) else ρ i) (nx := σ.nx + 1) σ.nx (by omega) (by simp [Value.oneCell'])
    simpa [hx] using this
   ·
    exact hr)
 exact ⟨ι, _, ⟨⟨m3, fun t => (m2 _ _ _ (h.sr.env t)).mono (fun a y hc hno => ⟨hc, fun hn => hno (m4 _ hn)⟩) (fun _ _ => ⟨rfl, rfl⟩) (Nat.le_refl _)⟩, h.size, h.defers⟩⟩
theorem lookup_mapK (u : Nat) (x : V) : ∀ (env : List (Nat × V)) (t : Nat), (env.map fun p => if p.1 = u then (u, x) else p).lookup t = if t = u then (env.lookup t).map (fun _ => x) else env.lookup t
 | [], t => by simp
 | (k, v) :: env, t => by
  have ih := lookup_mapK u x env t
  by_cases e : k = u
  ·
   subst e
   simp only [List.map_cons, if_true, List.lookup_cons, ih]
   by_cases e2 : t = k
   ·
    subst e2; simp
   ·
    have : (t == k) = false := by simpa using e2
    simp [this, e2]
  ·
   simp only [List.map_cons, if_neg e, List.lookup_cons, ih]
   by_cases e2 : t = k
   ·
    subst e2; simp [e]
   ·
    have : (t == k) = false := by simpa using e2
    simp only [this]
/-- A nil slice in a slot, as a slice of the call's own that has not grown yet. -/
theorem Wk.nilslot {N : Nat} {σ : St} (e z t : Nat) (hn : σ.slot t = .nsl) : Wk N σ ⟨σ.env.map fun p => if p.1 = t then (t, .own σ.nx) else p, (σ.nx, AObj.row e z []) :: σ.mem, σ.nx + 1⟩ := fun cx ι ρ a w h => by
 obtain ⟨m1, m2⟩ := h.sr.ml.addNil e z
 refine ⟨ι, _, ⟨⟨m1, fun t' => ?_⟩, h.size, h.defers⟩⟩
 have hr := h.sr.env t'
 unfold St.slot at hn hr ⊢
 simp only [lookup_mapK]
 by_cases et : t' = t
 ·
  subst et
  rw [if_pos rfl]
  rw [hn] at hr
  cases hl : σ.env.lookup t' with
  | none => exact .any ..
  | some u =>
   have hx : tv cx a t' = .slice none 0 0 := by unfold MR at hr; generalize tv cx a t' = x at hr; cases hr; rfl
   have := Rel.own (w := w) (O := OO cx.X ((σ.nx, AObj.row e z []) :: σ.mem) ι (fun i => if i = σ.nx then .slice none 0 0 else ρ i)) (ι := ι) (ρ := fun i => if i = σ.nx then (.slice none 0 0 : Value) else ρ i) (nx := σ.nx + 1) σ.nx (by omega) (by simp [Value.oneCell'])
   simp only [Option.map_some, Option.getD_some]
   rw [hx]
   simpa [MR] using this
 ·
  rw [if_neg et]
  exact m2 _ _ _ hr
/-- Memory has no order. -/
theorem Wk.perm {N : Nat} {σ : St} (mem' : Mem) (hp : ∀ p, p ∈ mem' ↔ p ∈ σ.mem) : Wk N σ ⟨σ.env, mem', σ.nx⟩ := fun cx ι ρ a w h => by
 have hm := h.sr.ml
 have hO : ∀ b, OO cx.X mem' ι ρ b → OO cx.X σ.mem ι ρ b := by
  rintro b (hx | ⟨q, hq, hb⟩)
  ·
   exact .inl hx
  ·
   exact .inr ⟨q, (hp q).1 hq, hb⟩
 have hk : ∀ c v x, Rel w (OO cx.X σ.mem ι ρ) ι ρ σ.nx c v x → Rel w (OO cx.X mem' ι ρ) ι ρ σ.nx c v x := fun c v x hr =>
  hr.mono (fun a y hc hno => ⟨hc, fun hn => hno (hO _ hn)⟩) (fun _ _ => ⟨rfl, rfl⟩) (Nat.le_refl _)
 exact ⟨ι, ρ, ⟨⟨⟨hm.os, hm.tape, hm.output, hm.size, hm.old, fun p h1 q h2 => hm.keys p ((hp p).1 h1) q ((hp q).1 h2), fun p h1 => hm.lt p ((hp p).1 h1), fun p h1 => hm.own p ((hp p).1 h1),
  fun p h1 q h2 => hm.inj p ((hp p).1 h1) q ((hp q).1 h2), hm.xlt, fun p h1 => OR.mono hk rfl rfl (fun _ _ => rfl) (hm.obj p ((hp p).1 h1))⟩, fun t => hk _ _ _ (h.sr.env t)⟩, h.size, h.defers⟩⟩
theorem Wk.swap {N : Nat} {e : List (Nat × V)} {a b : Nat × AObj} {m : Mem} {n : Nat} : Wk N ⟨e, a :: b :: m, n⟩ ⟨e, b :: a :: m, n⟩ :=
 Wk.perm (σ := ⟨e, a :: b :: m, n⟩) (b :: a :: m) fun p => by simp only [List.mem_cons]; constructor <;> (rintro (h | h | h) <;> simp [h])
/-- Rows that may name others; rows that do not. -/
theorem Wk.reobj {N : Nat} {σ : St} {i : Nat} {o o' : AObj} (hl : σ.mem.look i = some o) (hb : ∀ ι ρ, blk ι ρ (i, o') = blk ι ρ (i, o)) (ho : ∀ (w : World) (O : Nat → Prop) (ι : Nat → Nat) (ρ : Nat → Value), OR w O ι ρ σ.nx i o → OR w O ι ρ σ.nx i o') :
  Wk N σ ⟨σ.env, σ.mem.map fun p => if p.1 = i then (i, o') else p, σ.nx⟩ := fun cx ι ρ a w h => by
 have hm := h.sr.ml
 have hin0 := Mem.look_mem hl
 have hin : ∀ q, q ∈ (σ.mem.map fun p => if p.1 = i then (i, o') else p) → ∃ p ∈ σ.mem, q = (if p.1 = i then (i, o') else p) ∧ blk ι ρ q = blk ι ρ p ∧ q.1 = p.1 := by
  intro q hq
  obtain ⟨p, hp, rfl⟩ := List.mem_map.1 hq
  refine ⟨p, hp, rfl, ?_⟩
  by_cases hpid : p.1 = i
  ·
   have : p = (i, o) := hm.keys p hp _ hin0 hpid
   subst this; simp [hb]
  ·
   simp [hpid]
 have hO : ∀ b, OO cx.X (σ.mem.map fun p => if p.1 = i then (i, o') else p) ι ρ b → OO cx.X σ.mem ι ρ b := by
  rintro b (hx | ⟨q, hq, hqb⟩)
  ·
   exact .inl hx
  ·
   obtain ⟨p, hp, -, hpb, -⟩ := hin q hq
   exact .inr ⟨p, hp, by rw [← hpb]; exact hqb⟩
 have hk : ∀ c v x, Rel w (OO cx.X σ.mem ι ρ) ι ρ σ.nx c v x → Rel w (OO cx.X (σ.mem.map fun p => if p.1 = i then (i, o') else p) ι ρ) ι ρ σ.nx c v x := fun c v x hr =>
  hr.mono (fun a y hc hno => ⟨hc, fun hn => hno (hO _ hn)⟩) (fun _ _ => ⟨rfl, rfl⟩) (Nat.le_refl _)
 refine ⟨ι, ρ, ⟨⟨⟨hm.os, hm.tape, hm.output, hm.size, hm.old, ?_, ?_, ?_, ?_, hm.xlt, ?_⟩, fun t => hk _ _ _ (h.sr.env t)⟩, h.size, h.defers⟩⟩
 ·
  intro p hp q hq e
  obtain ⟨p', hp', rfl, -, e1⟩ := hin p hp
  obtain ⟨q', hq', rfl, -, e2⟩ := hin q hq
  have : p' = q' := hm.keys p' hp' q' hq' (by rw [← e1, ← e2]; exact e)
  rw [this]
 ·
  intro p hp; obtain ⟨p', hp', -, -, e1⟩ := hin p hp; rw [e1]; exact hm.lt p' hp'
 ·
  intro p hp b hpb; obtain ⟨p', hp', -, e1, -⟩ := hin p hp; rw [e1] at hpb; exact hm.own p' hp' b hpb
 ·
  intro p hp q hq b hpb hqb
  obtain ⟨p', hp', rfl, e1, -⟩ := hin p hp
  obtain ⟨q', hq', rfl, e2, -⟩ := hin q hq
  have : p' = q' := hm.inj p' hp' q' hq' b (by rw [← e1]; exact hpb) (by rw [← e2]; exact hqb)
  rw [this]
 ·
  intro q hq
  obtain ⟨p, hp, rfl, -, -⟩ := hin q hq
  by_cases hpid : p.1 = i
  ·
   have : p = (i, o) := hm.keys p hp _ hin0 hpid
   subst this
   simp only [if_true]
   exact ho _ _ _ _ (OR.mono hk rfl rfl (fun _ _ => rfl) (hm.obj _ hp))
  ·
   simp only [hpid, if_false]
   exact OR.mono hk rfl rfl (fun _ _ => rfl) (hm.obj p hp)
theorem Wk.open {N : Nat} {σ : St} {i e z : Nat} {rows : List (List V)} (hl : σ.mem.look i = some (.row e z rows)) : Wk N σ ⟨σ.env, σ.mem.map fun p => if p.1 = i then (i, .orow e z rows) else p, σ.nx⟩ :=
 Wk.reobj hl (fun _ _ => rfl) fun w O ι ρ ⟨xs, h1, h2, h3, h4⟩ => ⟨xs, h1, h2, h3, fun i j hi hj => (h4 i j hi hj).free rfl false⟩
end Go.Proofs.YtfamkbofdamkkaaGreatDoor
namespace Go.Proofs.YtfamkbofdamkkaaGreatDoor
theorem arT_101 : arT Tryz.prog 101 = some (12, 3, 1) := by kernel_rfl
theorem arT_102 : arT Tryz.prog 102 = some (12, 3, 1) := by kernel_rfl
theorem arT_105 : arT Tryz.prog 105 = some (4096, 4, 1) := by kernel_rfl
theorem arT_116 : arT Tryz.prog 116 = some (32, 5, 1) := by kernel_rfl
theorem arT_117 : arT Tryz.prog 117 = some (64, 5, 1) := by kernel_rfl
theorem arT_22 : arT Tryz.prog 22 = none := by kernel_rfl
theorem arT_23 : arT Tryz.prog 23 = some (8, 3, 1) := by kernel_rfl
theorem arT_25 : arT Tryz.prog 25 = none := by kernel_rfl
theorem arT_26 : arT Tryz.prog 26 = none := by kernel_rfl
theorem arT_39 : arT Tryz.prog 39 = none := by kernel_rfl
theorem arT_50 : arT Tryz.prog 50 = some (3, 3, 1) := by kernel_rfl
theorem arT_9 : arT Tryz.prog 9 = none := by kernel_rfl
theorem arT_90 : arT Tryz.prog 90 = none := by kernel_rfl
theorem boolT_108 : boolT Tryz.prog 108 = false := by kernel_rfl
theorem boolT_110 : boolT Tryz.prog 110 = false := by kernel_rfl
theorem boolT_119 : boolT Tryz.prog 119 = false := by kernel_rfl
theorem boolT_26 : boolT Tryz.prog 26 = false := by kernel_rfl
theorem boolT_3 : boolT Tryz.prog 3 = false := by kernel_rfl
theorem boolT_32 : boolT Tryz.prog 32 = false := by kernel_rfl
theorem flatT_108 : flatT Tryz.prog 108 = none := by kernel_rfl
theorem flatT_110 : flatT Tryz.prog 110 = none := by kernel_rfl
theorem flatT_119 : flatT Tryz.prog 119 = none := by kernel_rfl
theorem flatT_26 : flatT Tryz.prog 26 = none := by kernel_rfl
theorem flatT_3 : flatT Tryz.prog 3 = none := by kernel_rfl
theorem flatT_32 : flatT Tryz.prog 32 = none := by kernel_rfl
theorem intT_108 : intT Tryz.prog 108 = some IntKind.u32 := by kernel_rfl
theorem intT_110 : intT Tryz.prog 110 = some IntKind.u64 := by kernel_rfl
theorem intT_126 : intT Tryz.prog 126 = some IntKind.u64 := by kernel_rfl
theorem intT_3 : intT Tryz.prog 3 = some IntKind.i64 := by kernel_rfl
theorem intT_5 : intT Tryz.prog 5 = some IntKind.u8 := by kernel_rfl
theorem intT_77 : intT Tryz.prog 77 = some IntKind.u64 := by kernel_rfl
theorem intT_79 : intT Tryz.prog 79 = some IntKind.u16 := by kernel_rfl
theorem lay_101 : lay Tryz.prog 101 = some (12, true) := by kernel_rfl
theorem lay_102 : lay Tryz.prog 102 = some (12, true) := by kernel_rfl
theorem lay_116 : lay Tryz.prog 116 = some (32, true) := by kernel_rfl
theorem lay_117 : lay Tryz.prog 117 = some (64, true) := by kernel_rfl
theorem lay_126 : lay Tryz.prog 126 = some (1, false) := by kernel_rfl
theorem lay_23 : lay Tryz.prog 23 = some (8, true) := by kernel_rfl
theorem lay_25 : lay Tryz.prog 25 = some (1, false) := by kernel_rfl
theorem lay_26 : lay Tryz.prog 26 = some (1, false) := by kernel_rfl
theorem lay_28 : lay Tryz.prog 28 = some (3, true) := by kernel_rfl
theorem lay_3 : lay Tryz.prog 3 = some (1, false) := by kernel_rfl
theorem lay_31 : lay Tryz.prog 31 = some (1, false) := by kernel_rfl
theorem lay_39 : lay Tryz.prog 39 = some (1, false) := by kernel_rfl
theorem lay_4 : lay Tryz.prog 4 = some (1, false) := by kernel_rfl
theorem lay_41 : lay Tryz.prog 41 = some (4, true) := by kernel_rfl
theorem lay_5 : lay Tryz.prog 5 = some (1, false) := by kernel_rfl
theorem lay_52 : lay Tryz.prog 52 = some (6, true) := by kernel_rfl
theorem lay_56 : lay Tryz.prog 56 = some (1, false) := by kernel_rfl
theorem lay_70 : lay Tryz.prog 70 = some (1, false) := by kernel_rfl
theorem lay_74 : lay Tryz.prog 74 = some (1, false) := by kernel_rfl
theorem lay_78 : lay Tryz.prog 78 = some (1, false) := by kernel_rfl
theorem lay_83 : lay Tryz.prog 83 = some (1, false) := by kernel_rfl
theorem lay_89 : lay Tryz.prog 89 = some (2, true) := by kernel_rfl
theorem lay_90 : lay Tryz.prog 90 = some (1, false) := by kernel_rfl
theorem lay_92 : lay Tryz.prog 92 = some (4, true) := by kernel_rfl
theorem lay_94 : lay Tryz.prog 94 = some (1, true) := by kernel_rfl
theorem mapT_70 : mapT Tryz.prog 70 = true := by kernel_rfl
theorem okF_10 : okF Tryz.prog 10 = true := by kernel_rfl
theorem okF_100 : okF Tryz.prog 100 = true := by kernel_rfl
theorem okF_101 : okF Tryz.prog 101 = true := by kernel_rfl
theorem okF_102 : okF Tryz.prog 102 = true := by kernel_rfl
theorem okF_103 : okF Tryz.prog 103 = true := by kernel_rfl
theorem okF_104 : okF Tryz.prog 104 = true := by kernel_rfl
theorem okF_11 : okF Tryz.prog 11 = true := by kernel_rfl
theorem okF_12 : okF Tryz.prog 12 = true := by kernel_rfl
theorem okF_125 : okF Tryz.prog 125 = true := by kernel_rfl
theorem okF_13 : okF Tryz.prog 13 = true := by kernel_rfl
theorem okF_14 : okF Tryz.prog 14 = true := by kernel_rfl
theorem okF_15 : okF Tryz.prog 15 = true := by kernel_rfl
theorem okF_16 : okF Tryz.prog 16 = true := by kernel_rfl
theorem okF_17 : okF Tryz.prog 17 = true := by kernel_rfl
theorem okF_18 : okF Tryz.prog 18 = true := by kernel_rfl
theorem okF_19 : okF Tryz.prog 19 = true := by kernel_rfl
theorem okF_20 : okF Tryz.prog 20 = true := by kernel_rfl
theorem okF_21 : okF Tryz.prog 21 = true := by kernel_rfl
theorem okF_22 : okF Tryz.prog 22 = true := by kernel_rfl
theorem okF_23 : okF Tryz.prog 23 = true := by kernel_rfl
theorem okF_24 : okF Tryz.prog 24 = true := by kernel_rfl
theorem okF_25 : okF Tryz.prog 25 = true := by kernel_rfl
theorem okF_26 : okF Tryz.prog 26 = true := by kernel_rfl
theorem okF_27 : okF Tryz.prog 27 = true := by kernel_rfl
theorem okF_28 : okF Tryz.prog 28 = true := by kernel_rfl
theorem okF_29 : okF Tryz.prog 29 = true := by kernel_rfl
theorem okF_3 : okF Tryz.prog 3 = true := by kernel_rfl
theorem okF_30 : okF Tryz.prog 30 = true := by kernel_rfl
theorem okF_31 : okF Tryz.prog 31 = true := by kernel_rfl
theorem okF_32 : okF Tryz.prog 32 = true := by kernel_rfl
theorem okF_33 : okF Tryz.prog 33 = true := by kernel_rfl
theorem okF_34 : okF Tryz.prog 34 = true := by kernel_rfl
theorem okF_35 : okF Tryz.prog 35 = true := by kernel_rfl
theorem okF_36 : okF Tryz.prog 36 = true := by kernel_rfl
theorem okF_37 : okF Tryz.prog 37 = true := by kernel_rfl
theorem okF_38 : okF Tryz.prog 38 = true := by kernel_rfl
theorem okF_39 : okF Tryz.prog 39 = true := by kernel_rfl
theorem okF_4 : okF Tryz.prog 4 = true := by kernel_rfl
theorem okF_40 : okF Tryz.prog 40 = true := by kernel_rfl
theorem okF_41 : okF Tryz.prog 41 = true := by kernel_rfl
theorem okF_42 : okF Tryz.prog 42 = true := by kernel_rfl
theorem okF_43 : okF Tryz.prog 43 = true := by kernel_rfl
theorem okF_44 : okF Tryz.prog 44 = true := by kernel_rfl
theorem okF_45 : okF Tryz.prog 45 = true := by kernel_rfl
theorem okF_46 : okF Tryz.prog 46 = true := by kernel_rfl
theorem okF_47 : okF Tryz.prog 47 = true := by kernel_rfl
theorem okF_48 : okF Tryz.prog 48 = true := by kernel_rfl
theorem okF_49 : okF Tryz.prog 49 = true := by kernel_rfl
theorem okF_5 : okF Tryz.prog 5 = true := by kernel_rfl
theorem okF_50 : okF Tryz.prog 50 = true := by kernel_rfl
theorem okF_51 : okF Tryz.prog 51 = true := by kernel_rfl
theorem okF_52 : okF Tryz.prog 52 = true := by kernel_rfl
theorem okF_53 : okF Tryz.prog 53 = true := by kernel_rfl
theorem okF_54 : okF Tryz.prog 54 = true := by kernel_rfl
theorem okF_55 : okF Tryz.prog 55 = true := by kernel_rfl
theorem okF_56 : okF Tryz.prog 56 = true := by kernel_rfl
theorem okF_57 : okF Tryz.prog 57 = true := by kernel_rfl
theorem okF_58 : okF Tryz.prog 58 = true := by kernel_rfl
theorem okF_59 : okF Tryz.prog 59 = true := by kernel_rfl
theorem okF_6 : okF Tryz.prog 6 = true := by kernel_rfl
theorem okF_60 : okF Tryz.prog 60 = true := by kernel_rfl
theorem okF_61 : okF Tryz.prog 61 = true := by kernel_rfl
theorem okF_62 : okF Tryz.prog 62 = true := by kernel_rfl
theorem okF_63 : okF Tryz.prog 63 = true := by kernel_rfl
theorem okF_64 : okF Tryz.prog 64 = true := by kernel_rfl
theorem okF_65 : okF Tryz.prog 65 = true := by kernel_rfl
theorem okF_66 : okF Tryz.prog 66 = true := by kernel_rfl
theorem okF_67 : okF Tryz.prog 67 = true := by kernel_rfl
theorem okF_68 : okF Tryz.prog 68 = true := by kernel_rfl
theorem okF_69 : okF Tryz.prog 69 = true := by kernel_rfl
theorem okF_7 : okF Tryz.prog 7 = true := by kernel_rfl
theorem okF_70 : okF Tryz.prog 70 = true := by kernel_rfl
theorem okF_71 : okF Tryz.prog 71 = true := by kernel_rfl
theorem okF_72 : okF Tryz.prog 72 = true := by kernel_rfl
theorem okF_73 : okF Tryz.prog 73 = true := by kernel_rfl
theorem okF_74 : okF Tryz.prog 74 = true := by kernel_rfl
theorem okF_75 : okF Tryz.prog 75 = true := by kernel_rfl
theorem okF_76 : okF Tryz.prog 76 = true := by kernel_rfl
theorem okF_77 : okF Tryz.prog 77 = true := by kernel_rfl
theorem okF_78 : okF Tryz.prog 78 = true := by kernel_rfl
theorem okF_79 : okF Tryz.prog 79 = true := by kernel_rfl
theorem okF_8 : okF Tryz.prog 8 = true := by kernel_rfl
theorem okF_80 : okF Tryz.prog 80 = true := by kernel_rfl
theorem okF_81 : okF Tryz.prog 81 = true := by kernel_rfl
theorem okF_82 : okF Tryz.prog 82 = true := by kernel_rfl
theorem okF_83 : okF Tryz.prog 83 = true := by kernel_rfl
theorem okF_84 : okF Tryz.prog 84 = true := by kernel_rfl
theorem okF_85 : okF Tryz.prog 85 = true := by kernel_rfl
theorem okF_86 : okF Tryz.prog 86 = true := by kernel_rfl
theorem okF_87 : okF Tryz.prog 87 = true := by kernel_rfl
theorem okF_88 : okF Tryz.prog 88 = true := by kernel_rfl
theorem okF_89 : okF Tryz.prog 89 = true := by kernel_rfl
theorem okF_9 : okF Tryz.prog 9 = true := by kernel_rfl
theorem okF_90 : okF Tryz.prog 90 = true := by kernel_rfl
theorem okF_91 : okF Tryz.prog 91 = true := by kernel_rfl
theorem okF_92 : okF Tryz.prog 92 = true := by kernel_rfl
theorem okF_93 : okF Tryz.prog 93 = true := by kernel_rfl
theorem okF_94 : okF Tryz.prog 94 = true := by kernel_rfl
theorem okF_95 : okF Tryz.prog 95 = true := by kernel_rfl
theorem okF_96 : okF Tryz.prog 96 = true := by kernel_rfl
theorem okF_97 : okF Tryz.prog 97 = true := by kernel_rfl
theorem okF_98 : okF Tryz.prog 98 = true := by kernel_rfl
theorem okF_99 : okF Tryz.prog 99 = true := by kernel_rfl
theorem plT_102 : plT Tryz.prog 102 = some [(0, 1), (1, 1), (2, 1), (3, 1), (4, 1), (5, 1), (6, 1), (7, 1), (8, 1), (9, 1), (10, 1), (11, 1)] := by kernel_rfl
theorem plT_116 : plT Tryz.prog 116 = some [(0, 1), (1, 1), (2, 1), (3, 1), (4, 1), (5, 1), (6, 1), (7, 1), (8, 1), (9, 1), (10, 1), (11, 1), (12, 1), (13, 1), (14, 1), (15, 1), (16, 1), (17, 1), (18, 1), (19, 1), (20, 1), (21, 1), (22, 1), (23, 1), (24, 1), (25, 1), (26, 1), (27, 1), (28, 1), (29, 1), (30, 1), (31, 1)] := by kernel_rfl
theorem plT_117 : plT Tryz.prog 117 = some [(0, 1), (1, 1), (2, 1), (3, 1), (4, 1), (5, 1), (6, 1), (7, 1), (8, 1), (9, 1), (10, 1), (11, 1), (12, 1), (13, 1), (14, 1), (15, 1), (16, 1), (17, 1), (18, 1), (19, 1), (20, 1), (21, 1), (22, 1), (23, 1), (24, 1), (25, 1), (26, 1), (27, 1), (28, 1), (29, 1), (30, 1), (31, 1), (32, 1), (33, 1), (34, 1), (35, 1), (36, 1), (37, 1), (38, 1), (39, 1), (40, 1), (41, 1), (42, 1), (43, 1), (44, 1), (45, 1), (46, 1), (47, 1), (48, 1), (49, 1), (50, 1), (51, 1), (52, 1), (53, 1), (54, 1), (55, 1), (56, 1), (57, 1), (58, 1), (59, 1), (60, 1), (61, 1), (62, 1), (63, 1)] := by kernel_rfl
theorem plT_28 : plT Tryz.prog 28 = some [(0, 1), (1, 1), (2, 1)] := by kernel_rfl
theorem plT_41 : plT Tryz.prog 41 = some [(0, 1), (1, 1), (2, 1), (3, 1)] := by kernel_rfl
theorem plT_52 : plT Tryz.prog 52 = some [(0, 1), (1, 1), (2, 1), (3, 1), (4, 1), (5, 1)] := by kernel_rfl
theorem plT_89 : plT Tryz.prog 89 = some [(0, 1), (1, 1)] := by kernel_rfl
theorem plT_92 : plT Tryz.prog 92 = some [(0, 1), (1, 1), (2, 1), (3, 1)] := by kernel_rfl
theorem plT_94 : plT Tryz.prog 94 = some [(0, 1)] := by kernel_rfl
theorem plT_98 : plT Tryz.prog 98 = some [(0, 1), (1, 1), (2, 1), (3, 1)] := by kernel_rfl
theorem slT_101 : slT Tryz.prog 101 = none := by kernel_rfl
theorem slT_102 : slT Tryz.prog 102 = none := by kernel_rfl
theorem slT_105 : slT Tryz.prog 105 = none := by kernel_rfl
theorem slT_116 : slT Tryz.prog 116 = none := by kernel_rfl
theorem slT_117 : slT Tryz.prog 117 = none := by kernel_rfl
theorem slT_22 : slT Tryz.prog 22 = some (50, 3, 24) := by kernel_rfl
theorem slT_23 : slT Tryz.prog 23 = none := by kernel_rfl
theorem slT_25 : slT Tryz.prog 25 = some (52, 6, 64) := by kernel_rfl
theorem slT_26 : slT Tryz.prog 26 = some (3, 1, 8) := by kernel_rfl
theorem slT_39 : slT Tryz.prog 39 = some (92, 4, 48) := by kernel_rfl
theorem slT_50 : slT Tryz.prog 50 = none := by kernel_rfl
theorem slT_90 : slT Tryz.prog 90 = some (89, 2, 16) := by kernel_rfl
theorem stT_28_0 : stT Tryz.prog 28 0 = some (0, 1, false) := by kernel_rfl
theorem stT_28_1 : stT Tryz.prog 28 1 = some (1, 1, false) := by kernel_rfl
theorem stT_28_2 : stT Tryz.prog 28 2 = some (2, 1, false) := by kernel_rfl
theorem stT_41_0 : stT Tryz.prog 41 0 = some (0, 1, false) := by kernel_rfl
theorem stT_41_2 : stT Tryz.prog 41 2 = some (2, 1, false) := by kernel_rfl
theorem stT_41_3 : stT Tryz.prog 41 3 = some (3, 1, false) := by kernel_rfl
theorem stT_52_4 : stT Tryz.prog 52 4 = some (4, 1, false) := by kernel_rfl
theorem stT_52_5 : stT Tryz.prog 52 5 = some (5, 1, false) := by kernel_rfl
theorem stT_89_0 : stT Tryz.prog 89 0 = some (0, 1, false) := by kernel_rfl
theorem stT_89_1 : stT Tryz.prog 89 1 = some (1, 1, false) := by kernel_rfl
theorem stT_92_0 : stT Tryz.prog 92 0 = some (0, 1, false) := by kernel_rfl
theorem stT_92_1 : stT Tryz.prog 92 1 = some (1, 1, false) := by kernel_rfl
theorem stT_92_2 : stT Tryz.prog 92 2 = some (2, 1, false) := by kernel_rfl
theorem stT_92_3 : stT Tryz.prog 92 3 = some (3, 1, false) := by kernel_rfl
theorem stT_94_0 : stT Tryz.prog 94 0 = some (0, 1, false) := by kernel_rfl
theorem stT_98_0 : stT Tryz.prog 98 0 = some (0, 1, false) := by kernel_rfl
theorem stT_98_1 : stT Tryz.prog 98 1 = some (1, 1, false) := by kernel_rfl
theorem stT_98_2 : stT Tryz.prog 98 2 = some (2, 1, false) := by kernel_rfl
theorem stT_98_3 : stT Tryz.prog 98 3 = some (3, 1, false) := by kernel_rfl
theorem strT_101 : strT Tryz.prog 101 = false := by kernel_rfl
theorem strT_9 : strT Tryz.prog 9 = true := by kernel_rfl
theorem zeroT_101 : zeroT Tryz.prog 101 = some (cellsI (List.replicate 12 0)) := by kernel_rfl
theorem zeroT_102 : zeroT Tryz.prog 102 = some (cellsI (List.replicate 12 0)) := by kernel_rfl
theorem zeroT_116 : zeroT Tryz.prog 116 = some [V.int IntKind.u8 0, V.int IntKind.u8 0, V.int IntKind.u8 0, V.int IntKind.u8 0, V.int IntKind.u8 0, V.int IntKind.u8 0, V.int IntKind.u8 0, V.int IntKind.u8 0, V.int IntKind.u8 0, V.int IntKind.u8 0, V.int IntKind.u8 0, V.int IntKind.u8 0, V.int IntKind.u8 0, V.int IntKind.u8 0, V.int IntKind.u8 0, V.int IntKind.u8 0, V.int IntKind.u8 0, V.int IntKind.u8 0, V.int IntKind.u8 0, V.int IntKind.u8 0, V.int IntKind.u8 0, V.int IntKind.u8 0, V.int IntKind.u8 0, V.int IntKind.u8 0, V.int IntKind.u8 0, V.int IntKind.u8 0, V.int IntKind.u8 0, V.int IntKind.u8 0, V.int IntKind.u8 0, V.int IntKind.u8 0, V.int IntKind.u8 0, V.int IntKind.u8 0] := by kernel_rfl
theorem zeroT_117 : zeroT Tryz.prog 117 = some [V.int IntKind.u8 0, V.int IntKind.u8 0, V.int IntKind.u8 0, V.int IntKind.u8 0, V.int IntKind.u8 0, V.int IntKind.u8 0, V.int IntKind.u8 0, V.int IntKind.u8 0, V.int IntKind.u8 0, V.int IntKind.u8 0, V.int IntKind.u8 0, V.int IntKind.u8 0, V.int IntKind.u8 0, V.int IntKind.u8 0, V.int IntKind.u8 0, V.int IntKind.u8 0, V.int IntKind.u8 0, V.int IntKind.u8 0, V.int IntKind.u8 0, V.int IntKind.u8 0, V.int IntKind.u8 0, V.int IntKind.u8 0, V.int IntKind.u8 0, V.int IntKind.u8 0, V.int IntKind.u8 0, V.int IntKind.u8 0, V.int IntKind.u8 0, V.int IntKind.u8 0, V.int IntKind.u8 0, V.int IntKind.u8 0, V.int IntKind.u8 0, V.int IntKind.u8 0, V.int IntKind.u8 0, V.int IntKind.u8 0, V.int IntKind.u8 0, V.int IntKind.u8 0, V.int IntKind.u8 0, V.int IntKind.u8 0, V.int IntKind.u8 0, V.int IntKind.u8 0, V.int IntKind.u8 0, V.int IntKind.u8 0, V.int IntKind.u8 0, V.int IntKind.u8 0, V.int IntKind.u8 0, V.int IntKind.u8 0, V.int IntKind.u8 0, V.int IntKind.u8 0, V.int IntKind.u8 0, V.int IntKind.u8 0, V.int IntKind.u8 0, V.int IntKind.u8 0, V.int IntKind.u8 0, V.int IntKind.u8 0, V.int IntKind.u8 0, V.int IntKind.u8 0, V.int IntKind.u8 0, V.int IntKind.u8 0, V.int IntKind.u8 0, V.int IntKind.u8 0, V.int IntKind.u8 0, V.int IntKind.u8 0, V.int IntKind.u8 0, V.int IntKind.u8 0] := by kernel_rfl
theorem zeroT_126 : zeroT Tryz.prog 126 = some [V.int IntKind.u64 0] := by kernel_rfl
theorem zeroT_28 : zeroT Tryz.prog 28 = some [V.int IntKind.i64 0, V.nsl, V.nsl] := by kernel_rfl
theorem zeroT_3 : zeroT Tryz.prog 3 = some [V.int IntKind.i64 0] := by kernel_rfl
theorem zeroT_31 : zeroT Tryz.prog 31 = some [V.nf] := by kernel_rfl
theorem zeroT_39 : zeroT Tryz.prog 39 = some [V.nsl] := by kernel_rfl
theorem zeroT_4 : zeroT Tryz.prog 4 = some [V.bool false] := by kernel_rfl
theorem zeroT_41 : zeroT Tryz.prog 41 = some [V.bool false, V.int IntKind.i64 0, V.int IntKind.i64 0, V.nsl] := by kernel_rfl
theorem zeroT_50 : zeroT Tryz.prog 50 = some [V.int IntKind.i64 0, V.int IntKind.i64 0, V.int IntKind.i64 0] := by kernel_rfl
theorem zeroT_52 : zeroT Tryz.prog 52 = some [V.int IntKind.i64 0, V.int IntKind.i64 0, V.int IntKind.i64 0, V.int IntKind.i64 0, V.nsl, V.int IntKind.i64 0] := by kernel_rfl
theorem zeroT_70 : zeroT Tryz.prog 70 = some [V.nm] := by kernel_rfl
theorem zeroT_74 : zeroT Tryz.prog 74 = some [V.np] := by kernel_rfl
theorem zeroT_78 : zeroT Tryz.prog 78 = some [V.nf] := by kernel_rfl
theorem zeroT_89 : zeroT Tryz.prog 89 = some [V.int IntKind.i64 0, V.int IntKind.i64 0] := by kernel_rfl
theorem zeroT_92 : zeroT Tryz.prog 92 = some [V.int IntKind.i64 0, V.int IntKind.i64 0, V.int IntKind.i64 0, V.nsl] := by kernel_rfl
theorem zeroT_94 : zeroT Tryz.prog 94 = some [V.int IntKind.i64 0] := by kernel_rfl
theorem zeroT_98 : zeroT Tryz.prog 98 = some [V.int IntKind.i64 0, V.nsl, V.nsl, V.nm] := by kernel_rfl
theorem zeroT_105 : zeroT Tryz.prog 105 = some (List.replicate 4096 (V.bool false)) := by kernel_rfl
theorem mixed : Tryz.prog.follows .mixedOrders = true := by kernel_rfl
open Go.ChangeShapes Go.WideShapes Go.ChangeAt Go.RowKit
set_option linter.unusedVariables false
set_option linter.unusedSimpArgs false
section
variable {H : Type} (enc : TypeId × Value → H) (P : Program) (w : World)

/-- The cells 'cs' are what 'vs' stands for. -/
def Rd (w : World) (cs : List Value) (vs : List V) : Prop :=
 vs.length = cs.length ∧ ∀ i, i < vs.length → (vs.getD i .any).sc = true ∧ Rel w (fun _ => False) (fun _ => 0) (fun _ => undef) 0 true (vs.getD i .any) (cs.getD i undef)

/-- Whatever reads at type t stands for some a. -/
def Dec {α : Type} (t : TypeId) (ec : α → List V) (Q : α → Prop) : Prop :=
 ∀ (fuel : Nat) (cs : List Value) (x : DataW H × List MemPlace), DataW.trod enc P w 0 (fun _ => true) true fuel t cs = some x → ∃ a, Q a ∧ Rd w cs (ec a)

variable {enc P w}

theorem Rd.one {v : V} {x : Value} (hs : v.sc = true) (h : Rel w (fun _ => False) (fun _ => 0) (fun _ => undef) 0 true v x) : Rd w [x] [v] := by
 refine ⟨rfl, fun i hi => ?_⟩
 have : i = 0 := by simpa using hi
 subst this; exact ⟨hs, h⟩
theorem Rd.append {cs cs' : List Value} {vs vs' : List V} (h : Rd w cs vs) (h' : Rd w cs' vs') : Rd w (cs ++ cs') (vs ++ vs') := by
 refine ⟨by simp [h.1, h'.1], fun i hi => ?_⟩
 have e := h.1
 simp only [List.getD, List.getElem?_append]
 by_cases hl : i < vs.length
 ·
  have h2 : i < cs.length := by omega
  rw [if_pos hl, if_pos h2]
  exact h.2 i hl
 ·
  have h2 : ¬ i < cs.length := by omega
  rw [if_neg hl, if_neg h2, e]
  rw [← e]
  have := h'.2 (i - vs.length) (by simp at hi; omega)
  exact this
theorem Rd.nil : Rd w [] [] := ⟨rfl, fun i hi => by simp at hi⟩

theorem dec_int {t : TypeId} {k : IntKind} (ht : P.underlying t = some (.int k)) : Dec enc P w t (fun n : Int => [.int k n]) fun n => (Lit.int k n).wf = true := by
 intro fuel cs x h
 obtain ⟨n, rfl, rfl, hw⟩ := DataW.trod_int ht h
 exact ⟨n, hw, Rd.one rfl (.int _ _ _)⟩
theorem Dec.choose {α : Type} {t : TypeId} {ec : α → List V} {Q : α → Prop} (hd : Dec enc P w t ec Q) (g : Nat → List Value) (n : Nat)
  (h : ∀ i, i < n → ∃ fuel x, DataW.trod enc P w 0 (fun _ => true) true fuel t (g i) = some x) : ∃ asx : List α, asx.length = n ∧ (∀ a ∈ asx, Q a) ∧ ∀ i (hi : i < asx.length), Rd w (g i) (ec asx[i]) := by
 induction n with
 | zero => exact ⟨[], rfl, fun a ha => by simp at ha, fun i hi => by simp at hi⟩
 | succ n ih =>
  obtain ⟨asx, h1, h2, h3⟩ := ih fun i hi => h i (by omega)
  obtain ⟨fuel, x, hx⟩ := h n (by omega)
  obtain ⟨a, ha, hr⟩ := hd _ _ _ hx
  refine ⟨asx ++ [a], by simp [h1], fun b hb => ?_, fun i hi => ?_⟩
  ·
   rcases List.mem_append.1 hb with hb | hb
   ·
    exact h2 b hb
   ·
    simp at hb; subst hb; exact ha
  ·
   by_cases hl : i < asx.length
   ·
    rw [List.getElem_append_left hl]; exact h3 i hl
   ·
    have e : i = n := by simp at hi; omega
    subst e
    rw [List.getElem_append_right (by omega)]; simpa [h1] using hr

theorem rd_chunks {α : Type} {ec : α → List V} {sz : Nat} : ∀ (asx : List α) (cs : List Value), cs.length = asx.length * sz → (∀ i (hi : i < asx.length), Rd w ((cs.drop (i * sz)).take sz) (ec asx[i])) → Rd w cs (asx.flatMap ec)
 | [], cs, hl, _ => by
  have : cs = [] := by simpa using hl
  subst this; exact Rd.nil
 | a :: asx, cs, hl, h => by
  have h0 := h 0 (by simp)
  simp only [Nat.zero_mul, List.drop_zero, List.getElem_cons_zero] at h0
  have hr := rd_chunks (sz := sz) asx (cs.drop sz) (by simp only [List.length_drop, hl, List.length_cons, Nat.succ_mul]; omega) fun i hi => by
   have := h (i + 1) (by simpa using hi)
   simpa [List.drop_drop, Nat.succ_mul, Nat.add_comm] using this
  have := h0.append hr
  simpa using this

theorem dec_array {α : Type} {t e : TypeId} {n sz : Nat} {ec : α → List V} {Q : α → Prop} (ht : P.underlying t = some (.array n e)) (hs : P.cellsOf e = sz) (hn : P.cellsOf t = n * sz) (hd : Dec enc P w e ec Q) :
  Dec enc P w t (fun asx : List α => asx.flatMap ec) fun asx => asx.length = n ∧ ∀ a ∈ asx, Q a := by
 intro fuel cs x h
 obtain ⟨xs, m, rfl, rfl, hl, hx, hi⟩ := DataW.trod_array ht h
 rw [hn] at hl
 obtain ⟨asx, h1, h2, h3⟩ := hd.choose (fun i => (cs.drop (i * sz)).take sz) n fun i hin => by
  have := hi i hin
  rw [hs] at this
  rw [List.getElem?_eq_getElem (by omega)] at this
  exact ⟨_, _, this⟩
 exact ⟨asx, ⟨h1, h2⟩, rd_chunks asx cs (by rw [h1]; exact hl) h3⟩

/-- A struct's fields, one by one. -/
def DecF {α : Type} (fs : List Field) (off : Nat) (ec : α → List V) (Q : α → Prop) : Prop :=
 ∀ (fuel : Nat) (cs : List Value) (xs : List (DataW H × List MemPlace)), (∀ (i : Nat) (f : Field), fs[i]? = some f → DataW.trod enc P w 0 (fun _ => true) true fuel f.type ((cs.drop f.offset).take (P.cellsOf f.type)) = xs[i]?) →
  xs.length = fs.length → ∃ a, Q a ∧ Rd w (cs.drop off) (ec a)

theorem Dec.turn {α β : Type} {t : TypeId} {ec : α → List V} {ed : β → List V} {Q : α → Prop} {R : β → Prop} (hd : Dec enc P w t ec Q) (f : α → β) (hf : ∀ a, Q a → ed (f a) = ec a ∧ R (f a)) : Dec enc P w t ed R := by
 intro fuel cs x h
 obtain ⟨a, qa, ra⟩ := hd fuel cs x h
 exact ⟨f a, (hf a qa).2, by rw [(hf a qa).1]; exact ra⟩

theorem cells_get {a : Addr} {n : Nat} {cs : List Value} (h : w.cells? 0 a n = some cs) : cs.length = n ∧ ∀ j, j < n → w.cell? (a.add j) = some (cs.getD j undef) := by
 unfold World.cells? at h
 rw [if_pos (Nat.zero_le _)] at h
 have hl := mapM_some_length h
 simp at hl
 refine ⟨hl, fun j hj => ?_⟩
 have := mapM_some_get h j j (by simp [hj])
 rw [this, List.getElem?_eq_getElem (by omega)]
 simp [List.getD, show j < cs.length by omega]

/-- A slice, its address without a spot. -/
theorem open_sl {α : Type} {t e : TypeId} {sz : Nat} {ec : α → List V} {Q : α → Prop} {r : Go.Reach} {b0 : Nat} (ht : P.underlying t = some (.slice e)) (hs : P.cellsOf e = sz) (hd : Dec enc P w e ec Q) {v : Value} {d : DataW H} {p : List MemPlace}
  (hv : Value.okWide P w r b0 t v) (h : DataW.Trod enc P w 0 (fun _ => true) true t v d p) :
  ∃ asx : List α, (∀ a ∈ asx, Q a) ∧ Rel w (fun _ => False) (fun _ => 0) (fun _ => undef) 0 true (.sl sz (asx.map ec)) v ∧ asx.length ≤ maxLen ∧ (∀ (ts : List TypeId) (ds : List (DataW H)) (j : Nat), (DataW.weightsEach P ts ds).all (· ≤ reachBytes) = true → ts[j]? = some t → ds[j]? = some d → asx.length * P.bytesOf e ≤ reachBytes) := by
 obtain ⟨fuel, hf⟩ := h
 obtain ⟨a0, len, cap, rfl⟩ := okWide_slice ht hv
 have hcs : (Value.slice a0 len cap).cells.toList = [.slice a0 len cap] := rfl
 rw [hcs] at hf
 rcases Deep.open_slice ht hf with ⟨h1, h2⟩ | ⟨a, len', cap', m, n, D, Pl, h1, _, hl, hm, hme, hx, hel⟩
 ·
  simp only [List.cons.injEq, Value.slice.injEq, and_true] at h1
  obtain ⟨rfl, rfl, rfl⟩ := h1
  exact ⟨[], fun a ha => by simp at ha, .slnil _ _ _, by simp, fun ts ds j _ _ _ => by simp⟩
 ·
  simp only [List.cons.injEq, Value.slice.injEq, and_true] at h1
  obtain ⟨rfl, rfl, rfl⟩ := h1
  have hsp : a.spot = none := by
   simp only [Value.okWide, ht, Cell.okWide, Cell.ok, World.has] at hv
   exact hv.2.2.2.1
  simp only [if_true] at hme
  obtain ⟨asx, k1, k2, k3⟩ := hd.choose (fun i => ((w.cells? 0 (a.add (i * P.cellsOf e)) (P.cellsOf e)).getD [])) len fun i hi => by
   obtain ⟨cs', q1, q2⟩ := hel i (by omega)
   rw [q1]; exact ⟨_, _, q2⟩
  obtain ⟨b, off, spot⟩ := a
  simp only at hsp
  subst hsp
  refine ⟨asx, k2, ?_, by omega, ?_⟩
  ·
   have rows : ∀ i (hi : i < asx.length), ((asx.map ec).getD i []) = ec asx[i] := fun i hi => by simp [List.getD, hi]
   have key : ∀ i (hi : i < asx.length), ∃ cs', Rd w cs' (ec asx[i]) ∧ cs'.length = sz ∧ ∀ j, j < sz → w.cell? ⟨b, off + (i * sz + j), none⟩ = some (cs'.getD j undef) := fun i hi => by
    obtain ⟨cs', q1, q2⟩ := hel i (by omega)
    have := k3 i hi
    simp only [q1, Option.getD_some] at this
    obtain ⟨hl', hc'⟩ := cells_get q1
    rw [hs] at hl' hc'
    refine ⟨cs', this, hl', fun j hj => ?_⟩
    rw [← hc' j hj]
    congr 1
    unfold Addr.add
    by_cases hi0 : i * sz = 0
    ·
     by_cases hj0 : j = 0 <;> simp [hi0, hj0]
    ·
     by_cases hj0 : j = 0 <;> simp [hi0, hj0, Nat.add_assoc]
   refine .sl true sz (asx.map ec) b off len cap (fun i j => ((w.cell? ⟨b, off + (i * sz + j), none⟩).getD undef)) (by simp [k1]) hl hm ?_ ?_ ?_ ?_
   ·
    intro i hi
    have hi' : i < asx.length := by simpa using hi
    obtain ⟨cs', q1, q2, q3⟩ := key i hi'
    rw [rows i hi', q1.1, q2]
   ·
    intro i j hi hj
    have hi' : i < asx.length := by simpa using hi
    obtain ⟨cs', q1, q2, q3⟩ := key i hi'
    rw [rows i hi']
    exact (q1.2 j (by rw [q1.1]; omega)).1
   ·
    intro i j hi hj
    have hi' : i < asx.length := by simpa using hi
    obtain ⟨cs', q1, q2, q3⟩ := key i hi'
    simp only [q3 j hj, Option.getD_some]
    exact ⟨trivial, id⟩
   ·
    intro i j hi hj
    have hi' : i < asx.length := by simpa using hi
    obtain ⟨cs', q1, q2, q3⟩ := key i hi'
    rw [rows i hi']
    simp only [q3 j hj, Option.getD_some]
    exact (q1.2 j (by rw [q1.1]; omega)).2
  ·
   intro ts ds j hz h1 h2
   have hd' : d = (DataW.slice ((List.range len).map D) ((List.range (m - len)).map fun j => D (len + j))) := congrArg Prod.fst hx
   subst hd'
   have := sized_slice hz h1 h2 ht
   simp only [List.length_map, List.length_range] at this
   have hle : asx.length ≤ len + (m - len) := by omega
   exact Nat.le_trans (Nat.mul_le_mul_right _ hle) this

/-- An array or a struct by value. -/
theorem open_ag {α : Type} {t : TypeId} {ec : α → List V} {Q : α → Prop} {r : Go.Reach} {b0 : Nat} (hd : Dec enc P w t ec Q) {v : Value} {d : DataW H} {p : List MemPlace}
  (ht : (∃ fs, P.underlying t = some (.struct fs)) ∨ ∃ n e, P.underlying t = some (.array n e))
  (hv : Value.okWide P w r b0 t v) (h : DataW.Trod enc P w 0 (fun _ => true) true t v d p) :
  ∃ a : α, Q a ∧ Rel w (fun _ => False) (fun _ => 0) (fun _ => undef) 0 true (.agg (ec a)) v := by
 obtain ⟨fuel, hf⟩ := h
 have : ∃ cs, v = .agg cs := by
  rcases ht with ⟨fs, ht⟩ | ⟨n, e, ht⟩ <;> simp only [Value.okWide, ht] at hv <;> exact ⟨_, hv.choose_spec.1⟩
 obtain ⟨cs, rfl⟩ := this
 obtain ⟨a, qa, ra⟩ := hd _ _ _ hf
 have e : (Value.agg cs).cells.toList = cs.toList := rfl
 rw [e] at ra
 refine ⟨a, qa, .agg _ _ _ (by rw [ra.1]; simp) (fun i hi => (ra.2 i hi).1) fun i hi => ?_⟩
 have := (ra.2 i hi).2
 simpa [List.getD, Array.getD_eq_getD_getElem?] using this

/-- A value of one cell. -/
theorem open_one {α : Type} {t : TypeId} {ev : α → V} {Q : α → Prop} {r : Go.Reach} {b0 : Nat} (hd : Dec enc P w t (fun a => [ev a]) Q) {v : Value} {d : DataW H} {p : List MemPlace}
  (ht : (∃ k, P.underlying t = some (.int k)) ∨ P.underlying t = some .bool ∨ P.underlying t = some .string)
  (hv : Value.okWide P w r b0 t v) (h : DataW.Trod enc P w 0 (fun _ => true) true t v d p) :
  ∃ a : α, Q a ∧ Rel w (fun _ => False) (fun _ => 0) (fun _ => undef) 0 true (ev a) v := by
 obtain ⟨fuel, hf⟩ := h
 have e : v.cells.toList = [v] := by
  rcases ht with ⟨k, ht⟩ | ht | ht <;> simp only [Value.okWide, ht, Cell.okWide] at hv <;> cases v <;> first | rfl | simp_all [Cell.ok]
 rw [e] at hf
 obtain ⟨a, qa, ra⟩ := hd _ _ _ hf
 exact ⟨a, qa, (ra.2 0 (by simp)).2⟩

theorem trodAll_below (hl : laidOutB P = true) {W W' : World} (hb : Below W.heap.size W W') : ∀ {ts : List TypeId} {vs : List Value} {ds : List (DataW H)} {ps : List MemPlace},
  (ts.all fun t => P.readableRec t && decide (t < P.types.size)) = true → DataW.TrodAll enc P W 0 (fun _ => true) true ts vs ds ps → (∀ x ∈ ps, x.block < W.heap.size) → DataW.TrodAll enc P W' 0 (fun b => decide (b < W.heap.size)) true ts vs ds ps
 | [], _, _, _, _, h, _ => by
  obtain ⟨rfl, rfl, rfl⟩ := trodAll_nil h; exact rfl
 | t :: ts, _, _, _, ht, h, hlt => by
  obtain ⟨v, vs', d, ds', p, q, rfl, rfl, rfl, h1, h2⟩ := trodAll_cons h
  simp only [List.all_cons, Bool.and_eq_true, decide_eq_true_eq] at ht
  exact ⟨p, q, Below.trod hl ht.1.1 ht.1.2 h1 hb (fun x hx => hlt x (List.mem_append_left _ hx)), trodAll_below hl hb (by simpa using ht.2) h2 (fun x hx => hlt x (List.mem_append_right _ hx)), rfl⟩

/-- A law that returns true and turns nothing. -/
theorem post_law (hl : laidOutB P = true) {fn : Func} {s : ChangeSpec} {W : World} {args : Array Value} {f : FuncId} {ds gs : List (DataW H)} {before : List MemPlace} {tb : TypeId} {al : List V}
  (hts : (fn.params.toList.all fun t => P.readableRec t && decide (t < P.types.size)) = true) (hW : DataW.Whole enc P fn.params.toList s.vars false W args.toList ds gs before) (hvars : s.vars = [])
  (hres : fn.resultTypes.toList = [tb]) (hb : P.underlying tb = some .bool) (hfn : s.fn H (ds ++ gs) = { results := [.lit (.bool true)], args := ds })
  (hc : CallsA P f al (.bool true)) (hsz : args.size = al.length) (hgt : GTC W fun _ => False) (hr : ∀ i, i < al.length → Rel W (fun _ => False) (fun _ => 0) (fun _ => undef) 0 true (al.getD i .any) (args.getD i undef)) :
  Calls P f args W fun e W' => ∃ v, e = .returned v ∧ s.post enc P fn false true false false W args v W' := by
 refine (hc W (fun _ => False) args ⟨fun b h => h.elim, hgt.mono fun _ _ hc hn => ⟨hc, fun ho => ho.elim id id⟩⟩ hsz hr).mono fun e W' ⟨x, he, hbel, hx⟩ => ?_
 subst he
 cases hx
 refine ⟨_, rfl, ds, gs, before, [], ?_⟩
 obtain ⟨p, q, hA, hV, rfl, hfz, hnd⟩ := id hW
 rw [hvars] at hV
 have hg : gs = [] ∧ q = [] := by
  cases gs <;> simp [DataW.TrodVars] at hV
  exact ⟨rfl, hV⟩
 obtain ⟨rfl, rfl⟩ := hg
 have hsize : fn.resultTypes.size = 1 := by rw [← Array.length_toList, hres]; rfl
 refine ⟨p, [], hW, ?_, ?_, ?_, hbel.frame _, fun h => by cases h⟩
 ·
  rw [hfn, hres, hsize]
  exact trodAll_mk1 (shut_bool hb _)
 ·
  rw [hfn]
  exact trodAll_below hl hbel hts hA fun x hx => hW.lt x (List.mem_append_left _ hx)
 ·
  rw [hfn, hvars]; exact rfl
end
end Go.Proofs.YtfamkbofdamkkaaGreatDoor
