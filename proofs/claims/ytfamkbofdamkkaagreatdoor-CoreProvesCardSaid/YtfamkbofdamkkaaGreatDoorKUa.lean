/- Texts of this proof, put together. -/
import Derived.WalkKit
import Derived.KernelRfl
import Derived.Below
import Derived.Laws.CopyRow
import Derived.Laws.AppendOwn
import Derived.Laws.Rows
import Derived.Laws.StructEq
import Derived.Laws.Tables
import Derived.Maps.Keyed
import Derived.Laws.MakeOwn
namespace Go.Proofs.YtfamkbofdamkkaaGreatDoor
open Go.RowKit
set_option linter.unusedVariables false
set_option linter.unusedSimpArgs false

/-- What a slot holds, seen without memory: 'sl' a slice that nobody writes any more, by its rows of cells; 'ptr', 'own': a variable and a slice of the call's own, by number. -/
inductive V where
 | int (k : IntKind) (n : Int)
 | bool (b : Bool)
 | str (s : ByteArray)
 | agg (cs : List V)
 | sl (esz : Nat) (rows : List (List V))
 | nsl
 | slc (esz : Nat) (rows : List (List V))
 | ub
 | nf
 | np
 | nm
 | mp (id : Nat)
 | fm (es : List (Int × Bool))
 | yl (l : Nat)
 | eq (x : Value) (v : V)
 | ptr (id off : Nat)
 | ep (es : List V)
 | own (id : Nat)
 | rp (id z i j : Nat)
 | fn (f : FuncId) (caps : List V)
 | tup (vs : List V)
 | gd (g : Bool) (v : V)
 | any

instance : Inhabited V := ⟨.any⟩

/-- One cell's worth. -/
def V.sc : V → Bool
 | .agg _ | .tup _ | .gd .. | .eq .. | .any => false
 | _ => true

mutual
/-- Nothing of the call's own is named. -/
def V.cl : V → Bool
 | .agg cs => V.clL cs
 | .fn _ cs => V.clL cs
 | .tup cs => V.clL cs
 | .gd _ v => v.cl
 | .eq _ v => v.cl
 | .ptr _ _ => false
 | .own _ => false
 | .mp _ => false
 | .rp _ _ _ _ => false
 | _ => true
def V.clL : List V → Bool
 | [] => true
 | v :: vs => v.cl && V.clL vs
end

mutual
/-- All numbers of the call's own are below n. -/
def V.upto (n : Nat) : V → Bool
 | .agg cs => V.uptoL n cs
 | .fn _ cs => V.uptoL n cs
 | .tup cs => V.uptoL n cs
 | .gd _ v => v.upto n
 | .eq _ v => v.upto n
 | .ptr id _ => decide (id < n)
 | .own id => decide (id < n)
 | .mp id => decide (id < n)
 | .rp id _ _ _ => decide (id < n)
 | _ => true
def V.uptoL (n : Nat) : List V → Bool
 | [] => true
 | v :: vs => v.upto n && V.uptoL n vs
end

theorem V.clL_getD : ∀ {cs : List V} (_ : V.clL cs = true) (i : Nat), (cs.getD i .any).cl = true
 | [], _, i => by simp [V.cl]
 | v :: vs, h, 0 => by simp [V.clL] at h; simpa using h.1
 | v :: vs, h, i + 1 => by simp [V.clL] at h; simpa using V.clL_getD h.2 i

theorem V.uptoL_getD {n : Nat} : ∀ {cs : List V} (_ : V.uptoL n cs = true) (i : Nat), (cs.getD i .any).upto n = true
 | [], _, i => by simp [V.upto]
 | v :: vs, h, 0 => by simp [V.uptoL] at h; simpa using h.1
 | v :: vs, h, i + 1 => by simp [V.uptoL] at h; simpa using V.uptoL_getD h.2 i

/-- What lies in a map, in the order of its coming. -/
def MapOK (arr : Array MapEntry) (clk : Nat) (es : List (Int × Bool)) : Prop :=
 arr.toList.map (fun e => (e.key, e.val)) = es.map (fun p => (Value.int .i64 p.1, Value.bool p.2)) ∧ (∀ e ∈ arr.toList, e.born < clk) ∧ arr.toList.Pairwise (fun a b => a.born ≠ b.born) ∧ (es.map (·.1)).Nodup ∧ es.length ≤ maxLen
/-- What is seen at an address: a cell; a map. -/
def vu? (w : World) (a : Addr) : Option (Value ⊕ (Array MapEntry × Nat)) :=
 match w.heap[a.block]? with
 | some (.map arr clk) => if a = ⟨a.block, 0, none⟩ then some (.inr (arr, clk)) else none
 | _ => (w.cell? a).map .inl
theorem vu_of_cell {w : World} {a : Addr} {x : Value} (h : w.cell? a = some x) : vu? w a = some (.inl x) := by
 unfold vu?
 split
 ·
  rename_i h1; unfold World.cell? at h; rw [h1] at h; cases h
 ·
  rw [h]; rfl
theorem cell_of_vu {w : World} {a : Addr} {x : Value} (h : vu? w a = some (.inl x)) : w.cell? a = some x := by
 unfold vu? at h
 split at h
 ·
  split at h <;> cases h
 ·
  cases hc : w.cell? a with
  | none => rw [hc] at h; cases h
  | some y => rw [hc] at h; cases h; rfl
theorem vu_of_map {w : World} {b : Nat} {arr : Array MapEntry} {clk : Nat} (h : w.heap[b]? = some (.map arr clk)) : vu? w ⟨b, 0, none⟩ = some (.inr (arr, clk)) := by
 unfold vu?; simp only [h]; simp
theorem map_of_vu {w : World} {b : Nat} {z : Array MapEntry × Nat} (h : vu? w ⟨b, 0, none⟩ = some (.inr z)) : w.heap[b]? = some (.map z.1 z.2) := by
 unfold vu? at h
 split at h
 ·
  rename_i arr clk h1
  simp only [if_true, Option.some.injEq, Sum.inr.injEq] at h
  subst h; exact h1
 ·
  cases hc : w.cell? ⟨b, 0, none⟩ with
  | none => rw [hc] at h; cases h
  | some y => rw [hc] at h; cases h
theorem vu_of_block' {w w' : World} {a : Addr} (h : w'.heap[a.block]? = w.heap[a.block]?) : vu? w' a = vu? w a := by
 unfold vu?; rw [World.cell?_of_block h, h]
theorem vu_of_block {w w' : World} {a : Addr} {x : Value ⊕ (Array MapEntry × Nat)} (h : vu? w a = some x) (hb : w'.heap[a.block]? = w.heap[a.block]?) : vu? w' a = some x := by
 rw [vu_of_block' hb]; exact h
theorem block_lt_of_vu {w : World} {a : Addr} {x : Value ⊕ (Array MapEntry × Nat)} (h : vu? w a = some x) : a.block < w.heap.size := by
 refine Classical.byContradiction fun hn => ?_
 have h1 : w.heap[a.block]? = none := Array.getElem?_eq_none (by omega)
 unfold vu? World.cell? at h
 rw [h1] at h; cases h

/-- The abstract value v stands for the value x. c: nothing of the call's own in it. O: the blocks that may still be written. -/
inductive Rel (w : World) (O : Nat → Prop) (ι : Nat → Nat) (ρ : Nat → Value) (nx : Nat) : Bool → V → Value → Prop where
 | int (c : Bool) (k : IntKind) (n : Int) : Rel w O ι ρ nx c (.int k n) (.int k n)
 | bool (c b : Bool) : Rel w O ι ρ nx c (.bool b) (.bool b)
 | str (c : Bool) (s : ByteArray) : Rel w O ι ρ nx c (.str s) (.string s)
 | agg (c : Bool) (cs : List V) (vs : Array Value) (hl : vs.size = cs.length) (hs : ∀ i, i < cs.length → (cs.getD i .any).sc = true)
   (h : ∀ i, i < cs.length → Rel w O ι ρ nx c (cs.getD i .any) (vs.getD i undef)) : Rel w O ι ρ nx c (.agg cs) (.agg vs)
 | sl (c : Bool) (esz : Nat) (rows : List (List V)) (b off len cap : Nat) (xs : Nat → Nat → Value) (hl : len = rows.length) (hc : len ≤ cap) (hm : cap ≤ maxLen)
   (hz : ∀ i, i < rows.length → (rows.getD i []).length = esz)
   (hs : ∀ i j, i < rows.length → j < esz → ((rows.getD i []).getD j .any).sc = true)
   (hx : ∀ i j, i < rows.length → j < esz → w.cell? ⟨b, off + (i * esz + j), none⟩ = some (xs i j) ∧ ¬ O b)
   (h : ∀ i j, i < rows.length → j < esz → Rel w O ι ρ nx true ((rows.getD i []).getD j .any) (xs i j)) :
   Rel w O ι ρ nx c (.sl esz rows) (.slice (some ⟨b, off, none⟩) len cap)
 | slnil (c : Bool) (esz : Nat) (a : Option Addr) : Rel w O ι ρ nx c (.sl esz []) (.slice a 0 0)
 | nsl (c : Bool) : Rel w O ι ρ nx c .nsl (.slice none 0 0)
 | slc (c : Bool) (esz : Nat) (rows : List (List V)) (a : Option Addr) (n : Nat) (h : Rel w O ι ρ nx c (.sl esz rows) (.slice a n n)) : Rel w O ι ρ nx c (.slc esz rows) (.slice a n n)
 | ub (c b : Bool) : Rel w O ι ρ nx c .ub (.bool b)
 | nf (c : Bool) : Rel w O ι ρ nx c .nf .nilFunc
 | np (c : Bool) : Rel w O ι ρ nx c .np (.pointer none)
 | nm (c : Bool) : Rel w O ι ρ nx c .nm (.map none)
 | mp (id : Nat) (h : id < nx) : Rel w O ι ρ nx false (.mp id) (.map (some (ι id)))
 | fm (c : Bool) (es : List (Int × Bool)) (b : Nat) (arr : Array MapEntry) (clk : Nat) (hx : w.heap[b]? = some (.map arr clk) ∧ ¬ O b) (h : MapOK arr clk es) : Rel w O ι ρ nx c (.fm es) (.map (some b))
 | yl (c : Bool) (l : Nat) : Rel w O ι ρ nx c (.yl l) (.func (.yield l) #[] #[])
 | eq (c : Bool) (v : V) (x : Value) (h : Rel w O ι ρ nx c v x) : Rel w O ι ρ nx c (.eq x v) x
 | ptr (id off : Nat) (h : id < nx) : Rel w O ι ρ nx false (.ptr id off) (.pointer (some ⟨ι id, off, none⟩))
 | ep (c : Bool) (es : List V) (b off : Nat) (xs : Nat → Value) (hs : ∀ j, j < es.length → (es.getD j .any).sc = true)
   (hx : ∀ j, j < es.length → w.cell? ⟨b, off + j, none⟩ = some (xs j) ∧ ¬ O b)
   (h : ∀ j, j < es.length → Rel w O ι ρ nx true (es.getD j .any) (xs j)) : Rel w O ι ρ nx c (.ep es) (.pointer (some ⟨b, off, none⟩))
 | own (id : Nat) (h : id < nx) (h1 : (ρ id).oneCell' = true) : Rel w O ι ρ nx false (.own id) (ρ id)
 | rp (id z i j b : Nat) (h : id < nx) (hb : (ρ id).ownBlock = some b) : Rel w O ι ρ nx false (.rp id z i j) (.pointer (some ⟨b, i * z + j, none⟩))
 | fn (c : Bool) (f : FuncId) (caps : List V) (vs : Array Value) (hl : vs.size = caps.length)
   (h : ∀ i, i < caps.length → Rel w O ι ρ nx c (caps.getD i .any) (vs.getD i undef)) : Rel w O ι ρ nx c (.fn f caps) (.func (.func f) #[] vs)
 | tup (c : Bool) (ts : List V) (vs : Array Value) (hl : vs.size = ts.length)
   (h : ∀ i, i < ts.length → Rel w O ι ρ nx c (ts.getD i .any) (vs.getD i undef)) : Rel w O ι ρ nx c (.tup ts) (.tuple vs)
 | gd (c g : Bool) (v : V) (x : Value) (h : g = true → Rel w O ι ρ nx c v x) (h0 : g = false → x = undef) : Rel w O ι ρ nx c (.gd g v) x
 | any (c : Bool) (x : Value) : Rel w O ι ρ nx c .any x

/-- What stays as it is: the cells outside of O, and the numbers below nx. -/
theorem Rel.mono {w w' : World} {O O' : Nat → Prop} {ι ι' : Nat → Nat} {ρ ρ' : Nat → Value} {nx nx' : Nat}
  (hw : ∀ a x, vu? w a = some x → ¬ O a.block → vu? w' a = some x ∧ ¬ O' a.block) (hι : ∀ id, id < nx → ι' id = ι id ∧ ρ' id = ρ id) (hn : nx ≤ nx')
  {c : Bool} {v : V} {x : Value} (h : Rel w O ι ρ nx c v x) : Rel w' O' ι' ρ' nx' c v x := by
 induction h with
 | int c k n => exact .int c k n
 | bool c b => exact .bool c b
 | str c s => exact .str c s
 | agg c cs vs hl hs _ ih => exact .agg c cs vs hl hs ih
 | sl c esz rows b off len cap xs hl hc hm hz hs hx _ ih => exact .sl c esz rows b off len cap xs hl hc hm hz hs (fun i j hi hj => (hw _ _ (vu_of_cell (hx i j hi hj).1) (hx i j hi hj).2).imp cell_of_vu id) ih
 | slnil c esz ad => exact .slnil c esz ad
 | nsl c => exact .nsl c
 | slc c esz rows a n _ ih => exact .slc c esz rows a n ih
 | ub c b => exact .ub c b
 | nf c => exact .nf c
 | np c => exact .np c
 | nm c => exact .nm c
 | mp id h => rw [← (hι id h).1]; exact .mp id (by omega)
 | fm c es b arr clk hx h =>
  obtain ⟨h1, h2⟩ := hw ⟨b, 0, none⟩ _ (vu_of_map hx.1) hx.2
  exact .fm c es b arr clk ⟨map_of_vu h1, h2⟩ h
 | yl c l => exact .yl c l
 | eq c v x _ ih => exact .eq c v x ih
 | ptr id off h => rw [← (hι id h).1]; exact .ptr id off (by omega)
 | ep c es b off xs hs hx _ ih => exact .ep c es b off xs hs (fun j hj => (hw _ _ (vu_of_cell (hx j hj).1) (hx j hj).2).imp cell_of_vu id) ih
 | own id h h1 => rw [← (hι id h).2]; exact .own id (by omega) (by rw [(hι id h).2]; exact h1)
 | rp id z i j b h hb => exact .rp id z i j b (by omega) (by rw [(hι id h).2]; exact hb)
 | fn c f caps vs hl _ ih => exact .fn c f caps vs hl ih
 | tup c ts vs hl _ ih => exact .tup c ts vs hl ih
 | gd c g v x _ h0 ih => exact .gd c g v x ih h0
 | any c x => exact .any c x

/-- What names nothing of the call's own hangs on no number. -/
theorem Rel.free {w : World} {O : Nat → Prop} {ι ι' : Nat → Nat} {ρ ρ' : Nat → Value} {nx nx' : Nat}
  {c : Bool} {v : V} {x : Value} (h : Rel w O ι ρ nx c v x) : c = true → ∀ c', Rel w O ι' ρ' nx' c' v x := by
 induction h with
 | int c k n => exact fun _ c => .int c k n
 | bool c b => exact fun _ c => .bool c b
 | str c s => exact fun _ c => .str c s
 | agg c cs vs hl hs _ ih => exact fun e c' => .agg c' cs vs hl hs fun i hi => ih i hi e c'
 | sl c esz rows b off len cap xs hl hc hm hz hs hx _ ih => exact fun _ c' => .sl c' esz rows b off len cap xs hl hc hm hz hs hx fun i j hi hj => ih i j hi hj rfl true
 | slnil c esz ad => exact fun _ c => .slnil c esz ad
 | nsl c => exact fun _ c => .nsl c
 | slc c esz rows a n _ ih => exact fun e c' => .slc c' esz rows a n (ih e c')
 | ub c b => exact fun _ c' => .ub c' b
 | nf c => exact fun _ c' => .nf c'
 | np c => exact fun _ c' => .np c'
 | nm c => exact fun _ c' => .nm c'
 | mp id h => intro e; cases e
 | fm c es b arr clk hx h => exact fun _ c' => .fm c' es b arr clk hx h
 | yl c l => exact fun _ c' => .yl c' l
 | eq c v x _ ih => exact fun e c' => .eq c' v x (ih e c')
 | ptr id off h => intro e; cases e
 | ep c es b off xs hs hx _ ih => exact fun _ c' => .ep c' es b off xs hs hx fun j hj => ih j hj rfl true
 | own id h h1 => intro e; cases e
 | rp id z i j b h hb => intro e; cases e
 | fn c f caps vs hl _ ih => exact fun e c' => .fn c' f caps vs hl fun i hi => ih i hi e c'
 | tup c ts vs hl _ ih => exact fun e c' => .tup c' ts vs hl fun i hi => ih i hi e c'
 | gd c g v x _ h0 ih => exact fun e c' => .gd c' g v x (fun hg => ih hg e c') h0
 | any c x => exact fun _ c => .any c x

theorem Rel.of_cl {w : World} {O : Nat → Prop} {ι : Nat → Nat} {ρ : Nat → Value} {nx : Nat}
  {c : Bool} {v : V} {x : Value} (h : Rel w O ι ρ nx c v x) : v.cl = true → ∀ c', Rel w O ι ρ nx c' v x := by
 induction h with
 | int c k n => exact fun _ c => .int c k n
 | bool c b => exact fun _ c => .bool c b
 | str c s => exact fun _ c => .str c s
 | agg c cs vs hl hs _ ih => exact fun e c' => .agg c' cs vs hl hs fun i hi => ih i hi (V.clL_getD (by simpa [V.cl] using e) i) c'
 | sl c esz rows b off len cap xs hl hc hm hz hs hx h _ => exact fun _ c' => .sl c' esz rows b off len cap xs hl hc hm hz hs hx h
 | slnil c esz ad => exact fun _ c => .slnil c esz ad
 | nsl c => exact fun _ c => .nsl c
 | slc c esz rows a n _ ih => exact fun _ c' => .slc c' esz rows a n (ih rfl c')
 | ub c b => exact fun _ c' => .ub c' b
 | nf c => exact fun _ c' => .nf c'
 | np c => exact fun _ c' => .np c'
 | nm c => exact fun _ c' => .nm c'
 | mp id h => intro e; simp [V.cl] at e
 | fm c es b arr clk hx h => exact fun _ c' => .fm c' es b arr clk hx h
 | yl c l => exact fun _ c' => .yl c' l
 | eq c v x _ ih => exact fun e c' => .eq c' v x (ih (by simpa [V.cl] using e) c')
 | ptr id off h => intro e; simp [V.cl] at e
 | ep c es b off xs hs hx h _ => exact fun _ c' => .ep c' es b off xs hs hx h
 | own id h h1 => intro e; simp [V.cl] at e
 | rp id z i j b h hb => intro e; simp [V.cl] at e
 | fn c f caps vs hl _ ih => exact fun e c' => .fn c' f caps vs hl fun i hi => ih i hi (V.clL_getD (by simpa [V.cl] using e) i) c'
 | tup c ts vs hl _ ih => exact fun e c' => .tup c' ts vs hl fun i hi => ih i hi (V.clL_getD (by simpa [V.cl] using e) i) c'
 | gd c g v x _ h0 ih => exact fun e c' => .gd c' g v x (fun hg => ih hg (by simpa [V.cl] using e) c') h0
 | any c x => exact fun _ c => .any c x

theorem Rel.of_below {w : World} {O : Nat → Prop} {ι : Nat → Nat} {ρ : Nat → Value} {nx nx' : Nat}
  {c : Bool} {v : V} {x : Value} (h : Rel w O ι ρ nx c v x) : v.upto nx' = true → Rel w O ι ρ nx' c v x := by
 induction h with
 | int c k n => exact fun _ => .int c k n
 | bool c b => exact fun _ => .bool c b
 | str c s => exact fun _ => .str c s
 | agg c cs vs hl hs _ ih => exact fun e => .agg c cs vs hl hs fun i hi => ih i hi (V.uptoL_getD (by simpa [V.upto] using e) i)
 | sl c esz rows b off len cap xs hl hc hm hz hs hx h _ => exact fun _ => .sl c esz rows b off len cap xs hl hc hm hz hs hx fun i j hi hj => (h i j hi hj).free rfl true
 | slnil c esz ad => exact fun _ => .slnil c esz ad
 | nsl c => exact fun _ => .nsl c
 | slc c esz rows a n _ ih => exact fun _ => .slc c esz rows a n (ih rfl)
 | ub c b => exact fun _ => .ub c b
 | nf c => exact fun _ => .nf c
 | np c => exact fun _ => .np c
 | nm c => exact fun _ => .nm c
 | mp id h => exact fun e => .mp id (by simpa [V.upto] using e)
 | fm c es b arr clk hx h => exact fun _ => .fm c es b arr clk hx h
 | yl c l => exact fun _ => .yl c l
 | eq c v x _ ih => exact fun e => .eq c v x (ih (by simpa [V.upto] using e))
 | ptr id off h => exact fun e => .ptr id off (by simpa [V.upto] using e)
 | ep c es b off xs hs hx h _ => exact fun _ => .ep c es b off xs hs hx fun j hj => (h j hj).free rfl true
 | own id h h1 => exact fun e => .own id (by simpa [V.upto] using e) h1
 | rp id z i j b h hb => exact fun e => .rp id z i j b (by simpa [V.upto] using e) hb
 | fn c f caps vs hl _ ih => exact fun e => .fn c f caps vs hl fun i hi => ih i hi (V.uptoL_getD (by simpa [V.upto] using e) i)
 | tup c ts vs hl _ ih => exact fun e => .tup c ts vs hl fun i hi => ih i hi (V.uptoL_getD (by simpa [V.upto] using e) i)
 | gd c g v x _ h0 ih => exact fun e => .gd c g v x (fun hg => ih hg (by simpa [V.upto] using e)) h0
 | any c x => exact fun _ => .any c x

theorem Rel.sc_one {w : World} {O : Nat → Prop} {ι : Nat → Nat} {ρ : Nat → Value} {nx : Nat}
  {c : Bool} {v : V} {x : Value} (h : Rel w O ι ρ nx c v x) (hs : v.sc = true) : x.oneCell' = true := by
 cases h <;> first | rfl | assumption | simp [V.sc] at hs

/-- A constant of the text. -/
def ofVal : Value → V
 | .int k n => .int k n
 | .bool b => .bool b
 | .string s => .str s
 | .slice a n c => if a = none ∧ n = 0 ∧ c = 0 then .nsl else .any
 | .tuple vs => if vs = #[] then .tup [] else .any
 | .nilFunc => .nf
 | .pointer none => .np
 | .map none => .nm
 | _ => .any

theorem Rel.const (w : World) (O : Nat → Prop) (ι : Nat → Nat) (ρ : Nat → Value) (nx : Nat) (c : Bool) (x : Value) : Rel w O ι ρ nx c (ofVal x) x := by
 cases x with
 | int k n => exact .int ..
 | bool b => exact .bool ..
 | string s => exact .str ..
 | slice a n cp =>
  simp only [ofVal]
  split
  ·
   rename_i h; obtain ⟨rfl, rfl, rfl⟩ := h; exact .nsl ..
  ·
   exact .any ..
 | tuple vs =>
  simp only [ofVal]
  split
  ·
   rename_i h; subst h; exact .tup _ _ _ rfl (by simp)
  ·
   exact .any ..
 | nilFunc => exact .nf ..
 | pointer a => cases a with
  | none => exact .np ..
  | some a => exact .any ..
 | map a => cases a with
  | none => exact .nm ..
  | some a => exact .any ..
 | _ => exact .any ..

end Go.Proofs.YtfamkbofdamkkaaGreatDoor
namespace Go.Proofs.YtfamkbofdamkkaaGreatDoor
/-- What the library's table holds, reckoned: at i the shift that brings i to the top. -/
def tab64 : List Int := (List.range 64).map fun i => (((List.range 64).find? fun j => 285870213051353865 * 2 ^ j % 18446744073709551616 / 288230376151711744 == i).getD 0 : Nat)
/-- What lies in the package-level variable g, cell by cell. -/
def gtab (g : Nat) : List V := if g = 1 then tab64.map (V.int .u8) else []
theorem gtab_1 : gtab 1 = tab64.map (V.int .u8) := rfl
open Go.RowKit
set_option linter.unusedVariables false
set_option linter.unusedSimpArgs false
/-- An object of the call's own: the cells of a variable; a slice that grows. -/
inductive AObj where
 | cells (cs : List V)
 | row (e esz : Nat) (rows : List (List V))
 | orow (e esz : Nat) (rows : List (List V))
 | dict (es : List (Int × Bool))

abbrev Mem := List (Nat × AObj)

def blk (ι : Nat → Nat) (ρ : Nat → Value) : Nat × AObj → Option Nat
 | (id, .cells _) => some (ι id)
 | (id, .row ..) => (ρ id).ownBlock
 | (id, .orow ..) => (ρ id).ownBlock
 | (id, .dict _) => some (ι id)

/-- The blocks that may still be written: those of an outer call (X), and the call's own. -/
def OO (X : Nat → Prop) (mem : Mem) (ι : Nat → Nat) (ρ : Nat → Value) (b : Nat) : Prop := X b ∨ ∃ p ∈ mem, blk ι ρ p = some b

def OR (w : World) (O : Nat → Prop) (ι : Nat → Nat) (ρ : Nat → Value) (nx : Nat) (id : Nat) : AObj → Prop
 | .cells cs => ∃ (vals : Array Value) (e : TypeId), w.heap[ι id]? = some (.cells vals e (0, 0)) ∧ vals.size = cs.length ∧
   (∀ i, i < cs.length → (cs.getD i .any).sc = true) ∧ ∀ i, i < cs.length → Rel w O ι ρ nx false (cs.getD i .any) (vals.getD i undef)
 | .row e esz rows => ∃ xs : List Value, w.ownsRow 0 e esz (ρ id) rows.length xs ∧ (∀ i, i < rows.length → (rows.getD i []).length = esz) ∧
   (∀ i j, i < rows.length → j < esz → ((rows.getD i []).getD j .any).sc = true) ∧
   ∀ i j, i < rows.length → j < esz → Rel w O ι ρ nx true ((rows.getD i []).getD j .any) (xs.getD (i * esz + j) undef)
 | .orow e esz rows => ∃ xs : List Value, w.ownsRow 0 e esz (ρ id) rows.length xs ∧ (∀ i, i < rows.length → (rows.getD i []).length = esz) ∧
   (∀ i j, i < rows.length → j < esz → ((rows.getD i []).getD j .any).sc = true) ∧
   ∀ i j, i < rows.length → j < esz → Rel w O ι ρ nx false ((rows.getD i []).getD j .any) (xs.getD (i * esz + j) undef)
 | .dict es => ∃ (arr : Array MapEntry) (clk : Nat), w.heap[ι id]? = some (.map arr clk) ∧ MapOK arr clk es

/-- What a variable, a slice or a map lies in. -/
def isDataO : Obj → Bool
 | .cells .. => true
 | .map .. => true
 | _ => false
/-- The package-level tables stand in w, and nobody writes them. -/
def GTC (w : World) (O : Nat → Prop) : Prop := ∀ g, gtab g ≠ [] → Rel w O (fun _ => 0) (fun _ => undef) 0 true (.ep (gtab g)) (.pointer (some ⟨g, 0, none⟩))
theorem GTC.mono {w w' : World} {O O' : Nat → Prop} (h : GTC w O) (hw : ∀ a x, vu? w a = some x → ¬ O a.block → vu? w' a = some x ∧ ¬ O' a.block) : GTC w' O' :=
 fun g hg => (h g hg).mono hw (fun _ _ => ⟨rfl, rfl⟩) (Nat.le_refl _)
/-- What a call may take for granted of the world in which it begins. -/
structure XL (w : World) (D X : Nat → Prop) : Prop where
 lt : ∀ b, X b → b < w.heap.size
 gt : GTC w fun b => D b ∨ X b
/-- w0: the world in which the call began; D: the blocks of w0 that it may write; X: those of an outer call, that it may not. -/
structure Cx where
 w0 : World
 D : Nat → Prop
 X : Nat → Prop
 r : Option Nat := none
 df : List Deferred := []
 G : Nat → Value := fun _ => undef

structure ML (cx : Cx) (mem : Mem) (nx : Nat) (ι : Nat → Nat) (ρ : Nat → Value) (w : World) : Prop where
 os : w.os = cx.w0.os
 tape : w.tape = cx.w0.tape
 output : w.output = cx.w0.output
 size : cx.w0.heap.size ≤ w.heap.size
 old : ∀ b, b < cx.w0.heap.size → ¬ cx.D b → w.heap[b]? = cx.w0.heap[b]?
 keys : ∀ p ∈ mem, ∀ q ∈ mem, p.1 = q.1 → p = q
 lt : ∀ p ∈ mem, p.1 < nx
 own : ∀ p ∈ mem, ∀ b, blk ι ρ p = some b → b < w.heap.size ∧ (cx.w0.heap.size ≤ b ∨ cx.D b) ∧ ¬ cx.X b
 inj : ∀ p ∈ mem, ∀ q ∈ mem, ∀ b, blk ι ρ p = some b → blk ι ρ q = some b → p = q
 xlt : XL cx.w0 cx.D cx.X
 obj : ∀ p ∈ mem, OR w (OO cx.X mem ι ρ) ι ρ nx p.1 p.2

/-- The relation at a state of memory. -/
def MR (cx : Cx) (mem : Mem) (nx : Nat) (ι : Nat → Nat) (ρ : Nat → Value) (w : World) (v : V) (x : Value) : Prop :=
 Rel w (OO cx.X mem ι ρ) ι ρ nx false v x

/-- What stood for something stands for it still. -/
def Kp (cx : Cx) (mem : Mem) (nx : Nat) (ι : Nat → Nat) (ρ : Nat → Value) (w : World) (mem' : Mem) (nx' : Nat) (ι' : Nat → Nat) (ρ' : Nat → Value) (w' : World) : Prop :=
 ∀ c v x, Rel w (OO cx.X mem ι ρ) ι ρ nx c v x → Rel w' (OO cx.X mem' ι' ρ') ι' ρ' nx' c v x

theorem OR.mono {w w' : World} {O O' : Nat → Prop} {ι ι' : Nat → Nat} {ρ ρ' : Nat → Value} {nx nx' : Nat} {id : Nat} {o : AObj}
  (hk : ∀ c v x, Rel w O ι ρ nx c v x → Rel w' O' ι' ρ' nx' c v x) (hi : ι' id = ι id) (hr : ρ' id = ρ id)
  (hb : ∀ b, blk ι ρ (id, o) = some b → w'.heap[b]? = w.heap[b]?) (h : OR w O ι ρ nx id o) : OR w' O' ι' ρ' nx' id o := by
 cases o with
 | cells cs =>
  obtain ⟨vals, e, h1, h2, h3, h4⟩ := h
  refine ⟨vals, e, ?_, h2, h3, fun i hi => hk _ _ _ (h4 i hi)⟩
  rw [hi, hb _ rfl]; exact h1
 | row e esz rows =>
  obtain ⟨xs, h1, h2, h3, h4⟩ := h
  refine ⟨xs, ?_, h2, h3, fun i j hi hj => hk _ _ _ (h4 i j hi hj)⟩
  rw [hr]
  refine ⟨h1.1, ?_⟩
  rcases h1.2 with hn | ⟨g, cap, cur, hv, hb', hg, rest⟩
  ·
   exact .inl hn
  ·
   refine .inr ⟨g, cap, cur, hv, hb', ?_, rest⟩
   rw [hb g (by simp [blk, hv, Value.ownBlock])]; exact hg
 | orow e esz rows =>
  obtain ⟨xs, h1, h2, h3, h4⟩ := h
  refine ⟨xs, ?_, h2, h3, fun i j hi hj => hk _ _ _ (h4 i j hi hj)⟩
  rw [hr]
  refine ⟨h1.1, ?_⟩
  rcases h1.2 with hn | ⟨g, cap, cur, hv, hb', hg, rest⟩
  ·
   exact .inl hn
  ·
   refine .inr ⟨g, cap, cur, hv, hb', ?_, rest⟩
   rw [hb g (by simp [blk, hv, Value.ownBlock])]; exact hg
 | dict es =>
  obtain ⟨arr, clk, h1, h2⟩ := h
  exact ⟨arr, clk, by rw [hi, hb _ rfl]; exact h1, h2⟩

theorem ML.gtc {cx : Cx} {mem : Mem} {nx : Nat} {ι : Nat → Nat} {ρ : Nat → Value} {w : World} (h : ML cx mem nx ι ρ w) : GTC w (OO cx.X mem ι ρ) :=
 h.xlt.gt.mono fun a x hc hn => by
  have hl := block_lt_of_vu hc
  refine ⟨vu_of_block hc (h.old _ hl fun hd => hn (.inl hd)), fun ho => ?_⟩
  rcases ho with ho | ⟨p, hp, hb⟩
  ·
   exact hn (.inr ho)
  ·
   rcases (h.own p hp _ hb).2.1 with h1 | h1
   ·
    omega
   ·
    exact hn (.inl h1)
theorem ML.xl {cx : Cx} {mem : Mem} {nx : Nat} {ι : Nat → Nat} {ρ : Nat → Value} {w : World} (h : ML cx mem nx ι ρ w) : XL w (fun _ => False) (OO cx.X mem ι ρ) :=
 ⟨fun b hb => by
  rcases hb with hb | ⟨p, hp, hb⟩
  ·
   exact Nat.lt_of_lt_of_le (h.xlt.lt b hb) h.size
  ·
   exact (h.own p hp b hb).1, h.gtc.mono fun a x hc hn => ⟨hc, fun ho => ho.elim id hn⟩⟩

/-- The world has turned outside of the call's own blocks by nothing but new ones: all stands. -/
theorem ML.grow {cx : Cx} {mem : Mem} {nx : Nat} {ι : Nat → Nat} {ρ : Nat → Value} {w w' : World} (h : ML cx mem nx ι ρ w)
  (hos : w'.os = w.os) (htape : w'.tape = w.tape) (hout : w'.output = w.output) (hsz : w.heap.size ≤ w'.heap.size)
  (hb : ∀ b, b < w.heap.size → w'.heap[b]? = w.heap[b]?) : ML cx mem nx ι ρ w' ∧ Kp cx mem nx ι ρ w mem nx ι ρ w' := by
 have hk : Kp cx mem nx ι ρ w mem nx ι ρ w' := fun c v x hr => hr.mono (fun a y hc ho => ⟨vu_of_block hc (hb _ (block_lt_of_vu hc)), ho⟩) (fun _ _ => ⟨rfl, rfl⟩) (Nat.le_refl _)
 refine ⟨⟨hos.trans h.os, htape.trans h.tape, hout.trans h.output, Nat.le_trans h.size hsz, fun b hb0 hd => ?_, h.keys, h.lt, fun p hp b hpb => ?_, h.inj, h.xlt, fun p hp => ?_⟩, hk⟩
 ·
  rw [hb b (Nat.lt_of_lt_of_le hb0 h.size)]; exact h.old b hb0 hd
 ·
  have := h.own p hp b hpb; exact ⟨by omega, this.2⟩
 ·
  exact OR.mono hk rfl rfl (fun b hpb => hb b (h.own p hp b hpb).1) (h.obj p hp)

/-- A call that wrote nothing that was there. -/
theorem ML.below {cx : Cx} {mem : Mem} {nx : Nat} {ι : Nat → Nat} {ρ : Nat → Value} {w w' : World} (h : ML cx mem nx ι ρ w) (hb : Below w.heap.size w w') :
  ML cx mem nx ι ρ w' ∧ Kp cx mem nx ι ρ w mem nx ι ρ w' := h.grow hb.os hb.tape hb.output hb.size hb.block

/-- A new object under the next number. -/
theorem ML.newO {cx : Cx} {mem : Mem} {nx : Nat} {ι : Nat → Nat} {ρ : Nat → Value} {w : World} (h : ML cx mem nx ι ρ w) (ob : Obj)
  (ι' : Nat → Nat) (ρ' : Nat → Value) (hι : ∀ id, id < nx → ι' id = ι id ∧ ρ' id = ρ id) (o : AObj)
  (hblk : ∀ b, blk ι' ρ' (nx, o) = some b → b = w.heap.size)
  (ho : ∀ O, (∀ b, b < w.heap.size → O b → OO cx.X mem ι ρ b) → (∀ c v x, Rel w (OO cx.X mem ι ρ) ι ρ nx c v x → Rel (w.alloc ob) O ι' ρ' (nx + 1) c v x) → OR (w.alloc ob) O ι' ρ' (nx + 1) nx o) :
  ML cx ((nx, o) :: mem) (nx + 1) ι' ρ' (w.alloc ob) ∧ Kp cx mem nx ι ρ w ((nx, o) :: mem) (nx + 1) ι' ρ' (w.alloc ob) := by
 have hblk' : ∀ p ∈ mem, blk ι' ρ' p = blk ι ρ p := by
  rintro ⟨id, o'⟩ hp
  have := hι id (h.lt _ hp)
  cases o' <;> simp [blk, this.1, this.2]
 have hO : ∀ b, b < w.heap.size → OO cx.X ((nx, o) :: mem) ι' ρ' b → OO cx.X mem ι ρ b := by
  rintro b hb (hx | ⟨p, hp, hpb⟩)
  ·
   exact .inl hx
  ·
   rcases List.mem_cons.1 hp with rfl | hp
   ·
    have := hblk b hpb; omega
   ·
    exact .inr ⟨p, hp, by rw [← hblk' p hp]; exact hpb⟩
 have hk : Kp cx mem nx ι ρ w ((nx, o) :: mem) (nx + 1) ι' ρ' (w.alloc ob) := fun c v x hr => by
  refine hr.mono (fun a y hc hno => ?_) hι (by omega)
  have hlt := block_lt_of_vu hc
  exact ⟨vu_of_block hc (heap_alloc_old w _ hlt), fun hn => hno (hO _ hlt hn)⟩
 refine ⟨⟨h.os, h.tape, h.output, by have := h.size; simp; omega, fun b hb hd => ?_, ?_, ?_, ?_, ?_, h.xlt, ?_⟩, hk⟩
 ·
  rw [heap_alloc_old w _ (Nat.lt_of_lt_of_le hb h.size)]; exact h.old b hb hd
 ·
  intro p hp q hq e
  rcases List.mem_cons.1 hp with rfl | hp <;> rcases List.mem_cons.1 hq with rfl | hq
  ·
   rfl
  ·
   have := h.lt q hq; simp at e; omega
  ·
   have := h.lt p hp; simp at e; omega
  ·
   exact h.keys p hp q hq e
 ·
  intro p hp
  rcases List.mem_cons.1 hp with rfl | hp
  ·
   simp
  ·
   have := h.lt p hp; omega
 ·
  intro p hp b hb
  rcases List.mem_cons.1 hp with rfl | hp
  ·
   have := hblk b hb; subst this
   exact ⟨by simp, .inl h.size, fun hx => by have := h.xlt.lt _ hx; have := h.size; omega⟩
  ·
   rw [hblk' p hp] at hb
   have := h.own p hp b hb
   exact ⟨by simp; omega, this.2⟩
 ·
  intro p hp q hq b hpb hqb
  rcases List.mem_cons.1 hp with rfl | hp <;> rcases List.mem_cons.1 hq with rfl | hq
  ·
   rfl
  ·
   have h1 := hblk b hpb; rw [hblk' q hq] at hqb; have := (h.own q hq b hqb).1; omega
  ·
   have h1 := hblk b hqb; rw [hblk' p hp] at hpb; have := (h.own p hp b hpb).1; omega
  ·
   rw [hblk' p hp] at hpb; rw [hblk' q hq] at hqb; exact h.inj p hp q hq b hpb hqb
 ·
  intro p hp
  rcases List.mem_cons.1 hp with rfl | hp
  ·
   exact ho _ hO hk
  ·
   have hι' := hι p.1 (h.lt p hp)
   exact OR.mono hk hι'.1 hι'.2 (fun b hb => heap_alloc_old w _ (h.own p hp b hb).1) (h.obj p hp)

theorem ML.new {cx : Cx} {mem : Mem} {nx : Nat} {ι : Nat → Nat} {ρ : Nat → Value} {w : World} (h : ML cx mem nx ι ρ w) (cells : Array Value) (e : TypeId)
  (ι' : Nat → Nat) (ρ' : Nat → Value) (hι : ∀ id, id < nx → ι' id = ι id ∧ ρ' id = ρ id) (o : AObj)
  (hblk : ∀ b, blk ι' ρ' (nx, o) = some b → b = w.heap.size)
  (ho : ∀ O, (∀ b, b < w.heap.size → O b → OO cx.X mem ι ρ b) → (∀ c v x, Rel w (OO cx.X mem ι ρ) ι ρ nx c v x → Rel (w.alloc (.cells cells e)) O ι' ρ' (nx + 1) c v x) → OR (w.alloc (.cells cells e)) O ι' ρ' (nx + 1) nx o) :
  ML cx ((nx, o) :: mem) (nx + 1) ι' ρ' (w.alloc (.cells cells e)) ∧ Kp cx mem nx ι ρ w ((nx, o) :: mem) (nx + 1) ι' ρ' (w.alloc (.cells cells e)) := h.newO (.cells cells e) ι' ρ' hι o hblk ho

/-- A variable's cells under the next number. -/
theorem ML.newVar {cx : Cx} {mem : Mem} {nx : Nat} {ι : Nat → Nat} {ρ : Nat → Value} {w : World} (h : ML cx mem nx ι ρ w) (cells : Array Value) (e : TypeId) (cs : List V)
  (hl : cells.size = cs.length) (hs : ∀ i, i < cs.length → (cs.getD i .any).sc = true) (hr : ∀ i, i < cs.length → MR cx mem nx ι ρ w (cs.getD i .any) (cells.getD i undef)) :
  ML cx ((nx, .cells cs) :: mem) (nx + 1) (fun id => if id = nx then w.heap.size else ι id) ρ (w.alloc (.cells cells e)) ∧
  Kp cx mem nx ι ρ w ((nx, .cells cs) :: mem) (nx + 1) (fun id => if id = nx then w.heap.size else ι id) ρ (w.alloc (.cells cells e)) := by
 refine h.new cells e _ ρ (fun id hid => ⟨if_neg (by omega), rfl⟩) _ (fun b hb => by simpa [blk, eq_comm] using hb) fun O hO hk => ?_
 refine ⟨cells, e, ?_, hl, hs, fun i hi => hk _ _ _ (hr i hi)⟩
 simp only [if_true]; exact heap_alloc_new w _

/-- A store into a variable. -/
theorem ML.store {cx : Cx} {mem : Mem} {nx : Nat} {ι : Nat → Nat} {ρ : Nat → Value} {w : World} (h : ML cx mem nx ι ρ w) {id : Nat} {cs : List V} (hm : (id, .cells cs) ∈ mem)
  (vals : Array Value) (cs' : List V) (hl : vals.size = cs'.length) (hs : ∀ i, i < cs'.length → (cs'.getD i .any).sc = true)
  (hr : ∀ i, i < cs'.length → MR cx mem nx ι ρ w (cs'.getD i .any) (vals.getD i undef)) :
  ML cx (mem.map fun p => if p.1 = id then (id, .cells cs') else p) nx ι ρ (w.setRow (ι id) vals) ∧
  Kp cx mem nx ι ρ w (mem.map fun p => if p.1 = id then (id, .cells cs') else p) nx ι ρ (w.setRow (ι id) vals) := by
 obtain ⟨vals0, e, hh, -, -, -⟩ := h.obj _ hm
 have hin : ∀ q, q ∈ (mem.map fun p => if p.1 = id then (id, AObj.cells cs') else p) → ∃ p ∈ mem, q = (if p.1 = id then (id, AObj.cells cs') else p) ∧ blk ι ρ q = blk ι ρ p ∧ q.1 = p.1 := by
  intro q hq
  obtain ⟨p, hp, rfl⟩ := List.mem_map.1 hq
  refine ⟨p, hp, rfl, ?_⟩
  by_cases hpid : p.1 = id
  ·
   have : p = (id, .cells cs) := h.keys p hp _ hm hpid
   subst this; simp [blk]
  ·
   simp [hpid]
 have hO : ∀ b, OO cx.X (mem.map fun p => if p.1 = id then (id, AObj.cells cs') else p) ι ρ b → OO cx.X mem ι ρ b := by
  rintro b (hx | ⟨q, hq, hqb⟩)
  ·
   exact .inl hx
  ·
   obtain ⟨p, hp, -, hpb, -⟩ := hin q hq
   exact .inr ⟨p, hp, by rw [← hpb]; exact hqb⟩
 have hown : OO cx.X mem ι ρ (ι id) := .inr ⟨_, hm, rfl⟩
 have hk : Kp cx mem nx ι ρ w (mem.map fun p => if p.1 = id then (id, AObj.cells cs') else p) nx ι ρ (w.setRow (ι id) vals) := fun c v x hr => by
  refine hr.mono (fun a y hc hno => ?_) (fun _ _ => ⟨rfl, rfl⟩) (Nat.le_refl _)
  have hne : a.block ≠ ι id := fun e => hno (e ▸ hown)
  exact ⟨vu_of_block hc (setRow_other w _ _ _ hne), fun hn => hno (hO _ hn)⟩
 have hidown := h.own _ hm (ι id) rfl
 refine ⟨⟨h.os, h.tape, h.output, by simpa using h.size, fun b hb hd => ?_, ?_, ?_, ?_, ?_, h.xlt, ?_⟩, hk⟩
 ·
  rw [setRow_other]; exact h.old b hb hd
  rintro rfl
  rcases hidown.2.1 with h1 | h1
  ·
   omega
  ·
   exact hd h1
 ·
  intro p hp q hq e
  obtain ⟨p', hp', rfl, -, e1⟩ := hin p hp
  obtain ⟨q', hq', rfl, -, e2⟩ := hin q hq
  have : p' = q' := h.keys p' hp' q' hq' (by rw [← e1, ← e2]; exact e)
  rw [this]
 ·
  intro p hp; obtain ⟨p', hp', -, -, e1⟩ := hin p hp; rw [e1]; exact h.lt p' hp'
 ·
  intro p hp b hb; obtain ⟨p', hp', -, e1, -⟩ := hin p hp; rw [e1] at hb
  have := h.own p' hp' b hb; exact ⟨by simpa using this.1, this.2⟩
 ·
  intro p hp q hq b hpb hqb
  obtain ⟨p', hp', rfl, e1, -⟩ := hin p hp
  obtain ⟨q', hq', rfl, e2, -⟩ := hin q hq
  have : p' = q' := h.inj p' hp' q' hq' b (by rw [← e1]; exact hpb) (by rw [← e2]; exact hqb)
  rw [this]
 ·
  intro q hq
  obtain ⟨p, hp, rfl, -, -⟩ := hin q hq
  by_cases hpid : p.1 = id
  ·
   simp only [hpid, if_true]
   refine ⟨vals, e, setRow_heap w _ _ _ _ _ hh, hl, hs, fun i hi => hk _ _ _ (hr i hi)⟩
  ·
   simp only [hpid, if_false]
   refine OR.mono hk rfl rfl (fun b hb => setRow_other w _ _ _ ?_) (h.obj p hp)
   rintro rfl
   have := h.inj p hp _ hm (ι id) hb rfl
   exact hpid (by rw [this])

def lay (P : Program) (t : TypeId) : Option (Nat × Bool) :=
 match P.info? t, P.underlying t with
 | some i, some (.struct _) => some (i.size, true)
 | some i, some (.array _ _) => some (i.size, true)
 | some i, some _ => if i.size = 1 then some (1, false) else none
 | _, _ => none
def slT (P : Program) (t : TypeId) : Option (TypeId × Nat × Nat) :=
 match P.underlying t with
 | some (.slice e) => (P.info? e).map fun i => (e, i.size, i.bytes)
 | _ => none
def arT (P : Program) (t : TypeId) : Option (Nat × TypeId × Nat) :=
 match P.underlying t with
 | some (.array n e) => (P.info? e).map fun i => (n, e, i.size)
 | _ => none
def stT (P : Program) (t : TypeId) (f : Nat) : Option (Nat × Nat × Bool) :=
 match P.underlying t with
 | some (.struct fs) => (fs[f]?).bind fun f => (lay P f.type).map fun l => (f.offset, l.1, l.2)
 | _ => none
def zeroT (P : Program) (t : TypeId) : Option (List V) :=
 ((P.info? t).bind (·.zero)).map fun z => z.cells.toList.map ofVal
def intT (P : Program) (t : TypeId) : Option IntKind :=
 match P.underlying t with
 | some (.int k) => some k
 | _ => none
def strT (P : Program) (t : TypeId) : Bool :=
 match P.underlying t with
 | some .string => true
 | _ => false
def boolT (P : Program) (t : TypeId) : Bool :=
 match P.underlying t with
 | some .bool => true
 | _ => false

structure St where
 env : List (Nat × V)
 mem : Mem
 nx : Nat

def St.slot (σ : St) (t : Nat) : V := (σ.env.lookup t).getD .any
def St.get (σ : St) : Operand → V
 | .tmp t => if t < 1000000 then σ.slot t else .any
 | .const v => ofVal v
 | .func f => .fn f []
 | .global g => .ep (gtab g)

/-- Under a guard that held: what is held back under a guard. -/
def un (g : Option Bool) (v : V) (K : V → Prop) : Prop :=
 match v with
 | .gd g' v' => (g.getD true = true → g' = true) ∧ K v'
 | .eq _ v' => K v'
 | v => K v
def unL (g : Option Bool) : List V → (List V → Prop) → Prop
 | [], K => K []
 | v :: vs, K => un g v fun v' => unL g vs fun vs' => K (v' :: vs')

def V.parts : V → List V
 | .agg cs => cs
 | v => [v]
def allSc (cs : List V) : Prop := ∀ i, i < cs.length → (cs.getD i .any).sc = true

def pkB (t a b : Bool) : Bool := if t then a else b
theorem pkB_false (t a : Bool) : pkB t a false = (t && a) := by cases t <;> rfl
theorem pkB_true (t b : Bool) : pkB t true b = (t || b) := by cases t <;> rfl
def pickV (t : Bool) (a b : V) (K : V → Prop) : Prop :=
 match a, b with
 | .bool a, .bool b => K (.bool (pkB t a b))
 | .int k a, .int k' b => k = k' ∧ K (.int k (if t then a else b))
 | _, _ => False

def bitsV (op : BinOp) (k : IntKind) (x y : Int) : Int :=
 let a := BitVec.ofInt k.bits x
 let b := BitVec.ofInt k.bits y
 match op with
 | .and => k.wrap (a &&& b).toNat
 | .or => k.wrap (a ||| b).toNat
 | .xor => k.wrap (a ^^^ b).toNat
 | _ => k.wrap (a &&& ~~~b).toNat

/-- An array of numbers: how many, and of which kind. -/

def fieldsI (P : Program) (k : IntKind) : Nat → List Field → Bool
 | _, [] => true
 | j, f :: fs => f.offset == j && decide (intT P f.type = some k) && f.name != "_" && fieldsI P k (j + 1) fs
def flatT (P : Program) (t : TypeId) : Option (Nat × IntKind) :=
 match P.underlying t with
 | some (.array n e) =>
  match intT P e, (P.info? e).map (·.size), P.eqGuardType P.depth t with
  | some k, some 1, false => some (n, k)
  | _, _, _ => none
 | some (.struct fs) =>
  match (fs.toList.head?).bind fun f => intT P f.type with
  | some k => if (fieldsI P k 0 fs.toList && !(P.stoodInHeld t) && !(P.eqGuardType P.depth t)) = true then some (fs.size, k) else none
  | none => none
 | _ => none
def V.isI (k : IntKind) : V → Bool
 | .int k' _ => decide (k' = k)
 | _ => false
open Classical in
noncomputable def agEq (cs ds : List V) : Bool := decide (cs = ds)

def shlW (k : IntKind) (a b : Int) : Int := k.wrap (a * 2 ^ (min b.toNat k.bits))
def shrW (k : IntKind) (a b : Int) : Int := a.fdiv (2 ^ (min b.toNat k.bits))
def binV (op : BinOp) (isBool : Bool) (fl : Option (Nat × IntKind)) (isSl : Bool) (x y : V) (K : V → Prop) : Prop :=
 match op, x, y with
 | .shl, .int k a, .int _ b => 0 ≤ b ∧ K (.int k (shlW k a b))
 | .shr, .int k a, .int _ b => 0 ≤ b ∧ K (.int k (shrW k a b))
 | .add, .int k a, .int k' b => k = k' ∧ K (.int k (k.wrap (a + b)))
 | .sub, .int k a, .int k' b => k = k' ∧ K (.int k (k.wrap (a - b)))
 | .mul, .int k a, .int k' b => k = k' ∧ K (.int k (k.wrap (a * b)))
 | .quo, .int k a, .int k' b => k = k' ∧ b ≠ 0 ∧ K (.int k (k.wrap (a.tdiv b)))
 | .rem, .int k a, .int k' b => k = k' ∧ b ≠ 0 ∧ K (.int k (a.tmod b))
 | .and, .int k a, .int k' b => k = k' ∧ K (.int k (bitsV .and k a b))
 | .or, .int k a, .int k' b => k = k' ∧ K (.int k (bitsV .or k a b))
 | .xor, .int k a, .int k' b => k = k' ∧ K (.int k (bitsV .xor k a b))
 | .andNot, .int k a, .int k' b => k = k' ∧ K (.int k (bitsV .andNot k a b))
 | .eql, .int k a, .int k' b => k = k' ∧ K (.bool (decide (a = b)))
 | .neq, .int k a, .int k' b => k = k' ∧ K (.bool (decide (a ≠ b)))
 | .lss, .int k a, .int k' b => k = k' ∧ K (.bool (decide (a < b)))
 | .leq, .int k a, .int k' b => k = k' ∧ K (.bool (decide (a ≤ b)))
 | .gtr, .int k a, .int k' b => k = k' ∧ K (.bool (decide (b < a)))
 | .geq, .int k a, .int k' b => k = k' ∧ K (.bool (decide (b ≤ a)))
 | .eql, .bool a, .bool b => isBool = true ∧ K (.bool (a == b))
 | .neq, .bool a, .bool b => isBool = true ∧ K (.bool (a != b))
 | .eql, .sl _ [], .nsl => isSl = true ∧ K .ub
 | .eql, .sl _ (_ :: _), .nsl => isSl = true ∧ K (.bool false)
 | .eql, .agg cs, .agg ds =>
  match fl with
  | some (n, k) => cs.length = n ∧ ds.length = n ∧ cs.all (V.isI k) = true ∧ ds.all (V.isI k) = true ∧ K (.bool (agEq cs ds))
  | none => False
 | .neq, .agg cs, .agg ds =>
  match fl with
  | some (n, k) => cs.length = n ∧ ds.length = n ∧ cs.all (V.isI k) = true ∧ ds.all (V.isI k) = true ∧ K (.bool (!agEq cs ds))
  | none => False
 | _, _, _ => False

def unV (op : UnOp) (x : V) (K : V → Prop) : Prop :=
 match op, x with
 | .neg, .int k n => K (.int k (k.wrap (0 - n)))
 | .not, .bool b => K (.bool !b)
 | _, _ => False

section
variable {w : World} {O : Nat → Prop} {ι : Nat → Nat} {ρ : Nat → Value} {nx : Nat}

theorem un_sound {c : Bool} {g : Option Bool} {v : V} {x : Value} {K : V → Prop} (hg : g.getD true = true) (h : un g v K) (hr : Rel w O ι ρ nx c v x) : ∃ v', Rel w O ι ρ nx c v' x ∧ K v' := by
 unfold un at h
 split at h
 ·
  rename_i g' v'
  cases hr with
  | gd _ _ _ _ hr _ => exact ⟨v', hr (h.1 hg), h.2⟩
 ·
  cases hr with
  | eq _ _ _ hr => exact ⟨_, hr, h⟩
 ·
  exact ⟨v, hr, h⟩

theorem unL_sound {c : Bool} {g : Option Bool} (hg : g.getD true = true) : ∀ {vs : List V} {xs : List Value} {K : List V → Prop}, unL g vs K → xs.length = vs.length →
  (∀ i, i < vs.length → Rel w O ι ρ nx c (vs.getD i .any) (xs.getD i undef)) → ∃ vs', vs'.length = vs.length ∧ (∀ i, i < vs.length → Rel w O ι ρ nx c (vs'.getD i .any) (xs.getD i undef)) ∧ K vs'
 | [], xs, K, h, hl, hr => ⟨[], rfl, hr, h⟩
 | v :: vs, [], K, h, hl, hr => by simp at hl
 | v :: vs, x :: xs, K, h, hl, hr => by
  obtain ⟨v', h1, h2⟩ := un_sound hg h (hr 0 (by simp))
  obtain ⟨vs', h3, h4, h5⟩ := unL_sound hg h2 (by simpa using hl) fun i hi => by simpa using hr (i + 1) (by simpa using hi)
  refine ⟨v' :: vs', by simp [h3], fun i hi => ?_, h5⟩
  cases i with
  | zero => simpa using h1
  | succ i => simpa using h4 i (by simpa using hi)

theorem Rel.bool_inv {c b : Bool} {x : Value} (h : Rel w O ι ρ nx c (.bool b) x) : x = .bool b := by cases h; rfl
theorem Rel.int_inv {c : Bool} {k : IntKind} {n : Int} {x : Value} (h : Rel w O ι ρ nx c (.int k n) x) : x = .int k n := by cases h; rfl

theorem pickV_sound {c : Bool} {t : Bool} {a b : V} {x y : Value} {K : V → Prop} (h : pickV t a b K)
  (ha : t = true → Rel w O ι ρ nx c a x) (hb : t = false → Rel w O ι ρ nx c b y) : ∃ v, Rel w O ι ρ nx c v (if t then x else y) ∧ K v := by
 unfold pickV at h
 split at h
 ·
  refine ⟨_, ?_, h⟩
  cases t
  ·
   rw [(hb rfl).bool_inv]; exact .bool ..
  ·
   rw [(ha rfl).bool_inv]; exact .bool ..
 ·
  obtain ⟨rfl, h⟩ := h
  refine ⟨_, ?_, h⟩
  cases t
  ·
   rw [(hb rfl).int_inv]; exact .int ..
  ·
   rw [(ha rfl).int_inv]; exact .int ..
 ·
  exact h.elim

theorem strT_under {P : Program} {t : TypeId} (h : strT P t = true) : P.underlying t = some .string := by
 unfold strT at h; split at h <;> simp_all
theorem boolT_under {P : Program} {t : TypeId} (h : boolT P t = true) : P.underlying t = some .bool := by
 unfold boolT at h; split at h <;> simp_all

theorem run_equalIn_bool {P : Program} (w : World) (d : Nat) {t : TypeId} (a b : Bool) (h : P.underlying t = some .bool) : (Op.equalIn (d + 1) t (.bool a) (.bool b)).run P w = .ok (a == b) w := by
 unfold Op.equalIn; simp [run_underlying h]
theorem run_equal_bool {P : Program} (w : World) {t : TypeId} (a b : Bool) (h : P.underlying t = some .bool) : (Op.equal t (.bool a) (.bool b)).run P w = .ok (a == b) w :=
 run_equalIn_bool w 9999 a b h
theorem eqGuard_bool {P : Program} (w : World) (op : BinOp) (t : TypeId) (ox oy : Operand) (a b : Bool) : (eqGuard op t ox oy (.bool a) (.bool b)).run P w = .ok () w := by
 unfold eqGuard; cases op <;> simp

theorem run_equalIn_slice {P : Program} (w : World) (d : Nat) {t e : TypeId} (ad : Option Addr) (n m : Nat) (h : P.underlying t = some (.slice e)) : (Op.equalIn (d + 1) t (.slice ad n m) (.slice none 0 0)).run P w = .ok ad.isNone w := by
 unfold Op.equalIn
 rw [Sem.run_bind, run_underlying h, Result.andThen_ok]
 cases ad <;> rfl
theorem run_equal_slice {P : Program} (w : World) {t e : TypeId} (ad : Option Addr) (n m : Nat) (h : P.underlying t = some (.slice e)) : (Op.equal t (.slice ad n m) (.slice none 0 0)).run P w = .ok ad.isNone w :=
 run_equalIn_slice w _ ad n m h
theorem eqGuard_slice {P : Program} (w : World) (op : BinOp) (t : TypeId) (ox oy : Operand) (ad : Option Addr) (n m : Nat) : (eqGuard op t ox oy (.slice ad n m) (.slice none 0 0)).run P w = .ok () w := by
 cases op <;> rfl

theorem run_forIn_all {P : Program} {α : Type} (w : World) (body : α → Sem (ForInStep (Option Bool × Unit))) (q : α → Bool) : ∀ (l : List α), (∀ x ∈ l, (body x).run P w = .ok (if q x then .yield (none, ()) else .done (some false, ())) w) →
  (forIn (m := Sem) l ((none : Option Bool), ()) fun x _ => body x).run P w = .ok (if l.all q then (none, ()) else (some false, ())) w
 | [], _ => by simp
 | x :: l, h => by
  have h1 := h x (by simp)
  have ih := run_forIn_all w body q l fun y hy => h y (by simp [hy])
  cases hq : q x with
  | true =>
   rw [hq] at h1
   simp only [List.forIn_cons, Sem.run_bind, h1, Result.andThen_ok, if_true, ih, List.all_cons, hq, Bool.true_and]
  | false =>
   rw [hq] at h1
   simp [h1, hq]

theorem flatT_spec {P : Program} {t : TypeId} {n : Nat} {k : IntKind} (h : flatT P t = some (n, k)) :
  P.eqGuardType P.depth t = false ∧ ((∃ e i, P.underlying t = some (.array n e) ∧ P.underlying e = some (.int k) ∧ P.info? e = some i ∧ i.size = 1) ∨
   (∃ fs : Array Field, P.underlying t = some (.struct fs) ∧ fs.size = n ∧ fieldsI P k 0 fs.toList = true ∧ P.stoodInHeld t = false)) := by
 unfold flatT at h
 split at h
 ·
  rename_i n' e hu
  split at h
  ·
   rename_i k' h1 h2 h3
   simp at h
   obtain ⟨rfl, rfl⟩ := h
   cases hi : P.info? e with
   | none => simp [hi] at h2
   | some i =>
    simp [hi] at h2
    refine ⟨h3, .inl ⟨e, i, hu, ?_, hi, h2⟩⟩
    unfold intT at h1; split at h1 <;> simp_all
  ·
   cases h
 ·
  rename_i fs hu
  split at h
  ·
   split at h
   ·
    rename_i k' _ hc
    simp only [Option.some.injEq, Prod.mk.injEq] at h
    obtain ⟨rfl, rfl⟩ := h
    simp only [Bool.and_eq_true, Bool.not_eq_true'] at hc
    exact ⟨hc.2, .inr ⟨fs, hu, rfl, hc.1.1, hc.1.2⟩⟩
   ·
    cases h
  ·
   cases h
 ·
  cases h
theorem intT_under {P : Program} {t : TypeId} {k : IntKind} (h : intT P t = some k) : P.underlying t = some (.int k) := by
 unfold intT at h; split at h <;> simp_all

theorem isI_spec {k : IntKind} {v : V} (h : v.isI k = true) : ∃ n, v = .int k n := by
 cases v <;> simp [V.isI] at h
 subst h; exact ⟨_, rfl⟩

open Classical in
theorem run_equal_flat {P : Program} {c : Bool} {t : TypeId} {n : Nat} {k : IntKind} (hT : flatT P t = some (n, k)) {cs ds : List V} {x y : Value} (ha : Rel w O ι ρ nx c (.agg cs) x) (hb : Rel w O ι ρ nx c (.agg ds) y)
  (h1 : cs.length = n) (h2 : ds.length = n) (h3 : cs.all (V.isI k) = true) (h4 : ds.all (V.isI k) = true) (op : BinOp) (ox oy : Operand) :
  (eqGuard op t ox oy x y).run P w = .ok () w ∧ (Op.equal t x y).run P w = .ok (agEq cs ds) w ∧ ∃ xs ys, x = .agg xs ∧ y = .agg ys := by
 obtain ⟨hg, hT2⟩ := flatT_spec hT
 cases ha with
 | agg _ _ xs hlx hsx hrx =>
  cases hb with
  | agg _ _ ys hly hsy hry =>
   refine ⟨?_, ?_, xs, ys, rfl, rfl⟩
   ·
    exact run_eqGuard_agg w op t ox oy xs ys hg
   ·
    have cell : ∀ (cs : List V) (xs : Array Value), xs.size = cs.length → cs.all (V.isI k) = true → (∀ i, i < cs.length → Rel w O ι ρ nx c (cs.getD i .any) (xs.getD i undef)) → ∀ j, j < cs.length →
      ∃ m, cs[j]? = some (.int k m) ∧ xs[j]? = some (.int k m) := by
     intro cs xs hl hall hr j hj
     obtain ⟨m, hm⟩ := isI_spec (List.all_eq_true.1 hall cs[j] (List.getElem_mem hj))
     have := hr j hj
     simp only [List.getD, List.getElem?_eq_getElem hj, Option.getD_some, hm] at this
     have hx := this.int_inv
     refine ⟨m, by rw [List.getElem?_eq_getElem hj, hm], ?_⟩
     have hj' : j < xs.size := by omega
     simp only [Array.getD, dif_pos hj'] at hx
     rw [Array.getElem?_eq_getElem hj']
     exact congrArg some hx
    have hall : (Op.equalIn 10000 t (.agg xs) (.agg ys)).run P w = .ok ((List.range' 0 n).all fun j => decide (cs[j]? = ds[j]?)) w := by
     rcases hT2 with ⟨e, i, hu, hue, hi, hsz⟩ | ⟨fs, hu, hfn, hfi, hst⟩
     ·
      have hagg : (isAgg e).run P w = .ok false w := by simp [isAgg, run_underlying hue]
      rw [show (10000 : Nat) = 9999 + 1 from rfl]
      unfold Op.equalIn
      simp only [Sem.run_bind, run_underlying hu, Result.andThen_ok, sizeOf, typeInfo, run_program, hi, Sem.run_pure, hsz, Nat.mul_one, Std.Legacy.Range.forIn_eq_forIn_range', Std.Legacy.Range.size, Nat.sub_zero, Nat.add_sub_cancel, Nat.div_one]
      rw [run_forIn_all w _ (fun j => decide (cs[j]? = ds[j]?)) (List.range' 0 n) (fun j hj => ?_)]
      ·
       simp only [Result.andThen_ok]
       split <;> rename_i he
       ·
        split at he
        ·
         cases he
        ·
         rename_i hf; cases he; simp only [Sem.run_pure]; rw [Bool.eq_false_iff.2 hf]
       ·
        split at he
        ·
         rename_i ht; simp only [Sem.run_pure]; rw [ht]
        ·
         cases he
      ·
       have hj' : j < n := by simpa using hj
       obtain ⟨m, e1, e2⟩ := cell cs xs hlx h3 hrx j (by omega)
       obtain ⟨m', e3, e4⟩ := cell ds ys hly h4 hry j (by omega)
       simp only [Sem.run_bind, part, hagg, Result.andThen_ok, e2, e4, Bool.false_eq_true, if_false, Sem.run_pure]
       have he : (Op.equalIn 9999 e (.int k m) (.int k m')).run P w = .ok (m == m') w := by
        rw [show (9999 : Nat) = 9998 + 1 from rfl]; unfold Op.equalIn; simp [run_underlying hue]
       rw [he]
       simp only [Result.andThen_ok, e1, e3]
       by_cases hmm : m = m'
       ·
        subst hmm; simp
       ·
        simp [hmm]
     ·
      have hfo : P.fieldsOf t = fs := by unfold Program.fieldsOf; rw [hu]
      rw [show (10000 : Nat) = 9999 + 1 from rfl, run_equalIn_struct w 9999 t xs ys (by rw [hfo]; exact hu) hst, hfo]
      have key : ∀ (l : List Field) (j0 : Nat), fieldsI P k j0 l = true → j0 + l.length = n → (Op.eqFields 9999 xs ys l).run P w = .ok ((List.range' j0 l.length).all fun j => decide (cs[j]? = ds[j]?)) w := by
       intro l
       induction l with
       | nil => intro j0 _ _; simp [Op.eqFields]
       | cons f l ih =>
        intro j0 hf hj0
        simp only [fieldsI, Bool.and_eq_true, beq_iff_eq, decide_eq_true_eq, bne_iff_ne, ne_eq] at hf
        obtain ⟨⟨⟨f1, f2⟩, f3⟩, f4⟩ := hf
        simp only [List.length_cons] at hj0
        have hue := intT_under f2
        obtain ⟨m, e1, e2⟩ := cell cs xs hlx h3 hrx j0 (by omega)
        obtain ⟨m', e3, e4⟩ := cell ds ys hly h4 hry j0 (by omega)
        have hagg : (isAgg f.type).run P w = .ok false w := by simp [isAgg, run_underlying hue]
        have he : (Op.equalIn 9999 f.type (.int k m) (.int k m')).run P w = .ok (m == m') w := by
         rw [show (9999 : Nat) = 9998 + 1 from rfl]; unfold Op.equalIn; simp [run_underlying hue]
        have ih' := ih (j0 + 1) f4 (by omega)
        rw [List.length_cons, List.range'_succ, List.all_cons]
        unfold Op.eqFields
        rw [if_pos f3]
        simp only [Sem.run_bind, part, hagg, Result.andThen_ok, f1, e2, e4, Bool.false_eq_true, if_false, Sem.run_pure, he]
        rw [e1, e3]
        by_cases hmm : m = m'
        ·
         subst hmm; simp [ih']
        ·
         simp [hmm]
      have := key fs.toList 0 hfi (by rw [Array.length_toList]; omega)
      rw [Array.length_toList, hfn] at this
      exact this
    unfold Op.equal
    rw [show Op.maxDepth = 10000 from rfl, hall]
    congr 1
    unfold agEq
    rw [Bool.eq_iff_iff, List.all_eq_true]
    simp only [List.mem_range'_1, decide_eq_true_eq]
    constructor
    ·
     intro h
     apply List.ext_getElem?
     intro j
     by_cases hj : j < n
     ·
      exact h j ⟨by omega, by omega⟩
     ·
      rw [List.getElem?_eq_none (by omega), List.getElem?_eq_none (by omega)]
    ·
     rintro rfl j _; rfl

theorem binV_sound {P : Program} {c : Bool} {op : BinOp} {t : TypeId} {ox oy : Operand} {a b : V} {x y : Value} {K : V → Prop} (h : binV op (boolT P t) (flatT P t) (slT P t).isSome a b K)
  (ha : Rel w O ι ρ nx c a x) (hb : Rel w O ι ρ nx c b y) :
  ∃ v z, (do eqGuard op t ox oy x y; binOp op t x y : Sem Value).run P w = .ok z w ∧ Rel w O ι ρ nx c v z ∧ K v := by
 unfold binV at h
 split at h
 case h_1 => obtain ⟨hb0, h⟩ := h; rw [ha.int_inv, hb.int_inv]; exact ⟨_, _, by simp [eqGuard, binOp, Op.shift, Int.not_lt.2 hb0, shlW, shrW], .int .., h⟩
 case h_2 => obtain ⟨hb0, h⟩ := h; rw [ha.int_inv, hb.int_inv]; exact ⟨_, _, by simp [eqGuard, binOp, Op.shift, Int.not_lt.2 hb0, shlW, shrW], .int .., h⟩
 case h_6 => obtain ⟨rfl, hb0, h⟩ := h; rw [ha.int_inv, hb.int_inv]; exact ⟨_, _, by simp [eqGuard, binOp, Op.intDiv, hb0], .int .., h⟩
 case h_7 => obtain ⟨rfl, hb0, h⟩ := h; rw [ha.int_inv, hb.int_inv]; exact ⟨_, _, by simp [eqGuard, binOp, Op.intDiv, hb0], .int .., h⟩
 case h_18 => obtain ⟨hT, h⟩ := h; rw [ha.bool_inv, hb.bool_inv]; exact ⟨_, _, by rw [Sem.run_bind, eqGuard_bool, Result.andThen_ok]; simp only [binOp]; rw [Sem.run_bind, run_equal_bool w _ _ (boolT_under hT)]; rfl, .bool .., h⟩
 case h_19 => obtain ⟨hT, h⟩ := h; rw [ha.bool_inv, hb.bool_inv]; exact ⟨_, _, by rw [Sem.run_bind, eqGuard_bool, Result.andThen_ok]; simp only [binOp]; rw [Sem.run_bind, run_equal_bool w _ _ (boolT_under hT)]; rfl, .bool .., h⟩
 case h_20 =>
  obtain ⟨hT, h⟩ := h
  obtain ⟨e, he⟩ : ∃ e, P.underlying t = some (.slice e) := by
   unfold slT at hT
   split at hT
   ·
    rename_i e hu; exact ⟨e, hu⟩
   ·
    cases hT
  have hy : y = .slice none 0 0 := by cases hb; rfl
  have hx : ∃ ad n m, x = .slice ad n m := by cases ha <;> exact ⟨_, _, _, rfl⟩
  obtain ⟨ad, n, m, rfl⟩ := hx
  subst hy
  exact ⟨.ub, .bool ad.isNone, by rw [Sem.run_bind, eqGuard_slice, Result.andThen_ok]; simp only [binOp]; rw [Sem.run_bind, run_equal_slice w _ _ _ he]; rfl, .ub .., h⟩
 case h_21 =>
  obtain ⟨hT, h⟩ := h
  obtain ⟨e, he⟩ : ∃ e, P.underlying t = some (.slice e) := by
   unfold slT at hT
   split at hT
   ·
    rename_i e hu; exact ⟨e, hu⟩
   ·
    cases hT
  have hy : y = .slice none 0 0 := by cases hb; rfl
  have hx : ∃ ad n m, x = .slice (some ad) n m := by cases ha <;> exact ⟨_, _, _, rfl⟩
  obtain ⟨ad, n, m, rfl⟩ := hx
  subst hy
  exact ⟨.bool false, .bool false, by rw [Sem.run_bind, eqGuard_slice, Result.andThen_ok]; simp only [binOp]; rw [Sem.run_bind, run_equal_slice w _ _ _ he]; rfl, .bool .., h⟩
 case h_22 =>
  split at h
  ·
   rename_i n k hT
   obtain ⟨h1, h2, h3, h4, h⟩ := h
   obtain ⟨r1, r2, xs, ys, rfl, rfl⟩ := run_equal_flat hT ha hb h1 h2 h3 h4 .eql ox oy
   exact ⟨_, _, by rw [Sem.run_bind, r1, Result.andThen_ok]; simp only [binOp]; rw [Sem.run_bind, r2]; rfl, .bool .., h⟩
  ·
   exact h.elim
 case h_23 =>
  split at h
  ·
   rename_i n k hT
   obtain ⟨h1, h2, h3, h4, h⟩ := h
   obtain ⟨r1, r2, xs, ys, rfl, rfl⟩ := run_equal_flat hT ha hb h1 h2 h3 h4 .neq ox oy
   exact ⟨_, _, by rw [Sem.run_bind, r1, Result.andThen_ok]; simp only [binOp]; rw [Sem.run_bind, r2]; rfl, .bool .., h⟩
  ·
   exact h.elim
 case h_24 => exact h.elim
 all_goals
  obtain ⟨rfl, h⟩ := h
  rw [ha.int_inv, hb.int_inv]
  refine ⟨_, _, ?_, by first | exact .int .. | exact .bool .., h⟩
  first
   | simp [eqGuard, binOp, Op.intArith]; done
   | simp [eqGuard, binOp, Op.intBits, bitsV]; done
   | simp [eqGuard, binOp, Op.intCmp]; done
   | (simp [eqGuard, binOp, Op.intCmp]; rfl)
   | skip

end
theorem addr_add (b off j : Nat) : (⟨b, off, none⟩ : Addr).add j = ⟨b, off + j, none⟩ := by unfold Addr.add; split <;> simp_all

section
variable {P : Program} {w : World} {O : Nat → Prop} {ι : Nat → Nat} {ρ : Nat → Value} {nx : Nat}

theorem lay_spec {t : TypeId} {n : Nat} {ag : Bool} (h : lay P t = some (n, ag)) :
  (isAgg t).run P w = .ok ag w ∧ (sizeOf t).run P w = .ok n w ∧ (ag = false → n = 1) := by
 unfold lay at h
 split at h
 ·
  rename_i i fs hi hu; simp at h; obtain ⟨rfl, rfl⟩ := h; exact ⟨by simp [isAgg, run_underlying hu], by simp [sizeOf, typeInfo, hi], by simp⟩
 ·
  rename_i i k e hi hu; simp at h; obtain ⟨rfl, rfl⟩ := h; exact ⟨by simp [isAgg, run_underlying hu], by simp [sizeOf, typeInfo, hi], by simp⟩
 ·
  rename_i i d hd1 hd2 hi hu
  split at h
  ·
   rename_i h1; simp at h; obtain ⟨rfl, rfl⟩ := h
   refine ⟨?_, by simp [sizeOf, typeInfo, hi, h1], by simp⟩
   simp only [isAgg, Sem.run_bind, run_underlying hu, Result.andThen_ok]
   cases d <;> first | rfl | exact absurd rfl (hd1 _) | exact absurd rfl (hd2 _ _)
  ·
   cases h
 ·
  cases h

theorem run_loadVar_win {t : TypeId} {n : Nat} {ag : Bool} (hl : lay P t = some (n, ag)) {b off : Nat} {xs : Nat → Value}
  (h : ∀ j, j < n → w.cell? ⟨b, off + j, none⟩ = some (xs j)) :
  (loadVar t ⟨b, off, none⟩).run P w = .ok (if ag then .agg ((List.range n).map xs).toArray else xs 0) w := by
 obtain ⟨h1, h2, h3⟩ := lay_spec (w := w) hl
 simp only [loadVar, Sem.run_bind, h1, Result.andThen_ok]
 cases ag with
 | true =>
  simp only [if_true, Sem.run_bind, h2, Result.andThen_ok]
  rw [run_loadCells w _ n xs (fun j hj => by rw [addr_add]; exact h j hj)]
  rfl
 | false =>
  have := h 0 (by rw [h3 rfl]; omega)
  simp only [Nat.add_zero] at this
  simp [this]

/-- What a load of n cells gives, out of a window of cells. -/
def winV (ag : Bool) (n : Nat) (es : List V) : V := if ag then .agg (es.take n) else es.getD 0 .any

theorem winV_sound {c : Bool} {t : TypeId} {n : Nat} {ag : Bool} (hl : lay P t = some (n, ag)) {b off : Nat} {es : List V} (hn : n ≤ es.length) {xs : Nat → Value}
  (hs : ∀ j, j < es.length → (es.getD j .any).sc = true) (hx : ∀ j, j < es.length → w.cell? ⟨b, off + j, none⟩ = some (xs j)) (h : ∀ j, j < es.length → Rel w O ι ρ nx c (es.getD j .any) (xs j)) :
  ∃ x, (loadVar t ⟨b, off, none⟩).run P w = .ok x w ∧ Rel w O ι ρ nx c (winV ag n es) x := by
 refine ⟨_, run_loadVar_win hl fun j hj => hx j (by omega), ?_⟩
 unfold winV
 cases ag with
 | true =>
  simp only [if_true]
  refine .agg _ _ _ (by simp; omega) (fun i hi => ?_) (fun i hi => ?_)
  ·
   have hi' : i < n := by simp at hi; omega
   have := hs i (by omega)
   simpa [List.getD, List.getElem?_take, hi'] using this
  ·
   have hi' : i < n := by simp at hi; omega
   have := h i (by omega)
   have e1 : (es.take n).getD i .any = es.getD i .any := by simp [List.getD, List.getElem?_take, hi']
   have e2 : ((List.range n).map xs).toArray.getD i undef = xs i := by simp [Array.getD, hi']
   rw [e1, e2]; exact this
 | false =>
  have h1 := (lay_spec (w := w) hl).2.2 rfl
  exact h 0 (by omega)

end

/-- The step came to x in w', and to what K asks. -/
def Good (cx : Cx) (mem : Mem) (nx : Nat) (ι : Nat → Nat) (ρ : Nat → Value) (w : World) (K : V → Mem → Nat → Prop) (x : Value) (w' : World) : Prop :=
 ∃ v mem' nx' ι' ρ', K v mem' nx' ∧ ML cx mem' nx' ι' ρ' w' ∧ Kp cx mem nx ι ρ w mem' nx' ι' ρ' w' ∧ MR cx mem' nx' ι' ρ' w' v x

section
variable {P : Program} {cx : Cx} {mem : Mem} {nx : Nat} {ι : Nat → Nat} {ρ : Nat → Value} {w : World} {K : V → Mem → Nat → Prop}

theorem Kp.refl : Kp cx mem nx ι ρ w mem nx ι ρ w := fun _ _ _ h => h
theorem Kp.trans {m1 m2 : Mem} {n1 n2 : Nat} {i1 i2 : Nat → Nat} {r1 r2 : Nat → Value} {w1 w2 : World} (h : Kp cx mem nx ι ρ w m1 n1 i1 r1 w1) (k : Kp cx m1 n1 i1 r1 w1 m2 n2 i2 r2 w2) :
  Kp cx mem nx ι ρ w m2 n2 i2 r2 w2 := fun c v x hr => k c v x (h c v x hr)

theorem Good.pure (h : ML cx mem nx ι ρ w) {v : V} {x : Value} (hk : K v mem nx) (hr : MR cx mem nx ι ρ w v x) : Good cx mem nx ι ρ w K x w :=
 ⟨v, mem, nx, ι, ρ, hk, h, .refl, hr⟩

def Mem.look (mem : Mem) (id : Nat) : Option AObj := (mem.find? (·.1 = id)).map (·.2)
theorem Mem.look_mem {mem : Mem} {id : Nat} {o : AObj} (h : mem.look id = some o) : (id, o) ∈ mem := by
 unfold Mem.look at h
 cases hf : mem.find? (·.1 = id) with
 | none => simp [hf] at h
 | some p =>
  simp [hf] at h
  have h1 := List.find?_some hf
  have h2 := List.mem_of_find?_eq_some hf
  simp at h1
  subst h1; subst h
  exact h2

/-! #### load -/
def loadV (l : Option (Nat × Bool)) (mem : Mem) (a : V) (K : V → Prop) : Prop :=
 match l, a with
 | some (n, ag), .ep es => n ≤ es.length ∧ K (winV ag n es)
 | some (n, ag), .ptr id off =>
  match mem.look id with
  | some (.cells cs) => off + n ≤ cs.length ∧ K (winV ag n (cs.drop off))
  | _ => False
 | some (n, ag), .rp id z i j =>
  match mem.look id with
  | some (.row _ z' rows) => z' = z ∧ i < rows.length ∧ j + n ≤ z ∧ K (winV ag n ((rows.getD i []).drop j))
  | some (.orow _ z' rows) => z' = z ∧ i < rows.length ∧ j + n ≤ z ∧ K (winV ag n ((rows.getD i []).drop j))
  | _ => False
 | _, _ => False

theorem loadV_sound (hml : ML cx mem nx ι ρ w) {t : TypeId} {a : V} {x : Value} {K : V → Prop} (h : loadV (lay P t) mem a K) (ha : MR cx mem nx ι ρ w a x) :
  ∃ v y, (Instr.loadAt t x).run P w = .ok y w ∧ MR cx mem nx ι ρ w v y ∧ K v := by
 unfold loadV at h
 split at h
 ·
  rename_i n ag es hl
  unfold MR at ha
  cases ha with
  | ep _ _ b off xs hs hx hr =>
   obtain ⟨y, h1, h2⟩ := winV_sound (c := false) hl h.1 hs (fun j hj => (hx j hj).1) (fun j hj => (hr j hj).free rfl false)
   exact ⟨_, y, by simp [Instr.loadAt, Instr.sureAddr, h1], h2, h.2⟩
 ·
  rename_i n ag id off hl
  split at h
  ·
   rename_i cs hlook
   unfold MR at ha
   cases ha with
   | ptr _ _ hid =>
    obtain ⟨vals, e, h1, h2, h3, h4⟩ := hml.obj _ (Mem.look_mem hlook)
    have e1 : ∀ j, (cs.drop off).getD j .any = cs.getD (off + j) .any := fun j => by simp [List.getD]
    obtain ⟨y, h5, h6⟩ := winV_sound (P := P) (w := w) (O := OO cx.X mem ι ρ) (ι := ι) (ρ := ρ) (nx := nx) (c := false) (t := t) (b := ι id) (off := off) (xs := fun j => vals.getD (off + j) undef) hl
     (es := cs.drop off) (by simp; omega) (fun j hj => by rw [e1]; exact h3 _ (by simp at hj; omega))
     (fun j hj => by rw [cell_of_row w _ _ _ _ _ h1]; simp at hj; simp [Array.getD, show off + j < vals.size by omega])
     (fun j hj => by rw [e1]; exact h4 _ (by simp at hj; omega))
    exact ⟨_, y, by simp [Instr.loadAt, Instr.sureAddr, h5], h6, h.2⟩
  ·
   exact h.elim
 ·
  rename_i n ag id z i j hl
  split at h
  ·
   rename_i e z' rows hlook
   obtain ⟨rfl, hi, hj, hk⟩ := h
   unfold MR at ha
   cases ha with
   | rp _ _ _ _ b hid hb =>
    obtain ⟨xs, ho, hz, hsc, hrel⟩ := hml.obj _ (Mem.look_mem hlook)
    rcases ho.2 with ⟨h1, h2⟩ | ⟨g, cap, cur, h1, -, hg, hle, hcm, hcs, htk⟩
    ·
     rw [h1] at hb; cases hb
    ·
     rw [h1] at hb
     have : g = b := by simpa [Value.ownBlock] using hb
     subst this
     have hlen := hz i hi
     have e1 : ∀ k, ((rows.getD i []).drop j).getD k .any = (rows.getD i []).getD (j + k) .any := fun k => by simp [List.getD]
     have hcell : ∀ k, k < z' → w.cell? ⟨g, i * z' + k, none⟩ = some (xs.getD (i * z' + k) undef) := fun k hk => by
      have hlt : i * z' + k < rows.length * z' := by
       have : (i + 1) * z' ≤ rows.length * z' := Nat.mul_le_mul_right _ hi
       rw [Nat.succ_mul] at this; omega
      rw [cell_of_row w _ _ _ _ _ hg]
      have hx : xs[i * z' + k]? = cur.toList[i * z' + k]? := by rw [← htk, List.getElem?_take, if_pos hlt]
      have hx2 : i * z' + k < xs.length := by rw [ho.1]; exact hlt
      have hx' : cur[i * z' + k]? = xs[i * z' + k]? := by rw [hx]; simp
      rw [hx']; simp [List.getD, hx2]
     obtain ⟨y, h5, h6⟩ := winV_sound (P := P) (w := w) (O := OO cx.X mem ι ρ) (ι := ι) (ρ := ρ) (nx := nx) (c := false) (t := t) (b := g) (off := i * z' + j) (xs := fun k => xs.getD (i * z' + (j + k)) undef) hl
      (es := (rows.getD i []).drop j) (by simp only [List.length_drop]; omega) (fun k hk => by rw [e1]; exact hsc _ _ hi (by simp only [List.length_drop] at hk; omega))
      (fun k hk => by rw [Nat.add_assoc]; exact hcell _ (by simp only [List.length_drop] at hk; omega))
      (fun k hk => by rw [e1]; exact (hrel _ _ hi (by simp only [List.length_drop] at hk; omega)).free rfl false)
     exact ⟨_, y, by simp [Instr.loadAt, Instr.sureAddr, h5], h6, hk⟩
  ·
   rename_i e z' rows hlook
   obtain ⟨rfl, hi, hj, hk⟩ := h
   unfold MR at ha
   cases ha with
   | rp _ _ _ _ b hid hb =>
    obtain ⟨xs, ho, hz, hsc, hrel⟩ := hml.obj _ (Mem.look_mem hlook)
    rcases ho.2 with ⟨h1, h2⟩ | ⟨g, cap, cur, h1, -, hg, hle, hcm, hcs, htk⟩
    ·
     rw [h1] at hb; cases hb
    ·
     rw [h1] at hb
     have : g = b := by simpa [Value.ownBlock] using hb
     subst this
     have hlen := hz i hi
     have e1 : ∀ k, ((rows.getD i []).drop j).getD k .any = (rows.getD i []).getD (j + k) .any := fun k => by simp [List.getD]
     have hcell : ∀ k, k < z' → w.cell? ⟨g, i * z' + k, none⟩ = some (xs.getD (i * z' + k) undef) := fun k hk => by
      have hlt : i * z' + k < rows.length * z' := by
       have : (i + 1) * z' ≤ rows.length * z' := Nat.mul_le_mul_right _ hi
       rw [Nat.succ_mul] at this; omega
      rw [cell_of_row w _ _ _ _ _ hg]
      have hx : xs[i * z' + k]? = cur.toList[i * z' + k]? := by rw [← htk, List.getElem?_take, if_pos hlt]
      have hx2 : i * z' + k < xs.length := by rw [ho.1]; exact hlt
      have hx' : cur[i * z' + k]? = xs[i * z' + k]? := by rw [hx]; simp
      rw [hx']; simp [List.getD, hx2]
     obtain ⟨y, h5, h6⟩ := winV_sound (P := P) (w := w) (O := OO cx.X mem ι ρ) (ι := ι) (ρ := ρ) (nx := nx) (c := false) (t := t) (b := g) (off := i * z' + j) (xs := fun k => xs.getD (i * z' + (j + k)) undef) hl
      (es := (rows.getD i []).drop j) (by simp only [List.length_drop]; omega) (fun k hk => by rw [e1]; exact hsc _ _ hi (by simp only [List.length_drop] at hk; omega))
      (fun k hk => by rw [Nat.add_assoc]; exact hcell _ (by simp only [List.length_drop] at hk; omega))
      (fun k hk => by rw [e1]; exact (hrel _ _ hi (by simp only [List.length_drop] at hk; omega)))
     exact ⟨_, y, by simp [Instr.loadAt, Instr.sureAddr, h5], h6, hk⟩
  ·
   exact h.elim
 ·
  exact h.elim

/-! #### addresses -/
def idxV (s : Option (TypeId × Nat × Nat)) (ar : Option (Nat × TypeId × Nat)) (mem : Mem) (x i : V) (K : V → Prop) : Prop :=
 match x, i with
 | .sl esz rows, .int _ n =>
  match s with
  | some (_, c, _) => c = esz ∧ 0 ≤ n ∧ n < rows.length ∧ K (.ep (rows.getD n.toNat []))
  | none => False
 | .ptr id off, .int _ n =>
  match ar with
  | some (len, _, c) => 0 ≤ n ∧ n < len ∧ K (.ptr id (off + n.toNat * c))
  | none => False
 | .ep es, .int _ n =>
  match ar with
  | some (len, _, c) => 0 ≤ n ∧ n < len ∧ K (.ep (es.drop (n.toNat * c)))
  | none => False
 | .own id, .int _ n =>
  match s with
  | some (_, c, _) =>
   match mem.look id with
   | some (.row _ z rows) => c = z ∧ 0 ≤ n ∧ n < rows.length ∧ K (.rp id z n.toNat 0)
   | some (.orow _ z rows) => c = z ∧ 0 ≤ n ∧ n < rows.length ∧ K (.rp id z n.toNat 0)
   | _ => False
  | none => False
 | _, _ => False

theorem Rel.ep_drop {O : Nat → Prop} {c : Bool} {es : List V} {b off k : Nat} (h : Rel w O ι ρ nx c (.ep es) (.pointer (some ⟨b, off, none⟩))) :
  Rel w O ι ρ nx c (.ep (es.drop k)) (.pointer (some ⟨b, off + k, none⟩)) := by
 have e1 : ∀ j, (es.drop k).getD j .any = es.getD (k + j) .any := fun j => by simp [List.getD]
 cases h with
 | ep _ _ _ _ xs hs hx hr =>
  refine .ep _ _ _ _ (fun j => xs (k + j)) (fun j hj => ?_) (fun j hj => ?_) (fun j hj => ?_)
  ·
   rw [e1]; exact hs _ (by simp at hj; omega)
  ·
   have := hx (k + j) (by simp at hj; omega); rwa [Nat.add_assoc]
  ·
   rw [e1]; exact hr _ (by simp at hj; omega)

theorem slT_spec {t : TypeId} {e : TypeId} {c bytes : Nat} (h : slT P t = some (e, c, bytes)) : P.underlying t = some (.slice e) ∧ ∃ i, P.info? e = some i ∧ i.size = c ∧ i.bytes = bytes := by
 unfold slT at h
 split at h
 ·
  rename_i e' hu
  cases hi : P.info? e' with
  | none => simp [hi] at h
  | some i => simp [hi] at h; obtain ⟨rfl, rfl, rfl⟩ := h; exact ⟨hu, i, hi, rfl, rfl⟩
 ·
  cases h
theorem arT_spec {t : TypeId} {n : Nat} {e : TypeId} {c : Nat} (h : arT P t = some (n, e, c)) : P.underlying t = some (.array n e) ∧ ∃ i, P.info? e = some i ∧ i.size = c := by
 unfold arT at h
 split at h
 ·
  rename_i n' e' hu
  cases hi : P.info? e' with
  | none => simp [hi] at h
  | some i => simp [hi] at h; obtain ⟨rfl, rfl, rfl⟩ := h; exact ⟨hu, i, hi, rfl⟩
 ·
  cases h

theorem Rel.ep_shape {O : Nat → Prop} {c : Bool} {es : List V} {x : Value} (h : Rel w O ι ρ nx c (.ep es) x) : ∃ b off, x = .pointer (some ⟨b, off, none⟩) := by cases h; exact ⟨_, _, rfl⟩

theorem idxV_sound (hml : ML cx mem nx ι ρ w) {t : TypeId} {a i : V} {x y : Value} {K : V → Prop} (h : idxV (slT P t) (arT P t) mem a i K) (ha : MR cx mem nx ι ρ w a x) (hi : MR cx mem nx ι ρ w i y) :
  ∃ v z, (Instr.indexAt t x y).run P w = .ok z w ∧ MR cx mem nx ι ρ w v z ∧ K v := by
 unfold MR at ha hi ⊢
 unfold idxV at h
 split at h
 ·
  rename_i esz rows k n
  rw [hi.int_inv]
  split at h
  ·
   rename_i e c by' hs
   obtain ⟨hu, inf, hinf, hsz, -⟩ := slT_spec hs
   obtain ⟨rfl, h0, h1, hk⟩ := h
   cases ha with
   | slnil => simp at h1; omega
   | sl _ _ _ b off len cap xs hl hc hm hz hss hx hr =>
    subst hl
    have hn : n.toNat < rows.length := by omega
    refine ⟨_, .pointer (some ⟨b, off + n.toNat * c, none⟩), ?_, ?_, hk⟩
    ·
     simp [Instr.indexAt, asIntOf, run_underlying hu, h0, h1, sizeOf, typeInfo, hinf, hsz, addr_add]
    ·
     refine .ep _ _ _ _ (fun j => xs n.toNat j) (fun j hj => hss _ _ hn (by rw [hz _ hn] at hj; exact hj)) (fun j hj => ?_) (fun j hj => hr _ _ hn (by rw [hz _ hn] at hj; exact hj))
     have := hx _ _ hn (by rw [hz _ hn] at hj; exact hj)
     rwa [← Nat.add_assoc] at this
  ·
   exact h.elim
 ·
  rename_i id off k n
  rw [hi.int_inv]
  split at h
  ·
   rename_i len e c har
   obtain ⟨hu, inf, hinf, hsz⟩ := arT_spec har
   obtain ⟨h0, h1, hk⟩ := h
   cases ha with
   | ptr _ _ hid =>
    refine ⟨_, .pointer (some ⟨ι id, off + n.toNat * c, none⟩), ?_, .ptr _ _ hid, hk⟩
    simp [Instr.indexAt, Instr.sureAddr, asIntOf, run_underlying hu, h0, h1, sizeOf, typeInfo, hinf, hsz, addr_add]
  ·
   exact h.elim
 ·
  rename_i es k n
  rw [hi.int_inv]
  split at h
  ·
   rename_i len e c har
   obtain ⟨hu, inf, hinf, hsz⟩ := arT_spec har
   obtain ⟨h0, h1, hk⟩ := h
   obtain ⟨b, off, rfl⟩ := ha.ep_shape
   refine ⟨_, .pointer (some ⟨b, off + n.toNat * c, none⟩), ?_, ha.ep_drop, hk⟩
   simp [Instr.indexAt, Instr.sureAddr, asIntOf, run_underlying hu, h0, h1, sizeOf, typeInfo, hinf, hsz, addr_add]
  ·
   exact h.elim
 ·
  rename_i id k n
  rw [hi.int_inv]
  split at h
  ·
   rename_i e c by' hs
   obtain ⟨hu, inf, hinf, hsz, -⟩ := slT_spec hs
   split at h
   ·
    rename_i e' z rows hlook
    obtain ⟨rfl, h0, h1, hk⟩ := h
    obtain ⟨xs, ho, -, -, -⟩ := hml.obj _ (Mem.look_mem hlook)
    generalize hxe : x = xv at ha
    have hx : xv = ρ id := by cases ha; rfl
    have hid : id < nx := by cases ha; assumption
    subst hxe
    rcases ho.2 with ⟨h2, h3⟩ | ⟨g, cap, cur, h2, -, hg, hle, hcm, hcs, htk⟩
    ·
     omega
    ·
     rw [hx, h2]
     refine ⟨_, .pointer (some ⟨g, n.toNat * c + 0, none⟩), ?_, .rp _ _ _ _ g hid (by rw [h2]; rfl), hk⟩
     simp [Instr.indexAt, asIntOf, run_underlying hu, h0, h1, sizeOf, typeInfo, hinf, hsz, addr_add]
   ·
    rename_i e' z rows hlook
    obtain ⟨rfl, h0, h1, hk⟩ := h
    obtain ⟨xs, ho, -, -, -⟩ := hml.obj _ (Mem.look_mem hlook)
    generalize hxe : x = xv at ha
    have hx : xv = ρ id := by cases ha; rfl
    have hid : id < nx := by cases ha; assumption
    subst hxe
    rcases ho.2 with ⟨h2, h3⟩ | ⟨g, cap, cur, h2, -, hg, hle, hcm, hcs, htk⟩
    ·
     omega
    ·
     rw [hx, h2]
     refine ⟨_, .pointer (some ⟨g, n.toNat * c + 0, none⟩), ?_, .rp _ _ _ _ g hid (by rw [h2]; rfl), hk⟩
     simp [Instr.indexAt, asIntOf, run_underlying hu, h0, h1, sizeOf, typeInfo, hinf, hsz, addr_add]
   ·
    exact h.elim
  ·
   exact h.elim
 ·
  exact h.elim

def fldV (f : Option (Nat × Nat × Bool)) (x : V) (K : V → Prop) : Prop :=
 match f, x with
 | some (off, c, _), .ep es => 0 < c ∧ K (.ep (es.drop off))
 | some (off, c, _), .ptr id o => 0 < c ∧ K (.ptr id (o + off))
 | some (off, c, _), .rp id z i o => 0 < c ∧ K (.rp id z i (o + off))
 | _, _ => False

theorem stT_spec {t : TypeId} {f off c : Nat} {ag : Bool} (h : stT P t f = some (off, c, ag)) : ∃ fs fd, P.underlying t = some (.struct fs) ∧ fs[f]? = some fd ∧ fd.offset = off ∧ lay P fd.type = some (c, ag) := by
 unfold stT at h
 split at h
 ·
  rename_i fs hu
  cases hf : fs[f]? with
  | none => simp [hf] at h
  | some fd =>
   cases hl : lay P fd.type with
   | none => simp [hf, hl] at h
   | some l => simp [hf, hl] at h; obtain ⟨rfl, rfl, rfl⟩ := h; exact ⟨fs, fd, hu, hf, rfl, hl⟩
 ·
  cases h

theorem fldV_sound {O : Nat → Prop} {t : TypeId} {f : Nat} {a : V} {x : Value} {K : V → Prop} (h : fldV (stT P t f) a K) (ha : Rel w O ι ρ nx false a x) :
  ∃ v z, (Instr.fieldAt t x f).run P w = .ok z w ∧ Rel w O ι ρ nx false v z ∧ K v := by
 unfold fldV at h
 split at h
 ·
  rename_i off c ag es hs
  obtain ⟨fs, fd, hu, hf, ho, hl⟩ := stT_spec hs
  have h2 := (lay_spec (w := w) hl).2.1
  obtain ⟨b, o, rfl⟩ := ha.ep_shape
  refine ⟨_, .pointer (some ⟨b, o + off, none⟩), ?_, ha.ep_drop, h.2⟩
  simp [Instr.fieldAt, Instr.sureAddr, run_underlying hu, hf, fieldPlace, h2, show c ≠ 0 from by omega, addr_add, ho]
 ·
  rename_i off c ag id o hs
  obtain ⟨fs, fd, hu, hf, ho, hl⟩ := stT_spec hs
  have h2 := (lay_spec (w := w) hl).2.1
  cases ha with
  | ptr _ _ hid =>
   refine ⟨_, .pointer (some ⟨ι id, o + off, none⟩), ?_, .ptr _ _ hid, h.2⟩
   simp [Instr.fieldAt, Instr.sureAddr, run_underlying hu, hf, fieldPlace, h2, show c ≠ 0 from by omega, addr_add, ho]
 ·
  rename_i off c ag id z i o hs
  obtain ⟨fs, fd, hu, hf, ho, hl⟩ := stT_spec hs
  have h2 := (lay_spec (w := w) hl).2.1
  cases ha with
  | rp _ _ _ _ b hid hb =>
   refine ⟨_, .pointer (some ⟨b, i * z + (o + off), none⟩), ?_, .rp _ _ _ _ b hid hb, h.2⟩
   simp [Instr.fieldAt, Instr.sureAddr, run_underlying hu, hf, fieldPlace, h2, show c ≠ 0 from by omega, addr_add, ho, Nat.add_assoc]
 ·
  exact h.elim

/-! #### parts of values -/
def partV (l : Option (Nat × Bool)) (off : Nat) (x : V) (K : V → Prop) : Prop :=
 match l, x with
 | some (n, ag), .agg cs => off + n ≤ cs.length ∧ K (winV ag n (cs.drop off))
 | _, _ => False

theorem run_part {t : TypeId} {n : Nat} {ag : Bool} (hl : lay P t = some (n, ag)) {O : Nat → Prop} {c : Bool} {cs : List V} {vs : Array Value} {off : Nat} (hoff : off + n ≤ cs.length)
  (h : Rel w O ι ρ nx c (.agg cs) (.agg vs)) : ∃ z, (part t vs off).run P w = .ok z w ∧ Rel w O ι ρ nx c (winV ag n (cs.drop off)) z := by
 obtain ⟨h1, h2, h3⟩ := lay_spec (w := w) hl
 have e1 : ∀ j, (cs.drop off).getD j .any = cs.getD (off + j) .any := fun j => by simp [List.getD]
 cases h with
 | agg _ _ _ hsz hs hr =>
  cases ag with
  | true =>
   refine ⟨.agg (vs.extract off (off + n)), by simp [part, h1, h2], ?_⟩
   simp only [winV, if_true]
   refine .agg _ _ _ (by simp; omega) (fun i hi => ?_) (fun i hi => ?_)
   ·
    have hi' : i < n := by simp at hi; omega
    have := hs (off + i) (by omega)
    simpa [List.getD, List.getElem?_take, hi'] using this
   ·
    have hi' : i < n := by simp at hi; omega
    have := hr (off + i) (by omega)
    have e2 : ((cs.drop off).take n).getD i .any = cs.getD (off + i) .any := by simp [List.getD, List.getElem?_take, hi']
    have e3 : (vs.extract off (off + n)).getD i undef = vs.getD (off + i) undef := by
     simp only [Array.getD_eq_getD_getElem?, Array.getElem?_extract]
     rw [if_pos (by omega)]
    rw [e2, e3]; exact this
  | false =>
   have hn := h3 rfl
   have hlt : off < vs.size := by omega
   refine ⟨vs[off], by simp [part, h1, hlt], ?_⟩
   have := hr off (by omega)
   have e2 : winV false n (cs.drop off) = cs.getD off .any := by simp [winV, List.getD]
   have e3 : vs.getD off undef = vs[off] := by simp [Array.getD, hlt]
   rw [e2, ← e3]; exact this


/-- What of memory an address hangs on: how long the slices are. -/
def AObj.shp : AObj → AObj
 | .cells cs => .cells cs
 | .row e z rows => .row e z (List.replicate rows.length [])
 | .orow e z rows => .row e z (List.replicate rows.length [])
 | .dict _ => .dict []
def shp : Mem → Mem
 | [] => []
 | (i, o) :: m => (i, o.shp) :: shp m
theorem shp_look : ∀ (mem : Mem) (id : Nat), (shp mem).look id = (mem.look id).map AObj.shp
 | [], id => rfl
 | (i, o) :: m, id => by
  have ih := shp_look m id
  simp only [Mem.look, shp, List.find?_cons] at ih ⊢
  cases h : decide (i = id)
  ·
   simpa using ih
  ·
   simp
/-- The variables alone. -/
def AObj.csh : AObj → AObj
 | .cells cs => .cells cs
 | .row e _ _ => .row e 0 []
 | .orow e _ _ => .row e 0 []
 | .dict _ => .row 0 0 []
def csh : Mem → Mem
 | [] => []
 | (i, o) :: m => (i, o.csh) :: csh m
theorem csh_look : ∀ (mem : Mem) (id : Nat), (csh mem).look id = (mem.look id).map AObj.csh
 | [], id => rfl
 | (i, o) :: m, id => by
  have ih := csh_look m id
  simp only [Mem.look, csh, List.find?_cons] at ih ⊢
  cases h : decide (i = id)
  ·
   simpa using ih
  ·
   simp
theorem csh_of_shp {m m' : Mem} (h : ∀ id, (shp m').look id = (shp m).look id) (id : Nat) : (csh m').look id = (csh m).look id := by
 have := h id
 rw [shp_look, shp_look] at this
 rw [csh_look, csh_look]
 cases h1 : m'.look id with
 | none => cases h2 : m.look id with
  | none => rfl
  | some o => simp [h1, h2] at this
 | some o => cases h2 : m.look id with
  | none => simp [h1, h2] at this
  | some o2 =>
   simp only [h1, h2, Option.map_some, Option.some.injEq] at this ⊢
   cases o <;> cases o2 <;> simp only [AObj.shp, AObj.csh, AObj.cells.injEq, AObj.row.injEq, reduceCtorEq] at this ⊢
   all_goals first | exact this | exact ⟨this.1, trivial, trivial⟩ | skip
theorem loadV_csh {l : Option (Nat × Bool)} {mem : Mem} {a : V} {K : V → Prop} (h : loadV l (csh mem) a K) : loadV l mem a K := by
 unfold loadV at h ⊢
 split at h
 ·
  exact h
 ·
  rw [csh_look] at h
  rename_i id off
  cases hl : Mem.look mem id with
  | none => simp [hl] at h
  | some o =>
   cases o with
   | cells cs => simpa [hl, AObj.csh] using h
   | row e z rows => simp [hl, AObj.csh] at h
   | orow e z rows => simp [hl, AObj.csh] at h
   | dict es => simp [hl, AObj.csh] at h
 ·
  rw [csh_look] at h
  rename_i id z i j
  cases hl : Mem.look mem id with
  | none => simp [hl] at h
  | some o =>
   cases o with
   | cells cs => simp [hl, AObj.csh] at h
   | row e z rows => simp [hl, AObj.csh] at h
   | orow e z rows => simp [hl, AObj.csh] at h
   | dict es => simp [hl, AObj.csh] at h
 ·
  exact h.elim
theorem loadV_look {l : Option (Nat × Bool)} {m m' : Mem} {a : V} {K : V → Prop} (h : ∀ id, m'.look id = m.look id) : loadV l m' a K = loadV l m a K := by
 unfold loadV
 split <;> first | rfl | (simp only [h])
theorem idxV_shp {s : Option (TypeId × Nat × Nat)} {ar : Option (Nat × TypeId × Nat)} {mem : Mem} {x i : V} {K : V → Prop} (h : idxV s ar (shp mem) x i K) : idxV s ar mem x i K := by
 unfold idxV at h ⊢
 split at h
 ·
  exact h
 ·
  exact h
 ·
  exact h
 ·
  rw [shp_look] at h
  split at h
  ·
   rename_i hs
   cases hl : Mem.look mem _ with
   | none => simp [hl] at h
   | some o =>
    cases o with
    | cells cs => simp [hl, AObj.shp] at h
    | row e z rows => simpa [hl, AObj.shp] using h
    | orow e z rows => simpa [hl, AObj.shp] using h
    | dict es => simp [hl, AObj.shp] at h
  ·
   exact h.elim
 ·
  exact h.elim

end
mutual
/-- The object 'id' is written no more: what names it is seen as a value. -/
def V.fz (id : Nat) (o : AObj) : V → V
 | .own i => if i = id then (match o with | .row _ esz rows => .sl esz rows | .orow _ esz rows => .sl esz rows | .cells _ => .own i | .dict _ => .own i) else .own i
 | .ptr i off => if i = id then (match o with | .cells cs => .ep (cs.drop off) | .row .. => .ptr i off | .orow .. => .ptr i off | .dict _ => .ptr i off) else .ptr i off
 | .mp i => if i = id then (match o with | .dict es => .fm es | .cells _ => .mp i | .row .. => .mp i | .orow .. => .mp i) else .mp i
 | .rp i z k j => .rp i z k j
 | .agg cs => .agg (V.fzL id o cs)
 | .fn f cs => .fn f (V.fzL id o cs)
 | .tup cs => .tup (V.fzL id o cs)
 | .gd g v => .gd g (v.fz id o)
 | .int k n => .int k n
 | .bool b => .bool b
 | .str s => .str s
 | .sl e r => .sl e r
 | .nsl => .nsl
 | .slc e r => .slc e r
 | .ub => .ub
 | .nf => .nf
 | .np => .np
 | .nm => .nm
 | .fm es => .fm es
 | .yl l => .yl l
 | .eq x v => .eq x (v.fz id o)
 | .ep es => .ep es
 | .any => .any
def V.fzL (id : Nat) (o : AObj) : List V → List V
 | [] => []
 | v :: vs => v.fz id o :: V.fzL id o vs
end

theorem V.fzL_length (id : Nat) (o : AObj) : ∀ (cs : List V), (V.fzL id o cs).length = cs.length
 | [] => rfl
 | v :: vs => by simp [V.fzL, V.fzL_length id o vs]
theorem V.fzL_getD (id : Nat) (o : AObj) : ∀ (cs : List V) (i : Nat), (V.fzL id o cs).getD i .any = (cs.getD i .any).fz id o
 | [], i => by simp [V.fzL, V.fz]
 | v :: vs, 0 => by simp [V.fzL]
 | v :: vs, i + 1 => by simpa [V.fzL] using V.fzL_getD id o vs i
theorem V.sc_fz (id : Nat) (o : AObj) {v : V} (h : v.sc = true) : (v.fz id o).sc = true := by
 cases v <;> first | exact h | (cases h; done) | (simp only [V.fz]; split <;> first | rfl | (cases o <;> rfl))

def AObj.clo : AObj → Bool
 | .cells cs => V.clL cs
 | .row .. => true
 | .orow _ _ r => r.all V.clL
 | .dict _ => true
def AObj.fz (a : AObj) (id : Nat) (o : AObj) : AObj :=
 match a with
 | .cells cs => .cells (V.fzL id o cs)
 | .row e z r => .row e z r
 | .orow e z r => .orow e z (r.map (V.fzL id o))
 | .dict es => .dict es
theorem getD_row {r : List (List V)} {i : Nat} (h : i < r.length) : r.getD i [] ∈ r := by
 have e : r.getD i [] = r[i] := by simp [List.getD, h]
 rw [e]; exact List.getElem_mem h
theorem mapR_getD {f : List V → List V} (h0 : f [] = []) (r : List (List V)) (i : Nat) : (r.map f).getD i [] = f (r.getD i []) := by
 by_cases h : i < r.length
 ·
  simp [List.getD, h]
 ·
  simp [List.getD, List.getElem?_eq_none (show r.length ≤ i by omega), h0]

def Mem.fz (mem : Mem) (id : Nat) (o : AObj) : Mem := (mem.filter (·.1 ≠ id)).map fun p => (p.1, p.2.fz id o)

section
variable {cx : Cx} {mem : Mem} {nx : Nat} {ι : Nat → Nat} {ρ : Nat → Value} {w : World}

theorem blk_fz (id : Nat) (o : AObj) (i : Nat) (o' : AObj) : blk ι ρ (i, o'.fz id o) = blk ι ρ (i, o') := by cases o' <;> rfl

theorem mem_fz {id : Nat} {o : AObj} {q : Nat × AObj} (h : q ∈ mem.fz id o) : ∃ o', (q.1, o') ∈ mem ∧ q.1 ≠ id ∧ q.2 = o'.fz id o := by
 obtain ⟨p, hp, rfl⟩ := List.mem_map.1 h
 have := List.mem_filter.1 hp
 exact ⟨p.2, this.1, by simpa using this.2, rfl⟩

theorem OO_fz {id : Nat} {o : AObj} {b : Nat} (h : OO cx.X (mem.fz id o) ι ρ b) : OO cx.X mem ι ρ b := by
 rcases h with hx | ⟨q, hq, hb⟩
 ·
  exact .inl hx
 ·
  obtain ⟨o', h1, -, h3⟩ := mem_fz hq
  refine .inr ⟨_, h1, ?_⟩
  obtain ⟨i, oq⟩ := q
  simp only at h1 h3 ⊢
  subst h3
  rwa [blk_fz] at hb

theorem not_OO_fz (hml : ML cx mem nx ι ρ w) {id : Nat} {o : AObj} (hm : (id, o) ∈ mem) {b : Nat} (hb : blk ι ρ (id, o) = some b) : ¬ OO cx.X (mem.fz id o) ι ρ b := by
 rintro (hx | ⟨q, hq, hqb⟩)
 ·
  exact (hml.own _ hm b hb).2.2 hx
 ·
  obtain ⟨o', h1, h2, h3⟩ := mem_fz hq
  obtain ⟨i, oq⟩ := q
  simp only at h1 h2 h3
  subst h3
  rw [blk_fz] at hqb
  have := hml.inj _ h1 _ hm b hqb hb
  simp at this
  exact h2 this.1

theorem Rel.fz (hml : ML cx mem nx ι ρ w) {id : Nat} {o : AObj} (hm : (id, o) ∈ mem) (hc : o.clo = true)
  {c : Bool} {v : V} {x : Value} (h : Rel w (OO cx.X mem ι ρ) ι ρ nx c v x) : Rel w (OO cx.X (mem.fz id o) ι ρ) ι ρ nx c (v.fz id o) x := by
 have hmono : ∀ {c : Bool} {v : V} {x : Value}, Rel w (OO cx.X mem ι ρ) ι ρ nx c v x → Rel w (OO cx.X (mem.fz id o) ι ρ) ι ρ nx c v x := fun h =>
  h.mono (fun a y hc hn => ⟨hc, fun h => hn (OO_fz h)⟩) (fun _ _ => ⟨rfl, rfl⟩) (Nat.le_refl _)
 have hobj := hml.obj _ hm
 induction h with
 | int c k n => exact .int c k n
 | bool c b => exact .bool c b
 | str c s => exact .str c s
 | nsl c => exact .nsl c
 | slc c esz rows a n _ ih => exact .slc c esz rows a n ih
 | ub c b => exact .ub c b
 | nf c => exact .nf c
 | np c => exact .np c
 | nm c => exact .nm c
 | fm c es b arr clk hx h => exact hmono (.fm c es b arr clk hx h)
 | mp i hid =>
  simp only [V.fz]
  split
  ·
   rename_i e; subst e
   cases o with
   | cells cs => exact .mp _ hid
   | row e z r => exact .mp _ hid
   | orow e z r => exact .mp _ hid
   | dict es =>
    obtain ⟨arr, clk, h1, h2⟩ := hobj
    exact .fm _ es _ arr clk ⟨h1, not_OO_fz hml hm rfl⟩ h2
  ·
   exact .mp _ hid
 | yl c l => exact .yl c l
 | eq c v x _ ih => exact .eq c _ x ih
 | slnil c e ad => exact .slnil c e ad
 | any c x => exact .any c x
 | sl c esz rows b off len cap xs hl hc hm hz hs hx h ih => exact hmono (.sl c esz rows b off len cap xs hl hc hm hz hs hx h)
 | ep c es b off xs hs hx h ih => exact hmono (.ep c es b off xs hs hx h)
 | gd c g v x h h0 ih => exact .gd c g _ x ih h0
 | rp i z k j b h hb => exact .rp i z k j b h hb
 | fn c f caps vs hl h ih => exact .fn c f _ vs (by rw [V.fzL_length]; exact hl) (fun i hi => by rw [V.fzL_getD]; exact ih i (by rwa [V.fzL_length] at hi))
 | tup c ts vs hl h ih => exact .tup c _ vs (by rw [V.fzL_length]; exact hl) (fun i hi => by rw [V.fzL_getD]; exact ih i (by rwa [V.fzL_length] at hi))
 | agg c cs vs hl hs h ih =>
  refine .agg c _ vs (by rw [V.fzL_length]; exact hl) (fun i hi => ?_) (fun i hi => by rw [V.fzL_getD]; exact ih i (by rwa [V.fzL_length] at hi))
  rw [V.fzL_length] at hi
  rw [V.fzL_getD]
  exact V.sc_fz id o (hs i hi)
 | ptr i off hid =>
  simp only [V.fz]
  split
  ·
   rename_i e; subst e
   cases o with
   | row e z r => exact .ptr _ _ hid
   | orow e z r => exact .ptr _ _ hid
   | dict es => exact .ptr _ _ hid
   | cells cs =>
    obtain ⟨vals, e, h1, h2, h3, h4⟩ := hobj
    have e1 : ∀ j, (cs.drop off).getD j .any = cs.getD (off + j) .any := fun j => by simp [List.getD]
    refine .ep _ _ _ _ (fun j => vals.getD (off + j) undef) (fun j hj => by rw [e1]; exact h3 _ (by simp at hj; omega)) (fun j hj => ⟨?_, not_OO_fz hml hm rfl⟩) (fun j hj => ?_)
    ·
     rw [cell_of_row w _ _ _ _ _ h1]; simp at hj; simp [Array.getD, show off + j < vals.size by omega]
    ·
     rw [e1]; exact hmono ((h4 _ (by simp at hj; omega)).of_cl (V.clL_getD (by simpa [AObj.clo] using hc) _) true)
  ·
   exact .ptr _ _ hid
 | own i hid h1' =>
  simp only [V.fz]
  split
  ·
   rename_i e; subst e
   cases o with
   | cells cs => exact .own _ hid h1'
   | dict es => exact .own _ hid h1'
   | row e z r =>
    obtain ⟨xs, h1, h2, h3, h4⟩ := hobj
    rcases h1 with ⟨hlen, hn | ⟨g, cap, cur, hv, -, hg, hle, hcap, hcs, htake⟩⟩
    ·
     have : r = [] := List.eq_nil_of_length_eq_zero hn.2
     subst this
     rw [hn.1]; exact .slnil _ _ _
    ·
     rw [hv]
     refine .sl _ _ _ _ _ _ _ (fun i j => xs.getD (i * z + j) undef) rfl hle hcap h2 h3 (fun i j hi hj => ⟨?_, not_OO_fz hml hm (by simp [blk, hv, Value.ownBlock])⟩) (fun i j hi hj => hmono (h4 i j hi hj))
     have hlt : i * z + j < r.length * z := by
      have : (i + 1) * z ≤ r.length * z := Nat.mul_le_mul_right _ hi
      rw [Nat.succ_mul] at this; omega
     rw [Nat.zero_add, cell_of_row w _ _ _ _ _ hg]
     have hx : xs[i * z + j]? = cur.toList[i * z + j]? := by rw [← htake, List.getElem?_take, if_pos hlt]
     have hlt2 : i * z + j < xs.length := by omega
     have hx' : cur[i * z + j]? = xs[i * z + j]? := by rw [hx]; simp
     rw [hx']; simp [List.getD, hlt2]
   | orow e z r =>
    obtain ⟨xs, h1, h2, h3, h4⟩ := hobj
    rcases h1 with ⟨hlen, hn | ⟨g, cap, cur, hv, -, hg, hle, hcap, hcs, htake⟩⟩
    ·
     have : r = [] := List.eq_nil_of_length_eq_zero hn.2
     subst this
     rw [hn.1]; exact .slnil _ _ _
    ·
     rw [hv]
     refine .sl _ _ _ _ _ _ _ (fun i j => xs.getD (i * z + j) undef) rfl hle hcap h2 h3 (fun i j hi hj => ⟨?_, not_OO_fz hml hm (by simp [blk, hv, Value.ownBlock])⟩) (fun i j hi hj => hmono ((h4 i j hi hj).of_cl (V.clL_getD (List.all_eq_true.1 (by simpa [AObj.clo] using hc : r.all V.clL = true) _ (getD_row hi)) j) true))
     have hlt : i * z + j < r.length * z := by
      have : (i + 1) * z ≤ r.length * z := Nat.mul_le_mul_right _ hi
      rw [Nat.succ_mul] at this; omega
     rw [Nat.zero_add, cell_of_row w _ _ _ _ _ hg]
     have hx : xs[i * z + j]? = cur.toList[i * z + j]? := by rw [← htake, List.getElem?_take, if_pos hlt]
     have hlt2 : i * z + j < xs.length := by omega
     have hx' : cur[i * z + j]? = xs[i * z + j]? := by rw [hx]; simp
     rw [hx']; simp [List.getD, hlt2]
  ·
   exact .own _ hid h1'

theorem ML.fz (hml : ML cx mem nx ι ρ w) {id : Nat} {o : AObj} (hm : (id, o) ∈ mem) (hc : o.clo = true) : ML cx (mem.fz id o) nx ι ρ w := by
 have hin : ∀ q ∈ mem.fz id o, ∃ o', (q.1, o') ∈ mem ∧ q.1 ≠ id ∧ q.2 = o'.fz id o := fun q hq => mem_fz hq
 have hb : ∀ q ∈ mem.fz id o, ∃ p ∈ mem, q = (p.1, p.2.fz id o) ∧ blk ι ρ q = blk ι ρ p := by
  intro q hq
  obtain ⟨o', h1, h2, h3⟩ := hin q hq
  obtain ⟨i, oq⟩ := q
  simp only at h1 h3; subst h3
  exact ⟨_, h1, rfl, blk_fz _ _ _ _⟩
 refine ⟨hml.os, hml.tape, hml.output, hml.size, hml.old, ?_, ?_, ?_, ?_, hml.xlt, ?_⟩
 ·
  intro p hp q hq e
  obtain ⟨p', hp', rfl, -⟩ := hb p hp
  obtain ⟨q', hq', rfl, -⟩ := hb q hq
  rw [hml.keys p' hp' q' hq' e]
 ·
  intro p hp; obtain ⟨p', hp', rfl, -⟩ := hb p hp; exact hml.lt p' hp'
 ·
  intro p hp b hpb; obtain ⟨p', hp', -, e⟩ := hb p hp; rw [e] at hpb; exact hml.own p' hp' b hpb
 ·
  intro p hp q hq b hpb hqb
  obtain ⟨p', hp', rfl, e1⟩ := hb p hp
  obtain ⟨q', hq', rfl, e2⟩ := hb q hq
  rw [e1] at hpb; rw [e2] at hqb
  rw [hml.inj p' hp' q' hq' b hpb hqb]
 ·
  intro q hq
  obtain ⟨p, hp, rfl, -⟩ := hb q hq
  have := hml.obj p hp
  obtain ⟨i, op⟩ := p
  cases op with
  | cells cs =>
   obtain ⟨vals, e, h1, h2, h3, h4⟩ := this
   refine ⟨vals, e, h1, by rw [V.fzL_length]; exact h2, fun j hj => ?_, fun j hj => ?_⟩
   ·
    rw [V.fzL_length] at hj; rw [V.fzL_getD]; exact V.sc_fz _ _ (h3 j hj)
   ·
    rw [V.fzL_length] at hj; rw [V.fzL_getD]; exact Rel.fz hml hm hc (h4 j hj)
  | row e z r =>
   obtain ⟨xs, h1, h2, h3, h4⟩ := this
   refine ⟨xs, h1, h2, h3, fun i j hi hj => ?_⟩
   exact (h4 i j hi hj).mono (fun a y hc hn => ⟨hc, fun h => hn (OO_fz h)⟩) (fun _ _ => ⟨rfl, rfl⟩) (Nat.le_refl _)
  | orow e z r =>
   obtain ⟨xs, h1, h2, h3, h4⟩ := this
   refine ⟨xs, by rw [List.length_map]; exact h1, fun i hi => ?_, fun i j hi hj => ?_, fun i j hi hj => ?_⟩ <;> (rw [List.length_map] at hi; rw [mapR_getD rfl])
   ·
    rw [V.fzL_length]; exact h2 i hi
   ·
    rw [V.fzL_getD]; exact V.sc_fz _ _ (h3 i j hi hj)
   ·
    rw [V.fzL_getD]; exact Rel.fz hml hm hc (h4 i j hi hj)
  | dict es => exact this

end
/-! #### an append, at a slice of the call's own -/
section
variable {P : Program} (w : World)

theorem run_append_blk (t ty e : TypeId) (i : TypeInfo) (z : Value) (size bytes : Nat) (ht : P.underlying t = some (.slice e)) (hi : P.info? e = some i) (hz : i.zero = some z)
    (hsize : i.size = size) (hby : i.bytes = bytes) (hzs : z.cells.size = size) (hsz : 0 < size)
    (v : Value) (n : Nat) (xs : List Value) (hown : w.ownsRow 0 e size v n xs)
    (a : Addr) (m c : Nat) (news : List Value) (hl : news.length = m * size) (hnews : ∀ j u, news[j]? = some u → w.cell? (a.add j) = some u) (h1 : ∀ u ∈ news, u.oneCell' = true)
    (h63 : n + m ≤ maxLen) (hbytes : (n + m) * bytes ≤ 140737488355328) :
    ∃ v' w', (Builtin.append_ #[t, t] ty #[v, .slice (some a) m c]).run P w = .ok v' w' ∧ w'.ownsRow 0 e size v' (n + m) (xs ++ news) ∧ w.grownBy w' v.ownBlock ∧
      (∀ b, v'.ownBlock = some b → v.ownBlock = some b ∨ w.heap.size ≤ b) := by
  rcases hown.2 with ⟨hv, hn⟩ | ⟨g, cap, cur, hv, hbg, hg, hnc, hcm, hcs, htake⟩
  · subst hv; subst hn
    have hown' : w.ownsRow w.heap.size e size (.slice none 0 0) 0 xs := ⟨hown.1, .inl ⟨rfl, rfl⟩⟩
    obtain ⟨v', w', h1, h2, h3, h4⟩ := run_append_own (P := P) w w.heap.size t ty e i z size bytes ht hi hz hsize hby hzs hsz _ 0 xs hown' a m c news hl hnews h1 h63 hbytes (Nat.le_refl _)
    refine ⟨v', w', h1, ⟨h2.1, ?_⟩, h3, fun b hb => .inr (h2.lt b hb).1⟩
    rcases h2.2 with h | ⟨g, cap, cur, hv, _, rest⟩
    · exact .inl h
    · exact .inr ⟨g, cap, cur, hv, by omega, rest⟩
  · subst hv
    by_cases hroom : n + m ≤ cap
    · obtain ⟨w', h1, h2, h3⟩ := run_append_fits (P := P) w 0 t ty e i size ht hi hsize g n cap xs hown a m c news hl hnews h1 hroom
      exact ⟨_, w', h1, h2, h3, fun b hb => .inl hb⟩
    · subst hsize; subst hby
      have hlen : (xs ++ news).length = (n + m) * i.size := by rw [List.length_append, hown.1, hl, Nat.add_mul]
      have hsmall : n + m ≤ 9223372036854775807 := by simp only [maxLen] at h63; omega
      have holds : ∀ j u, xs[j]? = some u → w.cell? ((⟨g, 0, none⟩ : Addr).add j) = some u := hown.cells (g := g) rfl
      have hr := run_append_grow (P := P) w t ty e i z ht hi hz ⟨g, 0, none⟩ n cap xs hown.1 holds a m c news hl hnews (by omega) (by omega) (growslice_fits (by omega) hbytes)
      have hge := grownCap_ge w (n + m) cap e
      have hcm2 : grownCap w (n + m) cap e ≤ maxLen := grownCap_le_maxLen w (n + m) cap e h63
      refine ⟨_, _, hr, ⟨hlen, .inr ⟨w.heap.size, _, _, rfl, by omega, heap_alloc_new w.drew _, hge, hcm2, ?_, ?_⟩⟩, ⟨rfl, rfl, rfl, by simp, fun k hk _ => heap_alloc_old w.drew _ hk⟩, fun b hb => .inr ?_⟩
      · simp only [Array.size_append, List.size_toArray, size_zeroCells, hzs, hown.1, hl, ← Nat.add_mul]
        congr 1
        omega
      · simp only [Array.toList_append, List.append_assoc]
        rw [← List.append_assoc, ← hlen]
        exact List.take_left
      · simp [Value.ownBlock] at hb; omega
end

section
variable {P : Program} (w : World)
theorem run_append_full (t ty e : TypeId) (i : TypeInfo) (z : Value) (size bytes : Nat) (ht : P.underlying t = some (.slice e)) (hi : P.info? e = some i) (hz : i.zero = some z)
    (hsize : i.size = size) (hby : i.bytes = bytes) (hzs : z.cells.size = size) (ad : Addr) (n : Nat) (xs : List Value) (hxl : xs.length = n * size) (hxs : ∀ j u, xs[j]? = some u → w.cell? (ad.add j) = some u)
    (a : Addr) (m c : Nat) (news : List Value) (hl : news.length = m * size) (hnews : ∀ j u, news[j]? = some u → w.cell? (a.add j) = some u) (h0 : 0 < m)
    (h63 : n + m ≤ maxLen) (hbytes : (n + m) * bytes ≤ 140737488355328) :
    ∃ v' w', (Builtin.append_ #[t, t] ty #[.slice (some ad) n n, .slice (some a) m c]).run P w = .ok v' w' ∧ w'.ownsRow 0 e size v' (n + m) (xs ++ news) ∧ w.grownBy w' none ∧
      (∀ b, v'.ownBlock = some b → w.heap.size ≤ b) := by
  subst hsize; subst hby
  have hlen : (xs ++ news).length = (n + m) * i.size := by rw [List.length_append, hxl, hl, Nat.add_mul]
  have hsmall : n + m ≤ 9223372036854775807 := by simp only [maxLen] at h63; omega
  have hr := run_append_grow (P := P) w t ty e i z ht hi hz ad n n xs hxl hxs a m c news hl hnews (by omega) (by omega) (growslice_fits (by omega) hbytes)
  have hge := grownCap_ge w (n + m) n e
  have hcm2 : grownCap w (n + m) n e ≤ maxLen := grownCap_le_maxLen w (n + m) n e h63
  refine ⟨_, _, hr, ⟨hlen, .inr ⟨w.heap.size, _, _, rfl, Nat.zero_le _, heap_alloc_new w.drew _, hge, hcm2, ?_, ?_⟩⟩, ⟨rfl, rfl, rfl, by simp, fun k hk _ => heap_alloc_old w.drew _ hk⟩, fun b hb => ?_⟩
  · simp only [Array.size_append, List.size_toArray, size_zeroCells, hzs, hxl, hl, ← Nat.add_mul]
    congr 1
    omega
  · simp only [Array.toList_append, List.append_assoc]
    rw [← List.append_assoc, ← hlen]
    exact List.take_left
  · simp [Value.ownBlock] at hb; omega
end

/-- The rows of a slice, laid one after the other. -/
def RowsC (c : Bool) (w : World) (O : Nat → Prop) (ι : Nat → Nat) (ρ : Nat → Value) (nx : Nat) (esz : Nat) (rows : List (List V)) (xs : List Value) : Prop :=
  xs.length = rows.length * esz ∧ (∀ i, i < rows.length → (rows.getD i []).length = esz) ∧
  (∀ i j, i < rows.length → j < esz → ((rows.getD i []).getD j .any).sc = true) ∧
  ∀ i j, i < rows.length → j < esz → Rel w O ι ρ nx c ((rows.getD i []).getD j .any) (xs.getD (i * esz + j) undef)
abbrev RowsR (w : World) (O : Nat → Prop) (ι : Nat → Nat) (ρ : Nat → Value) (nx : Nat) (esz : Nat) (rows : List (List V)) (xs : List Value) : Prop := RowsC true w O ι ρ nx esz rows xs

theorem cellIdx {i j n z : Nat} (hi : i < n) (hj : j < z) : i * z + j < n * z := by
  have : (i + 1) * z ≤ n * z := Nat.mul_le_mul_right _ hi
  rw [Nat.succ_mul] at this; omega

section
variable {cx : Cx} {mem : Mem} {nx : Nat} {ι : Nat → Nat} {ρ : Nat → Value} {w : World}

theorem RowsR.append {O : Nat → Prop} {esz : Nat} {r r' : List (List V)} {xs xs' : List Value} (h : RowsR w O ι ρ nx esz r xs) (h' : RowsR w O ι ρ nx esz r' xs') :
    RowsR w O ι ρ nx esz (r ++ r') (xs ++ xs') := by
  have eL : ∀ i, i < r.length → (r ++ r').getD i [] = r.getD i [] := fun i hi => by simp [List.getD, List.getElem?_append_left hi]
  have eR : ∀ i, r.length ≤ i → (r ++ r').getD i [] = r'.getD (i - r.length) [] := fun i hi => by simp [List.getD, List.getElem?_append_right hi]
  refine ⟨by rw [List.length_append, List.length_append, h.1, h'.1, Nat.add_mul], fun i hi => ?_, fun i j hi hj => ?_, fun i j hi hj => ?_⟩ <;> rw [List.length_append] at hi <;> by_cases hlt : i < r.length
  · rw [eL i hlt]; exact h.2.1 i hlt
  · rw [eR i (by omega)]; exact h'.2.1 _ (by omega)
  · rw [eL i hlt]; exact h.2.2.1 i j hlt hj
  · rw [eR i (by omega)]; exact h'.2.2.1 _ j (by omega) hj
  · rw [eL i hlt]
    have := cellIdx hlt hj
    have e : (xs ++ xs').getD (i * esz + j) undef = xs.getD (i * esz + j) undef := by simp [List.getD, List.getElem?_append_left (show i * esz + j < xs.length by rw [h.1]; exact this)]
    rw [e]; exact h.2.2.2 i j hlt hj
  · rw [eR i (by omega)]
    have h1 : xs.length ≤ i * esz + j := by
      rw [h.1]; have := Nat.mul_le_mul_right esz (show r.length ≤ i by omega); omega
    have e : (xs ++ xs').getD (i * esz + j) undef = xs'.getD ((i - r.length) * esz + j) undef := by
      simp only [List.getD, List.getElem?_append_right h1]
      have : i * esz + j - xs.length = (i - r.length) * esz + j := by
        rw [h.1, Nat.sub_mul]; have := Nat.mul_le_mul_right esz (show r.length ≤ i by omega); omega
      rw [this]
    rw [e]; exact h'.2.2.2 _ j (by omega) hj

theorem RowsR.one {O : Nat → Prop} {esz : Nat} {r : List (List V)} {xs : List Value} (h : RowsR w O ι ρ nx esz r xs) : ∀ u ∈ xs, u.oneCell' = true := by
  intro u hu
  obtain ⟨k, hk, rfl⟩ := List.getElem_of_mem hu
  have hz : 0 < esz := by
    rcases Nat.eq_zero_or_pos esz with e | e
    · rw [h.1, e] at hk; omega
    · exact e
  rw [h.1] at hk
  have hi : k / esz < r.length := (Nat.div_lt_iff_lt_mul hz).2 hk
  have hj : k % esz < esz := Nat.mod_lt _ hz
  have hd : k / esz * esz + k % esz = k := by rw [Nat.mul_comm]; exact Nat.div_add_mod k esz
  have h1 := (h.2.2.2 _ _ hi hj).sc_one (h.2.2.1 _ _ hi hj)
  rw [hd] at h1
  simpa [List.getD, show k < xs.length by rw [h.1]; exact hk] using h1

/-- A slice whose rows stand at a value: its real cells. -/
theorem Rel.sl_rows {O : Nat → Prop} {c : Bool} {esz : Nat} {rows : List (List V)} {b off len cap : Nat} (h : Rel w O ι ρ nx c (.sl esz rows) (.slice (some ⟨b, off, none⟩) len cap)) :
    len = rows.length ∧ ∃ xs : List Value, RowsR w O ι ρ nx esz rows xs ∧ ∀ j u, xs[j]? = some u → w.cell? ⟨b, off + j, none⟩ = some u := by
  cases h with
  | slnil => exact ⟨rfl, [], ⟨by simp, by simp, by simp, by simp⟩, fun j u hj => by simp at hj⟩
  | sl _ _ _ _ _ _ _ xs hl hc hm hz hs hx hr =>
    refine ⟨hl, (List.range (rows.length * esz)).map fun k => xs (k / esz) (k % esz), ⟨by simp, hz, hs, fun i j hi hj => ?_⟩, fun k u hk => ?_⟩
    · have := cellIdx hi hj
      have e1 : (i * esz + j) / esz = i := by rw [Nat.mul_comm, Nat.mul_add_div (by omega), Nat.div_eq_of_lt hj]; omega
      have e2 : (i * esz + j) % esz = j := by rw [Nat.mul_comm, Nat.mul_add_mod, Nat.mod_eq_of_lt hj]
      have e : ((List.range (rows.length * esz)).map fun k => xs (k / esz) (k % esz)).getD (i * esz + j) undef = xs i j := by
        simp [List.getD, this, e1, e2]
      rw [e]; exact hr i j hi hj
    · have hlt : k < rows.length * esz := by
        have := (List.getElem?_eq_some_iff.1 hk).1; simpa using this
      have hz0 : 0 < esz := by rcases Nat.eq_zero_or_pos esz with e | e; · rw [e] at hlt; omega
                               · exact e
      have hi : k / esz < rows.length := (Nat.div_lt_iff_lt_mul hz0).2 hlt
      have hj : k % esz < esz := Nat.mod_lt _ hz0
      have hd : k / esz * esz + k % esz = k := by rw [Nat.mul_comm]; exact Nat.div_add_mod k esz
      have := (hx _ _ hi hj).1
      rw [hd] at this
      rw [this]
      simp [hlt] at hk
      rw [hk]

theorem OR_row {O : Nat → Prop} {id : Nat} {e esz : Nat} {rows : List (List V)} : OR w O ι ρ nx id (.row e esz rows) ↔ ∃ xs, w.ownsRow 0 e esz (ρ id) rows.length xs ∧ RowsR w O ι ρ nx esz rows xs :=
  ⟨fun ⟨xs, h1, h2, h3, h4⟩ => ⟨xs, h1, h1.1, h2, h3, h4⟩, fun ⟨xs, h1, _, h2, h3, h4⟩ => ⟨xs, h1, h2, h3, h4⟩⟩

theorem OR_orow {O : Nat → Prop} {id : Nat} {e esz : Nat} {rows : List (List V)} : OR w O ι ρ nx id (.orow e esz rows) ↔ ∃ xs, w.ownsRow 0 e esz (ρ id) rows.length xs ∧ RowsC false w O ι ρ nx esz rows xs :=
  ⟨fun ⟨xs, h1, h2, h3, h4⟩ => ⟨xs, h1, h1.1, h2, h3, h4⟩, fun ⟨xs, h1, _, h2, h3, h4⟩ => ⟨xs, h1, h2, h3, h4⟩⟩
theorem RowsC.mono {c : Bool} {w' : World} {O O' : Nat → Prop} {ι' : Nat → Nat} {ρ' : Nat → Value} {nx' : Nat} {esz : Nat} {rows : List (List V)} {xs : List Value}
    (hk : ∀ c v x, Rel w O ι ρ nx c v x → Rel w' O' ι' ρ' nx' c v x) (h : RowsC c w O ι ρ nx esz rows xs) : RowsC c w' O' ι' ρ' nx' esz rows xs :=
  ⟨h.1, h.2.1, h.2.2.1, fun i j hi hj => hk _ _ _ (h.2.2.2 i j hi hj)⟩

theorem RowsR.mono {w' : World} {O O' : Nat → Prop} {ι' : Nat → Nat} {ρ' : Nat → Value} {nx' : Nat} {esz : Nat} {rows : List (List V)} {xs : List Value}
    (hk : ∀ c v x, Rel w O ι ρ nx c v x → Rel w' O' ι' ρ' nx' c v x) (h : RowsR w O ι ρ nx esz rows xs) : RowsR w' O' ι' ρ' nx' esz rows xs :=
  ⟨h.1, h.2.1, h.2.2.1, fun i j hi hj => hk _ _ _ (h.2.2.2 i j hi hj)⟩

/-- The slice 'id' has grown: its elder value is no more in hand; the new one stands under the next number. -/
theorem ML.regrow (h : ML cx mem nx ι ρ w) {id : Nat} {e z : Nat} {rows rows' : List (List V)} (hm : (id, .row e z rows) ∈ mem) {w' : World} {v' : Value} {xs' : List Value}
    (hg : w.grownBy w' (ρ id).ownBlock) (hown : w'.ownsRow 0 e z v' rows'.length xs') (hb : ∀ b, v'.ownBlock = some b → (ρ id).ownBlock = some b ∨ w.heap.size ≤ b)
    (hr : RowsR w (OO cx.X mem ι ρ) ι ρ nx z rows' xs') :
    ML cx ((nx, .row e z rows') :: mem.filter (·.1 ≠ id)) (nx + 1) ι (fun i => if i = nx then v' else ρ i) w' ∧
    Kp cx mem nx ι ρ w ((nx, .row e z rows') :: mem.filter (·.1 ≠ id)) (nx + 1) ι (fun i => if i = nx then v' else ρ i) w' ∧
    MR cx ((nx, .row e z rows') :: mem.filter (·.1 ≠ id)) (nx + 1) ι (fun i => if i = nx then v' else ρ i) w' (.own nx) v' := by
  have hρ : ∀ i, i < nx → (fun i => if i = nx then v' else ρ i) i = ρ i := fun i hi => if_neg (by omega)
  have hblk' : ∀ p ∈ mem, blk ι (fun i => if i = nx then v' else ρ i) p = blk ι ρ p := by
    rintro ⟨i, o⟩ hp
    have := hρ i (h.lt _ hp)
    cases o
    · rfl
    · simp only [blk] at this ⊢; rw [this]
    · simp only [blk] at this ⊢; rw [this]
    · rfl
  have hfil : ∀ p, p ∈ mem.filter (·.1 ≠ id) → p ∈ mem ∧ p.1 ≠ id := fun p hp => by simpa using List.mem_filter.1 hp
  have hnew : ∀ b, blk ι (fun i => if i = nx then v' else ρ i) (nx, .row e z rows') = some b → (ρ id).ownBlock = some b ∨ w.heap.size ≤ b := fun b hb' => hb b (by simpa [blk] using hb')
  have hO : ∀ b, b < w.heap.size → OO cx.X ((nx, .row e z rows') :: mem.filter (·.1 ≠ id)) ι (fun i => if i = nx then v' else ρ i) b → OO cx.X mem ι ρ b := by
    rintro b hlt (hx | ⟨p, hp, hpb⟩)
    · exact .inl hx
    · rcases List.mem_cons.1 hp with rfl | hp
      · rcases hnew b hpb with h1 | h1
        · exact .inr ⟨_, hm, h1⟩
        · omega
      · have := hfil p hp; exact .inr ⟨p, this.1, by rw [← hblk' p this.1]; exact hpb⟩
  have hstill : ∀ b, b < w.heap.size → (ρ id).ownBlock ≠ some b → w'.heap[b]? = w.heap[b]? := fun b hb hne => hg.block b hb (fun e => hne e.symm)
  have hk : Kp cx mem nx ι ρ w ((nx, .row e z rows') :: mem.filter (·.1 ≠ id)) (nx + 1) ι (fun i => if i = nx then v' else ρ i) w' := fun c v x hr => by
    refine hr.mono (fun a y hc hno => ?_) (fun i hi => ⟨rfl, hρ i hi⟩) (by omega)
    have hlt := block_lt_of_vu hc
    exact ⟨vu_of_block hc (hstill _ hlt fun e => hno (.inr ⟨_, hm, e⟩)), fun hn => hno (hO _ hlt hn)⟩
  have hsz := hg.size
  have hownb := h.own _ hm
  refine ⟨⟨hg.os.trans h.os, hg.tape.trans h.tape, hg.output.trans h.output, by have := h.size; omega, fun b hb hd => ?_, ?_, ?_, ?_, ?_, h.xlt, ?_⟩, hk, ?_⟩
  · rw [hstill b (Nat.lt_of_lt_of_le hb h.size)]; exact h.old b hb hd
    intro hbb
    rcases (hownb b hbb).2.1 with h1 | h1
    · omega
    · exact hd h1
  · intro p hp q hq e'
    rcases List.mem_cons.1 hp with rfl | hp <;> rcases List.mem_cons.1 hq with rfl | hq
    · rfl
    · have := h.lt q (hfil q hq).1; simp at e'; omega
    · have := h.lt p (hfil p hp).1; simp at e'; omega
    · exact h.keys p (hfil p hp).1 q (hfil q hq).1 e'
  · intro p hp
    rcases List.mem_cons.1 hp with rfl | hp
    · simp
    · have := h.lt p (hfil p hp).1; omega
  · intro p hp b hpb
    rcases List.mem_cons.1 hp with rfl | hp
    · have hlt : b < w'.heap.size := (hown.lt b (by simpa [blk] using hpb)).2
      rcases hnew b hpb with h1 | h1
      · exact ⟨hlt, (hownb b h1).2⟩
      · exact ⟨hlt, .inl (by have := h.size; omega), fun hx => by have := h.xlt.lt _ hx; have := h.size; omega⟩
    · rw [hblk' p (hfil p hp).1] at hpb
      have := h.own p (hfil p hp).1 b hpb
      exact ⟨by omega, this.2⟩
  · have key : ∀ q ∈ mem.filter (·.1 ≠ id), ∀ b, blk ι (fun i => if i = nx then v' else ρ i) (nx, .row e z rows') = some b → blk ι (fun i => if i = nx then v' else ρ i) q = some b → False := by
      intro q hq b h1 h2
      have hq' := hfil q hq
      rw [hblk' q hq'.1] at h2
      rcases hnew b h1 with h3 | h3
      · have := h.inj q hq'.1 _ hm b h2 h3; exact hq'.2 (by rw [this])
      · have := (h.own q hq'.1 b h2).1; omega
    intro p hp q hq b hpb hqb
    rcases List.mem_cons.1 hp with rfl | hp <;> rcases List.mem_cons.1 hq with rfl | hq
    · rfl
    · exact (key q hq b hpb hqb).elim
    · exact (key p hp b hqb hpb).elim
    · rw [hblk' p (hfil p hp).1] at hpb; rw [hblk' q (hfil q hq).1] at hqb; exact h.inj p (hfil p hp).1 q (hfil q hq).1 b hpb hqb
  · intro p hp
    rcases List.mem_cons.1 hp with rfl | hp
    · exact OR_row.2 ⟨xs', by simpa using hown, hr.mono hk⟩
    · have hp' := hfil p hp
      refine OR.mono hk rfl (hρ _ (h.lt p hp'.1)) (fun b hb => hstill b (h.own p hp'.1 b hb).1 fun e => ?_) (h.obj p hp'.1)
      have := h.inj p hp'.1 _ hm b hb e
      exact hp'.2 (by rw [this])
  · have h1 : v'.oneCell' = true := by
      rcases hown.2 with h | ⟨g, cap, cur, h, _⟩
      · rw [h.1]; rfl
      · rw [h]; rfl
    have := Rel.own (w := w') (O := OO cx.X ((nx, .row e z rows') :: mem.filter (·.1 ≠ id)) ι (fun i => if i = nx then v' else ρ i)) (ι := ι) (ρ := fun i => if i = nx then v' else ρ i) (nx := nx + 1) nx (by omega) (by simpa using h1)
    simpa [MR] using this

/-- The nil slice, as one of the call's own that has not grown yet. -/
theorem ML.addNil (h : ML cx mem nx ι ρ w) (e z : Nat) :
    ML cx ((nx, .row e z []) :: mem) (nx + 1) ι (fun i => if i = nx then .slice none 0 0 else ρ i) w ∧
    Kp cx mem nx ι ρ w ((nx, .row e z []) :: mem) (nx + 1) ι (fun i => if i = nx then .slice none 0 0 else ρ i) w := by
  have hρ : ∀ i, i < nx → (fun i => if i = nx then (.slice none 0 0 : Value) else ρ i) i = ρ i := fun i hi => if_neg (by omega)
  have hblk' : ∀ p ∈ mem, blk ι (fun i => if i = nx then .slice none 0 0 else ρ i) p = blk ι ρ p := by
    rintro ⟨i, o⟩ hp
    have := hρ i (h.lt _ hp)
    cases o
    · rfl
    · simp only [blk] at this ⊢; rw [this]
    · simp only [blk] at this ⊢; rw [this]
    · rfl
  have hn : ∀ b, blk ι (fun i => if i = nx then (.slice none 0 0 : Value) else ρ i) (nx, .row e z []) ≠ some b := fun b => by simp [blk, Value.ownBlock]
  have hO : ∀ b, OO cx.X ((nx, .row e z []) :: mem) ι (fun i => if i = nx then .slice none 0 0 else ρ i) b → OO cx.X mem ι ρ b := by
    rintro b (hx | ⟨p, hp, hpb⟩)
    · exact .inl hx
    · rcases List.mem_cons.1 hp with rfl | hp
      · exact (hn b hpb).elim
      · exact .inr ⟨p, hp, by rw [← hblk' p hp]; exact hpb⟩
  have hk : Kp cx mem nx ι ρ w ((nx, .row e z []) :: mem) (nx + 1) ι (fun i => if i = nx then .slice none 0 0 else ρ i) w := fun c v x hr =>
    hr.mono (fun a y hc hno => ⟨hc, fun hn => hno (hO _ hn)⟩) (fun i hi => ⟨rfl, hρ i hi⟩) (by omega)
  refine ⟨⟨h.os, h.tape, h.output, h.size, h.old, ?_, ?_, ?_, ?_, h.xlt, ?_⟩, hk⟩
  · intro p hp q hq e'
    rcases List.mem_cons.1 hp with rfl | hp <;> rcases List.mem_cons.1 hq with rfl | hq
    · rfl
    · have := h.lt q hq; simp at e'; omega
    · have := h.lt p hp; simp at e'; omega
    · exact h.keys p hp q hq e'
  · intro p hp
    rcases List.mem_cons.1 hp with rfl | hp
    · simp
    · have := h.lt p hp; omega
  · intro p hp b hpb
    rcases List.mem_cons.1 hp with rfl | hp
    · exact (hn b hpb).elim
    · rw [hblk' p hp] at hpb; exact h.own p hp b hpb
  · intro p hp q hq b hpb hqb
    rcases List.mem_cons.1 hp with rfl | hp <;> rcases List.mem_cons.1 hq with rfl | hq
    · rfl
    · exact (hn b hpb).elim
    · exact (hn b hqb).elim
    · rw [hblk' p hp] at hpb; rw [hblk' q hq] at hqb; exact h.inj p hp q hq b hpb hqb
  · intro p hp
    rcases List.mem_cons.1 hp with rfl | hp
    · exact OR_row.2 ⟨[], by simpa using World.ownsRow_nil w 0 e z, by simp, by simp, by simp, by simp⟩
    · exact OR.mono hk rfl (hρ _ (h.lt p hp)) (fun b hb => rfl) (h.obj p hp)

/-- A store into a slice of the call's own. -/
theorem ML.storeRow (h : ML cx mem nx ι ρ w) {id : Nat} {e z : Nat} {rows rows' : List (List V)} (hm : (id, .row e z rows) ∈ mem) {g : Nat} (hg : (ρ id).ownBlock = some g) (cur' : Array Value) {xs' : List Value}
    (hown : (w.setRow g cur').ownsRow 0 e z (ρ id) rows'.length xs') (hr : RowsR w (OO cx.X mem ι ρ) ι ρ nx z rows' xs') :
    ML cx (mem.map fun p => if p.1 = id then (id, .row e z rows') else p) nx ι ρ (w.setRow g cur') ∧
    Kp cx mem nx ι ρ w (mem.map fun p => if p.1 = id then (id, .row e z rows') else p) nx ι ρ (w.setRow g cur') := by
  have hin : ∀ q, q ∈ (mem.map fun p => if p.1 = id then (id, AObj.row e z rows') else p) → ∃ p ∈ mem, q = (if p.1 = id then (id, AObj.row e z rows') else p) ∧ blk ι ρ q = blk ι ρ p ∧ q.1 = p.1 := by
    intro q hq
    obtain ⟨p, hp, rfl⟩ := List.mem_map.1 hq
    refine ⟨p, hp, rfl, ?_⟩
    by_cases hpid : p.1 = id
    · have : p = (id, .row e z rows) := h.keys p hp _ hm hpid
      subst this; simp [blk]
    · simp [hpid]
  have hO : ∀ b, OO cx.X (mem.map fun p => if p.1 = id then (id, AObj.row e z rows') else p) ι ρ b → OO cx.X mem ι ρ b := by
    rintro b (hx | ⟨q, hq, hqb⟩)
    · exact .inl hx
    · obtain ⟨p, hp, -, hpb, -⟩ := hin q hq
      exact .inr ⟨p, hp, by rw [← hpb]; exact hqb⟩
  have hblk : blk ι ρ (id, .row e z rows) = some g := hg
  have hown' : OO cx.X mem ι ρ g := .inr ⟨_, hm, hblk⟩
  have hk : Kp cx mem nx ι ρ w (mem.map fun p => if p.1 = id then (id, AObj.row e z rows') else p) nx ι ρ (w.setRow g cur') := fun c v x hr => by
    refine hr.mono (fun a y hc hno => ?_) (fun _ _ => ⟨rfl, rfl⟩) (Nat.le_refl _)
    have hne : a.block ≠ g := fun e => hno (e ▸ hown')
    exact ⟨vu_of_block hc (setRow_other w _ _ _ hne), fun hn => hno (hO _ hn)⟩
  have hidown := h.own _ hm g hblk
  refine ⟨⟨h.os, h.tape, h.output, by simpa using h.size, fun b hb hd => ?_, ?_, ?_, ?_, ?_, h.xlt, ?_⟩, hk⟩
  · rw [setRow_other]; exact h.old b hb hd
    rintro rfl
    rcases hidown.2.1 with h1 | h1
    · omega
    · exact hd h1
  · intro p hp q hq e
    obtain ⟨p', hp', rfl, -, e1⟩ := hin p hp
    obtain ⟨q', hq', rfl, -, e2⟩ := hin q hq
    have : p' = q' := h.keys p' hp' q' hq' (by rw [← e1, ← e2]; exact e)
    rw [this]
  · intro p hp; obtain ⟨p', hp', -, -, e1⟩ := hin p hp; rw [e1]; exact h.lt p' hp'
  · intro p hp b hb; obtain ⟨p', hp', -, e1, -⟩ := hin p hp; rw [e1] at hb
    have := h.own p' hp' b hb; exact ⟨by simpa using this.1, this.2⟩
  · intro p hp q hq b hpb hqb
    obtain ⟨p', hp', rfl, e1, -⟩ := hin p hp
    obtain ⟨q', hq', rfl, e2, -⟩ := hin q hq
    have : p' = q' := h.inj p' hp' q' hq' b (by rw [← e1]; exact hpb) (by rw [← e2]; exact hqb)
    rw [this]
  · intro q hq
    obtain ⟨p, hp, rfl, -, -⟩ := hin q hq
    by_cases hpid : p.1 = id
    · simp only [hpid, if_true]
      exact OR_row.2 ⟨xs', hown, hr.mono hk⟩
    · simp only [hpid, if_false]
      refine OR.mono hk rfl rfl (fun b hb => setRow_other w _ _ _ ?_) (h.obj p hp)
      rintro rfl
      have := h.inj p hp _ hm b hb hblk
      exact hpid (by rw [this])

/-- A store into a slice of the call's own whose rows may name others. -/
theorem ML.storeRowO (h : ML cx mem nx ι ρ w) {id : Nat} {e z : Nat} {rows rows' : List (List V)} (hm : (id, .orow e z rows) ∈ mem) {g : Nat} (hg : (ρ id).ownBlock = some g) (cur' : Array Value) {xs' : List Value}
    (hown : (w.setRow g cur').ownsRow 0 e z (ρ id) rows'.length xs') (hr : RowsC false w (OO cx.X mem ι ρ) ι ρ nx z rows' xs') :
    ML cx (mem.map fun p => if p.1 = id then (id, .orow e z rows') else p) nx ι ρ (w.setRow g cur') ∧
    Kp cx mem nx ι ρ w (mem.map fun p => if p.1 = id then (id, .orow e z rows') else p) nx ι ρ (w.setRow g cur') := by
  have hin : ∀ q, q ∈ (mem.map fun p => if p.1 = id then (id, AObj.orow e z rows') else p) → ∃ p ∈ mem, q = (if p.1 = id then (id, AObj.orow e z rows') else p) ∧ blk ι ρ q = blk ι ρ p ∧ q.1 = p.1 := by
    intro q hq
    obtain ⟨p, hp, rfl⟩ := List.mem_map.1 hq
    refine ⟨p, hp, rfl, ?_⟩
    by_cases hpid : p.1 = id
    · have : p = (id, .orow e z rows) := h.keys p hp _ hm hpid
      subst this; simp [blk]
    · simp [hpid]
  have hO : ∀ b, OO cx.X (mem.map fun p => if p.1 = id then (id, AObj.orow e z rows') else p) ι ρ b → OO cx.X mem ι ρ b := by
    rintro b (hx | ⟨q, hq, hqb⟩)
    · exact .inl hx
    · obtain ⟨p, hp, -, hpb, -⟩ := hin q hq
      exact .inr ⟨p, hp, by rw [← hpb]; exact hqb⟩
  have hblk : blk ι ρ (id, .orow e z rows) = some g := hg
  have hown' : OO cx.X mem ι ρ g := .inr ⟨_, hm, hblk⟩
  have hk : Kp cx mem nx ι ρ w (mem.map fun p => if p.1 = id then (id, AObj.orow e z rows') else p) nx ι ρ (w.setRow g cur') := fun c v x hr => by
    refine hr.mono (fun a y hc hno => ?_) (fun _ _ => ⟨rfl, rfl⟩) (Nat.le_refl _)
    have hne : a.block ≠ g := fun e => hno (e ▸ hown')
    exact ⟨vu_of_block hc (setRow_other w _ _ _ hne), fun hn => hno (hO _ hn)⟩
  have hidown := h.own _ hm g hblk
  refine ⟨⟨h.os, h.tape, h.output, by simpa using h.size, fun b hb hd => ?_, ?_, ?_, ?_, ?_, h.xlt, ?_⟩, hk⟩
  · rw [setRow_other]; exact h.old b hb hd
    rintro rfl
    rcases hidown.2.1 with h1 | h1
    · omega
    · exact hd h1
  · intro p hp q hq e
    obtain ⟨p', hp', rfl, -, e1⟩ := hin p hp
    obtain ⟨q', hq', rfl, -, e2⟩ := hin q hq
    have : p' = q' := h.keys p' hp' q' hq' (by rw [← e1, ← e2]; exact e)
    rw [this]
  · intro p hp; obtain ⟨p', hp', -, -, e1⟩ := hin p hp; rw [e1]; exact h.lt p' hp'
  · intro p hp b hb; obtain ⟨p', hp', -, e1, -⟩ := hin p hp; rw [e1] at hb
    have := h.own p' hp' b hb; exact ⟨by simpa using this.1, this.2⟩
  · intro p hp q hq b hpb hqb
    obtain ⟨p', hp', rfl, e1, -⟩ := hin p hp
    obtain ⟨q', hq', rfl, e2, -⟩ := hin q hq
    have : p' = q' := h.inj p' hp' q' hq' b (by rw [← e1]; exact hpb) (by rw [← e2]; exact hqb)
    rw [this]
  · intro q hq
    obtain ⟨p, hp, rfl, -, -⟩ := hin q hq
    by_cases hpid : p.1 = id
    · simp only [hpid, if_true]
      exact OR_orow.2 ⟨xs', hown, hr.mono hk⟩
    · simp only [hpid, if_false]
      refine OR.mono hk rfl rfl (fun b hb => setRow_other w _ _ _ ?_) (h.obj p hp)
      rintro rfl
      have := h.inj p hp _ hm b hb hblk
      exact hpid (by rw [this])

theorem flat_upd {cl : Bool} {esz : Nat} {rows : List (List V)} {xs : List Value} {i j : Nat} {new : List V} {ys : List Value} {O : Nat → Prop} (h : RowsC cl w O ι ρ nx esz rows xs) (hi : i < rows.length) (hj : j + new.length ≤ esz) (hy : ys.length = new.length)
    (hs : ∀ k, k < new.length → (new.getD k .any).sc = true) (hr : ∀ k, k < new.length → Rel w O ι ρ nx cl (new.getD k .any) (ys.getD k undef)) :
    RowsC cl w O ι ρ nx esz (rows.set i ((rows.getD i []).take j ++ (new ++ (rows.getD i []).drop (j + new.length)))) (xs.take (i * esz + j) ++ ys ++ xs.drop (i * esz + j + ys.length)) := by
  have hlen := h.2.1 i hi
  have hb : (i + 1) * esz ≤ rows.length * esz := Nat.mul_le_mul_right _ hi
  rw [Nat.succ_mul] at hb
  have hx := h.1
  have gi : ∀ k, k < rows.length → (rows.set i ((rows.getD i []).take j ++ (new ++ (rows.getD i []).drop (j + new.length)))).getD k [] = if k = i then (rows.getD i []).take j ++ (new ++ (rows.getD i []).drop (j + new.length)) else rows.getD k [] := fun k hk => by
    simp only [List.getD, List.getElem?_set]
    by_cases e : i = k
    · subst e; simp [hk]
    · rw [if_neg e, if_neg (Ne.symm e)]
  have gr : ∀ k, ((rows.getD i []).take j ++ (new ++ (rows.getD i []).drop (j + new.length))).getD k .any = if j ≤ k ∧ k < j + new.length then new.getD (k - j) .any else (rows.getD i []).getD k .any := by
    intro k
    have ht : ((rows.getD i []).take j).length = j := by rw [List.length_take, hlen]; omega
    simp only [List.getD_eq_getElem?_getD] at ht ⊢
    by_cases k1 : k < j
    · rw [List.getElem?_append_left (by omega), List.getElem?_take, if_pos k1, if_neg (by omega)]
    · rw [List.getElem?_append_right (by omega), ht]
      by_cases k2 : k < j + new.length
      · rw [List.getElem?_append_left (by omega), if_pos (by omega)]
      · rw [List.getElem?_append_right (by omega), List.getElem?_drop, if_neg (by omega)]
        congr 2; omega
  have gx : ∀ m, (xs.take (i * esz + j) ++ ys ++ xs.drop (i * esz + j + ys.length)).getD m undef = if i * esz + j ≤ m ∧ m < i * esz + j + new.length then ys.getD (m - (i * esz + j)) undef else xs.getD m undef := by
    intro m
    have ht : (xs.take (i * esz + j)).length = i * esz + j := by rw [List.length_take]; omega
    simp only [List.getD_eq_getElem?_getD, List.append_assoc]
    by_cases k1 : m < i * esz + j
    · rw [List.getElem?_append_left (by omega), List.getElem?_take, if_pos k1, if_neg (by omega)]
    · rw [List.getElem?_append_right (by omega), ht]
      by_cases k2 : m < i * esz + j + new.length
      · rw [List.getElem?_append_left (by omega), if_pos (by omega)]
      · rw [List.getElem?_append_right (by omega), List.getElem?_drop, if_neg (by omega)]
        congr 2; omega
  have key : ∀ k s, k < rows.length → s < esz → (i * esz + j ≤ k * esz + s ∧ k * esz + s < i * esz + j + new.length ↔ k = i ∧ j ≤ s ∧ s < j + new.length) := by
    intro k s hk hs
    constructor
    · rintro ⟨h1, h2⟩
      have e : k = i := by
        rcases Nat.lt_trichotomy k i with hlt | he | hgt
        · have : (k + 1) * esz ≤ i * esz := Nat.mul_le_mul_right _ hlt
          rw [Nat.succ_mul] at this; omega
        · exact he
        · have : (i + 1) * esz ≤ k * esz := Nat.mul_le_mul_right _ hgt
          rw [Nat.succ_mul] at this; omega
      subst e; exact ⟨rfl, by omega, by omega⟩
    · rintro ⟨rfl, h1, h2⟩; exact ⟨by omega, by omega⟩
  refine ⟨?_, fun k hk => ?_, fun k s hk hs' => ?_, fun k s hk hs' => ?_⟩
  · simp only [List.length_append, List.length_take, List.length_drop, List.length_set]; omega
  · rw [List.length_set] at hk
    rw [gi k hk]
    split
    · rename_i e; subst e; simp only [List.length_append, List.length_take, List.length_drop]; omega
    · exact h.2.1 k hk
  · rw [List.length_set] at hk
    rw [gi k hk]
    split
    · rename_i e; subst e
      rw [gr]
      split
      · exact hs _ (by omega)
      · exact h.2.2.1 _ s hk hs'
    · exact h.2.2.1 k s hk hs'
  · rw [List.length_set] at hk
    rw [gi k hk, gx]
    by_cases e : k = i
    · subst e
      rw [if_pos rfl, gr]
      by_cases h2 : j ≤ s ∧ s < j + new.length
      · rw [if_pos h2, if_pos ((key k s hk hs').2 ⟨rfl, h2⟩)]
        have : k * esz + s - (k * esz + j) = s - j := by omega
        rw [this]; exact hr _ (by omega)
      · rw [if_neg h2, if_neg (fun hc => h2 ((key k s hk hs').1 hc).2)]
        exact h.2.2.2 k s hk hs'
    · rw [if_neg e, if_neg (fun hc => e ((key k s hk hs').1 hc).1)]
      exact h.2.2.2 k s hk hs'

end
def V.okp : V → Bool
 | .agg _ => true
 | v => v.sc

def CellsR (w : World) (O : Nat → Prop) (ι : Nat → Nat) (ρ : Nat → Value) (nx : Nat) (c : Bool) (cs : List V) (vs : Array Value) : Prop :=
 vs.size = cs.length ∧ (∀ i, i < cs.length → (cs.getD i .any).sc = true) ∧ ∀ i, i < cs.length → Rel w O ι ρ nx c (cs.getD i .any) (vs.getD i undef)

section
variable {w : World} {O : Nat → Prop} {ι : Nat → Nat} {ρ : Nat → Value} {nx : Nat}

theorem cells_one {x : Value} (h : x.oneCell' = true) : x.cells = #[x] := by cases x <;> first | rfl | (cases h)

theorem parts_rel {c : Bool} {v : V} {x : Value} (h : Rel w O ι ρ nx c v x) (hv : v.okp = true) : CellsR w O ι ρ nx c v.parts x.cells := by
 by_cases hs : v.sc = true
 ·
  have h1 := h.sc_one hs
  have hp : v.parts = [v] := by cases v <;> first | rfl | (cases hs)
  rw [cells_one h1, hp]
  refine ⟨rfl, fun i hi => ?_, fun i hi => ?_⟩ <;> (simp at hi; subst hi)
  ·
   simpa using hs
  ·
   simpa using h
 ·
  cases h with
  | agg _ cs vs hl hs' hr => exact ⟨hl, hs', hr⟩
  | _ => simp_all [V.okp, V.sc]

def spl (cs : List V) (off : Nat) (new : List V) : List V := cs.take off ++ (new ++ cs.drop (off + new.length))

theorem spl_length {cs new : List V} {off : Nat} (h : off + new.length ≤ cs.length) : (spl cs off new).length = cs.length := by
 simp [spl]; omega
theorem spl_getD {cs new : List V} {off : Nat} (h : off + new.length ≤ cs.length) (k : Nat) :
  (spl cs off new).getD k .any = if off ≤ k ∧ k < off + new.length then new.getD (k - off) .any else cs.getD k .any := by
 unfold spl
 have hl : (cs.take off).length = off := by simp; omega
 by_cases h1 : k < off
 ·
  rw [if_neg (by omega)]
  simp [List.getD, List.getElem?_append_left (show k < (cs.take off).length by omega), List.getElem?_take, h1]
 ·
  by_cases h2 : k < off + new.length
  ·
   rw [if_pos (by omega)]
   simp only [List.getD]
   rw [List.getElem?_append_right (by omega), hl, List.getElem?_append_left (by omega)]
  ·
   rw [if_neg (by omega)]
   simp only [List.getD]
   rw [List.getElem?_append_right (by omega), hl, List.getElem?_append_right (by omega), List.getElem?_drop]
   congr 2; omega

theorem setFold_get (off : Nat) : ∀ (l : List Value) (n : Nat) (cells : Array Value),
  ((l.zipIdx n).foldl (fun cs (p : Value × Nat) => cs.setIfInBounds (off + p.2) p.1) cells).size = cells.size ∧
  ∀ k, ((l.zipIdx n).foldl (fun cs (p : Value × Nat) => cs.setIfInBounds (off + p.2) p.1) cells)[k]? =
   if off + n ≤ k ∧ k < off + n + l.length ∧ k < cells.size then l[k - off - n]? else cells[k]?
 | [], n, cells => ⟨rfl, fun k => by simp; omega⟩
 | x :: l, n, cells => by
  obtain ⟨h1, h2⟩ := setFold_get off l (n + 1) (cells.setIfInBounds (off + n) x)
  simp only [List.zipIdx_cons, List.foldl_cons]
  refine ⟨by rw [h1]; simp, fun k => ?_⟩
  rw [h2 k]
  simp only [Array.size_setIfInBounds, List.length_cons]
  by_cases hk : off + n = k
  ·
   subst hk
   rw [if_neg (by omega)]
   by_cases hlt : off + n < cells.size
   ·
    rw [if_pos (by omega)]
    have : off + n - off - n = 0 := by omega
    simp [this, hlt]
   ·
    rw [if_neg (by omega)]
    simp [hlt]
  ·
   by_cases hc : off + (n + 1) ≤ k ∧ k < off + (n + 1) + l.length ∧ k < cells.size
   ·
    rw [if_pos hc, if_pos (by omega)]
    have : k - off - n = (k - off - (n + 1)) + 1 := by omega
    rw [this]; simp
   ·
    rw [if_neg hc, if_neg (by omega), Array.getElem?_setIfInBounds_ne hk]

theorem fold_eq (off : Nat) (nv cells : Array Value) :
  nv.zipIdx.foldl (fun cs (p : Value × Nat) => cs.setIfInBounds (off + p.2) p.1) cells = (nv.toList.zipIdx 0).foldl (fun cs (p : Value × Nat) => cs.setIfInBounds (off + p.2) p.1) cells := by
 rw [← Array.foldl_toList, Array.toList_zipIdx]

theorem CellsR.spl {c : Bool} {cs new : List V} {vs nv : Array Value} {off : Nat} (h : CellsR w O ι ρ nx c cs vs) (hn : CellsR w O ι ρ nx c new nv) (hoff : off + new.length ≤ cs.length) :
  CellsR w O ι ρ nx c (spl cs off new) (nv.zipIdx.foldl (fun cs (p : Value × Nat) => cs.setIfInBounds (off + p.2) p.1) vs) := by
 rw [fold_eq]
 obtain ⟨h1, h2⟩ := setFold_get off nv.toList 0 vs
 have hl := spl_length hoff
 have hnl : nv.toList.length = new.length := by simpa using hn.1
 refine ⟨by rw [h1, hl]; exact h.1, fun i hi => ?_, fun i hi => ?_⟩
 ·
  rw [hl] at hi; rw [spl_getD hoff]
  split
  ·
   exact hn.2.1 _ (by omega)
  ·
   exact h.2.1 _ hi
 ·
  rw [hl] at hi; rw [spl_getD hoff]
  rw [Array.getD_eq_getD_getElem?, h2 i]
  have := h.1
  split
  ·
   rename_i hc
   rw [if_pos (by omega)]
   have h3 := hn.2.2 (i - off) (by omega)
   rw [Array.getD_eq_getD_getElem?] at h3
   have e : i - off - 0 = i - off := by omega
   rw [e]; simpa using h3
  ·
   rename_i hc
   rw [if_neg (by omega)]
   have h3 := h.2.2 i hi
   rwa [Array.getD_eq_getD_getElem?] at h3

/-- Parts laid into cells. -/
def fillV (pl : List (Nat × Nat)) (cs : List V) : List (Nat × V) → (List V → Prop) → Prop
 | [], K => K cs
 | (i, v) :: rest, K =>
  match pl[i]? with
  | some (off, size) => v.okp = true ∧ v.parts.length = size ∧ off + size ≤ cs.length ∧ fillV pl (spl cs off v.parts) rest K
  | none => False

theorem fillV_sound {c : Bool} {pl : List (Nat × Nat)} {place : Nat → Option (Nat × Nat)} (hpl : ∀ i p, pl[i]? = some p → place i = some p) :
  ∀ {ps : List (Nat × V)} {xs : List (Nat × Value)} {cs : List V} {vs : Array Value} {K : List V → Prop}, fillV pl cs ps K → CellsR w O ι ρ nx c cs vs → xs.length = ps.length →
  (∀ i, i < ps.length → (xs.getD i default).1 = (ps.getD i default).1 ∧ Rel w O ι ρ nx c (ps.getD i default).2 (xs.getD i default).2) →
  ∃ vs' cs', Instr.fill place vs xs = some vs' ∧ CellsR w O ι ρ nx c cs' vs' ∧ K cs'
 | [], [], cs, vs, K, h, hc, _, _ => ⟨vs, cs, rfl, hc, h⟩
 | [], x :: xs, cs, vs, K, h, hc, hl, _ => by simp at hl
 | p :: ps, [], cs, vs, K, h, hc, hl, _ => by simp at hl
 | (i, v) :: ps, (i', x) :: xs, cs, vs, K, h, hc, hl, hr => by
  have h0 := hr 0 (by simp)
  simp at h0
  obtain ⟨rfl, h0⟩ := h0
  unfold fillV at h
  split at h
  ·
   rename_i off size hp
   obtain ⟨h1, h2, h3, h4⟩ := h
   have hpr := parts_rel h0 h1
   have hcs := hc.spl hpr (by rw [h2]; exact h3)
   obtain ⟨vs', cs', h5, h6, h7⟩ := fillV_sound hpl h4 hcs (by simpa using hl) (fun j hj => by simpa using hr (j + 1) (by simpa using hj))
   refine ⟨vs', cs', ?_, h6, h7⟩
   unfold Instr.fill
   have hcond : (decide (x.cells.size ≠ size) || decide (off + x.cells.size > vs.size)) = false := by
    rw [hpr.1, h2, hc.1]; simp; omega
   simp only [hpl _ _ hp, hcond]
   exact h5
  ·
   exact h.elim

def plT (P : Program) (t : TypeId) : Option (List (Nat × Nat)) :=
 match P.underlying t with
 | some (.array n e) => (P.info? e).map fun ie => (List.range n).map fun i => (i * ie.size, ie.size)
 | some (.struct fields) => fields.toList.mapM (fun f => (P.info? f.type).map fun i => (f.offset, i.size))
 | _ => none

theorem CellsR.zero {P : Program} {t : TypeId} {zs : List V} (c : Bool) (h : zeroT P t = some zs) (hs : zs.all V.sc = true) : ∃ i z, P.info? t = some i ∧ i.zero = some z ∧ CellsR w O ι ρ nx c zs z.cells := by
 unfold zeroT at h
 cases hi : P.info? t with
 | none => simp [hi] at h
 | some i =>
  cases hz : i.zero with
  | none => simp [hi, hz] at h
  | some z =>
   simp [hi, hz] at h
   subst h
   refine ⟨i, z, rfl, hz, by simp, fun j hj => ?_, fun j hj => ?_⟩
   ·
    simp at hj
    have := List.all_eq_true.1 hs (ofVal z.cells[j]) (List.mem_map.2 ⟨_, by simp, rfl⟩)
    simpa [List.getD, hj] using this
   ·
    simp at hj
    simp only [List.getD, List.getElem?_map, Array.getElem?_toList, Array.getElem?_eq_getElem hj, Option.map_some, Option.getD_some, Array.getD, dif_pos hj]
    exact .const ..

/-- A struct or an array, of its parts. -/
def buildV (z : Option (List V)) (pl : Option (List (Nat × Nat))) (ps : List (Nat × V)) (K : V → Prop) : Prop :=
 match z, pl with
 | some zs, some pl => zs.all V.sc = true ∧ fillV pl zs ps fun cs => K (.agg cs)
 | _, _ => False

theorem CellsR.agg {c : Bool} {cs : List V} {vs : Array Value} (h : CellsR w O ι ρ nx c cs vs) : Rel w O ι ρ nx c (.agg cs) (.agg vs) := .agg _ _ _ h.1 h.2.1 h.2.2

theorem buildV_sound {P : Program} {c : Bool} {t : TypeId} {ps : List (Nat × V)} {xs : Array (Nat × Value)} {K : V → Prop} (h : buildV (zeroT P t) (plT P t) ps K) (hl : xs.size = ps.length)
  (hr : ∀ i, i < ps.length → (xs.toList.getD i default).1 = (ps.getD i default).1 ∧ Rel w O ι ρ nx c (ps.getD i default).2 (xs.toList.getD i default).2) :
  ∃ v x, (Instr.build t xs).run P w = .ok x w ∧ Rel w O ι ρ nx c v x ∧ K v := by
 unfold buildV at h
 split at h
 ·
  rename_i zs pl hz hp
  obtain ⟨i, z, hi, hzz, hc⟩ := CellsR.zero (w := w) (O := O) (ι := ι) (ρ := ρ) (nx := nx) c hz h.1
  unfold plT at hp
  split at hp
  ·
   rename_i n e hu
   cases hie : P.info? e with
   | none => simp [hie] at hp
   | some ie =>
    simp [hie] at hp; subst hp
    obtain ⟨vs', cs', h1, h2, h3⟩ := fillV_sound (place := fun i => some (i * ie.size, ie.size)) (fun j p hj => by
     rw [List.getElem?_map] at hj
     cases hr : (List.range n)[j]? with
     | none => simp [hr] at hj
     | some k => have := (List.getElem?_eq_some_iff.1 hr); simp at this; simp [hr] at hj; rw [← hj, ← this.2]) h.2 hc (by simpa using hl) hr
    exact ⟨_, _, run_build w t xs vs' (by simp [Program.built, hi, hu, hzz, hie, h1]), h2.agg, h3⟩
  ·
   rename_i fields hu
   obtain ⟨vs', cs', h1, h2, h3⟩ := fillV_sound (place := (pl.toArray[·]?)) (fun j p hj => by simpa using hj) h.2 hc (by simpa using hl) hr
   refine ⟨_, _, run_build w t xs vs' ?_, h2.agg, h3⟩
   simp only [Program.built, hi, hu, hzz, hp]; exact h1
  ·
   cases hp
 ·
  exact h.elim

/-- The rows of a new slice. -/
def rowsV (size : Nat) (rows : List (List V)) : List (Nat × V) → (List (List V) → Prop) → Prop
 | [], K => K rows
 | (i, v) :: rest, K => v.okp = true ∧ v.cl = true ∧ v.parts.length = size ∧ i < rows.length ∧ rowsV size (rows.set i v.parts) rest K

theorem rowsV_sound {size : Nat} : ∀ {ps : List (Nat × V)} {xs : List (Nat × Value)} {rows : List (List V)} {vs : Array Value} {K : List (List V) → Prop}, rowsV size rows ps K →
  RowsR w O ι ρ nx size rows vs.toList → xs.length = ps.length → (∀ i, i < ps.length → (xs.getD i default).1 = (ps.getD i default).1 ∧ Rel w O ι ρ nx false (ps.getD i default).2 (xs.getD i default).2) →
  ∃ vs' rows', Instr.fill (fun i => some (i * size, size)) vs xs = some vs' ∧ RowsR w O ι ρ nx size rows' vs'.toList ∧ rows'.length = rows.length ∧ K rows'
 | [], [], rows, vs, K, h, hc, _, _ => ⟨vs, rows, rfl, hc, rfl, h⟩
 | [], x :: xs, rows, vs, K, h, hc, hl, _ => by simp at hl
 | p :: ps, [], rows, vs, K, h, hc, hl, _ => by simp at hl
 | (i, v) :: ps, (i', x) :: xs, rows, vs, K, h, hc, hl, hr => by
  have h0 := hr 0 (by simp)
  simp at h0
  obtain ⟨rfl, h0⟩ := h0
  obtain ⟨h1, hcl, h2, h3, h4⟩ := h
  have hpr := parts_rel (h0.of_cl hcl true) h1
  have hidx := Nat.mul_le_mul_right size h3
  rw [Nat.succ_mul] at hidx
  have hvl : vs.size = rows.length * size := by have := hc.1; simpa using this
  obtain ⟨hf1, hf2⟩ := setFold_get (i' * size) x.cells.toList 0 vs
  have hxs : x.cells.toList.length = size := by have := hpr.1; simp; omega
  have hnew : RowsR w O ι ρ nx size (rows.set i' v.parts) ((x.cells.toList.zipIdx 0).foldl (fun cs (p : Value × Nat) => cs.setIfInBounds (i' * size + p.2) p.1) vs).toList := by
   have eget : ∀ r, (rows.set i' v.parts).getD r [] = if r = i' then v.parts else rows.getD r [] := fun r => by
    simp only [List.getD, List.getElem?_set]
    by_cases hri : r = i'
    ·
     subst hri; simp [h3]
    ·
     simp [hri, Ne.symm hri]
   refine ⟨by simp [hf1, hvl], fun r hr' => ?_, fun r j hr' hj => ?_, fun r j hr' hj => ?_⟩ <;> (simp at hr'; rw [eget])
   ·
    split
    ·
     exact h2
    ·
     exact hc.2.1 r hr'
   ·
    split
    ·
     exact hpr.2.1 j (by omega)
    ·
     exact hc.2.2.1 r j hr' hj
   ·
    have hk := cellIdx hr' hj
    simp only [List.getD, Array.getElem?_toList]
    rw [hf2]
    split
    ·
     rename_i e; subst e
     rw [if_pos (by omega)]
     have e1 : r * size + j - r * size - 0 = j := by omega
     have := hpr.2.2 j (by omega)
     rw [e1]
     simpa [Array.getD_eq_getD_getElem?, List.getD] using this
    ·
     rename_i hne
     have hne2 : ¬ (i' * size + 0 ≤ r * size + j ∧ r * size + j < i' * size + 0 + x.cells.toList.length ∧ r * size + j < vs.size) := by
      rintro ⟨ha, hb, -⟩
      rw [hxs] at hb
      rcases Nat.lt_or_gt_of_ne hne with hlt | hgt
      ·
       have := Nat.mul_le_mul_right size (show r + 1 ≤ i' by omega); rw [Nat.succ_mul] at this; omega
      ·
       have := Nat.mul_le_mul_right size (show i' + 1 ≤ r by omega); rw [Nat.succ_mul] at this; omega
     rw [if_neg hne2]
     have := hc.2.2.2 r j hr' hj
     simpa [List.getD] using this
  obtain ⟨vs', rows', h5, h6, h7, h8⟩ := rowsV_sound h4 hnew (by simpa using hl) (fun j hj => by simpa using hr (j + 1) (by simpa using hj))
  refine ⟨vs', rows', ?_, h6, by simpa using h7, h8⟩
  unfold Instr.fill
  have hcond : (decide (x.cells.size ≠ size) || decide (i' * size + x.cells.size > vs.size)) = false := by
   have : x.cells.size = size := by simpa using hxs
   rw [this, hvl]; simp; omega
  simp only [hcond]
  rw [← fold_eq] at h5
  exact h5

end
/-- A type of maps from int to bool. -/
def mapT (P : Program) (t : TypeId) : Bool :=
 match P.underlying t with
 | some (.map k e) => match P.underlying k, (P.info? e).bind (·.zero) with
  | some (.int .i64), some (.bool false) => true
  | _, _ => false
 | _ => false
theorem mapT_spec {P : Program} {t : TypeId} (h : mapT P t = true) : ∃ k e, P.underlying t = some (.map k e) ∧ P.underlying k = some (.int .i64) ∧ ∃ i, P.info? e = some i ∧ i.zero = some (.bool false) := by
 unfold mapT at h
 split at h
 ·
  rename_i k e hu
  split at h
  ·
   rename_i h1 h2
   cases hi : P.info? e with
   | none => rw [hi] at h2; cases h2
   | some i => rw [hi] at h2; exact ⟨k, e, hu, h1, i, hi, h2⟩
  ·
   cases h
 ·
  cases h
/-- What a map says of a key. -/
def lkM : List (Int × Bool) → Int → Bool
 | [], _ => false
 | p :: es, k => if p.1 = k then p.2 else lkM es k
def putM : List (Int × Bool) → Int → Bool → List (Int × Bool)
 | [], k, b => [(k, b)]
 | p :: es, k, b => if p.1 = k then (k, b) :: es else p :: putM es k b
def encM (p : Int × Bool) : Value × Value := (.int .i64 p.1, .bool p.2)
theorem MapOK.key {arr : Array MapEntry} {clk : Nat} {es : List (Int × Bool)} (h : MapOK arr clk es) : ∀ x ∈ arr.toList, MapKept.IsKey (.int .i64) x.key := by
 intro x hx
 have : (x.key, x.val) ∈ es.map fun p => (Value.int .i64 p.1, Value.bool p.2) := by rw [← h.1]; exact List.mem_map.2 ⟨x, hx, rfl⟩
 obtain ⟨p, _, e⟩ := List.mem_map.1 this
 have : x.key = Value.int .i64 p.1 := (congrArg Prod.fst e).symm
 rw [this]; rfl
theorem MapOK.size {arr : Array MapEntry} {clk : Nat} {es : List (Int × Bool)} (h : MapOK arr clk es) : arr.size = es.length := by
 have := congrArg List.length h.1
 simpa using this
theorem MapOK.at {arr : Array MapEntry} {clk : Nat} {es : List (Int × Bool)} (h : MapOK arr clk es) {j : Nat} {x : MapEntry} (hx : arr.toList[j]? = some x) : ∃ p : Int × Bool, es[j]? = some p ∧ x.key = .int .i64 p.1 ∧ x.val = .bool p.2 := by
 have h1 : (arr.toList.map fun e => (e.key, e.val))[j]? = some (x.key, x.val) := by rw [List.getElem?_map, hx]; rfl
 rw [h.1, List.getElem?_map] at h1
 obtain ⟨p, h2, h3⟩ := Option.map_eq_some_iff.1 h1
 cases p
 simp only [Prod.mk.injEq] at h3
 exact ⟨_, h2, h3.1.symm, h3.2.symm⟩
theorem lkM_no : ∀ {es : List (Int × Bool)} {k : Int}, (∀ p ∈ es, p.1 ≠ k) → lkM es k = false ∧ ∀ b, putM es k b = es ++ [(k, b)]
 | [], _, _ => ⟨rfl, fun _ => rfl⟩
 | p :: es, k, h => by
  have h1 := h p (by simp)
  obtain ⟨h2, h3⟩ := lkM_no (es := es) (k := k) fun q hq => h q (by simp [hq])
  unfold lkM putM
  rw [if_neg h1]
  exact ⟨h2, fun b => by rw [if_neg h1, h3]; rfl⟩
theorem lkM_at : ∀ {es : List (Int × Bool)} {j : Nat} {p : Int × Bool}, (es.map (·.1)).Nodup → es[j]? = some p → lkM es p.1 = p.2 ∧ ∀ b, putM es p.1 b = es.set j (p.1, b)
 | q :: es, 0, p, _, h => by
  simp at h; subst h
  unfold lkM putM
  rw [if_pos rfl]
  exact ⟨rfl, fun b => by rw [if_pos rfl]; rfl⟩
 | q :: es, j + 1, p, hn, h => by
  simp only [List.map_cons, List.nodup_cons] at hn
  have h1 : es[j]? = some p := by simpa using h
  have hm : p ∈ es := List.mem_of_getElem? h1
  have hne : q.1 ≠ p.1 := fun e => hn.1 (by rw [e]; exact List.mem_map.2 ⟨p, hm, rfl⟩)
  obtain ⟨h2, h3⟩ := lkM_at hn.2 h1
  unfold lkM putM
  rw [if_neg hne]
  exact ⟨h2, fun b => by rw [if_neg hne, h3]; rfl⟩
section
variable {P : Program} {w : World} {t : TypeId} {b : Nat} {arr : Array MapEntry} {clk : Nat} {es : List (Int × Bool)}
theorem map_look (ht : mapT P t = true) (hb : w.heap[b]? = some (.map arr clk)) (h : MapOK arr clk es) (x : Int) : (Instr.lookup t (.map (some b)) (.int .i64 x) false).run P w = .ok (.bool (lkM es x)) w := by
 obtain ⟨k, e, hu, hk, i, hi, hz⟩ := mapT_spec ht
 have hzr : (zeroValue e).run P w = .ok (.bool false) w := by simp [zeroValue, typeInfo, hi, hz]
 have hks := h.key
 rcases MapKept.findNow_spec (d := .int .i64) (k := .int .i64 x) rfl arr.toList 0 hks with ⟨h1, h2⟩ | ⟨j, e0, h1, h2, h3⟩
 ·
  have hno : ∀ p ∈ es, p.1 ≠ x := fun p hp e1 => by
   have : (Value.int .i64 p.1, Value.bool p.2) ∈ arr.toList.map fun e => (e.key, e.val) := by rw [h.1]; exact List.mem_map.2 ⟨p, hp, rfl⟩
   obtain ⟨y, hy, ey⟩ := List.mem_map.1 this
   refine h2 y hy ?_
   have : y.key = .int .i64 p.1 := by simpa using congrArg Prod.fst ey
   rw [this, e1]
  rw [(lkM_no hno).1]
  simp [Instr.lookup, run_underlying hu, MapKept.run_getObj_map hb, MapKept.run_checkKey hk (show MapKept.IsKey (.int .i64) (.int .i64 x) from rfl) _ 9999, MapKept.run_findKey hk h1, hzr, Result.andThen]
 ·
  obtain ⟨p, q1, q2, q3⟩ := h.at h2
  have ex : p.1 = x := by rw [q2] at h3; simpa using h3
  have hl := (lkM_at h.2.2.2.1 q1).1
  rw [ex] at hl
  rw [hl, ← q3]
  simp [Instr.lookup, run_underlying hu, MapKept.run_getObj_map hb, MapKept.run_checkKey hk (show MapKept.IsKey (.int .i64) (.int .i64 x) from rfl) _ 9999, MapKept.run_findKey hk h1, hzr, Result.andThen]
theorem map_look_nil (ht : mapT P t = true) (x : Int) : (Instr.lookup t (.map none) (.int .i64 x) false).run P w = .ok (.bool false) w := by
 obtain ⟨k, e, hu, hk, i, hi, hz⟩ := mapT_spec ht
 have hzr : (zeroValue e).run P w = .ok (.bool false) w := by simp [zeroValue, typeInfo, hi, hz]
 have h1 : Instr.findNow (.int .i64) (.int .i64 x) [] 0 = some none := rfl
 simp [Instr.lookup, run_underlying hu, MapKept.run_checkKey hk (show MapKept.IsKey (.int .i64) (.int .i64 x) from rfl) _ 9999, MapKept.run_findKey hk h1, hzr, Result.andThen]
theorem map_put (ht : mapT P t = true) (hb : w.heap[b]? = some (.map arr clk)) (h : MapOK arr clk es) (hroom : es.length < maxLen) (x : Int) (v : Bool) :
  ∃ arr' clk', (Instr.mapUpdate t (.map (some b)) (.int .i64 x) (.bool v)).run P w = .ok () { w with heap := w.heap.setIfInBounds b (.map arr' clk') } ∧ MapOK arr' clk' (putM es x v) := by
 obtain ⟨k, e, hu, hk, i, hi, hz⟩ := mapT_spec ht
 have hks := h.key
 have hck : ∀ em, (Instr.checkKey em 10000 k (.int .i64 x)).run P w = .ok () w := fun em => MapKept.run_checkKey hk (show MapKept.IsKey (.int .i64) (.int .i64 x) from rfl) _ 9999
 rcases MapKept.findNow_spec (d := .int .i64) (k := .int .i64 x) rfl arr.toList 0 hks with ⟨h1, h2⟩ | ⟨j, e0, h1, h2, h3⟩
 ·
  have hno : ∀ p ∈ es, p.1 ≠ x := fun p hp e1 => by
   have : (Value.int .i64 p.1, Value.bool p.2) ∈ arr.toList.map fun e => (e.key, e.val) := by rw [h.1]; exact List.mem_map.2 ⟨p, hp, rfl⟩
   obtain ⟨y, hy, ey⟩ := List.mem_map.1 this
   refine h2 y hy ?_
   have : y.key = .int .i64 p.1 := by simpa using congrArg Prod.fst ey
   rw [this, e1]
  refine ⟨arr.push ⟨.int .i64 x, .bool v, clk⟩, clk + 1, ?_, ?_⟩
  ·
   simp [Instr.mapUpdate, run_underlying hu, MapKept.run_getObj_map hb, hck, MapKept.run_findKey hk h1, MapKept.run_setObj_map _ hb, Result.andThen]
  ·
   rw [(lkM_no hno).2]
   obtain ⟨a1, a2, a3, a4, a5⟩ := h
   refine ⟨by simp [a1], fun y hy => ?_, ?_, ?_, by simp; omega⟩
   ·
    simp only [Array.toList_push, List.mem_append, List.mem_singleton] at hy
    rcases hy with hy | rfl
    ·
     have := a2 y hy; omega
    ·
     simp
   ·
    rw [Array.toList_push, List.pairwise_append]
    refine ⟨a3, List.pairwise_singleton _ _, fun y hy z hz => ?_⟩
    rw [List.mem_singleton] at hz; subst hz
    have := a2 y hy
    simp only; omega
   ·
    rw [List.map_append, List.nodup_append]
    refine ⟨a4, by simp, fun y hy z hz => ?_⟩
    simp at hz; subst hz
    obtain ⟨p, hp, rfl⟩ := List.mem_map.1 hy
    exact hno p hp
 ·
  obtain ⟨p, q1, q2, q3⟩ := h.at h2
  have ex : p.1 = x := by rw [q2] at h3; simpa using h3
  have hput := (lkM_at h.2.2.2.1 q1).2 v
  rw [ex] at hput
  have hj : arr[j]? = some e0 := by simpa using h2
  have hjl : j < arr.toList.length := (List.getElem?_eq_some_iff.1 h2).1
  have hlist : (arr.modify j (fun e' => { e' with key := .int .i64 x, val := .bool v })).toList = arr.toList.set j { e0 with key := .int .i64 x, val := .bool v } := by
   refine List.ext_getElem? fun i => ?_
   rw [Array.getElem?_toList, Array.getElem?_modify, List.getElem?_set, Array.getElem?_toList]
   by_cases e1 : j = i
   ·
    subst e1
    rw [if_pos rfl, if_pos rfl, if_pos hjl, hj]; rfl
   ·
    rw [if_neg e1, if_neg e1]
  refine ⟨arr.modify j (fun e' => { e' with key := .int .i64 x, val := .bool v }), clk, ?_, ?_⟩
  ·
   simp [Instr.mapUpdate, run_underlying hu, MapKept.run_getObj_map hb, hck, MapKept.run_findKey hk h1, hj, h3, MapKept.run_keyThatStays (show MapKept.IsKey (.int .i64) (.int .i64 x) from rfl), MapKept.run_setObj_map _ hb, Result.andThen]
  ·
   rw [hput]
   obtain ⟨a1, a2, a3, a4, a5⟩ := h
   have hm0 : e0 ∈ arr.toList := List.mem_of_getElem? h2
   refine ⟨?_, fun y hy => ?_, ?_, ?_, by simpa using a5⟩
   ·
    rw [hlist, List.map_set, List.map_set, a1]
   ·
    rw [hlist] at hy
    rcases List.mem_or_eq_of_mem_set hy with hy | rfl
    ·
     exact a2 y hy
    ·
     exact a2 e0 hm0
   ·
    rw [hlist]
    have : (arr.toList.set j { e0 with key := .int .i64 x, val := .bool v }).map (·.born) = arr.toList.map (·.born) := by
     rw [List.map_set]
     refine List.ext_getElem? fun i => ?_
     rw [List.getElem?_set]
     split
     ·
      rename_i e1; subst e1
      split
      ·
       rw [List.getElem?_map, h2]; rfl
      ·
       rename_i h5; simp at h5 hjl; omega
     ·
      rfl
    have h6 : ((arr.toList.set j { e0 with key := .int .i64 x, val := .bool v }).map (·.born)).Pairwise (· ≠ ·) := by rw [this, List.pairwise_map]; exact a3
    rwa [List.pairwise_map] at h6
   ·
    have : (es.set j (x, v)).map (·.1) = es.map (·.1) := by
     rw [List.map_set]
     refine List.ext_getElem? fun i => ?_
     rw [List.getElem?_set]
     split
     ·
      rename_i e1; subst e1
      split
      ·
       rw [List.getElem?_map, q1]; simp [ex]
      ·
       rename_i h5
       have := (List.getElem?_eq_some_iff.1 q1).1
       simp at h5; omega
     ·
      rfl
    rw [this]; exact a4
end
section
variable {cx : Cx} {mem : Mem} {nx : Nat} {ι : Nat → Nat} {ρ : Nat → Value} {w : World}
/-- A new map. -/
theorem ML.newMap (h : ML cx mem nx ι ρ w) :
  ML cx ((nx, .dict []) :: mem) (nx + 1) (fun id => if id = nx then w.heap.size else ι id) ρ (w.alloc (.map #[] 0)) ∧ Kp cx mem nx ι ρ w ((nx, .dict []) :: mem) (nx + 1) (fun id => if id = nx then w.heap.size else ι id) ρ (w.alloc (.map #[] 0)) := by
 refine h.newO (.map #[] 0) _ ρ (fun id hid => ⟨if_neg (by omega), rfl⟩) _ (fun b hb => by simpa [blk, eq_comm] using hb) fun O hO hk => ?_
 refine ⟨#[], 0, ?_, by simp, by simp, by simp, by simp, by simp⟩
 simp only [if_true]
 show (w.heap.push (.map #[] 0))[w.heap.size]? = some (.map #[] 0)
 simp
/-- A store into a map. -/
theorem ML.putMap (h : ML cx mem nx ι ρ w) {id : Nat} {es es' : List (Int × Bool)} (hm : (id, .dict es) ∈ mem) {arr' : Array MapEntry} {clk' : Nat} (ho : MapOK arr' clk' es') :
  ML cx (mem.map fun p => if p.1 = id then (id, .dict es') else p) nx ι ρ { w with heap := w.heap.setIfInBounds (ι id) (.map arr' clk') } ∧
  Kp cx mem nx ι ρ w (mem.map fun p => if p.1 = id then (id, .dict es') else p) nx ι ρ { w with heap := w.heap.setIfInBounds (ι id) (.map arr' clk') } := by
 obtain ⟨arr0, clk0, hh, -⟩ := h.obj _ hm
 have hlt : ι id < w.heap.size := (Array.getElem?_eq_some_iff.1 hh).1
 have hoth : ∀ k, k ≠ ι id → ({ w with heap := w.heap.setIfInBounds (ι id) (.map arr' clk') } : World).heap[k]? = w.heap[k]? := fun k hk => by simp [Ne.symm hk]
 have hnew : ({ w with heap := w.heap.setIfInBounds (ι id) (.map arr' clk') } : World).heap[ι id]? = some (.map arr' clk') := by simp [hlt]
 have hsize : ({ w with heap := w.heap.setIfInBounds (ι id) (.map arr' clk') } : World).heap.size = w.heap.size := by simp
 generalize hw2 : ({ w with heap := w.heap.setIfInBounds (ι id) (.map arr' clk') } : World) = w2 at hoth hnew hsize ⊢
 have h_os : w2.os = w.os := by rw [← hw2]
 have h_tape : w2.tape = w.tape := by rw [← hw2]
 have h_out : w2.output = w.output := by rw [← hw2]
 have hin : ∀ q, q ∈ (mem.map fun p => if p.1 = id then (id, AObj.dict es') else p) → ∃ p ∈ mem, q = (if p.1 = id then (id, AObj.dict es') else p) ∧ blk ι ρ q = blk ι ρ p ∧ q.1 = p.1 := by
  intro q hq
  obtain ⟨p, hp, rfl⟩ := List.mem_map.1 hq
  refine ⟨p, hp, rfl, ?_⟩
  by_cases hpid : p.1 = id
  ·
   have : p = (id, .dict es) := h.keys p hp _ hm hpid
   subst this; simp [blk]
  ·
   simp [hpid]
 have hO : ∀ b, OO cx.X (mem.map fun p => if p.1 = id then (id, AObj.dict es') else p) ι ρ b → OO cx.X mem ι ρ b := by
  rintro b (hx | ⟨q, hq, hqb⟩)
  ·
   exact .inl hx
  ·
   obtain ⟨p, hp, -, hpb, -⟩ := hin q hq
   exact .inr ⟨p, hp, by rw [← hpb]; exact hqb⟩
 have hown : OO cx.X mem ι ρ (ι id) := .inr ⟨_, hm, rfl⟩
 have hk : Kp cx mem nx ι ρ w (mem.map fun p => if p.1 = id then (id, AObj.dict es') else p) nx ι ρ w2 := fun c v x hr => by
  refine hr.mono (fun a y hc hno => ?_) (fun _ _ => ⟨rfl, rfl⟩) (Nat.le_refl _)
  have hne : a.block ≠ ι id := fun e => hno (e ▸ hown)
  exact ⟨vu_of_block hc (hoth _ hne), fun hn => hno (hO _ hn)⟩
 have hidown := h.own _ hm (ι id) rfl
 refine ⟨⟨h_os.trans h.os, h_tape.trans h.tape, h_out.trans h.output, by rw [hsize]; exact h.size, fun b hb hd => ?_, ?_, ?_, ?_, ?_, h.xlt, ?_⟩, hk⟩
 ·
  rw [hoth]; exact h.old b hb hd
  rintro rfl
  rcases hidown.2.1 with h1 | h1
  ·
   omega
  ·
   exact hd h1
 ·
  intro p hp q hq e
  obtain ⟨p', hp', rfl, -, e1⟩ := hin p hp
  obtain ⟨q', hq', rfl, -, e2⟩ := hin q hq
  have : p' = q' := h.keys p' hp' q' hq' (by rw [← e1, ← e2]; exact e)
  rw [this]
 ·
  intro p hp; obtain ⟨p', hp', -, -, e1⟩ := hin p hp; rw [e1]; exact h.lt p' hp'
 ·
  intro p hp b hb; obtain ⟨p', hp', -, e1, -⟩ := hin p hp; rw [e1] at hb
  have := h.own p' hp' b hb; exact ⟨by rw [hsize]; exact this.1, this.2⟩
 ·
  intro p hp q hq b hpb hqb
  obtain ⟨p', hp', rfl, e1, -⟩ := hin p hp
  obtain ⟨q', hq', rfl, e2, -⟩ := hin q hq
  have : p' = q' := h.inj p' hp' q' hq' b (by rw [← e1]; exact hpb) (by rw [← e2]; exact hqb)
  rw [this]
 ·
  intro q hq
  obtain ⟨p, hp, rfl, -, -⟩ := hin q hq
  by_cases hpid : p.1 = id
  ·
   simp only [hpid, if_true]
   exact ⟨arr', clk', hnew, ho⟩
  ·
   simp only [hpid, if_false]
   refine OR.mono hk rfl rfl (fun b hb => hoth _ ?_) (h.obj p hp)
   rintro rfl
   have := h.inj p hp _ hm (ι id) hb rfl
   exact hpid (by rw [this])
end
def St.fz (σ : St) (id : Nat) (o : AObj) : St := ⟨σ.env.map fun p => (p.1, p.2.fz id o), σ.mem.fz id o, σ.nx⟩

/-- What a call is handed is written no more. -/
def fzAll (σ : St) : List V → St
 | [] => σ
 | .own id :: vs =>
  match σ.mem.look id with
  | some (.row e z rows) => fzAll (σ.fz id (.row e z rows)) vs
  | some (.orow e z rows) =>
   match rows.all V.clL with
   | true => fzAll (σ.fz id (.orow e z rows)) vs
   | false => fzAll σ vs
  | _ => fzAll σ vs
 | .ptr id _ :: vs =>
  match σ.mem.look id with
  | some (.cells cs) =>
   match V.clL cs with
   | true => fzAll (σ.fz id (.cells cs)) vs
   | false => fzAll σ vs
  | _ => fzAll σ vs
 | .mp id :: vs =>
  match σ.mem.look id with
  | some (.dict es) => fzAll (σ.fz id (.dict es)) vs
  | _ => fzAll σ vs
 | _ :: vs => fzAll σ vs

/-- What a call is handed, and what the functions among it have caught. -/
def exps : List V → List V
 | [] => []
 | .fn _ caps :: vs =>
  match V.clL caps with
  | true => exps vs
  | false => caps ++ exps vs
 | v :: vs => v :: exps vs

/-- What stands in a slot; above all slots: what the call keeps in mind (ghosts). -/
def tv (cx : Cx) (a : Act) (t : Nat) : Value := if t < 1000000 then a.tmps.getD t undef else cx.G t

structure SR (cx : Cx) (σ : St) (ι : Nat → Nat) (ρ : Nat → Value) (a : Act) (w : World) : Prop where
 ml : ML cx σ.mem σ.nx ι ρ w
 env : ∀ t, MR cx σ.mem σ.nx ι ρ w (σ.slot t) (tv cx a t)

/-- Called with what 'args' stands for, function f returns what 'r' stands for, and turns nothing that was there. -/
def CallsA (P : Program) (f : FuncId) (args : List V) (r : V) : Prop :=
 ∀ (w : World) (X : Nat → Prop) (vs : Array Value), XL w (fun _ => False) X → vs.size = args.length →
  (∀ i, i < args.length → Rel w X (fun _ => 0) (fun _ => undef) 0 true (args.getD i .any) (vs.getD i undef)) →
  Calls P f vs w fun e w' => ∃ x, e = .returned x ∧ Below w.heap.size w w' ∧ Rel w' X (fun _ => 0) (fun _ => undef) 0 true r x

def okF (P : Program) (f : FuncId) : Bool :=
 match P.funcs[f]? with
 | some fn => fn.name != "runtime.NumGoroutine" && fn.body.isSome
 | none => false

def minV (a b : Int) : Int := if b < a then b else a
def maxV (a b : Int) : Int := if b > a then b else a

def lenV (s : Option (TypeId × Nat × Nat)) (ar : Option (Nat × TypeId × Nat)) (mem : Mem) (x : V) (K : V → Prop) : Prop :=
 match s, ar, x with
 | some _, _, .sl _ rows => K (.int .i64 rows.length)
 | some _, _, .nsl => K (.int .i64 0)
 | some _, _, .own id =>
  match mem.look id with
  | some (.row _ _ rows) => K (.int .i64 rows.length)
  | some (.orow _ _ rows) => K (.int .i64 rows.length)
  | _ => False
 | _, _, _ => False

def sliV (s : Option (TypeId × Nat × Nat)) (x : V) (lo hi : Option V) (K : V → Prop) : Prop :=
 match s, x, lo, hi with
 | some (_, c, _), .sl esz rows, none, none => c = esz ∧ K (.sl esz rows)
 | some (_, c, _), .sl esz rows, some (.int _ l), none => c = esz ∧ 0 ≤ l ∧ l ≤ rows.length ∧ K (.sl esz (rows.drop l.toNat))
 | some (_, c, _), .sl esz rows, none, some (.int _ h) => c = esz ∧ 0 ≤ h ∧ h ≤ rows.length ∧ K (.sl esz (rows.take h.toNat))
 | some (_, c, _), .sl esz rows, some (.int _ l), some (.int _ h) => c = esz ∧ 0 ≤ l ∧ l ≤ h ∧ h ≤ rows.length ∧ K (.sl esz ((rows.take h.toNat).drop l.toNat))
 | _, _, _, _ => False

theorem lenV_shp {s : Option (TypeId × Nat × Nat)} {ar : Option (Nat × TypeId × Nat)} {mem : Mem} {x : V} {K : V → Prop} (h : lenV s ar (shp mem) x K) : lenV s ar mem x K := by
 unfold lenV at h ⊢
 split at h
 ·
  exact h
 ·
  exact h
 ·
  rw [shp_look] at h
  rename_i id
  cases hl : Mem.look mem id with
  | none => simp [hl] at h
  | some o =>
   cases o with
   | cells cs => simp [hl, AObj.shp] at h
   | row e z rows => simpa [hl, AObj.shp] using h
   | orow e z rows => simpa [hl, AObj.shp] using h
   | dict es => simp [hl, AObj.shp] at h
 ·
  exact h.elim

/-- The rows of what is appended. -/
def appR (mem : Mem) (x : V) (z : Nat) : Option (List (List V)) :=
 match x with
 | .sl esz rows => if esz = z then some rows else none
 | .nsl => some []
 | .own id =>
  match mem.look id with
  | some (.row _ esz rows) => if esz = z then some rows else none
  | _ => none
 | _ => none

def appV (P : Program) (t : TypeId) (σ : St) (s x : V) (K : V → St → Prop) : Prop :=
 match slT P t with
 | some (e, z, bytes) =>
  0 < z ∧ 0 < bytes ∧ (zeroT P e).map List.length = some z ∧
  match appR σ.mem x z with
  | some rows' =>
   match s with
   | .nsl => rows'.length * bytes ≤ 140737488355328 ∧ K (.own (σ.nx + 1)) ⟨σ.env, (σ.nx + 1, .row e z rows') :: σ.mem, σ.nx + 2⟩
   | .own id =>
    match σ.mem.look id with
    | some (.row e' z' rows) => e' = e ∧ z' = z ∧ (rows.length + rows'.length) * bytes ≤ 140737488355328 ∧
     K (.own σ.nx) ⟨σ.env, (σ.nx, .row e z (rows ++ rows')) :: σ.mem.filter (·.1 ≠ id), σ.nx + 1⟩
    | _ => False
   | .slc z' rows => z' = z ∧ 0 < rows'.length ∧ (rows.length + rows'.length) * bytes ≤ 140737488355328 ∧ K (.own (σ.nx + 1)) ⟨σ.env, (σ.nx + 1, .row e z (rows ++ rows')) :: σ.mem, σ.nx + 2⟩
   | _ => False
  | none => False
 | none => False

/-- Append to a frozen slice without room, the result frozen too. -/
def appF (P : Program) (t : TypeId) (s x : V) (K : V → Prop) : Prop :=
 match slT P t with
 | some (e, z, bytes) =>
  0 < z ∧ 0 < bytes ∧ (zeroT P e).map List.length = some z ∧
  match s, x with
  | .slc z' rows, .sl z2 rows' => z' = z ∧ z2 = z ∧ (rows.length + rows'.length) * bytes ≤ 140737488355328 ∧ K (.sl z (rows ++ rows'))
  | _, _ => False
 | none => False

def lookV (mem : Mem) (m : V) (k : V) (K : V → Prop) : Prop :=
 match m, k with
 | .nm, .int .i64 _ => K (.bool false)
 | .fm es, .int .i64 k => K (.bool (lkM es k))
 | .mp id, .int .i64 k =>
  match mem.look id with
  | some (.dict es) => K (.bool (lkM es k))
  | _ => False
 | _, _ => False

def stp (P : Program) (σ : St) (g : Option Bool) (op : Op) (K : V → St → Prop) : Prop :=
 match op with
 | .move x => un g (σ.get x) fun v => K v σ
 | .assign x => un g (σ.get x) fun v => K v σ
 | .pick c a b => un g (σ.get c) fun c =>
   match c with
   | .bool t => un (some (g.getD true && t)) (σ.get a) fun a => un (some (g.getD true && !t)) (σ.get b) fun b => pickV t a b fun v => K v σ
   | _ => False
 | .alloc T => g = none ∧
   match zeroT P T with
   | some cs => cs.all V.sc = true ∧ K (.ptr σ.nx 0) ⟨σ.env, (σ.nx, .cells cs) :: σ.mem, σ.nx + 1⟩
   | none => False
 | .box _ x => g = none ∧ un g (σ.get x) fun v => v.okp = true ∧ K (.ptr σ.nx 0) ⟨σ.env, (σ.nx, .cells v.parts) :: σ.mem, σ.nx + 1⟩
 | .build T ps => unL g (ps.toList.map fun p => σ.get p.2) fun vs => buildV (zeroT P T) (plT P T) ((ps.toList.map (·.1)).zip vs) fun v => K v σ
 | .buildSlice T len ps =>
   match slT P T with
   | some (e, z, _) =>
    match zeroT P e with
    | some zs => zs.all V.sc = true ∧ V.clL zs = true ∧ zs.length = z ∧ 0 < z ∧ len * z ≤ 16777216 ∧ unL g (ps.toList.map fun p => σ.get p.2) fun vs =>
      rowsV z (List.replicate len zs) ((ps.toList.map (·.1)).zip vs) fun rows => (g = none ∧ K (.own σ.nx) ⟨σ.env, (σ.nx, .row e z rows) :: σ.mem, σ.nx + 1⟩) ∨ K (.sl z rows) σ ∨ K (.slc z rows) σ
    | none => False
   | none => False
 | .makeSlice T l c => g = none ∧ l = c ∧ un g (σ.get l) fun n =>
   match slT P T, n with
   | some (e, z, bytes), .int _ n =>
    match zeroT P e with
    | some zs => zs.all V.sc = true ∧ V.clL zs = true ∧ zs.length = z ∧ 0 < z ∧ 0 < bytes ∧ 0 ≤ n ∧ n * bytes ≤ 140737488355328 ∧ K (.own σ.nx) ⟨σ.env, (σ.nx, .row e z (List.replicate n.toNat zs)) :: σ.mem, σ.nx + 1⟩
    | none => False
   | _, _ => False
 | .load T a => un g (σ.get a) fun a => loadV (lay P T) σ.mem a fun v => K v σ
 | .store T a x => g = none ∧ un g (σ.get a) fun a => un g (σ.get x) fun v =>
   match lay P T, a with
   | some (n, _), .ptr id off =>
    match σ.mem.look id with
    | some (.cells cs) => v.okp = true ∧ v.parts.length = n ∧ off + n ≤ cs.length ∧
     K .any ⟨σ.env, σ.mem.map fun p => if p.1 = id then (id, .cells (spl cs off v.parts)) else p, σ.nx⟩
    | _ => False
   | some (n, _), .rp id z i j =>
    match σ.mem.look id with
    | some (.row e z' rows) => z' = z ∧ i < rows.length ∧ v.okp = true ∧ v.cl = true ∧ v.parts.length = n ∧ j + n ≤ z ∧
     K .any ⟨σ.env, σ.mem.map fun p => if p.1 = id then (id, .row e z (rows.set i (spl (rows.getD i []) j v.parts))) else p, σ.nx⟩
    | some (.orow e z' rows) => z' = z ∧ i < rows.length ∧ v.okp = true ∧ v.parts.length = n ∧ j + n ≤ z ∧
     K .any ⟨σ.env, σ.mem.map fun p => if p.1 = id then (id, .orow e z (rows.set i (spl (rows.getD i []) j v.parts))) else p, σ.nx⟩
    | _ => False
   | _, _ => False
 | .binOp op T x y _ => un g (σ.get x) fun x => un g (σ.get y) fun y => binV op (boolT P T) (flatT P T) (slT P T).isSome x y fun v => K v σ
 | .unOp op _ x => un g (σ.get x) fun x => unV op x fun v => K v σ
 | .convert src dst x => un g (σ.get x) fun x =>
   match intT P src, intT P dst, x with
   | some _, some k, .int _ n => K (.int k (k.wrap n)) σ
   | _, _, _ => False
 | .makeFunc (.func f) first caps => first = #[] ∧ unL g (caps.toList.map σ.get) fun vs => K (.fn f vs) σ
 | .slice T x none (some hi) (some mx) => un g (σ.get x) fun x => un g (σ.get hi) fun h => un g (σ.get mx) fun m =>
   match slT P T, x, h, m with
   | some (_, c, _), .sl esz rows, .int _ h, .int _ m => c = esz ∧ h = m ∧ 0 ≤ h ∧ h ≤ rows.length ∧ K (.slc esz (rows.take h.toNat)) σ
   | _, _, _, _ => False
 | .slice T x lo hi none => un g (σ.get x) fun x =>
   match x, arT P T with
   | .ptr id 0, some (n, _, c) =>
    match σ.mem.look id with
    | some (.cells cs) => g = none ∧ lo.isNone = true ∧ hi.isNone = true ∧ c = 1 ∧ cs.length = n ∧ V.clL cs = true ∧ n ≤ maxLen ∧ K (.sl 1 (cs.map fun v => [v])) (σ.fz id (.cells cs))
    | _ => False
   | .ep es, some (n, _, c) => lo.isNone = true ∧ hi.isNone = true ∧ c = 1 ∧ n ≤ es.length ∧ n ≤ maxLen ∧ K (.sl 1 ((es.take n).map fun v => [v])) σ
   | x, _ => sliV (slT P T) x (lo.map σ.get) (hi.map σ.get) fun v => K v σ
 | .fieldAddr S x f => un g (σ.get x) fun x => fldV (stT P S f) x fun v => K v σ
 | .field S x f => un g (σ.get x) fun x =>
   match stT P S f with
   | some (off, c, ag) => partV (some (c, ag)) off x fun v => K v σ
   | none => False
 | .indexAddr T x i => un g (σ.get x) fun x => un g (σ.get i) fun i => idxV (slT P T) (arT P T) (shp σ.mem) x i fun v => K v σ
 | .index T x i => un g (σ.get x) fun x => un g (σ.get i) fun i =>
   match x, i with
   | .str s, .int _ n => strT P T = true ∧ 0 ≤ n ∧ n.toNat < s.size ∧ K (.int .u8 (s.get! n.toNat).toNat) σ
   | x, i =>
    match arT P T, i with
    | some (len, e, c), .int _ n => 0 ≤ n ∧ n < len ∧ partV (lay P e) (n.toNat * c) x fun v => K v σ
    | _, _ => False
 | .nilCheck x => un g (σ.get x) fun x =>
   match x with
   | .ep es => K (.ep es) σ
   | .ptr id off => K (.ptr id off) σ
   | .rp id z i j => K (.rp id z i j) σ
   | _ => False
 | .makeMap T none => g = none ∧ mapT P T = true ∧ K (.mp σ.nx) ⟨σ.env, (σ.nx, .dict []) :: σ.mem, σ.nx + 1⟩
 | .lookup T m k false => mapT P T = true ∧ un g (σ.get m) fun m => un g (σ.get k) fun k => lookV σ.mem m k fun v => K v σ
 | .mapUpdate T m k x => g = none ∧ mapT P T = true ∧ un g (σ.get m) fun m => un g (σ.get k) fun k => un g (σ.get x) fun x =>
   match m, k, x with
   | .mp id, .int .i64 k, .bool b =>
    match σ.mem.look id with
    | some (.dict es) => es.length < maxLen ∧ K .any ⟨σ.env, σ.mem.map fun p => if p.1 = id then (id, .dict (putM es k b)) else p, σ.nx⟩
    | _ => False
   | _, _, _ => False
 | .extract t i => un g (σ.get t) fun t =>
   match t with
   | .tup vs => i < vs.length ∧ K (vs.getD i .any) σ
   | _ => False
 | .call { callee := .builtin .len, args, argTypes } =>
   match args.toList, argTypes.toList with
   | [x], [t] => un g (σ.get x) fun x => lenV (slT P t) (arT P t) (shp σ.mem) x fun v => K v σ
   | _, _ => False
 | .call { callee := .builtin .min, args, argTypes } =>
   match args.toList with
   | [x, y] => un g (σ.get x) fun x => un g (σ.get y) fun y =>
    match x, y with
    | .int k a, .int _ b => K (.int k (minV a b)) σ
    | _, _ => False
   | _ => False
 | .call { callee := .builtin .max, args, argTypes } =>
   match args.toList with
   | [x, y] => un g (σ.get x) fun x => un g (σ.get y) fun y =>
    match x, y with
    | .int k a, .int _ b => K (.int k (maxV a b)) σ
    | _, _ => False
   | _ => False
 | .call { callee := .builtin .append, args, argTypes } =>
   match args.toList, argTypes.toList with
   | [s, x], [t, t'] =>
    match g with
    | none => g = none ∧ t = t' ∧ un g (σ.get s) fun s => un g (σ.get x) fun x => appV P t σ s x K
    | some _ => t = t' ∧ un g (σ.get s) fun s => un g (σ.get x) fun x => appF P t s x fun v => K v σ
   | _, _ => False
 | .call { callee := .value f, args, argTypes } =>
   let σ' := match g with | none => fzAll σ (exps (σ.get f :: args.toList.map σ.get)) | some _ => σ
   un g (σ'.get f) fun vf =>
   match vf with
   | .fn f caps => unL g (args.toList.map σ'.get) fun vs => okF P f = true ∧ V.clL (vs ++ caps) = true ∧ ∃ r, CallsA P f (vs ++ caps) r ∧ K r σ'
   | _ => False
 | _ => False

def Nx (cx : Cx) (o : Oper) (a : Act) (K : V → St → Prop) (a' : Act) (w' : World) : Prop :=
 ∃ v σ' ι' ρ' x, K v σ' ∧ a' = a.put o.dst x ∧ SR cx σ' ι' ρ' a w' ∧ MR cx σ'.mem σ'.nx ι' ρ' w' v x

section
variable {P : Program} {cx : Cx} {σ : St} {ι : Nat → Nat} {ρ : Nat → Value} {a : Act} {w : World} {K : V → St → Prop} {Q : Exit → Act → World → Prop} {o : Oper} {g : Option Bool}

theorem un_sound' {O : Nat → Prop} {nx : Nat} {c : Bool} {v : V} {x : Value} {K : V → Prop} (h : un g v K) (hr : Rel w O ι ρ nx c v x) : ∃ v', K v' ∧ (g.getD true = true → Rel w O ι ρ nx c v' x) := by
 unfold un at h
 split at h
 ·
  rename_i g' v'
  cases hr with
  | gd _ _ _ _ hr _ => exact ⟨v', h.2, fun hg => hr (h.1 hg)⟩
 ·
  cases hr with
  | eq _ _ _ hr => exact ⟨_, h, fun _ => hr⟩
 ·
  exact ⟨_, h, fun _ => hr⟩

theorem SR.get (h : SR cx σ ι ρ a w) (x : Operand) : MR cx σ.mem σ.nx ι ρ w (σ.get x) (a.eval x) := by
 cases x with
 | tmp t =>
  have := h.env t
  unfold tv at this
  simp only [St.get]
  split
  ·
   rename_i ht; rw [if_pos ht] at this; exact this
  ·
   exact .any ..
 | const v => exact .const ..
 | func f => exact .fn _ _ _ _ rfl (by simp)
 | global n =>
  simp only [St.get]
  by_cases hg : gtab n = []
  ·
   rw [hg]; exact .ep _ _ _ _ (fun _ => undef) (by simp) (by simp) (by simp)
  ·
   exact (h.ml.gtc n hg).free rfl false

theorem SR.step (h : SR cx σ ι ρ a w) {mem' : Mem} {nx' : Nat} {ι' : Nat → Nat} {ρ' : Nat → Value} {w' : World} (hm : ML cx mem' nx' ι' ρ' w') (hk : Kp cx σ.mem σ.nx ι ρ w mem' nx' ι' ρ' w') :
  SR cx ⟨σ.env, mem', nx'⟩ ι' ρ' a w' := ⟨hm, fun t => hk _ _ _ (h.env t)⟩

theorem wp_val {x : Value} {w' : World} {next : Act → World → Prop} (hrun : (execOp a.eval o).run P w = .ok (.value x) w') (h : next (a.put o.dst x) w') : o.wp P a w next Q := by
 unfold Oper.wp; rw [hrun]; exact h

theorem nx_pure (h : SR cx σ ι ρ a w) {x : Value} (hrun : (execOp a.eval o).run P w = .ok (.value x) w) {v : V} (hk : K v σ) (hr : MR cx σ.mem σ.nx ι ρ w v x) : o.wp P a w (Nx cx o a K) Q :=
 wp_val hrun ⟨v, σ, ι, ρ, x, hk, rfl, h, hr⟩

theorem nx_new (h : SR cx σ ι ρ a w) {x : Value} {w' : World} (hrun : (execOp a.eval o).run P w = .ok (.value x) w') {v : V} {mem' : Mem} {nx' : Nat} {ι' : Nat → Nat} {ρ' : Nat → Value}
  (hm : ML cx mem' nx' ι' ρ' w') (hkp : Kp cx σ.mem σ.nx ι ρ w mem' nx' ι' ρ' w') (hk : K v ⟨σ.env, mem', nx'⟩) (hr : MR cx mem' nx' ι' ρ' w' v x) : o.wp P a w (Nx cx o a K) Q :=
 wp_val hrun ⟨v, _, ι', ρ', x, hk, rfl, h.step hm hkp, hr⟩

theorem slot_fz (σ : St) (id : Nat) (o : AObj) (t : Nat) : (σ.fz id o).slot t = (σ.slot t).fz id o := by
 unfold St.slot St.fz
 simp only
 have : ∀ (l : List (Nat × V)), (l.map fun p => (p.1, p.2.fz id o)).lookup t = (l.lookup t).map fun v => v.fz id o := by
  intro l
  induction l with
  | nil => rfl
  | cons p l ih =>
   obtain ⟨q, v⟩ := p
   simp only [List.map_cons, List.lookup_cons]
   cases t == q <;> simp [ih]
 rw [this]
 cases σ.env.lookup t <;> simp [V.fz]

theorem SR.fz (h : SR cx σ ι ρ a w) {id : Nat} {o : AObj} (hl : σ.mem.look id = some o) (hc : o.clo = true) : SR cx (σ.fz id o) ι ρ a w :=
 ⟨h.ml.fz (Mem.look_mem hl) hc, fun t => by rw [slot_fz]; exact Rel.fz h.ml (Mem.look_mem hl) hc (h.env t)⟩

theorem SR.fzAll : ∀ (vs : List V) {σ : St} (_ : SR cx σ ι ρ a w), SR cx (fzAll σ vs) ι ρ a w
 | [], σ, h => h
 | v :: vs, σ, h => by
  unfold Proofs.YtfamkbofdamkkaaGreatDoor.fzAll
  split
  ·
   exact h
  ·
   rename_i id vs' heq
   cases heq
   split
   ·
    rename_i e z rows hl; exact SR.fzAll vs (h.fz hl rfl)
   ·
    rename_i e z rows hl
    split
    ·
     rename_i hc; exact SR.fzAll vs (h.fz hl hc)
    ·
     exact SR.fzAll vs h
   ·
    exact SR.fzAll vs h
  ·
   rename_i id off vs' heq
   cases heq
   split
   ·
    rename_i cs hl
    split
    ·
     rename_i hc; exact SR.fzAll vs (h.fz hl hc)
    ·
     exact SR.fzAll vs h
   ·
    exact SR.fzAll vs h
  ·
   rename_i id vs' heq
   cases heq
   split
   ·
    rename_i es hl; exact SR.fzAll vs (h.fz hl rfl)
   ·
    exact SR.fzAll vs h
  ·
   rename_i heq; cases heq; exact SR.fzAll vs h

theorem okF_spec {f : FuncId} (h : okF P f = true) (args : Array Value) : (callFunc f args).run P w = .ok (.enter f args) w := by
 unfold okF at h
 split at h
 ·
  rename_i fn hf
  simp at h
  obtain ⟨h1, h2⟩ := h
  have hn : fn.body ≠ none := by intro e; rw [e] at h2; cases h2
  simp [callFunc, hf, h1, hn]
 ·
  cases h

theorem unL_run (h : SR cx σ ι ρ a w) (hg : g.getD true = true) {xs : List Operand} {K : List V → Prop} (hu : unL g (xs.map σ.get) K) :
  ∃ vs, vs.length = xs.length ∧ (∀ i, i < vs.length → MR cx σ.mem σ.nx ι ρ w (vs.getD i .any) ((xs.map a.eval).getD i undef)) ∧ K vs := by
 obtain ⟨vs, h1, h2, h3⟩ := unL_sound (w := w) (O := OO cx.X σ.mem ι ρ) (ι := ι) (ρ := ρ) (nx := σ.nx) (c := false) hg hu (xs := xs.map a.eval) (by simp) (fun i hi => by
  have hi' : i < xs.length := by simpa using hi
  have := h.get xs[i]
  simpa [List.getD, hi', MR] using this)
 simp only [List.length_map] at h1 h2
 exact ⟨vs, h1, fun i hi => h2 i (by omega), h3⟩

theorem look_obj (h : SR cx σ ι ρ a w) {id : Nat} {o : AObj} (hl : σ.mem.look id = some o) : OR w (OO cx.X σ.mem ι ρ) ι ρ σ.nx id o := h.ml.obj _ (Mem.look_mem hl)

/-- What is appended: its cells, or nothing. -/
theorem appR_sound (h : SR cx σ ι ρ a w) {x : V} {z : Nat} {rows : List (List V)} (hx : appR σ.mem x z = some rows) {y : Value} (hr : MR cx σ.mem σ.nx ι ρ w x y) :
  (y = .slice none 0 0 ∧ rows = []) ∨ ∃ ad n c xs, y = .slice (some ad) n c ∧ n = rows.length ∧ RowsR w (OO cx.X σ.mem ι ρ) ι ρ σ.nx z rows xs ∧ ∀ j u, xs[j]? = some u → w.cell? (ad.add j) = some u := by
 unfold appR at hx
 split at hx
 ·
  split at hx
  ·
   rename_i e; subst e
   cases hx
   unfold MR at hr
   have hr' := hr
   cases hr with
   | slnil _ _ ad =>
    cases ad with
    | none => exact .inl ⟨rfl, rfl⟩
    | some ad => exact .inr ⟨ad, 0, 0, [], rfl, rfl, ⟨by simp, by simp, by simp, by simp⟩, fun j u hj => by simp at hj⟩
   | sl _ _ _ b off len cap xs hl hc hm hz hs hxx hrr =>
    obtain ⟨h1, xs, h2, h3⟩ := hr'.sl_rows
    refine .inr ⟨⟨b, off, none⟩, len, cap, xs, rfl, h1, ⟨h2.1, h2.2.1, h2.2.2.1, h2.2.2.2⟩, fun j u hj => by rw [addr_add]; exact h3 j u hj⟩
  ·
   cases hx
 ·
  cases hx; cases hr; exact .inl ⟨rfl, rfl⟩
 ·
  rename_i id
  split at hx
  ·
   rename_i e' esz rows' hl
   split at hx
   ·
    rename_i e; subst e
    cases hx
    obtain ⟨xs, h1, h2⟩ := OR_row.1 (look_obj h hl)
    cases hr with
    | own _ hid h1' =>
     rcases h1.2 with hn | ⟨g', cap, cur, hv, -, hg, hle, hcap, hcs, htake⟩
     ·
      exact .inl ⟨hn.1, List.eq_nil_of_length_eq_zero hn.2⟩
     ·
      refine .inr ⟨⟨g', 0, none⟩, _, cap, xs, hv, rfl, h2, fun j u hj => ?_⟩
      exact h1.cells (g := g') (by rw [hv]; rfl) j u hj
   ·
    cases hx
  ·
   cases hx
 ·
  cases hx

end
section
variable {P : Program} {cx : Cx} {σ : St} {ι : Nat → Nat} {ρ : Nat → Value} {a : Act} {w : World} {K : V → St → Prop} {Q : Exit → Act → World → Prop} {o : Oper} {g : Option Bool}

theorem un1 (h : SR cx σ ι ρ a w) (hg : g.getD true = true) {x : Operand} {K : V → Prop} (hu : un g (σ.get x) K) : ∃ v, MR cx σ.mem σ.nx ι ρ w v (a.eval x) ∧ K v := un_sound hg hu (h.get x)

theorem sound_move {x : Operand} (ho : o.op = .move x) (h : SR cx σ ι ρ a w) (hg : g.getD true = true) (hs : un g (σ.get x) fun v => K v σ) : o.wp P a w (Nx cx o a K) Q := by
 obtain ⟨v, hr, hk⟩ := un1 h hg hs
 exact nx_pure h (x := a.eval x) (by simp [execOp, ho]) hk hr
theorem sound_assign {x : Operand} (ho : o.op = .assign x) (h : SR cx σ ι ρ a w) (hg : g.getD true = true) (hs : un g (σ.get x) fun v => K v σ) : o.wp P a w (Nx cx o a K) Q := by
 obtain ⟨v, hr, hk⟩ := un1 h hg hs
 exact nx_pure h (x := a.eval x) (by simp [execOp, ho]) hk hr

theorem sound_pick {c x y : Operand} (ho : o.op = .pick c x y) (h : SR cx σ ι ρ a w) (hg : g.getD true = true) (hs : stp P σ g (.pick c x y) K) : o.wp P a w (Nx cx o a K) Q := by
 simp only [stp] at hs
 obtain ⟨vc, hrc, hs⟩ := un1 h hg hs
 split at hs
 ·
  rename_i t
  obtain ⟨va, hs, hra⟩ := un_sound' hs (h.get x)
  obtain ⟨vb, hs, hrb⟩ := un_sound' hs (h.get y)
  obtain ⟨v, hr, hk⟩ := pickV_sound hs (x := a.eval x) (y := a.eval y) (fun ht => hra (by simp [hg, ht])) (fun ht => hrb (by simp [hg, ht]))
  refine nx_pure h (x := if t then a.eval x else a.eval y) ?_ hk hr
  have hc := hrc.bool_inv
  simp [execOp, ho, hc, asBool]
 ·
  exact hs.elim

theorem run_zero {t : TypeId} {i : TypeInfo} {z : Value} (hi : P.info? t = some i) (hz : i.zero = some z) : (zeroValue t).run P w = .ok z w := by simp [zeroValue, typeInfo, hi, hz]

theorem sound_alloc {T : TypeId} (ho : o.op = .alloc T) (h : SR cx σ ι ρ a w) (hs : stp P σ g (.alloc T) K) : o.wp P a w (Nx cx o a K) Q := by
 simp only [stp] at hs
 obtain ⟨hgn, hs⟩ := hs
 split at hs
 ·
  rename_i cs hz
  obtain ⟨i, z, hi, hzz, hc⟩ := CellsR.zero (w := w) (O := OO cx.X σ.mem ι ρ) (ι := ι) (ρ := ρ) (nx := σ.nx) false hz hs.1
  obtain ⟨h1, h2⟩ := h.ml.newVar z.cells T cs hc.1 hc.2.1 hc.2.2
  refine nx_new h (x := .pointer (some ⟨w.heap.size, 0, none⟩)) ?_ h1 h2 hs.2 ?_
  ·
   simp [execOp, ho, Instr.alloc, run_zero hi hzz, newVar, newRow]
  ·
   have := Rel.ptr (w := w.alloc (.cells z.cells T)) (O := OO cx.X ((σ.nx, .cells cs) :: σ.mem) (fun id => if id = σ.nx then w.heap.size else ι id) ρ) (ι := fun id => if id = σ.nx then w.heap.size else ι id) (ρ := ρ) (nx := σ.nx + 1) σ.nx 0 (by omega)
   simpa [MR] using this
 ·
  exact hs.elim

theorem sound_box {T : TypeId} {x : Operand} (ho : o.op = .box T x) (h : SR cx σ ι ρ a w) (hg : g.getD true = true) (hs : stp P σ g (.box T x) K) : o.wp P a w (Nx cx o a K) Q := by
 simp only [stp] at hs
 obtain ⟨hgn, hs⟩ := hs
 obtain ⟨v, hr, hok, hk⟩ := un1 h hg hs
 have hc := parts_rel hr hok
 obtain ⟨h1, h2⟩ := h.ml.newVar (a.eval x).cells T v.parts hc.1 hc.2.1 hc.2.2
 refine nx_new h (x := .pointer (some ⟨w.heap.size, 0, none⟩)) ?_ h1 h2 hk ?_
 ·
  simp [execOp, ho, Instr.box, newVar, newRow]
 ·
  have := Rel.ptr (w := w.alloc (.cells (a.eval x).cells T)) (O := OO cx.X ((σ.nx, .cells v.parts) :: σ.mem) (fun id => if id = σ.nx then w.heap.size else ι id) ρ) (ι := fun id => if id = σ.nx then w.heap.size else ι id) (ρ := ρ) (nx := σ.nx + 1) σ.nx 0 (by omega)
  simpa [MR] using this

theorem zip_rel {ps : List (Nat × Operand)} {vs : List V} (hl : vs.length = (ps.map (·.2)).length) (hr : ∀ i, i < vs.length → MR cx σ.mem σ.nx ι ρ w (vs.getD i .any) (((ps.map (·.2)).map a.eval).getD i undef)) :
  ∀ i, i < ((ps.map (·.1)).zip vs).length → ((ps.map fun ((i, x) : Nat × Operand) => (i, a.eval x)).getD i default).1 = (((ps.map (·.1)).zip vs).getD i default).1 ∧
   Rel w (OO cx.X σ.mem ι ρ) ι ρ σ.nx false (((ps.map (·.1)).zip vs).getD i default).2 ((ps.map fun ((i, x) : Nat × Operand) => (i, a.eval x)).getD i default).2 := by
 intro i hi
 have h1 : i < ps.length := by simp at hi; omega
 have h2 : i < vs.length := by simp at hi; omega
 have := hr i h2
 simp only [List.getD, List.getElem?_map, List.getElem?_eq_getElem h1, List.getElem?_eq_getElem h2, Option.map_some, Option.getD_some] at this
 have e1 : ((ps.map (·.1)).zip vs)[i]? = some (ps[i].1, vs[i]) := by simp [List.getElem?_zip_eq_some, h1, h2]
 simp only [List.getD, e1, List.getElem?_map, List.getElem?_eq_getElem h1, Option.map_some, Option.getD_some]
 exact ⟨trivial, this⟩

theorem sound_build {T : TypeId} {ps : Array (Nat × Operand)} (ho : o.op = .build T ps) (h : SR cx σ ι ρ a w) (hg : g.getD true = true) (hs : stp P σ g (.build T ps) K) : o.wp P a w (Nx cx o a K) Q := by
 simp only [stp] at hs
 rw [show (ps.toList.map fun p => σ.get p.2) = (ps.toList.map (·.2)).map σ.get by simp [List.map_map, Function.comp_def]] at hs
 obtain ⟨vs, hl, hr, hs⟩ := unL_run h hg hs
 have hz := zip_rel (cx := cx) (σ := σ) (ι := ι) (ρ := ρ) (a := a) (w := w) hl hr
 obtain ⟨v, x, h1, h2, h3⟩ := buildV_sound (w := w) (O := OO cx.X σ.mem ι ρ) (ι := ι) (ρ := ρ) (nx := σ.nx) (c := false) (xs := ps.map fun ((i, x) : Nat × Operand) => (i, a.eval x)) hs (by simp at hl; simp [hl]) (fun i hi => by simpa using hz i hi)
 refine nx_pure h (x := x) ?_ h3 h2
 simp [execOp, ho, h1]

theorem sound_buildSlice {T : TypeId} {len : Nat} {ps : Array (Nat × Operand)} (ho : o.op = .buildSlice T len ps) (h : SR cx σ ι ρ a w) (hg : g.getD true = true) (hs : stp P σ g (.buildSlice T len ps) K) : o.wp P a w (Nx cx o a K) Q := by
 simp only [stp] at hs
 split at hs
 ·
  rename_i e z by' hsl
  obtain ⟨hu, inf, hinf, hsz, hby⟩ := slT_spec hsl
  split at hs
  ·
   rename_i zs hz
   obtain ⟨hsc, hcl, hzl, hz0, hroom, hs⟩ := hs
   obtain ⟨i, zv, hi, hzz, hc⟩ := CellsR.zero (w := w) (O := OO cx.X σ.mem ι ρ) (ι := ι) (ρ := ρ) (nx := σ.nx) false hz hsc
   rw [show (ps.toList.map fun p => σ.get p.2) = (ps.toList.map (·.2)).map σ.get by simp [List.map_map, Function.comp_def]] at hs
   obtain ⟨vs, hl, hr, hs⟩ := unL_run h hg hs
   have hzz' := zip_rel (cx := cx) (σ := σ) (ι := ι) (ρ := ρ) (a := a) (w := w) hl hr
   have hsize : zv.cells.size = z := by rw [hc.1, hzl]
   have hbase : RowsR w (OO cx.X σ.mem ι ρ) ι ρ σ.nx z (List.replicate len zs) ((Array.range (len * z)).map (zv.cells[· % zv.cells.size]!)).toList := by
    have eg : ∀ i, i < len → (List.replicate len zs).getD i [] = zs := fun i hi => by simp [List.getD, hi]
    refine ⟨by simp, fun i hi => ?_, fun i j hi hj => ?_, fun i j hi hj => ?_⟩ <;> (simp at hi; rw [eg i hi])
    ·
     exact hzl
    ·
     exact hc.2.1 j (by omega)
    ·
     have hk := cellIdx hi hj
     have e2 : (i * z + j) % z = j := by rw [Nat.mul_comm, Nat.mul_add_mod, Nat.mod_eq_of_lt hj]
     have := ((hc.2.2 j (by omega)).of_cl (V.clL_getD hcl j) true)
     have hj' : j < zv.cells.size := by omega
     have e3 : ((Array.range (len * z)).map (zv.cells[· % zv.cells.size]!)).toList.getD (i * z + j) undef = zv.cells.getD j undef := by
      have e4 : zv.cells[j]! = zv.cells[j] := getElem!_pos zv.cells j hj'
      have e5 : zv.cells.getD j undef = zv.cells[j] := by unfold Array.getD; rw [dif_pos hj']; rfl
      rw [e5, ← e4]; simp [List.getD, hk, hsize, e2]
     rw [e3]; exact this
   obtain ⟨vs', rows', h1, h2, h3, h4⟩ := rowsV_sound (xs := (ps.toList.map fun ((i, x) : Nat × Operand) => (i, a.eval x))) hs hbase (by simp at hl; simp [hl]) hzz'
   have hcs : vs'.size = len * z := by have := h2.1; rw [h3] at this; simpa using this
   have hlen : rows'.length = len := by rw [h3]; simp
   have hrow : (w.alloc (.cells vs' e)).ownsRow 0 e z (.slice (some ⟨w.heap.size, 0, none⟩) len len) rows'.length vs'.toList := by
    have h1 : len * 1 ≤ len * z := Nat.mul_le_mul_left _ hz0
    refine ⟨by simp [hcs, hlen], .inr ⟨w.heap.size, len, vs', by rw [hlen], by omega, heap_alloc_new w _, by omega, by simp only [maxLen]; omega, hcs, ?_⟩⟩
    rw [hlen]; exact List.take_of_length_le (by simp [hcs])
   have hrun : (execOp a.eval o).run P w = .ok (.value (.slice (some ⟨w.heap.size, 0, none⟩) len len)) (w.alloc (.cells vs' e)) := by
    have hn0 : ¬ len * z > 2 ^ 24 := by omega
    have hps : (ps.map fun ((i, x) : Nat × Operand) => (i, a.eval x)).toList = ps.toList.map fun ((i, x) : Nat × Operand) => (i, a.eval x) := by simp
    simp only [execOp, ho, Instr.buildSlice]
    simp only [Sem.run_bind, run_underlying hu, Result.andThen_ok, sizeOf, typeInfo, run_program, hinf, Sem.run_pure, hsz, if_neg hn0]
    by_cases h0 : len * z = 0
    ·
     have hf : Instr.fill (fun i => some (i * z, z)) #[] (ps.toList.map fun ((i, x) : Nat × Operand) => (i, a.eval x)) = some vs' := by rw [← h1, h0, show Array.range 0 = #[] from rfl, Array.map_empty]
     simp only [h0, if_true, Sem.run_bind, Sem.run_pure, Result.andThen_ok, show Array.range 0 = #[] from rfl, Array.map_empty]
     rw [hps, hf]
     simp [newRow]
    ·
     simp only [h0, if_false, Sem.run_bind, run_zero hi hzz, Sem.run_pure, Result.andThen_ok]
     rw [hps]
     rw [h1]
     simp [newRow]
   rcases h4 with ⟨-, h4⟩ | h4 | h4
   ·
    obtain ⟨m1, m2⟩ := h.ml.new vs' e (fun id => ι id) (fun id => if id = σ.nx then .slice (some ⟨w.heap.size, 0, none⟩) len len else ρ id) (fun id hid => ⟨rfl, if_neg (by omega)⟩) (.row e z rows')
     (fun b hb => by simpa [blk, Value.ownBlock, eq_comm] using hb) fun O hO hk => OR_row.2 ⟨vs'.toList, by simpa using hrow, h2.mono hk⟩
    ·
     refine nx_new h (x := .slice (some ⟨w.heap.size, 0, none⟩) len len) hrun m1 m2 h4 ?_
     ·
      have := Rel.own (w := w.alloc (.cells vs' e)) (O := OO cx.X ((σ.nx, .row e z rows') :: σ.mem) (fun id => ι id) (fun id => if id = σ.nx then .slice (some ⟨w.heap.size, 0, none⟩) len len else ρ id)) (ι := fun id => ι id)
       (ρ := fun id => if id = σ.nx then .slice (some ⟨w.heap.size, 0, none⟩) len len else ρ id) (nx := σ.nx + 1) σ.nx (by omega) (by simp [Value.oneCell'])
      simpa [MR] using this
   ·
    obtain ⟨m1, m2⟩ := h.ml.below ((Below.refl w.heap.size w).alloc (Nat.le_refl _) (.cells vs' e))
    refine nx_new h (x := .slice (some ⟨w.heap.size, 0, none⟩) len len) hrun m1 m2 h4 ?_
    have h5 := h2.mono m2
    have hnew : (w.alloc (.cells vs' e)).heap[w.heap.size]? = some (.cells vs' e (0, 0)) := heap_alloc_new w _
    refine .sl false z rows' w.heap.size 0 len len (fun i j => vs'.toList.getD (i * z + j) undef) hlen.symm (Nat.le_refl _) (by
     have h1 : len * 1 ≤ len * z := Nat.mul_le_mul_left _ hz0
     simp only [maxLen]; omega) h5.2.1 h5.2.2.1 (fun i j hi hj => ⟨?_, fun hO => ?_⟩) h5.2.2.2
    ·
     have hk := cellIdx hi hj
     rw [hlen] at hk
     have hk' : i * z + j < vs'.size := by omega
     unfold World.cell?
     simp only [hnew, Option.isSome_none, Bool.false_eq_true, if_false, Nat.zero_add]
     simp [List.getD, hk']
    ·
     rcases hO with hx | ⟨q, hq, hb⟩
     ·
      have := h.ml.xlt.lt _ hx
      have := h.ml.size
      omega
     ·
      have := (h.ml.own q hq _ hb).1
      omega
   ·
    obtain ⟨m1, m2⟩ := h.ml.below ((Below.refl w.heap.size w).alloc (Nat.le_refl _) (.cells vs' e))
    refine nx_new h (x := .slice (some ⟨w.heap.size, 0, none⟩) len len) hrun m1 m2 h4 ?_
    have h5 := h2.mono m2
    have hnew : (w.alloc (.cells vs' e)).heap[w.heap.size]? = some (.cells vs' e (0, 0)) := heap_alloc_new w _
    refine .slc _ _ _ _ _ ?_
    refine .sl false z rows' w.heap.size 0 len len (fun i j => vs'.toList.getD (i * z + j) undef) hlen.symm (Nat.le_refl _) (by
     have h1 : len * 1 ≤ len * z := Nat.mul_le_mul_left _ hz0
     simp only [maxLen]; omega) h5.2.1 h5.2.2.1 (fun i j hi hj => ⟨?_, fun hO => ?_⟩) h5.2.2.2
    ·
     have hk := cellIdx hi hj
     rw [hlen] at hk
     have hk' : i * z + j < vs'.size := by omega
     unfold World.cell?
     simp only [hnew, Option.isSome_none, Bool.false_eq_true, if_false, Nat.zero_add]
     simp [List.getD, hk']
    ·
     rcases hO with hx | ⟨q, hq, hb⟩
     ·
      have := h.ml.xlt.lt _ hx
      have := h.ml.size
      omega
     ·
      have := (h.ml.own q hq _ hb).1
      omega
  ·
   exact hs.elim
 ·
  exact hs.elim

theorem sound_load {T : TypeId} {x : Operand} (ho : o.op = .load T x) (h : SR cx σ ι ρ a w) (hg : g.getD true = true) (hs : stp P σ g (.load T x) K) : o.wp P a w (Nx cx o a K) Q := by
 simp only [stp] at hs
 obtain ⟨v, hr, hs⟩ := un1 h hg hs
 obtain ⟨v', y, h1, h2, h3⟩ := loadV_sound h.ml hs hr
 exact nx_pure h (x := y) (by simp [execOp, ho, h1]) h3 h2

theorem sound_binOp {op : BinOp} {T u : TypeId} {x y : Operand} (ho : o.op = .binOp op T x y u) (h : SR cx σ ι ρ a w) (hg : g.getD true = true) (hs : stp P σ g (.binOp op T x y u) K) : o.wp P a w (Nx cx o a K) Q := by
 simp only [stp] at hs
 obtain ⟨vx, hx, hs⟩ := un1 h hg hs
 obtain ⟨vy, hy, hs⟩ := un1 h hg hs
 obtain ⟨v, z, h1, h2, h3⟩ := binV_sound (ox := x) (oy := y) hs hx hy
 refine nx_pure h (x := z) ?_ h3 h2
 simp only [Sem.run_bind] at h1
 simp only [execOp, ho, Sem.run_bind]
 cases hq : Sem.run P (eqGuard op T x y (a.eval x) (a.eval y)) w with
 | ok u w1 => rw [hq] at h1; simp only [Result.andThen_ok] at h1 ⊢; rw [h1]; rfl
 | halt e w1 => rw [hq] at h1; cases h1

theorem sound_unOp {op : UnOp} {T : TypeId} {x : Operand} (ho : o.op = .unOp op T x) (h : SR cx σ ι ρ a w) (hg : g.getD true = true) (hs : stp P σ g (.unOp op T x) K) : o.wp P a w (Nx cx o a K) Q := by
 simp only [stp] at hs
 obtain ⟨vx, hx, hs⟩ := un1 h hg hs
 unfold unV at hs
 split at hs
 ·
  have e := hx.int_inv; exact nx_pure h (by simp [execOp, ho, e, Op.unary, Op.intArith]) hs (.int ..)
 ·
  have e := hx.bool_inv; exact nx_pure h (by simp [execOp, ho, e, Op.unary]) hs (.bool ..)
 ·
  exact hs.elim

theorem intT_spec {t : TypeId} {k : IntKind} (h : intT P t = some k) : P.underlying t = some (.int k) := by
 unfold intT at h; split at h <;> simp_all

theorem sound_convert {T U : TypeId} {x : Operand} (ho : o.op = .convert T U x) (h : SR cx σ ι ρ a w) (hg : g.getD true = true) (hs : stp P σ g (.convert T U x) K) : o.wp P a w (Nx cx o a K) Q := by
 simp only [stp] at hs
 obtain ⟨vx, hx, hs⟩ := un1 h hg hs
 split at hs
 ·
  rename_i k0 k k' n h1 h2
  have e := hx.int_inv
  exact nx_pure h (by simp [execOp, ho, e, convert, run_underlying (intT_spec h1), run_underlying (intT_spec h2), Conv.intToInt]) hs (.int ..)
 ·
  exact hs.elim

end
section
variable {P : Program} {cx : Cx} {σ : St} {ι : Nat → Nat} {ρ : Nat → Value} {a : Act} {w : World} {K : V → St → Prop} {Q : Exit → Act → World → Prop} {o : Oper} {g : Option Bool}

theorem take_upd {α : Type} (cur ys : List α) (A M : Nat) (h : A + ys.length ≤ M) (h2 : M ≤ cur.length) :
  (cur.take A ++ ys ++ cur.drop (A + ys.length)).take M = (cur.take M).take A ++ ys ++ (cur.take M).drop (A + ys.length) := by
 have e : (cur.take A ++ ys).length = A + ys.length := by simp; omega
 rw [List.take_append, List.take_of_length_le (by rw [e]; exact h), e, List.take_take, Nat.min_eq_left (by omega), List.drop_take]
theorem sound_store {T : TypeId} {x y : Operand} (ho : o.op = .store T x y) (h : SR cx σ ι ρ a w) (hg : g.getD true = true) (hs : stp P σ g (.store T x y) K) : o.wp P a w (Nx cx o a K) Q := by
 simp only [stp] at hs
 obtain ⟨hgn, hs⟩ := hs
 obtain ⟨vx, hx, hs⟩ := un1 h hg hs
 obtain ⟨v, hv, hs⟩ := un1 h hg hs
 split at hs
 ·
  rename_i n ag id off hl hsx
  split at hs
  ·
   rename_i cs hlook
   obtain ⟨hok, hlen, hoff, hk⟩ := hs
   obtain ⟨vals, e, h1, h2, h3, h4⟩ := look_obj h hlook
   have hc := parts_rel hv hok
   have hsz := (lay_spec (w := w) hl).2.1
   have hone : ∀ u ∈ (a.eval y).cells.toList, u.oneCell' = true := by
    intro u hu
    obtain ⟨k, hk, rfl⟩ := List.getElem_of_mem hu
    have hk' : k < v.parts.length := by have := hc.1; simp at hk; omega
    have := (hc.2.2 k hk').sc_one (hc.2.1 k hk')
    simpa [Array.getD, show k < (a.eval y).cells.size by simpa using hk] using this
   unfold MR at hx
   generalize hxe : a.eval x = xv at hx
   cases hx with
   | ptr _ _ hid =>
    have hcl : (a.eval y).cells.toList.length = v.parts.length := by simpa using hc.1
    have hst := run_storeCells_at P (ι id) off e (a.eval y).cells.toList 0 vals w h1 (by rw [hcl]; omega) hone
    have hoff' : off + v.parts.length ≤ cs.length := by omega
    have hnew : CellsR w (OO cx.X σ.mem ι ρ) ι ρ σ.nx false (spl cs off v.parts) (vals.toList.take off ++ (a.eval y).cells.toList ++ vals.toList.drop (off + v.parts.length)).toArray := by
     have hsl := spl_length hoff'
     have hge : ∀ k, (vals.toList.take off ++ (a.eval y).cells.toList ++ vals.toList.drop (off + v.parts.length)).toArray.getD k undef =
       if off ≤ k ∧ k < off + v.parts.length then (a.eval y).cells.getD (k - off) undef else vals.getD k undef := by
      intro k
      rw [Array.getD_eq_getD_getElem?, List.append_assoc]
      simp only [List.getElem?_toArray]
      have htl : (vals.toList.take off).length = off := by simp; omega
      by_cases k1 : k < off
      ·
       rw [if_neg (by omega), List.getElem?_append_left (by omega), List.getElem?_take, if_pos k1, Array.getElem?_toList, ← Array.getD_eq_getD_getElem?]
      ·
       rw [List.getElem?_append_right (by omega), htl]
       by_cases k2 : k < off + v.parts.length
       ·
        rw [if_pos (by omega), List.getElem?_append_left (by omega), Array.getElem?_toList, ← Array.getD_eq_getD_getElem?]
       ·
        rw [if_neg (by omega), List.getElem?_append_right (by omega), List.getElem?_drop, hcl, Array.getElem?_toList, Array.getD_eq_getD_getElem?]
        congr 2; omega
     refine ⟨by rw [hsl]; simp; have := hc.1; omega, fun i hi => ?_, fun i hi => ?_⟩ <;> (rw [hsl] at hi; rw [spl_getD hoff'])
     ·
      split
      ·
       exact hc.2.1 _ (by omega)
      ·
       exact h3 i hi
     ·
      rw [hge]
      split
      ·
       exact hc.2.2 _ (by omega)
      ·
       exact h4 i hi
    obtain ⟨m1, m2⟩ := h.ml.store (Mem.look_mem hlook) _ (spl cs off v.parts) hnew.1 hnew.2.1 hnew.2.2
    have hrun : (execOp a.eval o).run P w = .ok .skip (w.setRow (ι id) (vals.toList.take off ++ (a.eval y).cells.toList ++ vals.toList.drop (off + v.parts.length)).toArray) := by
     have hne : ¬ (a.eval y).cells.size ≠ n := by rw [hc.1, hlen]; simp
     have e0 : off + 0 + (a.eval y).cells.toList.length = off + v.parts.length := by rw [hcl]; omega
     rw [e0, Nat.add_zero] at hst
     simp only [execOp, ho, hxe, Instr.storeAt, Instr.sureAddr, Sem.run_bind, Sem.run_pure, Result.andThen_ok, storeVar, hsz, if_neg hne, hst]
    unfold Oper.wp
    rw [hrun]
    exact ⟨.any, _, ι, ρ, undef, hk, rfl, h.step m1 m2, .any ..⟩
  ·
   exact hs.elim
 ·
  rename_i n ag id z i j hl hsx
  split at hs
  ·
   rename_i e z' rows hlook
   obtain ⟨rfl, hi, hok, hcl0, hlen, hj, hk⟩ := hs
   obtain ⟨xs, hown, hrow⟩ := OR_row.1 (look_obj h hlook)
   have hc := parts_rel hv hok
   have hsz := (lay_spec (w := w) hl).2.1
   have hone : ∀ u ∈ (a.eval y).cells.toList, u.oneCell' = true := by
    intro u hu
    obtain ⟨k, hk, rfl⟩ := List.getElem_of_mem hu
    have hk' : k < v.parts.length := by have := hc.1; simp at hk; omega
    have := (hc.2.2 k hk').sc_one (hc.2.1 k hk')
    simpa [Array.getD, show k < (a.eval y).cells.size by simpa using hk] using this
   have hpc : V.clL v.parts = true := by
    cases v <;> first | exact hcl0 | (simp [V.parts, V.clL]; exact hcl0) | (simp [V.parts, V.clL, V.cl])
   unfold MR at hx
   generalize hxe : a.eval x = xv at hx
   cases hx with
   | rp _ _ _ _ b hid hb =>
    have hcl : (a.eval y).cells.toList.length = v.parts.length := by simpa using hc.1
    rcases hown.2 with ⟨h1, h2⟩ | ⟨g, cap, cur, h1, hb0, hg, hle, hcm, hcs, htk⟩
    ·
     rw [h1] at hb; cases hb
    have hgb : g = b := by rw [h1] at hb; simpa [Value.ownBlock] using hb
    subst hgb
    have hbnd : (i + 1) * z' ≤ rows.length * z' := Nat.mul_le_mul_right _ hi
    have hcapz : rows.length * z' ≤ cap * z' := Nat.mul_le_mul_right _ hle
    rw [Nat.succ_mul] at hbnd
    have hst := run_storeCells_at P g (i * z' + j) e (a.eval y).cells.toList 0 cur w hg (by rw [hcl]; omega) hone
    have hnew : RowsR w (OO cx.X σ.mem ι ρ) ι ρ σ.nx z' (rows.set i (spl (rows.getD i []) j v.parts)) (xs.take (i * z' + j) ++ (a.eval y).cells.toList ++ xs.drop (i * z' + j + (a.eval y).cells.toList.length)) := by
     refine flat_upd hrow hi (by omega) hcl hc.2.1 fun k hk => ?_
     have := (hc.2.2 k hk).of_cl (V.clL_getD hpc k) true
     simpa [List.getD, Array.getD_eq_getD_getElem?] using this
    obtain ⟨m1, m2⟩ := h.ml.storeRow (Mem.look_mem hlook) (g := g) (by rw [h1]; rfl) (cur.toList.take (i * z' + j) ++ (a.eval y).cells.toList ++ cur.toList.drop (i * z' + j + (a.eval y).cells.toList.length)).toArray
     (rows' := rows.set i (spl (rows.getD i []) j v.parts)) (xs' := xs.take (i * z' + j) ++ (a.eval y).cells.toList ++ xs.drop (i * z' + j + (a.eval y).cells.toList.length)) (by
      rw [h1]
      refine ⟨hnew.1, .inr ⟨g, cap, _, by rw [List.length_set], Nat.zero_le _, setRow_heap w _ _ _ _ _ hg, by rw [List.length_set]; exact hle, hcm, ?_, ?_⟩⟩
      ·
       simp only [List.size_toArray, List.length_append, List.length_take, List.length_drop, Array.length_toList]
       have hcz := hc.1
       rw [Nat.min_eq_left (show i * z' + j ≤ cur.size by omega)]; omega
      ·
       have hxl := hown.1
       rw [List.length_set]
       rw [← htk]
       have hct : cur.toList.length = cap * z' := by rw [Array.length_toList, hcs]
       rw [← Array.length_toList] at hcs
       exact take_upd cur.toList (a.eval y).cells.toList (i * z' + j) (rows.length * z') (by rw [hcl]; omega) (by omega)) hnew
    have hrun : (execOp a.eval o).run P w = .ok .skip (w.setRow g (cur.toList.take (i * z' + j) ++ (a.eval y).cells.toList ++ cur.toList.drop (i * z' + j + (a.eval y).cells.toList.length)).toArray) := by
     have hne : ¬ (a.eval y).cells.size ≠ n := by rw [hc.1, hlen]; simp
     rw [Nat.add_zero] at hst
     simp only [execOp, ho, hxe, Instr.storeAt, Instr.sureAddr, Sem.run_bind, Sem.run_pure, Result.andThen_ok, storeVar, hsz, if_neg hne, hst]
    unfold Oper.wp
    rw [hrun]
    exact ⟨.any, _, ι, ρ, undef, hk, rfl, h.step m1 m2, .any ..⟩
  ·
   rename_i e z' rows hlook
   obtain ⟨rfl, hi, hok, hlen, hj, hk⟩ := hs
   obtain ⟨xs, hown, hrow⟩ := OR_orow.1 (look_obj h hlook)
   have hc := parts_rel hv hok
   have hsz := (lay_spec (w := w) hl).2.1
   have hone : ∀ u ∈ (a.eval y).cells.toList, u.oneCell' = true := by
    intro u hu
    obtain ⟨k, hk, rfl⟩ := List.getElem_of_mem hu
    have hk' : k < v.parts.length := by have := hc.1; simp at hk; omega
    have := (hc.2.2 k hk').sc_one (hc.2.1 k hk')
    simpa [Array.getD, show k < (a.eval y).cells.size by simpa using hk] using this
   unfold MR at hx
   generalize hxe : a.eval x = xv at hx
   cases hx with
   | rp _ _ _ _ b hid hb =>
    have hcl : (a.eval y).cells.toList.length = v.parts.length := by simpa using hc.1
    rcases hown.2 with ⟨h1, h2⟩ | ⟨g, cap, cur, h1, hb0, hg, hle, hcm, hcs, htk⟩
    ·
     rw [h1] at hb; cases hb
    have hgb : g = b := by rw [h1] at hb; simpa [Value.ownBlock] using hb
    subst hgb
    have hbnd : (i + 1) * z' ≤ rows.length * z' := Nat.mul_le_mul_right _ hi
    have hcapz : rows.length * z' ≤ cap * z' := Nat.mul_le_mul_right _ hle
    rw [Nat.succ_mul] at hbnd
    have hst := run_storeCells_at P g (i * z' + j) e (a.eval y).cells.toList 0 cur w hg (by rw [hcl]; omega) hone
    have hnew : RowsC false w (OO cx.X σ.mem ι ρ) ι ρ σ.nx z' (rows.set i (spl (rows.getD i []) j v.parts)) (xs.take (i * z' + j) ++ (a.eval y).cells.toList ++ xs.drop (i * z' + j + (a.eval y).cells.toList.length)) := by
     refine flat_upd hrow hi (by omega) hcl hc.2.1 fun k hk => ?_
     have := hc.2.2 k hk
     simpa [List.getD, Array.getD_eq_getD_getElem?] using this
    obtain ⟨m1, m2⟩ := h.ml.storeRowO (Mem.look_mem hlook) (g := g) (by rw [h1]; rfl) (cur.toList.take (i * z' + j) ++ (a.eval y).cells.toList ++ cur.toList.drop (i * z' + j + (a.eval y).cells.toList.length)).toArray
     (rows' := rows.set i (spl (rows.getD i []) j v.parts)) (xs' := xs.take (i * z' + j) ++ (a.eval y).cells.toList ++ xs.drop (i * z' + j + (a.eval y).cells.toList.length)) (by
      rw [h1]
      refine ⟨hnew.1, .inr ⟨g, cap, _, by rw [List.length_set], Nat.zero_le _, setRow_heap w _ _ _ _ _ hg, by rw [List.length_set]; exact hle, hcm, ?_, ?_⟩⟩
      ·
       simp only [List.size_toArray, List.length_append, List.length_take, List.length_drop, Array.length_toList]
       have hcz := hc.1
       rw [Nat.min_eq_left (show i * z' + j ≤ cur.size by omega)]; omega
      ·
       have hxl := hown.1
       rw [List.length_set]
       rw [← htk]
       have hct : cur.toList.length = cap * z' := by rw [Array.length_toList, hcs]
       rw [← Array.length_toList] at hcs
       exact take_upd cur.toList (a.eval y).cells.toList (i * z' + j) (rows.length * z') (by rw [hcl]; omega) (by omega)) hnew
    have hrun : (execOp a.eval o).run P w = .ok .skip (w.setRow g (cur.toList.take (i * z' + j) ++ (a.eval y).cells.toList ++ cur.toList.drop (i * z' + j + (a.eval y).cells.toList.length)).toArray) := by
     have hne : ¬ (a.eval y).cells.size ≠ n := by rw [hc.1, hlen]; simp
     rw [Nat.add_zero] at hst
     simp only [execOp, ho, hxe, Instr.storeAt, Instr.sureAddr, Sem.run_bind, Sem.run_pure, Result.andThen_ok, storeVar, hsz, if_neg hne, hst]
    unfold Oper.wp
    rw [hrun]
    exact ⟨.any, _, ι, ρ, undef, hk, rfl, h.step m1 m2, .any ..⟩
  ·
   exact hs.elim
 ·
  exact hs.elim

theorem sound_makeFunc {f : FuncId} {first caps : Array Operand} (ho : o.op = .makeFunc (.func f) first caps) (h : SR cx σ ι ρ a w) (hg : g.getD true = true) (hs : stp P σ g (.makeFunc (.func f) first caps) K) : o.wp P a w (Nx cx o a K) Q := by
 simp only [stp] at hs
 obtain ⟨rfl, hs⟩ := hs
 obtain ⟨vs, hl, hr, hk⟩ := unL_run h hg hs
 refine nx_pure h (x := .func (.func f) #[] (caps.map a.eval)) (by simp [execOp, ho, Instr.makeFunc]) hk (.fn _ _ _ _ (by simp at hl; simp [hl]) fun i hi => ?_)
 have := hr i hi
 simpa [List.getD, Array.getD_eq_getD_getElem?, MR] using this

theorem sl_one {O : Nat → Prop} {nx : Nat} {c : Bool} {cs : List V} {b off n : Nat} {xs : Nat → Value} (hs : ∀ j, j < cs.length → (cs.getD j .any).sc = true)
  (hx : ∀ j, j < cs.length → w.cell? ⟨b, off + j, none⟩ = some (xs j) ∧ ¬ O b) (h : ∀ j, j < cs.length → Rel w O ι ρ nx true (cs.getD j .any) (xs j)) (hn : n = cs.length) (hm : n ≤ maxLen) :
  Rel w O ι ρ nx c (.sl 1 (cs.map fun v => [v])) (.slice (some ⟨b, off, none⟩) n n) := by
 have eg : ∀ i, i < cs.length → ((cs.map fun v => [v]).getD i []) = [cs.getD i .any] := fun i hi => by simp [List.getD, hi]
 refine .sl _ _ _ _ _ _ _ (fun i j => xs i) (by simpa using hn) (Nat.le_refl _) hm (fun i hi => ?_) (fun i j hi hj => ?_) (fun i j hi hj => ?_) (fun i j hi hj => ?_) <;> simp only [List.length_map] at hi
 ·
  rw [eg i hi]; rfl
 ·
  have : j = 0 := by omega
  subst this; rw [eg i hi]; simpa using hs i hi
 ·
  have : j = 0 := by omega
  subst this; simpa using hx i hi
 ·
  have : j = 0 := by omega
  subst this; rw [eg i hi]; simpa using h i hi

theorem Rel.sl_nil_or {O : Nat → Prop} {nx : Nat} {c : Bool} {esz : Nat} {rows : List (List V)} {x : Value} (h : Rel w O ι ρ nx c (.sl esz rows) x) :
  ((∃ ad, x = .slice ad 0 0) ∧ rows = []) ∨ ∃ b off cap, x = .slice (some ⟨b, off, none⟩) rows.length cap ∧ rows.length ≤ cap := by
 cases h with
 | slnil _ _ ad => exact .inl ⟨⟨ad, rfl⟩, rfl⟩
 | sl _ _ _ b off len cap xs hl hc => subst hl; exact .inr ⟨b, off, cap, rfl, hc⟩

theorem Rel.sl_empty {O : Nat → Prop} {nx : Nat} {c : Bool} {esz b off cap : Nat} (hm : cap ≤ maxLen) : Rel w O ι ρ nx c (.sl esz []) (.slice (some ⟨b, off, none⟩) 0 cap) :=
 .sl _ _ _ _ _ _ _ (fun _ _ => undef) rfl (Nat.zero_le _) hm (by simp) (by simp) (by simp) (by simp)

/-- A part of a slice. -/
theorem Rel.sl_part {O : Nat → Prop} {nx : Nat} {c : Bool} {esz : Nat} {rows : List (List V)} {b off cap cap' l h : Nat} (hl : l ≤ h) (hh : h ≤ rows.length) (hcap : h - l ≤ cap') (hm : cap' ≤ maxLen) (hr : Rel w O ι ρ nx c (.sl esz rows) (.slice (some ⟨b, off, none⟩) rows.length cap)) :
  Rel w O ι ρ nx c (.sl esz ((rows.take h).drop l)) (.slice (some ⟨b, off + l * esz, none⟩) (h - l) cap') := by
 cases hr with
 | slnil =>
  have h0 : h = 0 := by simpa using hh
  have l0 : l = 0 := by omega
  subst h0; subst l0
  simpa using Rel.sl_empty hm
 | sl _ _ _ _ _ _ _ xs _ hc _ hz hs hx hrr =>
  have eg : ∀ i, i < h - l → ((rows.take h).drop l).getD i [] = rows.getD (l + i) [] := fun i hi => by simp [List.getD, List.getElem?_take, show l + i < h by omega]
  have hlen : ((rows.take h).drop l).length = h - l := by simp; omega
  refine .sl _ _ _ _ _ _ _ (fun i j => xs (l + i) j) hlen.symm hcap hm (fun i hi => ?_) (fun i j hi hj => ?_) (fun i j hi hj => ?_) (fun i j hi hj => ?_) <;> rw [hlen] at hi
  ·
   rw [eg i hi]; exact hz _ (by omega)
  ·
   rw [eg i hi]; exact hs _ _ (by omega) hj
  ·
   have := hx (l + i) j (by omega) hj
   have e : off + l * esz + (i * esz + j) = off + ((l + i) * esz + j) := by rw [Nat.add_mul]; omega
   rw [e]; exact this
  ·
   rw [eg i hi]; exact hrr _ _ (by omega) hj

theorem Rel.cap_le {O : Nat → Prop} {nx : Nat} {c : Bool} {esz : Nat} {rows : List (List V)} {ad : Addr} {len cap : Nat} (h : Rel w O ι ρ nx c (.sl esz rows) (.slice (some ad) len cap)) : cap ≤ maxLen := by
 cases h <;> first | assumption | exact Nat.zero_le _

/-- s[l:h], and what it stands for. -/
theorem run_slice_sl {O : Nat → Prop} {nx : Nat} {c : Bool} {T : TypeId} {e : TypeId} {z bytes : Nat} (hT : slT P T = some (e, z, bytes)) {rows : List (List V)} {x : Value} (hr : Rel w O ι ρ nx c (.sl z rows) x)
  (lo hi : Option Value) (l h : Nat) (hlo : (lo = none ∧ l = 0) ∨ ∃ k, lo = some (.int k l)) (hhi : (hi = none ∧ h = rows.length) ∨ ∃ k, hi = some (.int k h)) (hlh : l ≤ h) (hh : h ≤ rows.length) :
  ∃ y, (Instr.sliceAt T x lo hi none).run P w = .ok y w ∧ Rel w O ι ρ nx c (.sl z ((rows.take h).drop l)) y := by
 obtain ⟨hu, inf, hinf, hsz, -⟩ := slT_spec hT
 rcases hr.sl_nil_or with ⟨⟨ad, rfl⟩, rfl⟩ | ⟨b, off, cap, rfl, hc⟩
 ·
  have h0 : h = 0 := by simpa using hh
  have l0 : l = 0 := by omega
  subst h0; subst l0
  refine ⟨.slice ad 0 0, ?_, by simpa using Rel.slnil c z ad⟩
  cases ad <;>
  rcases hlo with ⟨rfl, -⟩ | ⟨k, rfl⟩ <;> rcases hhi with ⟨rfl, -⟩ | ⟨k', rfl⟩ <;>
   simp [Instr.sliceAt, Instr.slice, run_underlying hu, Instr.sliceBounds, Instr.sliceBound, asIntOf, sizeOf, typeInfo, hinf]
 ·
  have hbr : (Instr.sliceBounds true rows.length cap lo hi none).run P w = .ok (l, h, cap) w := by
   rcases hlo with ⟨rfl, rfl⟩ | ⟨k, rfl⟩ <;> rcases hhi with ⟨rfl, rfl⟩ | ⟨k', rfl⟩
   ·
    simp [Instr.sliceBounds]
   ·
    have : (0 : Int) ≤ h ∧ (h : Int) ≤ cap := by omega
    simp [Instr.sliceBounds, Instr.sliceBound, asIntOf, this]
    omega
   ·
    have : (0 : Int) ≤ l ∧ (l : Int) ≤ rows.length := by omega
    simp [Instr.sliceBounds, Instr.sliceBound, asIntOf, this]
    omega
   ·
    simp [Instr.sliceBounds, Instr.sliceBound, asIntOf, show (h : Nat) ≤ cap by omega, hlh]
  refine ⟨.slice (if cap = l then some ⟨b, off, none⟩ else some ⟨b, off + l * z, none⟩) (h - l) (cap - l), ?_, ?_⟩
  ·
   simp only [Instr.sliceAt, Instr.slice, run_underlying hu, Sem.run_bind, Result.andThen_ok, hbr, sizeOf, typeInfo, run_program, hinf, Sem.run_pure, hsz, Option.map_some, addr_add]
  ·
   have hm := hr.cap_le
   by_cases hcl : cap = l
   ·
    rw [if_pos hcl]
    have : h - l = 0 := by omega
    have hd : (rows.take h).drop l = [] := List.drop_eq_nil_of_le (by simp; omega)
    rw [hd, this]
    exact Rel.sl_empty (by omega)
   ·
    rw [if_neg hcl]
    exact Rel.sl_part hlh hh (by omega) (by omega) hr

theorem sound_slice {T : TypeId} {x : Operand} {lo hi mx : Option Operand} (ho : o.op = .slice T x lo hi mx) (h : SR cx σ ι ρ a w) (hg : g.getD true = true) (hs : stp P σ g (.slice T x lo hi mx) K) : o.wp P a w (Nx cx o a K) Q := by
 cases mx with
 | some m =>
  cases lo with
  | some l => exact hs.elim
  | none =>
   cases hi with
   | none => exact hs.elim
   | some hh =>
    simp only [stp] at hs
    obtain ⟨vx, hx, hs1⟩ := un1 h hg hs
    obtain ⟨vh, hvh, hs2⟩ := un1 h hg hs1
    obtain ⟨vm, hvm, hs3⟩ := un1 h hg hs2
    clear hs hs1 hs2
    rename _ => hs
    split at hs
    ·
     rename_i e c by' esz rows k1 n1 k2 n2 hT
     obtain ⟨rfl, rfl, h0, h1, hk⟩ := hs
     obtain ⟨hu, inf, hinf, hsz, -⟩ := slT_spec hT
     have e1 : a.eval hh = .int k1 n1 := hvh.int_inv
     have e2 : a.eval m = .int k2 n1 := hvm.int_inv
     obtain ⟨n, rfl⟩ := Int.eq_ofNat_of_zero_le h0
     have hn : n ≤ rows.length := by omega
     unfold MR at hx
     rcases hx.sl_nil_or with ⟨⟨ad, hx1⟩, rfl⟩ | ⟨b, off, cap, hx1, hc⟩
     ·
      have : n = 0 := by simpa using hn
      subst this
      refine nx_pure h (x := .slice ad 0 0) ?_ hk (by simpa [MR] using Rel.slc false c [] ad 0 (.slnil _ _ _))
      cases ad <;> simp [execOp, ho, hx1, e1, e2, Instr.sliceAt, Instr.slice, run_underlying hu, Instr.sliceBounds, Instr.sliceBound, asIntOf, sizeOf, typeInfo, hinf]
     ·
      have hbr : (Instr.sliceBounds true rows.length cap none (some (.int k1 n)) (some (.int k2 n))).run P w = .ok (0, n, n) w := by
       have : (n : Int) ≤ cap := by omega
       simp [Instr.sliceBounds, Instr.sliceBound, asIntOf, this, show n ≤ cap by omega]
      have hp := Rel.sl_part (l := 0) (h := n) (cap' := n) (Nat.zero_le _) hn (by omega) (by rw [hx1] at hx; have := hx.cap_le; omega) (by rw [hx1] at hx; exact hx)
      simp only [Nat.zero_mul, Nat.add_zero, Nat.sub_zero, List.drop_zero] at hp
      refine nx_pure h (x := .slice (some ⟨b, off, none⟩) n n) ?_ hk (.slc _ _ _ _ _ (by simpa using hp))
      simp only [execOp, ho, hx1, e1, e2, Option.map_none, Option.map_some, Instr.sliceAt, Instr.slice, run_underlying hu, Sem.run_bind, Result.andThen_ok, hbr, sizeOf, typeInfo, run_program, hinf, Sem.run_pure, hsz, addr_add]
      simp
    ·
     exact hs.elim
 | none =>
 simp only [stp] at hs
 obtain ⟨vx, hx, hs⟩ := un1 h hg hs
 split at hs
 ·
  rename_i id n e' c har
  split at hs
  ·
   rename_i cs hlook
   obtain ⟨hgn, hlo, hhi, rfl, hcs, hcl, hmx, hk⟩ := hs
   obtain ⟨hu, inf, hinf, hsz⟩ := arT_spec har
   have hlo' : lo = none := by simpa using hlo
   have hhi' : hi = none := by simpa using hhi
   subst hlo'; subst hhi'
   have hfz := h.fz (o := .cells cs) hlook hcl
   have hx' := Rel.fz (o := .cells cs) h.ml (Mem.look_mem hlook) hcl hx
   simp only [V.fz, if_true] at hx'
   generalize hxe : a.eval x = xv at hx hx'
   cases hx with
   | ptr _ _ hid =>
    refine wp_val (x := .slice (some ⟨ι id, 0, none⟩) n n) (w' := w) ?_ ⟨_, _, ι, ρ, _, hk, rfl, hfz, ?_⟩
    ·
     simp [execOp, ho, hxe, Instr.sliceAt, run_underlying hu, Instr.sureAddr, Instr.sliceBounds, sizeOf, typeInfo, hinf, addr_add]
    ·
     cases hx' with
     | ep _ _ _ _ xs hs' hxx hrr =>
      simp only [List.drop_zero] at hs' hxx hrr
      exact sl_one hs' hxx hrr (by simpa using hcs.symm) hmx
  ·
   exact hs.elim
 ·
  rename_i es n e' c har
  obtain ⟨hlo, hhi, rfl, hcs, hmx, hk⟩ := hs
  obtain ⟨hu, inf, hinf, hsz⟩ := arT_spec har
  have hlo' : lo = none := by simpa using hlo
  have hhi' : hi = none := by simpa using hhi
  subst hlo'; subst hhi'
  unfold MR at hx
  generalize hxe : a.eval x = xv at hx
  cases hx with
  | ep _ _ b off xs hs' hxx hrr =>
   have hlt : (es.take n).length = n := by rw [List.length_take]; omega
   have hge : ∀ j, j < (es.take n).length → (es.take n).getD j .any = es.getD j .any := fun j hj => by
    rw [hlt] at hj
    simp [List.getD, List.getElem?_take, hj]
   refine nx_pure h (x := .slice (some ⟨b, off, none⟩) n n) ?_ hk (sl_one (cs := es.take n) (fun j hj => by rw [hge j hj]; exact hs' j (by rw [hlt] at hj; omega)) (fun j hj => hxx j (by rw [hlt] at hj; omega)) (fun j hj => by rw [hge j hj]; exact hrr j (by rw [hlt] at hj; omega)) hlt.symm hmx)
   simp [execOp, ho, hxe, Instr.sliceAt, run_underlying hu, Instr.sureAddr, Instr.sliceBounds, sizeOf, typeInfo, hinf, addr_add]
 ·
  have hget : ∀ (op : Option Operand) (k : IntKind) (n : Int), op.map σ.get = some (.int k n) → op.map a.eval = some (.int k n) := by
   intro op k n e
   cases op with
   | none => cases e
   | some y =>
    have := h.get y
    simp only [Option.map_some, Option.some.injEq] at e
    rw [e] at this
    simp [this.int_inv]
  have hnone : ∀ (op : Option Operand), op.map σ.get = none → op.map a.eval = none := by
   intro op e; cases op with
   | none => rfl
   | some y => cases e
  unfold sliV at hs
  split at hs
  ·
   rename_i e z by' esz rows hT hlo hhi _ _
   obtain ⟨rfl, hk⟩ := hs
   obtain ⟨y, h1, h2⟩ := run_slice_sl hT hx (lo.map a.eval) (hi.map a.eval) 0 rows.length (.inl ⟨hnone _ hlo, rfl⟩) (.inl ⟨hnone _ hhi, rfl⟩) (Nat.zero_le _) (Nat.le_refl _)
   exact nx_pure h (x := y) (by simp [execOp, ho, h1]) hk (by simpa [MR] using h2)
  ·
   rename_i e z by' esz rows k l hT hlo hhi _ _
   obtain ⟨rfl, h0, h1', hk⟩ := hs
   obtain ⟨y, h1, h2⟩ := run_slice_sl hT hx (lo.map a.eval) (hi.map a.eval) l.toNat rows.length (.inr ⟨k, by rw [hget _ _ _ hlo, Int.toNat_of_nonneg h0]⟩) (.inl ⟨hnone _ hhi, rfl⟩) (by omega) (Nat.le_refl _)
   exact nx_pure h (x := y) (by simp [execOp, ho, h1]) hk (by simpa [MR] using h2)
  ·
   rename_i e z by' esz rows k l hT hlo hhi _ _
   obtain ⟨rfl, h0, h1', hk⟩ := hs
   obtain ⟨y, h1, h2⟩ := run_slice_sl hT hx (lo.map a.eval) (hi.map a.eval) 0 l.toNat (.inl ⟨hnone _ hlo, rfl⟩) (.inr ⟨k, by rw [hget _ _ _ hhi, Int.toNat_of_nonneg h0]⟩) (by omega) (by omega)
   exact nx_pure h (x := y) (by simp [execOp, ho, h1]) hk (by simpa [MR] using h2)
  ·
   rename_i e z by' esz rows k l k' l' hT hlo hhi _ _
   obtain ⟨rfl, h0, h1', h2', hk⟩ := hs
   obtain ⟨y, h1, h2⟩ := run_slice_sl hT hx (lo.map a.eval) (hi.map a.eval) l.toNat l'.toNat (.inr ⟨k, by rw [hget _ _ _ hlo, Int.toNat_of_nonneg h0]⟩) (.inr ⟨k', by rw [hget _ _ _ hhi, Int.toNat_of_nonneg (by omega)]⟩) (by omega) (by omega)
   exact nx_pure h (x := y) (by simp [execOp, ho, h1]) hk h2
  ·
   exact hs.elim

end
section
variable {P : Program} {cx : Cx} {σ : St} {ι : Nat → Nat} {ρ : Nat → Value} {a : Act} {w : World} {K : V → St → Prop} {Q : Exit → Act → World → Prop} {o : Oper} {g : Option Bool}

theorem sound_fieldAddr {T : TypeId} {x : Operand} {f : Nat} (ho : o.op = .fieldAddr T x f) (h : SR cx σ ι ρ a w) (hg : g.getD true = true) (hs : stp P σ g (.fieldAddr T x f) K) : o.wp P a w (Nx cx o a K) Q := by
 simp only [stp] at hs
 obtain ⟨vx, hx, hs⟩ := un1 h hg hs
 obtain ⟨v, z, h1, h2, h3⟩ := fldV_sound hs hx
 exact nx_pure h (x := z) (by simp [execOp, ho, h1]) h3 h2

theorem sound_indexAddr {T : TypeId} {x i : Operand} (ho : o.op = .indexAddr T x i) (h : SR cx σ ι ρ a w) (hg : g.getD true = true) (hs : stp P σ g (.indexAddr T x i) K) : o.wp P a w (Nx cx o a K) Q := by
 simp only [stp] at hs
 obtain ⟨vx, hx, hs⟩ := un1 h hg hs
 obtain ⟨vi, hi, hs⟩ := un1 h hg hs
 obtain ⟨v, z, h1, h2, h3⟩ := idxV_sound h.ml (idxV_shp hs) hx hi
 exact nx_pure h (x := z) (by simp [execOp, ho, h1]) h3 h2

theorem Rel.agg_shape {O : Nat → Prop} {nx : Nat} {c : Bool} {cs : List V} {x : Value} (h : Rel w O ι ρ nx c (.agg cs) x) : ∃ vs, x = .agg vs := by cases h; exact ⟨_, rfl⟩

theorem partV_sound {O : Nat → Prop} {nx : Nat} {c : Bool} {t : TypeId} {off : Nat} {v : V} {x : Value} {K : V → Prop} (h : partV (lay P t) off v K) (hr : Rel w O ι ρ nx c v x) :
  ∃ vs v' z, x = .agg vs ∧ (part t vs off).run P w = .ok z w ∧ Rel w O ι ρ nx c v' z ∧ K v' := by
 unfold partV at h
 split at h
 ·
  rename_i n ag cs hl
  obtain ⟨vs, rfl⟩ := hr.agg_shape
  obtain ⟨z, h1, h2⟩ := run_part hl h.1 hr
  exact ⟨vs, _, z, rfl, h1, h2, h.2⟩
 ·
  exact h.elim

theorem sound_field {T : TypeId} {x : Operand} {f : Nat} (ho : o.op = .field T x f) (h : SR cx σ ι ρ a w) (hg : g.getD true = true) (hs : stp P σ g (.field T x f) K) : o.wp P a w (Nx cx o a K) Q := by
 simp only [stp] at hs
 obtain ⟨vx, hx, hs⟩ := un1 h hg hs
 split at hs
 ·
  rename_i off c ag hst
  obtain ⟨fs, fd, hu, hf, hoff, hl⟩ := stT_spec hst
  rw [← hl] at hs
  obtain ⟨vs, v', z, e, h1, h2, h3⟩ := partV_sound hs hx
  refine nx_pure h (x := z) ?_ h3 h2
  simp [execOp, ho, e, Instr.field, run_underlying hu, hf, asAgg, hoff, h1]
 ·
  exact hs.elim

theorem sound_index {T : TypeId} {x i : Operand} (ho : o.op = .index T x i) (h : SR cx σ ι ρ a w) (hg : g.getD true = true) (hs : stp P σ g (.index T x i) K) : o.wp P a w (Nx cx o a K) Q := by
 simp only [stp] at hs
 obtain ⟨vx, hx, hs⟩ := un1 h hg hs
 obtain ⟨vi, hi, hs1⟩ := un1 h hg hs
 clear hs
 replace hs := hs1
 clear hs1
 split at hs
 ·
  rename_i s k n
  obtain ⟨hT, h0, h1, hs⟩ := hs
  have ei := hi.int_inv
  have ex : a.eval x = .string s := by unfold MR at hx; generalize a.eval x = y at hx ⊢; cases hx; rfl
  refine nx_pure h (x := .int .u8 (s.get! n.toNat).toNat) ?_ hs (.int ..)
  have hget : s[n.toNat]? = some (s.get! n.toNat) := by
   have e1 : s[n.toNat]? = some (s[n.toNat]'h1) := getElem?_pos s n.toNat h1
   rw [e1]
   have h2 : n.toNat < s.data.size := h1
   simp [ByteArray.get!, ByteArray.getElem_eq_getElem_data]
   exact (getElem!_pos s.data n.toNat h2).symm
  simp [execOp, ho, ex, ei, Instr.index, asIntOf, run_underlying (strT_under hT), h0, hget]
 ·
  split at hs
  ·
   rename_i len e c k n har _
   obtain ⟨hu, inf, hinf, hsz⟩ := arT_spec har
   obtain ⟨h0, h1', hs⟩ := hs
   obtain ⟨vs, v', z, e', h1, h2, h3⟩ := partV_sound hs hx
   have ei := hi.int_inv
   refine nx_pure h (x := z) ?_ h3 h2
   simp [execOp, ho, e', ei, Instr.index, asIntOf, run_underlying hu, h0, h1', sizeOf, typeInfo, hinf, hsz, h1]
  ·
   exact hs.elim

theorem sound_nilCheck {x : Operand} (ho : o.op = .nilCheck x) (h : SR cx σ ι ρ a w) (hg : g.getD true = true) (hs : stp P σ g (.nilCheck x) K) : o.wp P a w (Nx cx o a K) Q := by
 simp only [stp] at hs
 obtain ⟨vx, hx, hs⟩ := un1 h hg hs
 split at hs
 ·
  have hx' := hx
  unfold MR at hx'
  generalize hxe : a.eval x = y at hx'
  cases hx' with
  | ep _ _ b off xs h1 h2 h3 =>
   refine nx_pure h (x := .pointer (some ⟨b, off, none⟩)) ?_ hs (.ep _ _ _ _ xs h1 h2 h3)
   simp [execOp, ho, hxe]
 ·
  have hx' := hx
  unfold MR at hx'
  generalize hxe : a.eval x = y at hx'
  cases hx' with
  | ptr _ _ hid =>
   refine nx_pure h (x := .pointer (some ⟨ι _, _, none⟩)) ?_ hs (.ptr _ _ hid)
   simp [execOp, ho, hxe]
 ·
  have hx' := hx
  unfold MR at hx'
  generalize hxe : a.eval x = y at hx'
  cases hx' with
  | rp _ _ _ _ b hid hb =>
   refine nx_pure h (x := .pointer (some ⟨b, _, none⟩)) ?_ hs (.rp _ _ _ _ b hid hb)
   simp [execOp, ho, hxe]
 ·
  exact hs.elim

theorem sound_extract {x : Operand} {i : Nat} (ho : o.op = .extract x i) (h : SR cx σ ι ρ a w) (hg : g.getD true = true) (hs : stp P σ g (.extract x i) K) : o.wp P a w (Nx cx o a K) Q := by
 simp only [stp] at hs
 obtain ⟨vx, hx, hs⟩ := un1 h hg hs
 split at hs
 ·
  rename_i ts
  unfold MR at hx
  generalize hxe : a.eval x = xv at hx
  cases hx with
  | tup _ _ vs hl hr =>
   have hi : i < vs.size := by rw [hl]; exact hs.1
   refine nx_pure h (x := vs.getD i undef) ?_ hs.2 (hr i hs.1)
   simp [execOp, ho, hxe, Instr.extract, hi, Array.getD]
 ·
  exact hs.elim

theorem list1 {α : Type} {xs : Array α} {x : α} (h : xs.toList = [x]) : xs = #[x] := by apply Array.toList_inj.1; simpa using h
theorem list2 {α : Type} {xs : Array α} {x y : α} (h : xs.toList = [x, y]) : xs = #[x, y] := by apply Array.toList_inj.1; simpa using h

theorem sound_len {args : Array Operand} {ts : Array TypeId} (ho : o.op = .call { callee := .builtin .len, args := args, argTypes := ts }) (h : SR cx σ ι ρ a w) (hg : g.getD true = true)
  (hs : stp P σ g (.call { callee := .builtin .len, args := args, argTypes := ts }) K) : o.wp P a w (Nx cx o a K) Q := by
 simp only [stp] at hs
 split at hs
 ·
  rename_i x t hx1 ht1
  obtain ⟨vx, hx, hs⟩ := un1 h hg hs
  have e1 := list1 hx1
  have e2 := list1 ht1
  subst e1; subst e2
  replace hs := lenV_shp hs
  unfold lenV at hs
  split at hs
  ·
   rename_i q _ _ esz rows hT
   obtain ⟨hu, -⟩ := slT_spec hT
   rcases hx.sl_nil_or with ⟨⟨ad, e⟩, rfl⟩ | ⟨b, off, cap, e, -⟩
   ·
    exact nx_pure h (x := .int .i64 0) (by simp [execOp, ho, resolve, invoke, builtin, Builtin.len_, e, run_underlying hu, goInt]) hs (by simpa [MR] using Rel.int (w := w) (O := OO cx.X σ.mem ι ρ) (ι := ι) (ρ := ρ) (nx := σ.nx) false .i64 0)
   ·
    exact nx_pure h (x := .int .i64 rows.length) (by simp [execOp, ho, resolve, invoke, builtin, Builtin.len_, e, run_underlying hu, goInt]) hs (.int ..)
  ·
   rename_i q _ _ hT
   obtain ⟨hu, -⟩ := slT_spec hT
   have e : a.eval x = .slice none 0 0 := by unfold MR at hx; generalize a.eval x = y at hx ⊢; cases hx; rfl
   exact nx_pure h (x := .int .i64 0) (by simp [execOp, ho, resolve, invoke, builtin, Builtin.len_, e, run_underlying hu, goInt]) hs (.int ..)
  ·
   rename_i q _ _ id hT
   obtain ⟨hu, -⟩ := slT_spec hT
   split at hs
   ·
    rename_i e' z rows hl
    obtain ⟨xs, h1, h2⟩ := OR_row.1 (look_obj h hl)
    unfold MR at hx
    generalize hxe : a.eval x = y at hx
    cases hx with
    | own _ hid h1' =>
     refine nx_pure h (x := .int .i64 rows.length) ?_ hs (.int ..)
     rcases h1.2 with hn | ⟨g', cap, cur, hv, -⟩
     ·
      rw [hn.1] at hxe
      simp [execOp, ho, resolve, invoke, builtin, Builtin.len_, hxe, run_underlying hu, goInt, hn.2]
     ·
      rw [hv] at hxe
      simp [execOp, ho, resolve, invoke, builtin, Builtin.len_, hxe, run_underlying hu, goInt]
   ·
    rename_i e' z rows hl
    obtain ⟨xs, h1, h2⟩ := OR_orow.1 (look_obj h hl)
    unfold MR at hx
    generalize hxe : a.eval x = y at hx
    cases hx with
    | own _ hid h1' =>
     refine nx_pure h (x := .int .i64 rows.length) ?_ hs (.int ..)
     rcases h1.2 with hn | ⟨g', cap, cur, hv, -⟩
     ·
      rw [hn.1] at hxe
      simp [execOp, ho, resolve, invoke, builtin, Builtin.len_, hxe, run_underlying hu, goInt, hn.2]
     ·
      rw [hv] at hxe
      simp [execOp, ho, resolve, invoke, builtin, Builtin.len_, hxe, run_underlying hu, goInt]
   ·
    exact hs.elim
  ·
   exact hs.elim
 ·
  exact hs.elim

theorem sound_min {args : Array Operand} {ts : Array TypeId} (ho : o.op = .call { callee := .builtin .min, args := args, argTypes := ts }) (h : SR cx σ ι ρ a w) (hg : g.getD true = true)
  (hs : stp P σ g (.call { callee := .builtin .min, args := args, argTypes := ts }) K) : o.wp P a w (Nx cx o a K) Q := by
 simp only [stp] at hs
 split at hs
 ·
  rename_i x y hx1
  obtain ⟨vx, hx, hs⟩ := un1 h hg hs
  obtain ⟨vy, hy, hs⟩ := un1 h hg hs
  have e1 := list2 hx1
  subst e1
  split at hs
  ·
   rename_i k p k' q _
   have e1 := hx.int_inv
   have e2 := hy.int_inv
   refine nx_pure h (x := .int k (minV p q)) ?_ hs (.int ..)
   simp [execOp, ho, resolve, invoke, builtin, e1, e2, run_min_int2, minV]
  ·
   exact hs.elim
 ·
  exact hs.elim

theorem sound_max {args : Array Operand} {ts : Array TypeId} (ho : o.op = .call { callee := .builtin .max, args := args, argTypes := ts }) (h : SR cx σ ι ρ a w) (hg : g.getD true = true)
  (hs : stp P σ g (.call { callee := .builtin .max, args := args, argTypes := ts }) K) : o.wp P a w (Nx cx o a K) Q := by
 simp only [stp] at hs
 split at hs
 ·
  rename_i x y hx1
  obtain ⟨vx, hx, hs⟩ := un1 h hg hs
  obtain ⟨vy, hy, hs⟩ := un1 h hg hs
  have e1 := list2 hx1
  subst e1
  split at hs
  ·
   rename_i k p k' q _
   have e1 := hx.int_inv
   have e2 := hy.int_inv
   refine nx_pure h (x := .int k (maxV p q)) ?_ hs (.int ..)
   simp [execOp, ho, resolve, invoke, builtin, e1, e2, run_max_int2, maxV]
  ·
   exact hs.elim
 ·
  exact hs.elim

theorem run_append_zero (t ty e : TypeId) (i : TypeInfo) (ht : P.underlying t = some (.slice e)) (hi : P.info? e = some i) (sa xa : Option Addr) (n c : Nat) :
  (Builtin.append_ #[t, t] ty #[.slice sa n n, .slice xa 0 c]).run P w = .ok (.slice sa n n) w := by
 cases sa <;> cases xa <;> simp [Builtin.append_, run_underlying ht, sizeOf, typeInfo, hi, Builtin.lenOf, Builtin.firstCells, loadCells, loadCellsFrom, storeCells]

/-- A slice of the call's making, that nobody turns any more. -/
theorem sl_fresh (h : SR cx σ ι ρ a w) {w' : World} (hg : w.grownBy w' none) {e z n : Nat} {v' : Value} {xs : List Value} {rows : List (List V)} (ho : w'.ownsRow 0 e z v' n xs) (hb : ∀ b, v'.ownBlock = some b → w.heap.size ≤ b)
  (hn : n = rows.length) (h0 : 0 < n) (hr : RowsR w (OO cx.X σ.mem ι ρ) ι ρ σ.nx z rows xs) : ML cx σ.mem σ.nx ι ρ w' ∧ Kp cx σ.mem σ.nx ι ρ w σ.mem σ.nx ι ρ w' ∧ MR cx σ.mem σ.nx ι ρ w' (.sl z rows) v' := by
 have hbl : Below w.heap.size w w' := ⟨hg.os, hg.tape, hg.output, hg.size, fun k hk => hg.block k hk (by simp)⟩
 obtain ⟨m1, m2⟩ := h.ml.below hbl
 refine ⟨m1, m2, ?_⟩
 have h5 := hr.mono m2
 rcases ho.2 with ⟨-, hz⟩ | ⟨g, cap, cur, rfl, -, h3, h4, h6, h7, h8⟩
 ·
  omega
 ·
  refine .sl false z rows g 0 n cap (fun i j => xs.getD (i * z + j) undef) hn h4 h6 h5.2.1 h5.2.2.1 (fun i j hi hj => ⟨?_, fun hO => ?_⟩) h5.2.2.2
  ·
   have hk := cellIdx hi hj
   rw [← hn] at hk
   have hk' : i * z + j < xs.length := by rw [ho.1]; exact hk
   have hc : i * z + j < cur.size := by
    have : n * z ≤ cap * z := Nat.mul_le_mul_right _ h4
    omega
   have e1 : xs[i * z + j]? = some (cur[i * z + j]) := by
    rw [← h8, List.getElem?_take, if_pos hk]; simp [hc]
   unfold World.cell?
   simp only [h3, Option.isSome_none, Bool.false_eq_true, if_false, Nat.zero_add]
   simp [List.getD, e1, hc]
  ·
   have hge := hb g rfl
   rcases hO with hx | ⟨q, hq, hqb⟩
   ·
    have := h.ml.xlt.lt _ hx
    have := h.ml.size
    omega
   ·
    have := (h.ml.own q hq _ hqb).1
    omega

theorem sound_appF {args : Array Operand} {ts : Array TypeId} {s x : Operand} {t : TypeId} (ho : o.op = .call { callee := .builtin .append, args := args, argTypes := ts }) (h : SR cx σ ι ρ a w) (e1 : args = #[s, x]) (e2 : ts = #[t, t])
  {vs vx : V} (hsr : MR cx σ.mem σ.nx ι ρ w vs (a.eval s)) (hxr : MR cx σ.mem σ.nx ι ρ w vx (a.eval x)) (hs : appF P t vs vx fun v => K v σ) : o.wp P a w (Nx cx o a K) Q := by
 subst e1; subst e2
 unfold appF at hs
 split at hs
 ·
  rename_i e z bytes hT
  obtain ⟨hu, inf, hinf, hsz, hby⟩ := slT_spec hT
  obtain ⟨hz0, hb0, hzero, hs⟩ := hs
  split at hs
  ·
   rename_i z' rows z2 rows'
   obtain ⟨rfl, rfl, hbytes, hK⟩ := hs
   have hzz : ∃ zv, inf.zero = some zv ∧ zv.cells.size = z2 := by
    simp only [zeroT, hinf, Option.bind_some] at hzero
    cases hz : inf.zero with
    | none => simp [hz] at hzero
    | some zv => simp [hz] at hzero; exact ⟨zv, rfl, hzero⟩
   obtain ⟨zv, hzv, hzs⟩ := hzz
   have hmx : rows.length + rows'.length ≤ maxLen := by
    have := Nat.mul_le_mul_left (rows.length + rows'.length) hb0
    simp only [maxLen]; omega
   have hX := appR_sound h (x := .sl z2 rows') (z := z2) (rows := rows') (by simp [appR]) hxr
   unfold MR at hsr
   generalize hse : a.eval s = sv at hsr
   cases hsr with
   | slc _ _ _ ad n hsl =>
    have zero : ∀ (xa : Option Addr) (c : Nat), a.eval x = .slice xa 0 c → rows' = [] → o.wp P a w (Nx cx o a K) Q := fun xa c hxe hr0 => by
     subst hr0
     rw [List.append_nil] at hK
     refine nx_pure h (x := .slice ad n n) ?_ hK hsl
     have := run_append_zero (P := P) (w := w) t o.type e inf hu hinf ad xa n c
     simp [execOp, ho, resolve, invoke, builtin, hse, hxe, this]
    rcases hX with ⟨hxe, hr0⟩ | ⟨ad', n', c', news, hxe, hn', hnr, hnc⟩
    ·
     exact zero _ _ hxe hr0
    ·
     by_cases hp : rows'.length = 0
     ·
      exact zero _ _ (by rw [hxe, hn', hp]) (List.eq_nil_of_length_eq_zero hp)
     ·
      subst hn'
      have hpos : 0 < rows'.length := by omega
      have fin : ∀ {v' : Value} {w' : World} {xs0 : List Value}, (Builtin.append_ #[t, t] o.type #[.slice ad n n, .slice (some ad') rows'.length c']).run P w = .ok v' w' → w'.ownsRow 0 e z2 v' (rows.length + rows'.length) (xs0 ++ news) → w.grownBy w' none →
        (∀ b, v'.ownBlock = some b → w.heap.size ≤ b) → RowsR w (OO cx.X σ.mem ι ρ) ι ρ σ.nx z2 rows xs0 → o.wp P a w (Nx cx o a K) Q := fun hr ho' hg' hb' hr0 => by
       obtain ⟨q1, q2, q3⟩ := sl_fresh h hg' ho' hb' (rows := rows ++ rows') (by simp) (by omega) (hr0.append hnr)
       refine nx_new h (x := _) ?_ q1 q2 hK q3
       simp [execOp, ho, resolve, invoke, builtin, hse, hxe, hr]
      cases hsl with
      | slnil =>
       cases ad with
       | none =>
        obtain ⟨v', w', hr, ho', hg', hb'⟩ := run_append_blk (P := P) w t o.type e inf zv z2 bytes hu hinf hzv hsz hby hzs hz0 (.slice none 0 0) 0 [] (World.ownsRow_nil w 0 e z2) ad' rows'.length c' news hnr.1
         hnc hnr.one (by simpa using hmx) (by simpa using hbytes)
        exact fin hr (by simpa using ho') (by simpa [Value.ownBlock] using hg') (fun b hb => by rcases hb' b hb with h1 | h1 <;> first | exact h1 | (simp [Value.ownBlock] at h1)) (xs0 := []) ⟨by simp, by simp, by simp, by simp⟩
       | some ad0 =>
        obtain ⟨v', w', hr, ho', hg', hb'⟩ := run_append_full (P := P) w t o.type e inf zv z2 bytes hu hinf hzv hsz hby hzs ad0 0 [] (by simp) (fun j u hj => by simp at hj)
         ad' rows'.length c' news hnr.1 hnc hpos (by simpa using hmx) (by simpa using hbytes)
        exact fin hr (by simpa using ho') hg' hb' (xs0 := []) ⟨by simp, by simp, by simp, by simp⟩
      | sl _ _ _ b off _ _ xs hl hc hm hz hs' hx' hr' =>
       have hsl2 : Rel w (OO cx.X σ.mem ι ρ) ι ρ σ.nx false (.sl z2 rows) (.slice (some ⟨b, off, none⟩) n n) := .sl _ _ _ _ _ _ _ xs hl hc hm hz hs' hx' hr'
       obtain ⟨hn, xs0, hrow, hcell⟩ := hsl2.sl_rows
       subst hn
       obtain ⟨v', w', hr, ho', hg', hb'⟩ := run_append_full (P := P) w t o.type e inf zv z2 bytes hu hinf hzv hsz hby hzs ⟨b, off, none⟩ rows.length xs0 hrow.1 (fun j u hj => by rw [addr_add]; exact hcell j u hj)
        ad' rows'.length c' news hnr.1 hnc hpos hmx hbytes
       exact fin hr ho' hg' hb' hrow
  ·
   exact hs.elim
 ·
  exact hs.elim

theorem sound_append {args : Array Operand} {ts : Array TypeId} (ho : o.op = .call { callee := .builtin .append, args := args, argTypes := ts }) (h : SR cx σ ι ρ a w) (hg : g.getD true = true)
  (hs : stp P σ g (.call { callee := .builtin .append, args := args, argTypes := ts }) K) : o.wp P a w (Nx cx o a K) Q := by
 simp only [stp] at hs
 split at hs
 ·
  rename_i s x t t' hx1 ht1
  split at hs
  rotate_left 1
  ·
   obtain ⟨rfl, hs⟩ := hs
   obtain ⟨vs, hsr, hs⟩ := un1 h hg hs
   obtain ⟨vx, hxr, hs⟩ := un1 h hg hs
   exact sound_appF ho h (list2 hx1) (list2 ht1) hsr hxr hs
  obtain ⟨hgn, rfl, hs⟩ := hs
  obtain ⟨vs, hsr, hs⟩ := un1 h hg hs
  obtain ⟨vx, hxr, hs⟩ := un1 h hg hs
  have e1 := list2 hx1
  have e2 := list2 ht1
  subst e1; subst e2
  unfold appV at hs
  split at hs
  ·
   rename_i e z bytes hT
   obtain ⟨hu, inf, hinf, hsz, hby⟩ := slT_spec hT
   obtain ⟨hz0, hb0, hzero, hs⟩ := hs
   split at hs
   ·
    rename_i rows' hx
    have hX := appR_sound h hx hxr
    have hzz : ∃ zv, inf.zero = some zv ∧ zv.cells.size = z := by
     simp only [zeroT, hinf, Option.bind_some] at hzero
     cases hz : inf.zero with
     | none => simp [hz] at hzero
     | some zv => simp [hz] at hzero; exact ⟨zv, rfl, hzero⟩
    obtain ⟨zv, hzv, hzs⟩ := hzz
    have main : ∀ {σ1 : St} {ι1 : Nat → Nat} {ρ1 : Nat → Value} (_ : SR cx σ1 ι1 ρ1 a w) (_ : Kp cx σ.mem σ.nx ι ρ w σ1.mem σ1.nx ι1 ρ1 w) {id : Nat} {rows : List (List V)} (_ : (id, AObj.row e z rows) ∈ σ1.mem)
      (_ : a.eval s = ρ1 id) (_ : (rows.length + rows'.length) * bytes ≤ 140737488355328) (_ : K (.own σ1.nx) ⟨σ1.env, (σ1.nx, .row e z (rows ++ rows')) :: σ1.mem.filter (·.1 ≠ id), σ1.nx + 1⟩), o.wp P a w (Nx cx o a K) Q := by
     intro σ1 ι1 ρ1 h1 hk1 id rows hmem hse hbytes hK
     obtain ⟨xs, hown, hrows⟩ := OR_row.1 (h1.ml.obj _ hmem)
     have hmx : rows.length + rows'.length ≤ maxLen := by
      have := Nat.mul_le_mul_left (rows.length + rows'.length) hb0
      simp only [maxLen]; omega
     rcases hX with ⟨hxe, rfl⟩ | ⟨ad, n, c, news, hxe, rfl, hnr, hnc⟩
     ·
      have hr : (Builtin.append_ #[t, t] o.type #[ρ1 id, .slice none 0 0]).run P w = .ok (ρ1 id) w := run_append_owned_none w 0 t o.type e inf z hu hinf (ρ1 id) rows.length xs hown
      obtain ⟨m1, m2, m3⟩ := h1.ml.regrow hmem (w' := w) (v' := ρ1 id) (rows' := rows ++ []) (xs' := xs) ⟨rfl, rfl, rfl, Nat.le_refl _, fun _ _ _ => rfl⟩ (by simpa using hown) (fun b hb => .inl hb) (by simpa using hrows)
      refine nx_new h1 (x := ρ1 id) ?_ m1 m2 hK m3
      simp [execOp, ho, resolve, invoke, builtin, hse, hxe, hr]
     ·
      have hn1 : RowsR w (OO cx.X σ1.mem ι1 ρ1) ι1 ρ1 σ1.nx z rows' news := hnr.mono hk1
      obtain ⟨v', w', hr, ho', hg', hb'⟩ := run_append_blk (P := P) w t o.type e inf zv z bytes hu hinf hzv hsz hby hzs hz0 (ρ1 id) rows.length xs hown ad rows'.length c news hn1.1
       hnc hn1.one hmx hbytes
      obtain ⟨m1, m2, m3⟩ := h1.ml.regrow hmem (rows' := rows ++ rows') (xs' := xs ++ news) hg' (by simpa using ho') hb' (hrows.append hn1)
      refine nx_new h1 (x := v') ?_ m1 m2 hK m3
      simp [execOp, ho, resolve, invoke, builtin, hse, hxe, hr]
    split at hs
    ·
     obtain ⟨hbytes, hK⟩ := hs
     have hse : a.eval s = .slice none 0 0 := by unfold MR at hsr; generalize a.eval s = y at hsr ⊢; cases hsr; rfl
     obtain ⟨m1, m2⟩ := h.ml.addNil e z
     have hfil : (σ.mem.filter (·.1 ≠ σ.nx)) = σ.mem := List.filter_eq_self.2 fun p hp => by have := h.ml.lt p hp; simp; omega
     refine main (h.step m1 m2) m2 (id := σ.nx) (rows := []) (by simp) (by simp [hse]) (by simpa using hbytes) ?_
     have e : ((σ.nx, AObj.row e z []) :: σ.mem).filter (·.1 ≠ σ.nx) = σ.mem := by rw [List.filter_cons_of_neg (by simp), hfil]
     simp only [e, List.nil_append]
     exact hK
    ·
     rename_i id
     split at hs
     ·
      rename_i e' z' rows hl
      obtain ⟨rfl, rfl, hbytes, hK⟩ := hs
      refine main h .refl (Mem.look_mem hl) ?_ hbytes hK
      unfold MR at hsr
      generalize a.eval s = y at hsr ⊢
      cases hsr; rfl
     ·
      exact hs.elim
    ·
     rename_i z2 rows _
     obtain ⟨rfl, hpos, hbytes, hK⟩ := hs
     obtain ⟨m1, m2⟩ := h.ml.addNil e z2
     have hfil : (σ.mem.filter (·.1 ≠ σ.nx)) = σ.mem := List.filter_eq_self.2 fun p hp => by have := h.ml.lt p hp; simp; omega
     have efil : ((σ.nx, AObj.row e z2 []) :: σ.mem).filter (·.1 ≠ σ.nx) = σ.mem := by rw [List.filter_cons_of_neg (by simp), hfil]
     unfold MR at hsr
     generalize hse : a.eval s = sv at hsr
     cases hsr with
     | slc _ _ _ ad n hsl =>
      cases hsl with
      | slnil =>
       cases ad with
       | none =>
        refine main (h.step m1 m2) m2 (id := σ.nx) (rows := []) (by simp) (by simp [hse]) (by simpa using hbytes) ?_
        simp only [efil, List.nil_append]
        exact hK
       | some ad0 =>
        rcases hX with ⟨hxe, rfl⟩ | ⟨ad', n', c', news, hxe, rfl, hnr, hnc⟩
        ·
         simp at hpos
        ·
         have hmx : 0 + rows'.length ≤ maxLen := by
          have := Nat.mul_le_mul_left (rows'.length) hb0
          simp only [maxLen]; simp at hbytes; omega
         obtain ⟨v', w', hr, ho', hg', hb'⟩ := run_append_full (P := P) w t o.type e inf zv z2 bytes hu hinf hzv hsz hby hzs ad0 0 [] (by simp) (fun j u hj => by simp at hj)
          ad' rows'.length c' news hnr.1 hnc hpos hmx (by simpa using hbytes)
         have h1 := h.step m1 m2
         obtain ⟨q1, q2, q3⟩ := h1.ml.regrow (id := σ.nx) (e := e) (z := z2) (rows := []) (by simp) (rows' := [] ++ rows') (xs' := [] ++ news) (w' := w') (v' := v') (by simpa [Value.ownBlock] using hg') (by simpa using ho') (fun b hb => .inr (hb' b hb)) (by simpa using hnr.mono m2)
         refine nx_new h1 (x := v') ?_ q1 q2 ?_ q3
         ·
          simp [execOp, ho, resolve, invoke, builtin, hse, hxe, hr]
         ·
          simp only [efil]; exact hK
      | sl _ _ _ b off _ _ xs hl hc hm hz hs' hx' hr' =>
       have hsl2 : Rel w (OO cx.X σ.mem ι ρ) ι ρ σ.nx false (.sl z2 rows) (.slice (some ⟨b, off, none⟩) n n) := .sl _ _ _ _ _ _ _ xs hl hc hm hz hs' hx' hr'
       obtain ⟨hn, xs0, hrow, hcell⟩ := hsl2.sl_rows
       subst hn
       rcases hX with ⟨hxe, rfl⟩ | ⟨ad', n', c', news, hxe, rfl, hnr, hnc⟩
       ·
        simp at hpos
       ·
        have hmx : rows.length + rows'.length ≤ maxLen := by
         have := Nat.mul_le_mul_left (rows.length + rows'.length) hb0
         simp only [maxLen]; omega
        obtain ⟨v', w', hr, ho', hg', hb'⟩ := run_append_full (P := P) w t o.type e inf zv z2 bytes hu hinf hzv hsz hby hzs ⟨b, off, none⟩ rows.length xs0 hrow.1 (fun j u hj => by rw [addr_add]; exact hcell j u hj)
         ad' rows'.length c' news hnr.1 hnc hpos hmx hbytes
        have hrr : RowsR w (OO cx.X σ.mem ι ρ) ι ρ σ.nx z2 (rows ++ rows') (xs0 ++ news) := hrow.append hnr
        have h1 := h.step m1 m2
        obtain ⟨q1, q2, q3⟩ := h1.ml.regrow (id := σ.nx) (e := e) (z := z2) (rows := []) (by simp) (rows' := rows ++ rows') (xs' := xs0 ++ news) (w' := w') (v' := v') (by simpa [Value.ownBlock] using hg') (by simpa using ho') (fun b hb => .inr (hb' b hb)) (hrr.mono m2)
        refine nx_new h1 (x := v') ?_ q1 q2 ?_ q3
        ·
         simp [execOp, ho, resolve, invoke, builtin, hse, hxe, hr]
        ·
         simp only [efil]; exact hK
    ·
     exact hs.elim
   ·
    exact hs.elim
  ·
   exact hs.elim
 ·
  exact hs.elim

theorem appd {vs caps : List V} {xs ys : Array Value} {O : Nat → Prop} {nx : Nat} {c : Bool} (h1 : xs.size = vs.length) (h2 : ys.size = caps.length)
  (h : ∀ i, i < vs.length → Rel w O ι ρ nx c (vs.getD i .any) (xs.getD i undef)) (h' : ∀ i, i < caps.length → Rel w O ι ρ nx c (caps.getD i .any) (ys.getD i undef)) :
  ∀ i, i < (vs ++ caps).length → Rel w O ι ρ nx c ((vs ++ caps).getD i .any) ((xs ++ ys).getD i undef) := by
 intro i hi
 rw [List.length_append] at hi
 by_cases hlt : i < vs.length
 ·
  have := h i hlt
  simpa [List.getD, List.getElem?_append_left hlt, Array.getD_eq_getD_getElem?, Array.getElem?_append_left (show i < xs.size by omega)] using this
 ·
  have := h' (i - vs.length) (by omega)
  have e : i - xs.size = i - vs.length := by omega
  simpa [List.getD, List.getElem?_append_right (show vs.length ≤ i by omega), Array.getD_eq_getD_getElem?, Array.getElem?_append_right (show xs.size ≤ i by omega), e] using this

theorem sound_call {f : Operand} {args : Array Operand} {ts : Array TypeId} (ho : o.op = .call { callee := .value f, args := args, argTypes := ts }) (h : SR cx σ ι ρ a w) (hg : g.getD true = true)
  (hs : stp P σ g (.call { callee := .value f, args := args, argTypes := ts }) K) : o.wp P a w (Nx cx o a K) Q := by
 simp only [stp] at hs
 have key : ∀ {σ' : St}, SR cx σ' ι ρ a w → (un g (σ'.get f) fun vf => match vf with
   | .fn f caps => unL g (args.toList.map σ'.get) fun vs => okF P f = true ∧ V.clL (vs ++ caps) = true ∧ ∃ r, CallsA P f (vs ++ caps) r ∧ K r σ'
   | _ => False) → o.wp P a w (Nx cx o a K) Q := by
  intro σ' h' hs'
  obtain ⟨vf, hf', hs'⟩ := un1 h' hg hs'
  split at hs'
  ·
   rename_i fid caps
   obtain ⟨vs, hl, hr, hok, hcl, r, hcall, hk⟩ := unL_run h' hg hs'
   unfold MR at hf'
   generalize hfe : a.eval f = fv at hf'
   cases hf' with
   | fn _ _ _ cvs hcl' hcr =>
    have hrun : (execOp a.eval o).run P w = .ok (.enter fid (args.map a.eval ++ cvs)) w := by
     simp [execOp, ho, resolve, hfe, Deferred.ofValue, invoke, okF_spec hok]
    have hlen : args.size = vs.length := by simp at hl; omega
    have hall := appd (w := w) (O := OO cx.X σ'.mem ι ρ) (ι := ι) (ρ := ρ) (nx := σ'.nx) (c := false) (xs := args.map a.eval) (ys := cvs) (by simpa using hlen) hcl' (fun i hi => by
     have := hr i hi
     simpa [List.getD, Array.getD_eq_getD_getElem?, MR] using this) hcr
    have hc := hcall w (OO cx.X σ'.mem ι ρ) (args.map a.eval ++ cvs) h'.ml.xl
     (by simp [hcl', hlen]) (fun i hi => (((hall i hi).of_cl (V.clL_getD hcl i) true).free rfl true))
    unfold Oper.wp
    rw [hrun]
    refine hc.mono ?_
    rintro e w' ⟨x, rfl, hb, hrx⟩
    obtain ⟨m1, m2⟩ := h'.ml.below hb
    exact ⟨r, σ', ι, ρ, x, hk, rfl, ⟨m1, fun t => m2 _ _ _ (h'.env t)⟩, hrx.free rfl false⟩
  ·
   exact hs'.elim
 cases g with
 | none => exact key (h.fzAll _) hs
 | some b => exact key h hs

theorem sound_makeSlice {T : TypeId} {l c : Operand} (ho : o.op = .makeSlice T l c) (h : SR cx σ ι ρ a w) (hg : g.getD true = true) (hs : stp P σ g (.makeSlice T l c) K) : o.wp P a w (Nx cx o a K) Q := by
 simp only [stp] at hs
 obtain ⟨hgn, rfl, hs⟩ := hs
 obtain ⟨vn, hn, hs1⟩ := un1 h hg hs
 clear hs
 rename _ => hs
 split at hs
 ·
  rename_i e z by' k n hsl
  obtain ⟨hu, inf, hinf, hsz, hby⟩ := slT_spec hsl
  split at hs
  ·
   rename_i zs hz
   obtain ⟨hsc, hcl, hzl, hz0, hb0, h0, hbytes, hk⟩ := hs
   have hzero : ∃ zv, inf.zero = some zv := by
    simp only [zeroT, hinf, Option.bind_some] at hz
    cases hzz : inf.zero with
    | none => simp [hzz] at hz
    | some zv => exact ⟨zv, rfl⟩
   obtain ⟨zv0, hzv0⟩ := hzero
   obtain ⟨i, zv, hi, hzz, hc⟩ := CellsR.zero (w := w) (O := OO cx.X σ.mem ι ρ) (ι := ι) (ρ := ρ) (nx := σ.nx) false hz hsc
   have hie : i = inf := by rw [hinf] at hi; cases hi; rfl
   subst hie
   obtain ⟨m, rfl⟩ := Int.eq_ofNat_of_zero_le h0
   simp only [Int.toNat_natCast] at hk
   have hmb : m * by' ≤ 140737488355328 := by
    have : ((m * by' : Nat) : Int) ≤ 140737488355328 := by rw [Int.natCast_mul]; exact hbytes
    omega
   have hm : m ≤ 140737488355328 := by
    have := Nat.mul_le_mul_left m hb0
    omega
   have e1 : a.eval l = .int k m := by unfold MR at hn; exact hn.int_inv
   have hsize : zv.cells.size = z := by rw [hc.1, hzl]
   have hrun0 := run_make (P := P) w T e i zv hu hinf hzz k k m m (by omega) (Int.le_refl _) (by rw [hby, Int.mul_comm]; omega) (by omega)
   rw [Int.toNat_natCast, hsz] at hrun0
   have hbase : RowsR w (OO cx.X σ.mem ι ρ) ι ρ σ.nx z (List.replicate m zs) (madeCells zv.cells (m * z)).toList := by
    have eg : ∀ i, i < m → (List.replicate m zs).getD i [] = zs := fun i hi => by simp [List.getD, hi]
    refine ⟨by simp [madeCells], fun i hi => ?_, fun i j hi hj => ?_, fun i j hi hj => ?_⟩ <;> (simp at hi; rw [eg i hi])
    ·
     exact hzl
    ·
     exact hc.2.1 j (by omega)
    ·
     have hk := cellIdx hi hj
     have e2 : (i * z + j) % z = j := by rw [Nat.mul_comm, Nat.mul_add_mod, Nat.mod_eq_of_lt hj]
     have := ((hc.2.2 j (by omega)).of_cl (V.clL_getD hcl j) true)
     have hj' : j < zv.cells.size := by omega
     have e3 : (madeCells zv.cells (m * z)).toList.getD (i * z + j) undef = zv.cells.getD j undef := by
      have e4 : zv.cells[j]! = zv.cells[j] := getElem!_pos zv.cells j hj'
      have e5 : zv.cells.getD j undef = zv.cells[j] := by unfold Array.getD; rw [dif_pos hj']; rfl
      rw [e5, ← e4]; simp [madeCells, List.getD, hk, hsize, e2]
     rw [e3]; exact this
   have hrow : (w.alloc (.cells (madeCells zv.cells (m * z)) e)).ownsRow 0 e z (.slice (some ⟨w.heap.size, 0, none⟩) m m) (List.replicate m zs).length (madeCells zv.cells (m * z)).toList := by
    refine ⟨by simp [size_madeCells], .inr ⟨w.heap.size, m, _, by simp, by omega, heap_alloc_new w _, by simp, by simp only [maxLen]; omega, size_madeCells _ _, ?_⟩⟩
    rw [List.length_replicate]; exact List.take_of_length_le (by simp [size_madeCells])
   obtain ⟨m1, m2⟩ := h.ml.new (madeCells zv.cells (m * z)) e (fun id => ι id) (fun id => if id = σ.nx then .slice (some ⟨w.heap.size, 0, none⟩) m m else ρ id) (fun id hid => ⟨rfl, if_neg (by omega)⟩) (.row e z (List.replicate m zs))
    (fun b hb => by simpa [blk, Value.ownBlock, eq_comm] using hb) fun O hO hk => OR_row.2 ⟨_, by simpa using hrow, hbase.mono hk⟩
   refine nx_new h (x := .slice (some ⟨w.heap.size, 0, none⟩) m m) ?_ m1 m2 hk ?_
   ·
    simp [execOp, ho, e1, hrun0]
   ·
    have := Rel.own (w := w.alloc (.cells (madeCells zv.cells (m * z)) e)) (O := OO cx.X ((σ.nx, .row e z (List.replicate m zs)) :: σ.mem) (fun id => ι id) (fun id => if id = σ.nx then .slice (some ⟨w.heap.size, 0, none⟩) m m else ρ id)) (ι := fun id => ι id)
     (ρ := fun id => if id = σ.nx then .slice (some ⟨w.heap.size, 0, none⟩) m m else ρ id) (nx := σ.nx + 1) σ.nx (by omega) (by simp [Value.oneCell'])
    simpa [MR] using this
  ·
   exact hs.elim
 ·
  exact hs.elim

theorem sound_makeMap {T : TypeId} {c : Option Operand} (ho : o.op = .makeMap T c) (h : SR cx σ ι ρ a w) (hs : stp P σ g (.makeMap T c) K) : o.wp P a w (Nx cx o a K) Q := by
 cases c with
 | some c => exact hs.elim
 | none =>
  simp only [stp] at hs
  obtain ⟨_, ht, hk⟩ := hs
  obtain ⟨m1, m2⟩ := h.ml.newMap
  refine nx_new h (x := .map (some w.heap.size)) ?_ m1 m2 hk ?_
  ·
   simp [execOp, ho, Instr.makeMap]
  ·
   have := Rel.mp (w := w.alloc (.map #[] 0)) (O := OO cx.X ((σ.nx, .dict []) :: σ.mem) (fun id => if id = σ.nx then w.heap.size else ι id) ρ) (ι := fun id => if id = σ.nx then w.heap.size else ι id) (ρ := ρ) (nx := σ.nx + 1) σ.nx (by omega)
   simpa [MR] using this
theorem sound_lookup {T : TypeId} {m k : Operand} {c : Bool} (ho : o.op = .lookup T m k c) (h : SR cx σ ι ρ a w) (hg : g.getD true = true) (hs : stp P σ g (.lookup T m k c) K) : o.wp P a w (Nx cx o a K) Q := by
 cases c with
 | true => exact hs.elim
 | false =>
  simp only [stp] at hs
  obtain ⟨ht, hs⟩ := hs
  obtain ⟨vm, hm, hs1⟩ := un1 h hg hs
  clear hs
  obtain ⟨vk, hk, hs⟩ := un1 h hg hs1
  unfold MR at hm hk
  unfold lookV at hs
  have go : ∀ (y : Bool), (Instr.lookup T (a.eval m) (a.eval k) false).run P w = .ok (.bool y) w → K (.bool y) σ → o.wp P a w (Nx cx o a K) Q := fun y hr hK => by
   refine nx_pure h (x := .bool y) ?_ hK (.bool ..)
   simp [execOp, ho, hr]
  split at hs
  ·
   have e1 : a.eval m = .map none := by generalize a.eval m = y at hm; cases hm; rfl
   have e2 := hk.int_inv
   refine go _ ?_ hs
   rw [e1, e2]; exact map_look_nil ht _
  ·
   have e2 := hk.int_inv
   rename_i es k0
   obtain ⟨b, arr, clk, e1, hb, hok⟩ : ∃ b arr clk, a.eval m = .map (some b) ∧ w.heap[b]? = some (.map arr clk) ∧ MapOK arr clk es := by
    generalize a.eval m = y at hm
    cases hm with
    | fm _ _ b arr clk hx h => exact ⟨b, arr, clk, rfl, hx.1, h⟩
   refine go _ ?_ hs
   rw [e1, e2]; exact map_look ht hb hok _
  ·
   have e2 := hk.int_inv
   rename_i id k0
   split at hs
   ·
    rename_i es hl
    have e1 : a.eval m = .map (some (ι id)) := by
     generalize a.eval m = y at hm
     cases hm; rfl
    obtain ⟨arr, clk, hb, hok⟩ := look_obj h hl
    refine go _ ?_ hs
    rw [e1, e2]; exact map_look ht hb hok _
   ·
    exact hs.elim
  ·
   exact hs.elim
theorem sound_mapUpdate {T : TypeId} {m k x : Operand} (ho : o.op = .mapUpdate T m k x) (h : SR cx σ ι ρ a w) (hg : g.getD true = true) (hs : stp P σ g (.mapUpdate T m k x) K) : o.wp P a w (Nx cx o a K) Q := by
 simp only [stp] at hs
 obtain ⟨hgn, ht, hs⟩ := hs
 obtain ⟨vm, hm, hs1⟩ := un1 h hg hs
 clear hs
 obtain ⟨vk, hk, hs2⟩ := un1 h hg hs1
 clear hs1
 obtain ⟨vx, hx, hs⟩ := un1 h hg hs2
 clear hs2
 unfold MR at hm hk hx
 split at hs
 ·
  rename_i id k0 b0
  split at hs
  ·
   rename_i es hl
   obtain ⟨hroom, hK⟩ := hs
   have e1 : a.eval m = .map (some (ι id)) := by
    generalize a.eval m = y at hm
    cases hm; rfl
   have e2 := hk.int_inv
   have e3 := hx.bool_inv
   obtain ⟨arr, clk, hb, hok⟩ := look_obj h hl
   obtain ⟨arr', clk', hrun, hok'⟩ := map_put ht hb hok hroom k0 b0
   obtain ⟨m1, m2⟩ := h.ml.putMap (Mem.look_mem hl) hok'
   have hrun2 : (execOp a.eval o).run P w = .ok .skip { w with heap := w.heap.setIfInBounds (ι id) (.map arr' clk') } := by simp [execOp, ho, e1, e2, e3, hrun]
   unfold Oper.wp
   rw [hrun2]
   exact ⟨.any, _, ι, ρ, undef, hK, rfl, h.step m1 m2, .any ..⟩
  ·
   exact hs.elim
 ·
  exact hs.elim

theorem stp_sound (h : SR cx σ ι ρ a w) (hg : g.getD true = true) (hs : stp P σ g o.op K) : o.wp P a w (Nx cx o a K) Q := by
 generalize ho : o.op = op at hs
 cases op
 case move => exact sound_move ho h hg hs
 case assign => exact sound_assign ho h hg hs
 case pick => exact sound_pick ho h hg hs
 case alloc => exact sound_alloc ho h hs
 case box => exact sound_box ho h hg hs
 case build => exact sound_build ho h hg hs
 case buildSlice => exact sound_buildSlice ho h hg hs
 case load => exact sound_load ho h hg hs
 case store => exact sound_store ho h hg hs
 case binOp => exact sound_binOp ho h hg hs
 case unOp => exact sound_unOp ho h hg hs
 case convert => exact sound_convert ho h hg hs
 case makeFunc fn first caps => cases fn <;> first | exact sound_makeFunc ho h hg hs | exact hs.elim
 case slice => exact sound_slice ho h hg hs
 case fieldAddr => exact sound_fieldAddr ho h hg hs
 case field => exact sound_field ho h hg hs
 case indexAddr => exact sound_indexAddr ho h hg hs
 case index => exact sound_index ho h hg hs
 case nilCheck => exact sound_nilCheck ho h hg hs
 case extract => exact sound_extract ho h hg hs
 case makeSlice => exact sound_makeSlice ho h hg hs
 case makeMap => exact sound_makeMap ho h hs
 case lookup => exact sound_lookup ho h hg hs
 case mapUpdate => exact sound_mapUpdate ho h hg hs
 case call c =>
  obtain ⟨callee, args, ts⟩ := c
  cases callee with
  | value f => exact sound_call ho h hg hs
  | invoke r m => exact hs.elim
  | builtin b => cases b <;> first | exact sound_len ho h hg hs | exact sound_min ho h hg hs | exact sound_max ho h hg hs | exact sound_append ho h hg hs | exact hs.elim
 all_goals exact hs.elim

end
end Go.Proofs.YtfamkbofdamkkaaGreatDoor
