/- Abstract values, and how they stand for Go's values in a world: the ground of this seat's own walk. -/
import Derived.WalkKit
import Derived.KernelRfl
import Derived.Below
import Derived.Laws.CopyRow
import Derived.Laws.AppendOwn
import Derived.Laws.Rows
namespace Go.Proofs.Ytcphhbiehaimeaa
open Go.RowKit
set_option linter.unusedVariables false
set_option linter.unusedSimpArgs false

/-- What a slot holds, seen without memory: 'sl' a slice that nobody writes any more, by its rows of cells; 'ptr', 'own': a variable and a slice of the call's own, by number. -/
inductive V where
  | int (k : IntKind) (n : Int)
  | bool (b : Bool)
  | str (s : ByteArray)
  | agg (cs : List V)
  | sl (esz : Nat) (rows : List (List V))
  | nsl
  | slc (esz : Nat) (rows : List (List V))
  | ub
  | nf
  | yl (l : Nat)
  | eq (x : Value) (v : V)
  | ptr (id off : Nat)
  | ep (es : List V)
  | own (id : Nat)
  | rp (id z i j : Nat)
  | fn (f : FuncId) (caps : List V)
  | tup (vs : List V)
  | gd (g : Bool) (v : V)
  | any

instance : Inhabited V := ⟨.any⟩

/-- One cell's worth. -/
def V.sc : V → Bool
  | .agg _ | .tup _ | .gd .. | .eq .. | .any => false
  | _ => true

mutual
/-- Nothing of the call's own is named. -/
def V.cl : V → Bool
  | .agg cs => V.clL cs
  | .fn _ cs => V.clL cs
  | .tup cs => V.clL cs
  | .gd _ v => v.cl
  | .eq _ v => v.cl
  | .ptr _ _ => false
  | .own _ => false
  | .rp _ _ _ _ => false
  | _ => true
def V.clL : List V → Bool
  | [] => true
  | v :: vs => v.cl && V.clL vs
end

mutual
/-- All numbers of the call's own are below n. -/
def V.upto (n : Nat) : V → Bool
  | .agg cs => V.uptoL n cs
  | .fn _ cs => V.uptoL n cs
  | .tup cs => V.uptoL n cs
  | .gd _ v => v.upto n
  | .eq _ v => v.upto n
  | .ptr id _ => decide (id < n)
  | .own id => decide (id < n)
  | .rp id _ _ _ => decide (id < n)
  | _ => true
def V.uptoL (n : Nat) : List V → Bool
  | [] => true
  | v :: vs => v.upto n && V.uptoL n vs
end

theorem V.clL_getD : ∀ {cs : List V} (_ : V.clL cs = true) (i : Nat), (cs.getD i .any).cl = true
  | [], _, i => by simp [V.cl]
  | v :: vs, h, 0 => by simp [V.clL] at h; simpa using h.1
  | v :: vs, h, i + 1 => by simp [V.clL] at h; simpa using V.clL_getD h.2 i

theorem V.uptoL_getD {n : Nat} : ∀ {cs : List V} (_ : V.uptoL n cs = true) (i : Nat), (cs.getD i .any).upto n = true
  | [], _, i => by simp [V.upto]
  | v :: vs, h, 0 => by simp [V.uptoL] at h; simpa using h.1
  | v :: vs, h, i + 1 => by simp [V.uptoL] at h; simpa using V.uptoL_getD h.2 i

/-- The abstract value v stands for the value x. c: nothing of the call's own in it. O: the blocks that may still be written. -/
inductive Rel (w : World) (O : Nat → Prop) (ι : Nat → Nat) (ρ : Nat → Value) (nx : Nat) : Bool → V → Value → Prop where
  | int (c : Bool) (k : IntKind) (n : Int) : Rel w O ι ρ nx c (.int k n) (.int k n)
  | bool (c b : Bool) : Rel w O ι ρ nx c (.bool b) (.bool b)
  | str (c : Bool) (s : ByteArray) : Rel w O ι ρ nx c (.str s) (.string s)
  | agg (c : Bool) (cs : List V) (vs : Array Value) (hl : vs.size = cs.length) (hs : ∀ i, i < cs.length → (cs.getD i .any).sc = true)
      (h : ∀ i, i < cs.length → Rel w O ι ρ nx c (cs.getD i .any) (vs.getD i undef)) : Rel w O ι ρ nx c (.agg cs) (.agg vs)
  | sl (c : Bool) (esz : Nat) (rows : List (List V)) (b off len cap : Nat) (xs : Nat → Nat → Value) (hl : len = rows.length) (hc : len ≤ cap) (hm : cap ≤ maxLen)
      (hz : ∀ i, i < rows.length → (rows.getD i []).length = esz)
      (hs : ∀ i j, i < rows.length → j < esz → ((rows.getD i []).getD j .any).sc = true)
      (hx : ∀ i j, i < rows.length → j < esz → w.cell? ⟨b, off + (i * esz + j), none⟩ = some (xs i j) ∧ ¬ O b)
      (h : ∀ i j, i < rows.length → j < esz → Rel w O ι ρ nx true ((rows.getD i []).getD j .any) (xs i j)) :
      Rel w O ι ρ nx c (.sl esz rows) (.slice (some ⟨b, off, none⟩) len cap)
  | slnil (c : Bool) (esz : Nat) : Rel w O ι ρ nx c (.sl esz []) (.slice none 0 0)
  | nsl (c : Bool) : Rel w O ι ρ nx c .nsl (.slice none 0 0)
  | slc (c : Bool) (esz : Nat) (rows : List (List V)) (a : Option Addr) (n : Nat) (h : Rel w O ι ρ nx c (.sl esz rows) (.slice a n n)) : Rel w O ι ρ nx c (.slc esz rows) (.slice a n n)
  | ub (c b : Bool) : Rel w O ι ρ nx c .ub (.bool b)
  | nf (c : Bool) : Rel w O ι ρ nx c .nf .nilFunc
  | yl (c : Bool) (l : Nat) : Rel w O ι ρ nx c (.yl l) (.func (.yield l) #[] #[])
  | eq (c : Bool) (v : V) (x : Value) (h : Rel w O ι ρ nx c v x) : Rel w O ι ρ nx c (.eq x v) x
  | ptr (id off : Nat) (h : id < nx) : Rel w O ι ρ nx false (.ptr id off) (.pointer (some ⟨ι id, off, none⟩))
  | ep (c : Bool) (es : List V) (b off : Nat) (xs : Nat → Value) (hs : ∀ j, j < es.length → (es.getD j .any).sc = true)
      (hx : ∀ j, j < es.length → w.cell? ⟨b, off + j, none⟩ = some (xs j) ∧ ¬ O b)
      (h : ∀ j, j < es.length → Rel w O ι ρ nx true (es.getD j .any) (xs j)) : Rel w O ι ρ nx c (.ep es) (.pointer (some ⟨b, off, none⟩))
  | own (id : Nat) (h : id < nx) (h1 : (ρ id).oneCell' = true) : Rel w O ι ρ nx false (.own id) (ρ id)
  | rp (id z i j b : Nat) (h : id < nx) (hb : (ρ id).ownBlock = some b) : Rel w O ι ρ nx false (.rp id z i j) (.pointer (some ⟨b, i * z + j, none⟩))
  | fn (c : Bool) (f : FuncId) (caps : List V) (vs : Array Value) (hl : vs.size = caps.length)
      (h : ∀ i, i < caps.length → Rel w O ι ρ nx c (caps.getD i .any) (vs.getD i undef)) : Rel w O ι ρ nx c (.fn f caps) (.func (.func f) #[] vs)
  | tup (c : Bool) (ts : List V) (vs : Array Value) (hl : vs.size = ts.length)
      (h : ∀ i, i < ts.length → Rel w O ι ρ nx c (ts.getD i .any) (vs.getD i undef)) : Rel w O ι ρ nx c (.tup ts) (.tuple vs)
  | gd (c g : Bool) (v : V) (x : Value) (h : g = true → Rel w O ι ρ nx c v x) (h0 : g = false → x = undef) : Rel w O ι ρ nx c (.gd g v) x
  | any (c : Bool) (x : Value) : Rel w O ι ρ nx c .any x

/-- What stays as it is: the cells outside of O, and the numbers below nx. -/
theorem Rel.mono {w w' : World} {O O' : Nat → Prop} {ι ι' : Nat → Nat} {ρ ρ' : Nat → Value} {nx nx' : Nat}
    (hw : ∀ a x, w.cell? a = some x → ¬ O a.block → w'.cell? a = some x ∧ ¬ O' a.block) (hι : ∀ id, id < nx → ι' id = ι id ∧ ρ' id = ρ id) (hn : nx ≤ nx')
    {c : Bool} {v : V} {x : Value} (h : Rel w O ι ρ nx c v x) : Rel w' O' ι' ρ' nx' c v x := by
  induction h with
  | int c k n => exact .int c k n
  | bool c b => exact .bool c b
  | str c s => exact .str c s
  | agg c cs vs hl hs _ ih => exact .agg c cs vs hl hs ih
  | sl c esz rows b off len cap xs hl hc hm hz hs hx _ ih => exact .sl c esz rows b off len cap xs hl hc hm hz hs (fun i j hi hj => hw _ _ (hx i j hi hj).1 (hx i j hi hj).2) ih
  | slnil c esz => exact .slnil c esz
  | nsl c => exact .nsl c
  | slc c esz rows a n _ ih => exact .slc c esz rows a n ih
  | ub c b => exact .ub c b
  | nf c => exact .nf c
  | yl c l => exact .yl c l
  | eq c v x _ ih => exact .eq c v x ih
  | ptr id off h => rw [← (hι id h).1]; exact .ptr id off (by omega)
  | ep c es b off xs hs hx _ ih => exact .ep c es b off xs hs (fun j hj => hw _ _ (hx j hj).1 (hx j hj).2) ih
  | own id h h1 => rw [← (hι id h).2]; exact .own id (by omega) (by rw [(hι id h).2]; exact h1)
  | rp id z i j b h hb => exact .rp id z i j b (by omega) (by rw [(hι id h).2]; exact hb)
  | fn c f caps vs hl _ ih => exact .fn c f caps vs hl ih
  | tup c ts vs hl _ ih => exact .tup c ts vs hl ih
  | gd c g v x _ h0 ih => exact .gd c g v x ih h0
  | any c x => exact .any c x

/-- What names nothing of the call's own hangs on no number. -/
theorem Rel.free {w : World} {O : Nat → Prop} {ι ι' : Nat → Nat} {ρ ρ' : Nat → Value} {nx nx' : Nat}
    {c : Bool} {v : V} {x : Value} (h : Rel w O ι ρ nx c v x) : c = true → ∀ c', Rel w O ι' ρ' nx' c' v x := by
  induction h with
  | int c k n => exact fun _ c => .int c k n
  | bool c b => exact fun _ c => .bool c b
  | str c s => exact fun _ c => .str c s
  | agg c cs vs hl hs _ ih => exact fun e c' => .agg c' cs vs hl hs fun i hi => ih i hi e c'
  | sl c esz rows b off len cap xs hl hc hm hz hs hx _ ih => exact fun _ c' => .sl c' esz rows b off len cap xs hl hc hm hz hs hx fun i j hi hj => ih i j hi hj rfl true
  | slnil c esz => exact fun _ c => .slnil c esz
  | nsl c => exact fun _ c => .nsl c
  | slc c esz rows a n _ ih => exact fun e c' => .slc c' esz rows a n (ih e c')
  | ub c b => exact fun _ c' => .ub c' b
  | nf c => exact fun _ c' => .nf c'
  | yl c l => exact fun _ c' => .yl c' l
  | eq c v x _ ih => exact fun e c' => .eq c' v x (ih e c')
  | ptr id off h => intro e; cases e
  | ep c es b off xs hs hx _ ih => exact fun _ c' => .ep c' es b off xs hs hx fun j hj => ih j hj rfl true
  | own id h h1 => intro e; cases e
  | rp id z i j b h hb => intro e; cases e
  | fn c f caps vs hl _ ih => exact fun e c' => .fn c' f caps vs hl fun i hi => ih i hi e c'
  | tup c ts vs hl _ ih => exact fun e c' => .tup c' ts vs hl fun i hi => ih i hi e c'
  | gd c g v x _ h0 ih => exact fun e c' => .gd c' g v x (fun hg => ih hg e c') h0
  | any c x => exact fun _ c => .any c x

theorem Rel.of_cl {w : World} {O : Nat → Prop} {ι : Nat → Nat} {ρ : Nat → Value} {nx : Nat}
    {c : Bool} {v : V} {x : Value} (h : Rel w O ι ρ nx c v x) : v.cl = true → ∀ c', Rel w O ι ρ nx c' v x := by
  induction h with
  | int c k n => exact fun _ c => .int c k n
  | bool c b => exact fun _ c => .bool c b
  | str c s => exact fun _ c => .str c s
  | agg c cs vs hl hs _ ih => exact fun e c' => .agg c' cs vs hl hs fun i hi => ih i hi (V.clL_getD (by simpa [V.cl] using e) i) c'
  | sl c esz rows b off len cap xs hl hc hm hz hs hx h _ => exact fun _ c' => .sl c' esz rows b off len cap xs hl hc hm hz hs hx h
  | slnil c esz => exact fun _ c => .slnil c esz
  | nsl c => exact fun _ c => .nsl c
  | slc c esz rows a n _ ih => exact fun _ c' => .slc c' esz rows a n (ih rfl c')
  | ub c b => exact fun _ c' => .ub c' b
  | nf c => exact fun _ c' => .nf c'
  | yl c l => exact fun _ c' => .yl c' l
  | eq c v x _ ih => exact fun e c' => .eq c' v x (ih (by simpa [V.cl] using e) c')
  | ptr id off h => intro e; simp [V.cl] at e
  | ep c es b off xs hs hx h _ => exact fun _ c' => .ep c' es b off xs hs hx h
  | own id h h1 => intro e; simp [V.cl] at e
  | rp id z i j b h hb => intro e; simp [V.cl] at e
  | fn c f caps vs hl _ ih => exact fun e c' => .fn c' f caps vs hl fun i hi => ih i hi (V.clL_getD (by simpa [V.cl] using e) i) c'
  | tup c ts vs hl _ ih => exact fun e c' => .tup c' ts vs hl fun i hi => ih i hi (V.clL_getD (by simpa [V.cl] using e) i) c'
  | gd c g v x _ h0 ih => exact fun e c' => .gd c' g v x (fun hg => ih hg (by simpa [V.cl] using e) c') h0
  | any c x => exact fun _ c => .any c x

theorem Rel.of_below {w : World} {O : Nat → Prop} {ι : Nat → Nat} {ρ : Nat → Value} {nx nx' : Nat}
    {c : Bool} {v : V} {x : Value} (h : Rel w O ι ρ nx c v x) : v.upto nx' = true → Rel w O ι ρ nx' c v x := by
  induction h with
  | int c k n => exact fun _ => .int c k n
  | bool c b => exact fun _ => .bool c b
  | str c s => exact fun _ => .str c s
  | agg c cs vs hl hs _ ih => exact fun e => .agg c cs vs hl hs fun i hi => ih i hi (V.uptoL_getD (by simpa [V.upto] using e) i)
  | sl c esz rows b off len cap xs hl hc hm hz hs hx h _ => exact fun _ => .sl c esz rows b off len cap xs hl hc hm hz hs hx fun i j hi hj => (h i j hi hj).free rfl true
  | slnil c esz => exact fun _ => .slnil c esz
  | nsl c => exact fun _ => .nsl c
  | slc c esz rows a n _ ih => exact fun _ => .slc c esz rows a n (ih rfl)
  | ub c b => exact fun _ => .ub c b
  | nf c => exact fun _ => .nf c
  | yl c l => exact fun _ => .yl c l
  | eq c v x _ ih => exact fun e => .eq c v x (ih (by simpa [V.upto] using e))
  | ptr id off h => exact fun e => .ptr id off (by simpa [V.upto] using e)
  | ep c es b off xs hs hx h _ => exact fun _ => .ep c es b off xs hs hx fun j hj => (h j hj).free rfl true
  | own id h h1 => exact fun e => .own id (by simpa [V.upto] using e) h1
  | rp id z i j b h hb => exact fun e => .rp id z i j b (by simpa [V.upto] using e) hb
  | fn c f caps vs hl _ ih => exact fun e => .fn c f caps vs hl fun i hi => ih i hi (V.uptoL_getD (by simpa [V.upto] using e) i)
  | tup c ts vs hl _ ih => exact fun e => .tup c ts vs hl fun i hi => ih i hi (V.uptoL_getD (by simpa [V.upto] using e) i)
  | gd c g v x _ h0 ih => exact fun e => .gd c g v x (fun hg => ih hg (by simpa [V.upto] using e)) h0
  | any c x => exact fun _ => .any c x

theorem Rel.sc_one {w : World} {O : Nat → Prop} {ι : Nat → Nat} {ρ : Nat → Value} {nx : Nat}
    {c : Bool} {v : V} {x : Value} (h : Rel w O ι ρ nx c v x) (hs : v.sc = true) : x.oneCell' = true := by
  cases h <;> first | rfl | assumption | simp [V.sc] at hs

/-- A constant of the text. -/
def ofVal : Value → V
  | .int k n => .int k n
  | .bool b => .bool b
  | .string s => .str s
  | .slice a n c => if a = none ∧ n = 0 ∧ c = 0 then .nsl else .any
  | .tuple vs => if vs = #[] then .tup [] else .any
  | .nilFunc => .nf
  | _ => .any

theorem Rel.const (w : World) (O : Nat → Prop) (ι : Nat → Nat) (ρ : Nat → Value) (nx : Nat) (c : Bool) (x : Value) : Rel w O ι ρ nx c (ofVal x) x := by
  cases x with
  | int k n => exact .int ..
  | bool b => exact .bool ..
  | string s => exact .str ..
  | slice a n cp =>
    simp only [ofVal]
    split
    · rename_i h; obtain ⟨rfl, rfl, rfl⟩ := h; exact .nsl ..
    · exact .any ..
  | tuple vs =>
    simp only [ofVal]
    split
    · rename_i h; subst h; exact .tup _ _ _ rfl (by simp)
    · exact .any ..
  | nilFunc => exact .nf ..
  | _ => exact .any ..

end Go.Proofs.Ytcphhbiehaimeaa
