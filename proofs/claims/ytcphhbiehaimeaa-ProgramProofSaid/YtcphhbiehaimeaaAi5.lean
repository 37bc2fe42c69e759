/- What is written no more is seen as a value. -/
import Derived.Test.YtcphhbiehaimeaaAi4
namespace Go.Proofs.Ytcphhbiehaimeaa
open Go.RowKit
set_option linter.unusedVariables false
set_option linter.unusedSimpArgs false

mutual
/-- The object 'id' is written no more: what names it is seen as a value. -/
def V.fz (id : Nat) (o : AObj) : V → V
  | .own i => if i = id then (match o with | .row _ esz rows => .sl esz rows | .cells _ => .own i) else .own i
  | .ptr i off => if i = id then (match o with | .cells cs => .ep (cs.drop off) | .row .. => .ptr i off) else .ptr i off
  | .rp i z k j => .rp i z k j
  | .agg cs => .agg (V.fzL id o cs)
  | .fn f cs => .fn f (V.fzL id o cs)
  | .tup cs => .tup (V.fzL id o cs)
  | .gd g v => .gd g (v.fz id o)
  | .int k n => .int k n
  | .bool b => .bool b
  | .str s => .str s
  | .sl e r => .sl e r
  | .nsl => .nsl
  | .slc e r => .slc e r
  | .ub => .ub
  | .nf => .nf
  | .yl l => .yl l
  | .eq x v => .eq x (v.fz id o)
  | .ep es => .ep es
  | .any => .any
def V.fzL (id : Nat) (o : AObj) : List V → List V
  | [] => []
  | v :: vs => v.fz id o :: V.fzL id o vs
end

theorem V.fzL_length (id : Nat) (o : AObj) : ∀ (cs : List V), (V.fzL id o cs).length = cs.length
  | [] => rfl
  | v :: vs => by simp [V.fzL, V.fzL_length id o vs]
theorem V.fzL_getD (id : Nat) (o : AObj) : ∀ (cs : List V) (i : Nat), (V.fzL id o cs).getD i .any = (cs.getD i .any).fz id o
  | [], i => by simp [V.fzL, V.fz]
  | v :: vs, 0 => by simp [V.fzL]
  | v :: vs, i + 1 => by simpa [V.fzL] using V.fzL_getD id o vs i
theorem V.sc_fz (id : Nat) (o : AObj) {v : V} (h : v.sc = true) : (v.fz id o).sc = true := by
  cases v <;> first | exact h | (cases h; done) | (simp only [V.fz]; split <;> first | rfl | (cases o <;> rfl))

def AObj.clo : AObj → Bool
  | .cells cs => V.clL cs
  | .row .. => true
def AObj.fz (a : AObj) (id : Nat) (o : AObj) : AObj :=
  match a with
  | .cells cs => .cells (V.fzL id o cs)
  | .row e z r => .row e z r

def Mem.fz (mem : Mem) (id : Nat) (o : AObj) : Mem := (mem.filter (·.1 ≠ id)).map fun p => (p.1, p.2.fz id o)

section
variable {cx : Cx} {mem : Mem} {nx : Nat} {ι : Nat → Nat} {ρ : Nat → Value} {w : World}

theorem blk_fz (id : Nat) (o : AObj) (i : Nat) (o' : AObj) : blk ι ρ (i, o'.fz id o) = blk ι ρ (i, o') := by cases o' <;> rfl

theorem mem_fz {id : Nat} {o : AObj} {q : Nat × AObj} (h : q ∈ mem.fz id o) : ∃ o', (q.1, o') ∈ mem ∧ q.1 ≠ id ∧ q.2 = o'.fz id o := by
  obtain ⟨p, hp, rfl⟩ := List.mem_map.1 h
  have := List.mem_filter.1 hp
  exact ⟨p.2, this.1, by simpa using this.2, rfl⟩

theorem OO_fz {id : Nat} {o : AObj} {b : Nat} (h : OO cx.X (mem.fz id o) ι ρ b) : OO cx.X mem ι ρ b := by
  rcases h with hx | ⟨q, hq, hb⟩
  · exact .inl hx
  · obtain ⟨o', h1, -, h3⟩ := mem_fz hq
    refine .inr ⟨_, h1, ?_⟩
    obtain ⟨i, oq⟩ := q
    simp only at h1 h3 ⊢
    subst h3
    rwa [blk_fz] at hb

theorem not_OO_fz (hml : ML cx mem nx ι ρ w) {id : Nat} {o : AObj} (hm : (id, o) ∈ mem) {b : Nat} (hb : blk ι ρ (id, o) = some b) : ¬ OO cx.X (mem.fz id o) ι ρ b := by
  rintro (hx | ⟨q, hq, hqb⟩)
  · exact (hml.own _ hm b hb).2.2 hx
  · obtain ⟨o', h1, h2, h3⟩ := mem_fz hq
    obtain ⟨i, oq⟩ := q
    simp only at h1 h2 h3
    subst h3
    rw [blk_fz] at hqb
    have := hml.inj _ h1 _ hm b hqb hb
    simp at this
    exact h2 this.1

theorem Rel.fz (hml : ML cx mem nx ι ρ w) {id : Nat} {o : AObj} (hm : (id, o) ∈ mem) (hc : o.clo = true)
    {c : Bool} {v : V} {x : Value} (h : Rel w (OO cx.X mem ι ρ) ι ρ nx c v x) : Rel w (OO cx.X (mem.fz id o) ι ρ) ι ρ nx c (v.fz id o) x := by
  have hmono : ∀ {c : Bool} {v : V} {x : Value}, Rel w (OO cx.X mem ι ρ) ι ρ nx c v x → Rel w (OO cx.X (mem.fz id o) ι ρ) ι ρ nx c v x := fun h =>
    h.mono (fun a y hc hn => ⟨hc, fun h => hn (OO_fz h)⟩) (fun _ _ => ⟨rfl, rfl⟩) (Nat.le_refl _)
  have hobj := hml.obj _ hm
  induction h with
  | int c k n => exact .int c k n
  | bool c b => exact .bool c b
  | str c s => exact .str c s
  | nsl c => exact .nsl c
  | slc c esz rows a n _ ih => exact .slc c esz rows a n ih
  | ub c b => exact .ub c b
  | nf c => exact .nf c
  | yl c l => exact .yl c l
  | eq c v x _ ih => exact .eq c _ x ih
  | slnil c e => exact .slnil c e
  | any c x => exact .any c x
  | sl c esz rows b off len cap xs hl hc hm hz hs hx h ih => exact hmono (.sl c esz rows b off len cap xs hl hc hm hz hs hx h)
  | ep c es b off xs hs hx h ih => exact hmono (.ep c es b off xs hs hx h)
  | gd c g v x h h0 ih => exact .gd c g _ x ih h0
  | rp i z k j b h hb => exact .rp i z k j b h hb
  | fn c f caps vs hl h ih => exact .fn c f _ vs (by rw [V.fzL_length]; exact hl) (fun i hi => by rw [V.fzL_getD]; exact ih i (by rwa [V.fzL_length] at hi))
  | tup c ts vs hl h ih => exact .tup c _ vs (by rw [V.fzL_length]; exact hl) (fun i hi => by rw [V.fzL_getD]; exact ih i (by rwa [V.fzL_length] at hi))
  | agg c cs vs hl hs h ih =>
    refine .agg c _ vs (by rw [V.fzL_length]; exact hl) (fun i hi => ?_) (fun i hi => by rw [V.fzL_getD]; exact ih i (by rwa [V.fzL_length] at hi))
    rw [V.fzL_length] at hi
    rw [V.fzL_getD]
    exact V.sc_fz id o (hs i hi)
  | ptr i off hid =>
    simp only [V.fz]
    split
    · rename_i e; subst e
      cases o with
      | row e z r => exact .ptr _ _ hid
      | cells cs =>
        obtain ⟨vals, e, h1, h2, h3, h4⟩ := hobj
        have e1 : ∀ j, (cs.drop off).getD j .any = cs.getD (off + j) .any := fun j => by simp [List.getD]
        refine .ep _ _ _ _ (fun j => vals.getD (off + j) undef) (fun j hj => by rw [e1]; exact h3 _ (by simp at hj; omega)) (fun j hj => ⟨?_, not_OO_fz hml hm rfl⟩) (fun j hj => ?_)
        · rw [cell_of_row w _ _ _ _ _ h1]; simp at hj; simp [Array.getD, show off + j < vals.size by omega]
        · rw [e1]; exact hmono ((h4 _ (by simp at hj; omega)).of_cl (V.clL_getD (by simpa [AObj.clo] using hc) _) true)
    · exact .ptr _ _ hid
  | own i hid h1' =>
    simp only [V.fz]
    split
    · rename_i e; subst e
      cases o with
      | cells cs => exact .own _ hid h1'
      | row e z r =>
        obtain ⟨xs, h1, h2, h3, h4⟩ := hobj
        rcases h1 with ⟨hlen, hn | ⟨g, cap, cur, hv, -, hg, hle, hcap, hcs, htake⟩⟩
        · have : r = [] := List.eq_nil_of_length_eq_zero hn.2
          subst this
          rw [hn.1]; exact .slnil _ _
        · rw [hv]
          refine .sl _ _ _ _ _ _ _ (fun i j => xs.getD (i * z + j) undef) rfl hle hcap h2 h3 (fun i j hi hj => ⟨?_, not_OO_fz hml hm (by simp [blk, hv, Value.ownBlock])⟩) (fun i j hi hj => hmono (h4 i j hi hj))
          have hlt : i * z + j < r.length * z := by
            have : (i + 1) * z ≤ r.length * z := Nat.mul_le_mul_right _ hi
            rw [Nat.succ_mul] at this; omega
          rw [Nat.zero_add, cell_of_row w _ _ _ _ _ hg]
          have hx : xs[i * z + j]? = cur.toList[i * z + j]? := by rw [← htake, List.getElem?_take, if_pos hlt]
          have hlt2 : i * z + j < xs.length := by omega
          have hx' : cur[i * z + j]? = xs[i * z + j]? := by rw [hx]; simp
          rw [hx']; simp [List.getD, hlt2]
    · exact .own _ hid h1'

theorem ML.fz (hml : ML cx mem nx ι ρ w) {id : Nat} {o : AObj} (hm : (id, o) ∈ mem) (hc : o.clo = true) : ML cx (mem.fz id o) nx ι ρ w := by
  have hin : ∀ q ∈ mem.fz id o, ∃ o', (q.1, o') ∈ mem ∧ q.1 ≠ id ∧ q.2 = o'.fz id o := fun q hq => mem_fz hq
  have hb : ∀ q ∈ mem.fz id o, ∃ p ∈ mem, q = (p.1, p.2.fz id o) ∧ blk ι ρ q = blk ι ρ p := by
    intro q hq
    obtain ⟨o', h1, h2, h3⟩ := hin q hq
    obtain ⟨i, oq⟩ := q
    simp only at h1 h3; subst h3
    exact ⟨_, h1, rfl, blk_fz _ _ _ _⟩
  refine ⟨hml.os, hml.tape, hml.output, hml.size, hml.old, ?_, ?_, ?_, ?_, hml.xlt, ?_⟩
  · intro p hp q hq e
    obtain ⟨p', hp', rfl, -⟩ := hb p hp
    obtain ⟨q', hq', rfl, -⟩ := hb q hq
    rw [hml.keys p' hp' q' hq' e]
  · intro p hp; obtain ⟨p', hp', rfl, -⟩ := hb p hp; exact hml.lt p' hp'
  · intro p hp b hpb; obtain ⟨p', hp', -, e⟩ := hb p hp; rw [e] at hpb; exact hml.own p' hp' b hpb
  · intro p hp q hq b hpb hqb
    obtain ⟨p', hp', rfl, e1⟩ := hb p hp
    obtain ⟨q', hq', rfl, e2⟩ := hb q hq
    rw [e1] at hpb; rw [e2] at hqb
    rw [hml.inj p' hp' q' hq' b hpb hqb]
  · intro q hq
    obtain ⟨p, hp, rfl, -⟩ := hb q hq
    have := hml.obj p hp
    obtain ⟨i, op⟩ := p
    cases op with
    | cells cs =>
      obtain ⟨vals, e, h1, h2, h3, h4⟩ := this
      refine ⟨vals, e, h1, by rw [V.fzL_length]; exact h2, fun j hj => ?_, fun j hj => ?_⟩
      · rw [V.fzL_length] at hj; rw [V.fzL_getD]; exact V.sc_fz _ _ (h3 j hj)
      · rw [V.fzL_length] at hj; rw [V.fzL_getD]; exact Rel.fz hml hm hc (h4 j hj)
    | row e z r =>
      obtain ⟨xs, h1, h2, h3, h4⟩ := this
      refine ⟨xs, h1, h2, h3, fun i j hi hj => ?_⟩
      exact (h4 i j hi hj).mono (fun a y hc hn => ⟨hc, fun h => hn (OO_fz h)⟩) (fun _ _ => ⟨rfl, rfl⟩) (Nat.le_refl _)

end
end Go.Proofs.Ytcphhbiehaimeaa
