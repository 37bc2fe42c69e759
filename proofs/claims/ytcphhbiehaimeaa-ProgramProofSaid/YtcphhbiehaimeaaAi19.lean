/- What may be forgotten, and called by other numbers. -/
import Derived.Test.YtcphhbiehaimeaaAi18
namespace Go.Proofs.Ytcphhbiehaimeaa
open Go.RowKit
set_option linter.unusedVariables false
set_option linter.unusedSimpArgs false

mutual
def V.ren (i j : Nat) : V → V
  | .own k => .own (if k = i then j else k)
  | .ptr k off => .ptr (if k = i then j else k) off
  | .rp k z r s => .rp (if k = i then j else k) z r s
  | .agg cs => .agg (V.renL i j cs)
  | .fn f cs => .fn f (V.renL i j cs)
  | .tup cs => .tup (V.renL i j cs)
  | .gd g v => .gd g (v.ren i j)
  | .int k n => .int k n
  | .bool b => .bool b
  | .str s => .str s
  | .sl e r => .sl e r
  | .nsl => .nsl
  | .slc e r => .slc e r
  | .ub => .ub
  | .nf => .nf
  | .yl l => .yl l
  | .eq x v => .eq x (v.ren i j)
  | .ep es => .ep es
  | .any => .any
def V.renL (i j : Nat) : List V → List V
  | [] => []
  | v :: vs => v.ren i j :: V.renL i j vs
end
mutual
/-- Number j is not named. -/
def V.no (j : Nat) : V → Bool
  | .own k => k != j
  | .ptr k _ => k != j
  | .rp k _ _ _ => k != j
  | .agg cs => V.noL j cs
  | .fn _ cs => V.noL j cs
  | .tup cs => V.noL j cs
  | .gd _ v => v.no j
  | .int _ _ => true
  | .bool _ => true
  | .str _ => true
  | .sl _ _ => true
  | .nsl => true
  | .slc _ _ => true
  | .ub => true
  | .nf => true
  | .yl _ => true
  | .eq _ v => v.no j
  | .ep _ => true
  | .any => true
def V.noL (j : Nat) : List V → Bool
  | [] => true
  | v :: vs => v.no j && V.noL j vs
end

theorem V.renL_length (i j : Nat) : ∀ (cs : List V), (V.renL i j cs).length = cs.length
  | [] => rfl
  | v :: vs => by simp [V.renL, V.renL_length i j vs]
theorem V.renL_getD (i j : Nat) : ∀ (cs : List V) (k : Nat), (V.renL i j cs).getD k .any = (cs.getD k .any).ren i j
  | [], k => by simp [V.renL, V.ren]
  | v :: vs, 0 => by simp [V.renL]
  | v :: vs, k + 1 => by simpa [V.renL] using V.renL_getD i j vs k
theorem V.noL_getD {j : Nat} : ∀ {cs : List V} (_ : V.noL j cs = true) (k : Nat), (cs.getD k .any).no j = true
  | [], _, k => by simp [V.no]
  | v :: vs, h, 0 => by simp [V.noL] at h; simpa using h.1
  | v :: vs, h, k + 1 => by simp [V.noL] at h; simpa using V.noL_getD h.2 k
theorem V.sc_ren (i j : Nat) {v : V} (h : v.sc = true) : (v.ren i j).sc = true := by
  cases v <;> first | exact h | rfl | (cases h; done)

theorem Rel.ren {w : World} {O : Nat → Prop} {ι : Nat → Nat} {ρ : Nat → Value} {nx i j : Nat} (hj : j < nx) {c : Bool} {v : V} {x : Value} (h : Rel w O ι ρ nx c v x) : v.no j = true →
    Rel w O (fun k => if k = j then ι i else ι k) (fun k => if k = j then ρ i else ρ k) nx c (v.ren i j) x := by
  induction h with
  | int c k n => exact fun _ => .int c k n
  | bool c b => exact fun _ => .bool c b
  | str c s => exact fun _ => .str c s
  | agg c cs vs hl hs _ ih =>
    intro e
    refine .agg c _ vs (by rw [V.renL_length]; exact hl) (fun k hk => ?_) (fun k hk => ?_) <;> (rw [V.renL_length] at hk; rw [V.renL_getD])
    · exact V.sc_ren _ _ (hs k hk)
    · exact ih k hk (V.noL_getD (by simpa [V.no] using e) k)
  | sl c esz rows b off len cap xs hl hc hm hz hs hx h _ => exact fun _ => .sl c esz rows b off len cap xs hl hc hm hz hs hx fun i' j' hi hj' => (h i' j' hi hj').free rfl true
  | slnil c esz => exact fun _ => .slnil c esz
  | nsl c => exact fun _ => .nsl c
  | slc c esz rows a n _ ih => exact fun _ => .slc c esz rows a n (ih rfl)
  | ub c b => exact fun _ => .ub c b
  | nf c => exact fun _ => .nf c
  | yl c l => exact fun _ => .yl c l
  | eq c v x _ ih => exact fun e => .eq c _ x (ih (by simpa [V.no] using e))
  | ptr k off h =>
    intro e
    simp [V.no] at e
    simp only [V.ren]
    by_cases hk : k = i
    · subst hk
      rw [if_pos rfl]
      have := Rel.ptr (w := w) (O := O) (ι := fun m => if m = j then ι k else ι m) (ρ := fun m => if m = j then ρ k else ρ m) (nx := nx) j off hj
      simpa using this
    · rw [if_neg hk]
      have := Rel.ptr (w := w) (O := O) (ι := fun m => if m = j then ι i else ι m) (ρ := fun m => if m = j then ρ i else ρ m) (nx := nx) k off h
      simpa [e] using this
  | ep c es b off xs hs hx h _ => exact fun _ => .ep c es b off xs hs hx fun j' hj' => (h j' hj').free rfl true
  | own k h h1 =>
    intro e
    simp [V.no] at e
    simp only [V.ren]
    by_cases hk : k = i
    · subst hk
      rw [if_pos rfl]
      have := Rel.own (w := w) (O := O) (ι := fun m => if m = j then ι k else ι m) (ρ := fun m => if m = j then ρ k else ρ m) (nx := nx) j hj (by simpa using h1)
      simpa using this
    · rw [if_neg hk]
      have := Rel.own (w := w) (O := O) (ι := fun m => if m = j then ι i else ι m) (ρ := fun m => if m = j then ρ i else ρ m) (nx := nx) k h (by simpa [e] using h1)
      simpa [e] using this
  | rp k z r s b h hb =>
    intro e
    simp [V.no] at e
    simp only [V.ren]
    by_cases hk : k = i
    · subst hk
      rw [if_pos rfl]
      have := Rel.rp (w := w) (O := O) (ι := fun m => if m = j then ι k else ι m) (ρ := fun m => if m = j then ρ k else ρ m) (nx := nx) j z r s b hj (by simpa using hb)
      simpa using this
    · rw [if_neg hk]
      have := Rel.rp (w := w) (O := O) (ι := fun m => if m = j then ι i else ι m) (ρ := fun m => if m = j then ρ i else ρ m) (nx := nx) k z r s b h (by simpa [e] using hb)
      simpa [e] using this
  | fn c f caps vs hl _ ih => exact fun e => .fn c f _ vs (by rw [V.renL_length]; exact hl) fun k hk => by rw [V.renL_length] at hk; rw [V.renL_getD]; exact ih k hk (V.noL_getD (by simpa [V.no] using e) k)
  | tup c ts vs hl _ ih => exact fun e => .tup c _ vs (by rw [V.renL_length]; exact hl) fun k hk => by rw [V.renL_length] at hk; rw [V.renL_getD]; exact ih k hk (V.noL_getD (by simpa [V.no] using e) k)
  | gd c g v x _ h0 ih => exact fun e => .gd c g _ x (fun hg => ih hg (by simpa [V.no] using e)) h0
  | any c x => exact fun _ => .any c x

def AObj.ren (o : AObj) (i j : Nat) : AObj :=
  match o with
  | .cells cs => .cells (V.renL i j cs)
  | .row e z r => .row e z r
def AObj.no (o : AObj) (j : Nat) : Bool :=
  match o with
  | .cells cs => V.noL j cs
  | .row .. => true
def AObj.upto (o : AObj) (n : Nat) : Bool :=
  match o with
  | .cells cs => V.uptoL n cs
  | .row .. => true

def St.ren (σ : St) (i j : Nat) : St := ⟨σ.env.map fun p => (p.1, p.2.ren i j), σ.mem.map fun p => (if p.1 = i then j else p.1, p.2.ren i j), σ.nx⟩
def St.noSt (σ : St) (j : Nat) : Bool := σ.env.all (fun p => p.2.no j) && σ.mem.all fun p => p.1 != j && p.2.no j

theorem slot_ren (σ : St) (i j t : Nat) : (σ.ren i j).slot t = (σ.slot t).ren i j := by
  unfold St.slot St.ren
  simp only
  have : ∀ (l : List (Nat × V)), (l.map fun p => (p.1, p.2.ren i j)).lookup t = (l.lookup t).map fun v => v.ren i j := by
    intro l
    induction l with
    | nil => rfl
    | cons p l ih =>
      obtain ⟨q, v⟩ := p
      simp only [List.map_cons, List.lookup_cons]
      cases t == q <;> simp [ih]
  rw [this]
  cases σ.env.lookup t <;> simp [V.ren]

theorem slot_no {σ : St} {j : Nat} (h : σ.env.all (fun p => p.2.no j) = true) (t : Nat) : (σ.slot t).no j = true := by
  unfold St.slot
  cases hl : σ.env.lookup t with
  | none => simp [V.no]
  | some v =>
    have : ∀ (l : List (Nat × V)), l.all (fun p => p.2.no j) = true → l.lookup t = some v → v.no j = true := by
      intro l
      induction l with
      | nil => intro _ h; cases h
      | cons p l ih =>
        obtain ⟨q, u⟩ := p
        intro h1 h2
        simp only [List.all_cons, Bool.and_eq_true] at h1
        simp only [List.lookup_cons] at h2
        cases e : t == q with
        | true => simp [e] at h2; subst h2; exact h1.1
        | false => simp [e] at h2; exact ih h1.2 h2
    exact this _ h hl

theorem Wk.ren {N : Nat} {σ : St} (i j : Nat) (hj : j < σ.nx) (hi : i < σ.nx) (hno : σ.noSt j = true) : Wk N σ (σ.ren i j) := fun cx ι ρ a w h => by
  have hm := h.sr.ml
  simp only [St.noSt, Bool.and_eq_true] at hno
  have hnm : ∀ p ∈ σ.mem, p.1 ≠ j ∧ p.2.no j = true := fun p hp => by
    have := List.all_eq_true.1 hno.2 p hp
    simpa using this
  let ι' : Nat → Nat := fun k => if k = j then ι i else ι k
  let ρ' : Nat → Value := fun k => if k = j then ρ i else ρ k
  have hin : ∀ q ∈ (σ.ren i j).mem, ∃ p ∈ σ.mem, q = (if p.1 = i then j else p.1, p.2.ren i j) := fun q hq => by
    obtain ⟨p, hp, rfl⟩ := List.mem_map.1 hq; exact ⟨p, hp, rfl⟩
  have hblk : ∀ p ∈ σ.mem, blk ι' ρ' (if p.1 = i then j else p.1, p.2.ren i j) = blk ι ρ p := by
    rintro ⟨k, o⟩ hp
    have hk := (hnm _ hp).1
    simp only at hk
    by_cases e : k = i
    · subst e; cases o <;> simp [blk, AObj.ren, ι', ρ']
    · cases o <;> simp [blk, AObj.ren, ι', ρ', e, hk]
  have hO : ∀ b, OO cx.X (σ.ren i j).mem ι' ρ' b → OO cx.X σ.mem ι ρ b := by
    rintro b (hx | ⟨q, hq, hb⟩)
    · exact .inl hx
    · obtain ⟨p, hp, rfl⟩ := hin q hq
      exact .inr ⟨p, hp, by rw [← hblk p hp]; exact hb⟩
  have hk : ∀ c v x, v.no j = true → Rel w (OO cx.X σ.mem ι ρ) ι ρ σ.nx c v x → Rel w (OO cx.X (σ.ren i j).mem ι' ρ') ι' ρ' σ.nx c (v.ren i j) x := fun c v x hv hr =>
    ((hr.ren hj hv).mono (fun a y hc hn => ⟨hc, fun h => hn (hO _ h)⟩) (fun _ _ => ⟨rfl, rfl⟩) (Nat.le_refl _))
  have hkc : ∀ v x, Rel w (OO cx.X σ.mem ι ρ) ι ρ σ.nx true v x → Rel w (OO cx.X (σ.ren i j).mem ι' ρ') ι' ρ' σ.nx true v x := fun v x hr =>
    Rel.mono (fun a y hc hn => ⟨hc, fun h => hn (hO _ h)⟩) (fun _ _ => ⟨rfl, rfl⟩) (Nat.le_refl _) (hr.free (ι' := ι') (ρ' := ρ') (nx' := σ.nx) rfl true)
  have inj : ∀ p ∈ σ.mem, ∀ q ∈ σ.mem, (if p.1 = i then j else p.1) = (if q.1 = i then j else q.1) → p = q := by
    intro p hp q hq e
    refine hm.keys p hp q hq ?_
    have h1 := (hnm p hp).1
    have h2 := (hnm q hq).1
    split at e <;> split at e <;> omega
  refine ⟨ι', ρ', ⟨⟨⟨hm.os, hm.tape, hm.output, hm.size, hm.old, ?_, ?_, ?_, ?_, hm.xlt, ?_⟩, fun t => ?_⟩, h.size, h.defers⟩⟩
  · intro p hp q hq e
    obtain ⟨p', hp', rfl⟩ := hin p hp
    obtain ⟨q', hq', rfl⟩ := hin q hq
    rw [inj p' hp' q' hq' e]
  · intro p hp
    obtain ⟨p', hp', rfl⟩ := hin p hp
    have := hm.lt p' hp'
    show (if p'.1 = i then j else p'.1) < σ.nx
    split <;> omega
  · intro p hp b hb
    obtain ⟨p', hp', rfl⟩ := hin p hp
    rw [hblk p' hp'] at hb
    exact hm.own p' hp' b hb
  · intro p hp q hq b hpb hqb
    obtain ⟨p', hp', rfl⟩ := hin p hp
    obtain ⟨q', hq', rfl⟩ := hin q hq
    rw [hblk p' hp'] at hpb; rw [hblk q' hq'] at hqb
    rw [hm.inj p' hp' q' hq' b hpb hqb]
  · intro q hq
    obtain ⟨p, hp, rfl⟩ := hin q hq
    have ho := hm.obj p hp
    have hn := hnm p hp
    obtain ⟨k, o⟩ := p
    simp only at hn ho ⊢
    have ei : ι' (if k = i then j else k) = ι k := by
      by_cases e : k = i
      · subst e; simp [ι']
      · simp [ι', e, hn.1]
    have er : ρ' (if k = i then j else k) = ρ k := by
      by_cases e : k = i
      · subst e; simp [ρ']
      · simp [ρ', e, hn.1]
    cases o with
    | cells cs =>
      obtain ⟨vals, e, h1, h2, h3, h4⟩ := ho
      refine ⟨vals, e, by rw [ei]; exact h1, by rw [V.renL_length]; exact h2, fun m hm' => ?_, fun m hm' => ?_⟩ <;> (rw [V.renL_length] at hm'; rw [V.renL_getD])
      · exact V.sc_ren _ _ (h3 m hm')
      · exact hk _ _ _ (V.noL_getD (by simpa [AObj.no] using hn.2) m) (h4 m hm')
    | row e z r =>
      obtain ⟨xs, h1, h2, h3, h4⟩ := ho
      exact ⟨xs, by rw [er]; exact h1, h2, h3, fun m n hm' hn' => hkc _ _ (h4 m n hm' hn')⟩
  · rw [slot_ren]
    exact hk _ _ _ (slot_no hno.1 t) (h.sr.env t)

/-- Numbers from n on are forgotten. -/
def St.cut (σ : St) (n : Nat) : St := ⟨σ.env, σ.mem.filter (fun p => Nat.blt p.1 n), n⟩
def St.cutOK (σ : St) (n : Nat) : Bool := σ.env.all (fun p => p.2.upto n) && (σ.mem.filter (fun p => Nat.blt p.1 n)).all fun p => p.2.upto n

theorem slot_upto {σ : St} {n : Nat} (h : σ.env.all (fun p => p.2.upto n) = true) (t : Nat) : (σ.slot t).upto n = true := by
  unfold St.slot
  cases hl : σ.env.lookup t with
  | none => simp [V.upto]
  | some v =>
    have : ∀ (l : List (Nat × V)), l.all (fun p => p.2.upto n) = true → l.lookup t = some v → v.upto n = true := by
      intro l
      induction l with
      | nil => intro _ h; cases h
      | cons p l ih =>
        obtain ⟨q, u⟩ := p
        intro h1 h2
        simp only [List.all_cons, Bool.and_eq_true] at h1
        simp only [List.lookup_cons] at h2
        cases e : t == q with
        | true => simp [e] at h2; subst h2; exact h1.1
        | false => simp [e] at h2; exact ih h1.2 h2
    exact this _ h hl

theorem Wk.cut {N : Nat} {σ : St} (n : Nat) (hok : σ.cutOK n = true) : Wk N σ (σ.cut n) := fun cx ι ρ a w h => by
  obtain ⟨ι', ρ', hd⟩ := Wk.drop (N := N) (σ := σ) (fun k => Nat.blt k n) cx ι ρ a w h
  have hm := hd.sr.ml
  simp only [St.cutOK, Bool.and_eq_true] at hok
  refine ⟨ι', ρ', ⟨⟨⟨hm.os, hm.tape, hm.output, hm.size, hm.old, hm.keys, fun p hp => ?_, hm.own, hm.inj, hm.xlt, fun p hp => ?_⟩, fun t => Rel.of_below (hd.sr.env t) (slot_upto hok.1 t)⟩, hd.size, hd.defers⟩⟩
  · have := (List.mem_filter.1 hp).2; simpa [St.cut] using this
  · have ho := hm.obj p hp
    have hu := List.all_eq_true.1 hok.2 p hp
    obtain ⟨k, o⟩ := p
    cases o with
    | cells cs =>
      obtain ⟨vals, e, h1, h2, h3, h4⟩ := ho
      exact ⟨vals, e, h1, h2, h3, fun m hm' => (h4 m hm').of_below (V.uptoL_getD (by simpa [AObj.upto, St.cut] using hu) m)⟩
    | row e z r =>
      obtain ⟨xs, h1, h2, h3, h4⟩ := ho
      exact ⟨xs, h1, h2, h3, fun m n' hm' hn' => (h4 m n' hm' hn').free rfl true⟩

theorem evC_loopW {P : Program} {N : Nat} {C : Ctl P N} {keep : List Nat} {c : Code} {σ : St} {Ψ : Exit → St → Prop} (Inv : Nat → St → Prop) (n0 : Nat) (h0 : ∃ σ', Wk N σ σ' ∧ Inv n0 σ')
    (round : ∀ n σ, Inv n σ → evC C keep c σ (thenE (fun σ' => ∃ m σ'', m < n ∧ Wk N σ' σ'' ∧ Inv m σ'') Ψ)) : evC C keep (.loop c) σ Ψ := by
  obtain ⟨σ', hw, h0⟩ := h0
  refine evC_wk hw (tr_loop Inv n0 h0 fun n σ h => ?_)
  intro cx ι ρ a w hR hf
  refine Code.wpIn_mono (fun e a' w' hq => ?_) (evC_sound c σ _ (round n σ h) cx ι ρ a w hR hf)
  obtain ⟨cx1, σ1, ι1, ρ1, hL, hk, hs⟩ := hq
  cases e with
  | normal =>
    obtain ⟨m, σ2, hm, hw2, hi⟩ := hk
    obtain ⟨ι2, ρ2, hs2⟩ := hw2 cx1 ι1 ρ1 a' w' hs
    exact ⟨cx1, σ2, ι2, ρ2, hL, ⟨m, hm, hi⟩, hs2⟩
  | _ => exact ⟨cx1, σ1, ι1, ρ1, hL, hk, hs⟩

end Go.Proofs.Ytcphhbiehaimeaa
