/- Regions and code. -/
import Derived.Test.YtpaielaniekdbaaAi12
namespace Go.Proofs.Ytpaielaniekdbaa
open Go.RowKit
set_option linter.unusedVariables false
set_option linter.unusedSimpArgs false

/-! #### an operation, under its guard -/
def gof (v : V) (want : Bool) (K : Bool → Prop) : Prop :=
  match v with
  | .bool b => K (b == want)
  | .gd g' (.bool b) => K (g' && (b == want))
  | _ => False

def St.put (σ : St) (d : Option Tmp) (v : V) : St :=
  match d with
  | some d => ⟨(d, v) :: σ.env, σ.mem, σ.nx⟩
  | none => σ

def dstIn (N : Nat) (d : Option Tmp) : Bool :=
  match d with
  | some d => decide (d < N)
  | none => true

/-- The slot that operation number j writes. -/
def nth : List (Option Tmp) → Nat → Option Tmp
  | [], _ => none
  | d :: _, 0 => d
  | _ :: ds, j + 1 => nth ds j

def evO (P : Program) (ds : List (Option Tmp)) (o : Oper) (σ : St) (K : St → Prop) : Prop :=
  match o.guard with
  | none => stp P σ none o.op fun v σ' => K (σ'.put o.dst v)
  | some (j, want) =>
    match nth ds j with
    | some d => gof (σ.slot d) want fun gb => ∃ v0, (gb = true → stp P σ (some gb) o.op fun v σ' => v = v0 ∧ σ' = σ) ∧ K (σ.put o.dst (.gd gb v0))
    | none => False

def evR (P : Program) (ds : List (Option Tmp)) : List Oper → St → (St → Prop) → Prop
  | [], σ, K => K σ
  | o :: rest, σ, K => evO P ds o σ fun σ' => evR P ds rest σ' K

theorem nth_eq (ops : Array Oper) (j : Nat) : nth (ops.toList.map (·.dst)) j = (ops[j]?).bind (·.dst) := by
  have h : ∀ (l : List Oper) (j : Nat), nth (l.map (·.dst)) j = (l[j]?).bind (·.dst) := by
    intro l
    induction l with
    | nil => intro j; simp [nth]
    | cons o l ih => intro j; cases j with
      | zero => simp [nth]
      | succ j => simp [nth, ih]
  rw [h]; simp

/-- The state of a frame of N slots. -/
structure SF (N : Nat) (cx : Cx) (σ : St) (ι : Nat → Nat) (ρ : Nat → Value) (a : Act) (w : World) : Prop where
  sr : SR cx σ ι ρ a w
  size : a.tmps.size = N
  defers : a.defers = []

section
variable {P : Program} {N : Nat} {cx : Cx} {σ : St} {ι : Nat → Nat} {ρ : Nat → Value} {a : Act} {w : World} {Q : Exit → Act → World → Prop} {o : Oper}

theorem SF.put (h : SF N cx σ ι ρ a w) {d : Option Tmp} (hd : dstIn N d = true) {v : V} {x : Value} (hr : MR cx σ.mem σ.nx ι ρ w v x) : SF N cx (σ.put d v) ι ρ (a.put d x) w := by
  cases d with
  | none => exact h
  | some d =>
    have hd' : d < a.tmps.size := by rw [h.size]; simpa [dstIn] using hd
    refine ⟨⟨h.sr.ml, fun t => ?_⟩, by simp [Act.put, h.size], h.defers⟩
    simp only [St.put, St.slot, Act.put, List.lookup_cons]
    by_cases e : t = d
    · subst e
      simp [Array.getD, hd']
      exact hr
    · have e1 : (t == d) = false := by simpa using e
      have e2 : (a.tmps.setIfInBounds d x).getD t undef = a.tmps.getD t undef := by
        rw [Array.getD_eq_getD_getElem?, Array.getElem?_setIfInBounds_ne (Ne.symm e), ← Array.getD_eq_getD_getElem?]
      rw [e1, e2]
      exact h.sr.env t

theorem gof_sound {ops : Array Oper} {j d : Nat} {want : Bool} {K : Bool → Prop} (hj : (ops[j]?).bind (·.dst) = some d) (h : SR cx σ ι ρ a w) (hd : d < a.tmps.size) (hs : gof (σ.slot d) want K) :
    ∃ gb, K gb ∧ (gb = true ↔ yielded ops a.tmps j = some want) := by
  have hr := h.env d
  have hy : yielded ops a.tmps j = match a.tmps.getD d undef with | .bool b => some b | _ => none := by
    unfold yielded
    rw [hj]
    simp only [Option.bind_some, Array.getElem?_eq_getElem hd, Array.getD, dif_pos hd]
    show _ = match a.tmps[d] with | .bool b => some b | _ => none
    cases a.tmps[d] <;> rfl
  unfold gof at hs
  split at hs
  · rename_i b hb
    rw [hb] at hr
    rw [hr.bool_inv] at hy
    exact ⟨_, hs, by rw [hy]; simp⟩
  · rename_i g' b hb
    rw [hb] at hr
    refine ⟨_, hs, ?_⟩
    unfold MR at hr
    generalize a.tmps.getD d undef = x at hr hy
    cases hr with
    | gd _ _ _ _ h1 h0 =>
      cases g' with
      | true => have := (h1 rfl).bool_inv; subst this; rw [hy]; simp
      | false => have := h0 rfl; subst this; rw [hy]; simp [undef]
  · exact hs.elim

theorem evO_sound {ops : Array Oper} {K : St → Prop} {rest : List Oper} {Q : Exit → Act → World → Prop} (hs : evO P (ops.toList.map (·.dst)) o σ K) (hd : dstIn N o.dst = true) (hN : ∀ (j d : Nat), (ops[j]?).bind (·.dst) = some d → d < N) (h : SF N cx σ ι ρ a w)
    (hrest : ∀ σ' ι' ρ' a' w', K σ' → SF N cx σ' ι' ρ' a' w' → wpList P ops Q rest a' w') : wpList P ops Q (o :: rest) a w := by
  unfold evO at hs
  split at hs
  · rename_i hg
    refine wpList_plain hg fun K' hK => ?_
    refine Oper.wp_mono (fun a' w' ⟨v, σ', ι', ρ', x, hk, ha, hsr, hmr⟩ => ?_) (stp_sound (cx := cx) h.sr rfl hs)
    subst ha
    refine hK _ _ (hrest _ ι' ρ' _ _ hk ?_)
    exact SF.put ⟨hsr, h.size, h.defers⟩ hd hmr
  · rename_i j want hg
    split at hs
    · rename_i d hj
      rw [nth_eq] at hj
      obtain ⟨gb, hs, hiff⟩ := gof_sound hj h.sr (by rw [h.size]; exact hN j d hj) hs
      unfold wpList
      by_cases hw : Region.wanted o (yielded ops a.tmps) = true
      · rw [if_pos hw]
        have hgb : gb = true := hiff.2 (by simpa [Region.wanted, hg] using hw)
        obtain ⟨v0, hs, hK⟩ := hs
        refine .inl (Oper.wp_mono (fun a' w' ⟨v, σ', ι', ρ', x, hk, ha, hsr, hmr⟩ => ?_) (stp_sound (cx := cx) h.sr (by simpa using hgb) (hs hgb)))
        subst ha
        obtain ⟨rfl, rfl⟩ := hk
        exact hrest _ ι' ρ' _ _ hK (SF.put ⟨hsr, h.size, h.defers⟩ hd (.gd _ _ _ _ (fun _ => hmr) (fun e => by rw [hgb] at e; cases e)))
      · rw [if_neg hw]
        have hgb : gb = false := by
          cases gb with
          | false => rfl
          | true => exact (hw (by simpa [Region.wanted, hg] using hiff.1 rfl)).elim
        obtain ⟨v0, -, hK⟩ := hs
        exact hrest _ ι ρ _ _ hK (SF.put h hd (.gd _ _ _ _ (fun e => by rw [hgb] at e; cases e) (fun _ => rfl)))
    · exact hs.elim

theorem evR_sound {ops : Array Oper} {Q : Exit → Act → World → Prop} (hN : ∀ (j d : Nat), (ops[j]?).bind (·.dst) = some d → d < N) {K : St → Prop} : ∀ {l : List Oper} {σ : St} {ι : Nat → Nat} {ρ : Nat → Value} {a : Act} {w : World}, (∀ o ∈ l, dstIn N o.dst = true) → evR P (ops.toList.map (·.dst)) l σ K → SF N cx σ ι ρ a w →
    (∀ σ' ι' ρ' a' w', K σ' → SF N cx σ' ι' ρ' a' w' → Q .normal a' w') → wpList P ops Q l a w
  | [], σ, ι, ρ, a, w, _, h, hf, hq => wpList_nil (hq σ ι ρ a w h hf)
  | o :: l, σ, ι, ρ, a, w, hl, h, hf, hq => evO_sound h (hl o (by simp)) hN hf fun σ' ι' ρ' a' w' hk hf' => evR_sound hN (fun o ho => hl o (by simp [ho])) hk hf' hq

end

/-! #### code -/
def St.norm (keep : List Nat) (σ : St) : St := ⟨keep.filterMap fun s => (σ.env.lookup s).map fun v => (s, v), σ.mem, σ.nx⟩

theorem lookup_norm (keep : List Nat) (env : List (Nat × V)) (t : Nat) : ((keep.filterMap fun s => (env.lookup s).map fun v => (s, v)).lookup t) = none ∨ ((keep.filterMap fun s => (env.lookup s).map fun v => (s, v)).lookup t) = env.lookup t := by
  induction keep with
  | nil => exact .inl rfl
  | cons s keep ih =>
    simp only [List.filterMap_cons]
    cases hs : env.lookup s with
    | none => exact ih
    | some v =>
      simp only [Option.map_some, List.lookup_cons]
      by_cases e : t = s
      · subst e; simp [hs]
      · have e1 : (t == s) = false := by simpa using e
        rw [e1]; exact ih

theorem SR.norm {cx : Cx} {σ : St} {ι : Nat → Nat} {ρ : Nat → Value} {a : Act} {w : World} (h : SR cx σ ι ρ a w) (keep : List Nat) : SR cx (σ.norm keep) ι ρ a w := by
  refine ⟨h.ml, fun t => ?_⟩
  simp only [St.norm, St.slot]
  rcases lookup_norm keep σ.env t with e | e
  · rw [e]; exact .any ..
  · rw [e]; exact h.env t

/-- From a state for which σ stands, the code comes to one for which a σ' stands, that is as Ψ asks. -/
def Tr (P : Program) (N : Nat) (c : Code) (σ : St) (Ψ : Exit → St → Prop) : Prop :=
  ∀ (cx : Cx) (ι : Nat → Nat) (ρ : Nat → Value) (a : Act) (w : World), SF N cx σ ι ρ a w → c.wp P (fun e a' w' => ∃ σ' ι' ρ', Ψ e σ' ∧ SF N cx σ' ι' ρ' a' w') a w

def thenE (K : St → Prop) (Ψ : Exit → St → Prop) : Exit → St → Prop
  | .normal, σ => K σ
  | e, σ => Ψ e σ
def inBlkE (id : Nat) (Ψ : Exit → St → Prop) : Exit → St → Prop
  | .exit id', σ => if id' = id then Ψ .normal σ else Ψ (.exit id') σ
  | e, σ => Ψ e σ

/-- Each slot that the region writes is one of the N; the table of its own that a guard asks. -/
def dstsIn (N : Nat) (ops : List Oper) : Bool := ops.all fun o => dstIn N o.dst

def evC (P : Program) (N : Nat) (keep : List Nat) : Code → St → (Exit → St → Prop) → Prop
  | .skip, σ, Ψ => Ψ .normal σ
  | .label _, σ, Ψ => Ψ .normal σ
  | .ret, σ, Ψ => Ψ .ret σ
  | .exit id, σ, Ψ => Ψ (.exit id) σ
  | .region _ ops false, σ, Ψ => dstsIn N ops.toList = true ∧ evR P (ops.toList.map (·.dst)) ops.toList σ fun σ' => Ψ .normal (σ'.norm keep)
  | .seq x y, σ, Ψ => evC P N keep x σ (thenE (fun σ' => evC P N keep y σ' Ψ) Ψ)
  | .cond c x y, σ, Ψ =>
    match σ.get c with
    | .bool b => (b = true → evC P N keep x σ Ψ) ∧ (b = false → evC P N keep y σ Ψ)
    | _ => False
  | .block id c, σ, Ψ => evC P N keep c σ (inBlkE id Ψ)
  | c, σ, Ψ => Tr P N c σ Ψ

section
variable {P : Program} {N : Nat} {keep : List Nat}

theorem Tr.mono {c : Code} {σ : St} {Ψ Ψ' : Exit → St → Prop} (h : Tr P N c σ Ψ) (hq : ∀ e σ, Ψ e σ → Ψ' e σ) : Tr P N c σ Ψ' :=
  fun cx ι ρ a w hf => Code.wp_mono (fun e a' w' ⟨σ', ι', ρ', h1, h2⟩ => ⟨σ', ι', ρ', hq _ _ h1, h2⟩) (h cx ι ρ a w hf)

theorem dstsIn_spec {ops : Array Oper} (h : dstsIn N ops.toList = true) (j d : Nat) (hj : (ops[j]?).bind (·.dst) = some d) : d < N := by
  cases ho : ops[j]? with
  | none => simp [ho] at hj
  | some o =>
    simp [ho] at hj
    have := List.all_eq_true.1 h o (by simpa using Array.mem_of_getElem? ho)
    simpa [dstIn, hj] using this

theorem evC_sound : ∀ (c : Code) (σ : St) (Ψ : Exit → St → Prop), evC P N keep c σ Ψ → Tr P N c σ Ψ
  | .skip, σ, Ψ, h => fun cx ι ρ a w hf => wp_skip ⟨σ, ι, ρ, h, hf⟩
  | .label l, σ, Ψ, h => fun cx ι ρ a w hf => wp_label ⟨σ, ι, ρ, h, hf⟩
  | .ret, σ, Ψ, h => fun cx ι ρ a w hf => wp_ret ⟨σ, ι, ρ, h, hf⟩
  | .exit id, σ, Ψ, h => fun cx ι ρ a w hf => wp_exit ⟨σ, ι, ρ, h, hf⟩
  | .region id ops false, σ, Ψ, h => fun cx ι ρ a w hf => by
    refine wp_region_list (evR_sound (dstsIn_spec h.1) (fun o ho => List.all_eq_true.1 h.1 o ho) h.2 hf fun σ' ι' ρ' a' w' hk hf' => ⟨_, ι', ρ', hk, ⟨hf'.sr.norm keep, hf'.size, hf'.defers⟩⟩)
  | .region id ops true, σ, Ψ, h => h
  | .seq x y, σ, Ψ, h => fun cx ι ρ a w hf => by
    refine wp_seq (Code.wp_mono (fun e a' w' hq => ?_) (evC_sound x σ _ h cx ι ρ a w hf))
    obtain ⟨σ', ι', ρ', h1, h2⟩ := hq
    cases e with
    | normal => exact evC_sound y σ' Ψ h1 cx ι' ρ' a' w' h2
    | _ => exact ⟨σ', ι', ρ', h1, h2⟩
  | .cond c x y, σ, Ψ, h => fun cx ι ρ a w hf => by
    unfold evC at h
    split at h
    · rename_i b hb
      have hr := hf.sr.get c
      rw [hb] at hr
      exact wp_cond_split hr.bool_inv (fun ht => evC_sound x σ Ψ (h.1 ht) cx ι ρ a w hf) (fun ht => evC_sound y σ Ψ (h.2 ht) cx ι ρ a w hf)
    · exact h.elim
  | .block id c, σ, Ψ, h => fun cx ι ρ a w hf => by
    refine wp_block (Code.wp_mono (fun e a' w' hq => ?_) (evC_sound c σ _ h cx ι ρ a w hf))
    obtain ⟨σ', ι', ρ', h1, h2⟩ := hq
    cases e with
    | exit id' =>
      simp only [inBlkE] at h1
      simp only [Exit.inBlock]
      split
      · rename_i he; rw [if_pos he] at h1; exact ⟨σ', ι', ρ', h1, h2⟩
      · rename_i he; rw [if_neg he] at h1; exact ⟨σ', ι', ρ', h1, h2⟩
    | _ => exact ⟨σ', ι', ρ', h1, h2⟩
  | .loop c, σ, Ψ, h => h
  | .rangeFunc .., σ, Ψ, h => h
  | .scope c, σ, Ψ, h => h
  | .goto l, σ, Ψ, h => h
  | .refuse s, σ, Ψ, h => h

/-! #### the walk's own moves: what follows stays closed -/
theorem evR_nil {ds : List (Option Tmp)} {σ : St} {K : St → Prop} (h : K σ) : evR P ds [] σ K := h
theorem evR_step {ds : List (Option Tmp)} {o : Oper} {l : List Oper} {σ : St} {K : St → Prop} (h : ∀ K' : St → Prop, (∀ σ', evR P ds l σ' K → K' σ') → evO P ds o σ K') : evR P ds (o :: l) σ K :=
  h _ fun _ h => h
theorem evO_guard {ds : List (Option Tmp)} {dst : Option Tmp} {op : Op} {ty : TypeId} {pos : String} {after : Array Edge} {j : Nat} {want : Bool} {d : Nat} {σ : St} {K : St → Prop} (hj : nth ds j = some d) {gb : Bool}
    (hg : ∀ K' : Bool → Prop, K' gb → gof (σ.slot d) want K') {v0 : V} (hs : gb = true → stp P σ (some gb) op fun v σ' => v = v0 ∧ σ' = σ) (hK : K (σ.put dst (.gd gb v0))) :
    evO P ds ⟨dst, op, ty, pos, after, some (j, want)⟩ σ K := by
  unfold evO; simp only [hj]; exact hg _ ⟨v0, hs, hK⟩
theorem gof_bool {b want : Bool} (K : Bool → Prop) (h : K (b == want)) : gof (.bool b) want K := h
theorem gof_gd {g b want : Bool} (K : Bool → Prop) (h : K (g && (b == want))) : gof (.gd g (.bool b)) want K := h
theorem evC_region {id : Nat} {l : List Oper} {ds : List (Option Tmp)} {σ : St} {Ψ : Exit → St → Prop} (hd : dstsIn N l = true) (hds : l.map (·.dst) = ds)
    (h : ∀ K : St → Prop, (∀ σ', Ψ .normal (σ'.norm keep) → K σ') → evR P ds l σ K) : evC P N keep (.region id l.toArray false) σ Ψ :=
  ⟨hd, by rw [show l.toArray.toList = l from rfl, hds]; exact h _ fun _ h => h⟩
theorem evC_seq {x y : Code} {σ : St} {Ψ : Exit → St → Prop} (h : ∀ K : St → Prop, (∀ σ', evC P N keep y σ' Ψ → K σ') → evC P N keep x σ (thenE K Ψ)) : evC P N keep (.seq x y) σ Ψ :=
  h _ fun _ h => h
theorem evC_block {id : Nat} {c : Code} {σ : St} {Ψ : Exit → St → Prop} (h : evC P N keep c σ (inBlkE id Ψ)) : evC P N keep (.block id c) σ Ψ := h
theorem evC_cond {c : Operand} {x y : Code} {σ : St} {Ψ : Exit → St → Prop} {b : Bool} (hb : σ.get c = .bool b) (ht : b = true → evC P N keep x σ Ψ) (hf : b = false → evC P N keep y σ Ψ) :
    evC P N keep (.cond c x y) σ Ψ := by
  unfold evC; rw [hb]; exact ⟨ht, hf⟩
theorem evC_skip {σ : St} {Ψ : Exit → St → Prop} (h : Ψ .normal σ) : evC P N keep .skip σ Ψ := h
theorem evC_ret {σ : St} {Ψ : Exit → St → Prop} (h : Ψ .ret σ) : evC P N keep .ret σ Ψ := h
theorem evC_exit {id : Nat} {σ : St} {Ψ : Exit → St → Prop} (h : Ψ (.exit id) σ) : evC P N keep (.exit id) σ Ψ := h

/-! #### a call -/
def envOf : Nat → List V → List (Nat × V)
  | _, [] => []
  | k, v :: vs => (k, v) :: envOf (k + 1) vs

theorem lookup_envOf : ∀ (vs : List V) (k t : Nat), (envOf k vs).lookup t = if k ≤ t then vs[t - k]? else none
  | [], k, t => by simp [envOf]
  | v :: vs, k, t => by
    simp only [envOf, List.lookup_cons, lookup_envOf vs (k + 1) t]
    by_cases e : t = k
    · subst e; simp
    · have e1 : (t == k) = false := by simpa using e
      rw [e1]
      by_cases hle : k ≤ t
      · rw [if_pos hle, if_pos (by omega)]
        have : t - k = (t - (k + 1)) + 1 := by omega
        rw [this]; simp
      · rw [if_neg hle, if_neg (by omega)]

def resV1 (P : Program) (σ : St) : ResultVar → (V → Prop) → Prop
  | .tmp t, K => K (σ.slot t)
  | .cell p ty, K => loadV (lay P ty) σ.mem (σ.slot p) K

/-- The results of a function, when it ends in σ; what it made is written no more. -/
def postA (P : Program) (rs : List ResultVar) (K : V → Prop) (e : Exit) (σ : St) : Prop :=
  let σ' := fzAll σ (σ.mem.map fun p => .own p.1)
  (match e with | .normal => True | .ret => True | _ => False) ∧
  match rs with
  | [] => K (.tup [])
  | [r] => resV1 P σ' r fun v => v.cl = true ∧ K v
  | [r, s] => resV1 P σ' r fun v => resV1 P σ' s fun u => v.cl = true ∧ u.cl = true ∧ K (.tup [v, u])
  | [r, s, t] => resV1 P σ' r fun v => resV1 P σ' s fun u => resV1 P σ' t fun x => v.cl = true ∧ u.cl = true ∧ x.cl = true ∧ K (.tup [v, u, x])
  | _ => False

end
end Go.Proofs.Ytpaielaniekdbaa
