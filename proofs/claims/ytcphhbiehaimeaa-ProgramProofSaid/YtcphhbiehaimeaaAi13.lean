/- Regions and code. -/
import Derived.Test.YtcphhbiehaimeaaAi12m
import Derived.TacticsIn
import Derived.OrdersIn
import Derived.LoopNIn
namespace Go.Proofs.Ytcphhbiehaimeaa
open Go.RowKit
set_option linter.unusedVariables false
set_option linter.unusedSimpArgs false

/-- The fence that lets all in, in a round of a loop over an iterator, or in none. -/
def Fr (r : Option Nat) : Fence := { fn := fun _ => True, depth := none, alive := false, round := r }
theorem rowsIn_wide {n : Nat} {P : Program} {row : String} {args : Array Value} {w : World} {R : Value → World → Prop} (h : Rows P row args w R) : RowsIn Fence.wide n P row args w R :=
  fun c cs _ => let ⟨v, w', r, s⟩ := h c cs; ⟨v, w', r, stepsIn_wide.2 s⟩
theorem Oper.wpIn_of_wp {P : Program} {o : Oper} {a : Act} {w : World} {K : Act → World → Prop} {Q : Exit → Act → World → Prop} {r : Option Nat} {n : Nat} (hd : ∀ c, o.op ≠ .defer c) (h : o.wp P a w K Q) :
    o.wpIn (Fr r) n P a w K Q := by
  refine ⟨fun _ _ => trivial, ?_⟩
  rw [Oper.semAt_eq _ _ _ hd]
  unfold Oper.wp at h
  generalize (execOp a.eval o).run P w = res at h
  have hn : (Fr r).depth.isSome = true → 1 ≤ n := fun h => by simp [Fr] at h
  cases res with
  | ok x w' =>
    cases x <;> simp only [Oper.upon] at h <;> simp only [Oper.uponIn] <;>
      first
        | exact h
        | exact ⟨hn, (callsIn_wide.2 h : CallsIn Fence.wide (n - 1) P _ _ _ _)⟩
        | exact ⟨hn, (rowsIn_wide h : RowsIn Fence.wide (n - 1) P _ _ _ _)⟩
        | exact h.elim
  | halt x w' => cases x <;> simp only [Oper.upon] at h <;> simp only [Oper.uponIn] <;> first | exact h | exact h.elim
theorem stp_nodefer {P : Program} {σ : St} {g : Option Bool} {op : Op} {K : V → St → Prop} (h : stp P σ g op K) : ∀ c, op ≠ .defer c := fun c e => by subst e; exact h.elim

/-! #### an operation, under its guard -/
def gof (v : V) (want : Bool) (K : Bool → Prop) : Prop :=
  match v with
  | .bool b => K (b == want)
  | .gd g' (.bool b) => K (g' && (b == want))
  | _ => False

def St.put (σ : St) (d : Option Tmp) (v : V) : St :=
  match d with
  | some d => ⟨(d, v) :: σ.env, σ.mem, σ.nx⟩
  | none => σ

def dstIn (N : Nat) (d : Option Tmp) : Bool :=
  match d with
  | some d => decide (d < N) && decide (d < 1000000)
  | none => true

/-- The slot that operation number j writes. -/
def nth : List (Option Tmp) → Nat → Option Tmp
  | [], _ => none
  | d :: _, 0 => d
  | _ :: ds, j + 1 => nth ds j

/-- The state of a frame of N slots. -/
structure SF (N : Nat) (cx : Cx) (σ : St) (ι : Nat → Nat) (ρ : Nat → Value) (a : Act) (w : World) : Prop where
  sr : SR cx σ ι ρ a w
  size : a.tmps.size = N
  defers : a.defers = cx.df


/-- What a walk may do to the world beside what the states say. S: where it may stand; L: how the world of reference may turn; Y: operations that the walk has beside its own. -/
structure Ctl (P : Program) (N : Nat) where
  S : Cx → Prop
  L : Cx → Cx → Prop
  Y : Op → St → (V → St → Prop) → Prop
  refl : ∀ {a}, S a → L a a
  trans : ∀ {a b c}, L a b → L b c → L a c
  pres : ∀ {a b}, L a b → S a → S b
  hr : ∀ {a b}, L a b → b.r = a.r
  ys : ∀ {cx : Cx} {σ : St} {ι : Nat → Nat} {ρ : Nat → Value} {a : Act} {w : World} {o : Oper} {K : V → St → Prop} {Q : Exit → Act → World → Prop}, S cx → SF N cx σ ι ρ a w → Y o.op σ K →
    o.wpIn (Fr cx.r) 0 P a w (fun a' w' => ∃ (cx' : Cx) (v : V) (σ' : St) (ι' : Nat → Nat) (ρ' : Nat → Value) (x : Value), K v σ' ∧ L cx cx' ∧ a' = a.put o.dst x ∧ SF N cx' σ' ι' ρ' a w' ∧ MR cx' σ'.mem σ'.nx ι' ρ' w' v x) Q

def evO (P : Program) (ds : List (Option Tmp)) (o : Oper) (σ : St) (K : St → Prop) : Prop :=
  match o.guard with
  | none => stp P σ none o.op fun v σ' => K (σ'.put o.dst v)
  | some (j, want) =>
    match nth ds j with
    | some d => gof (σ.get (.tmp d)) want fun gb => ∃ v0, (gb = true → stp P σ (some gb) o.op fun v σ' => v = v0 ∧ σ' = σ) ∧ K (σ.put o.dst (.gd gb v0))
    | none => False

def evY {P : Program} {N : Nat} (C : Ctl P N) (ds : List (Option Tmp)) (o : Oper) (σ : St) (K : St → Prop) : Prop :=
  match o.guard with
  | none => C.Y o.op σ fun v σ' => K (σ'.put o.dst v)
  | some (j, want) =>
    match nth ds j with
    | some d => gof (σ.get (.tmp d)) want fun gb => (gb = true → C.Y o.op σ fun v σ' => K (σ'.put o.dst (.gd true v))) ∧ (gb = false → ∃ v0, K (σ.put o.dst (.gd false v0)))
    | none => False

def evR {P : Program} {N : Nat} (C : Ctl P N) (ds : List (Option Tmp)) : List Oper → St → (St → Prop) → Prop
  | [], σ, K => K σ
  | o :: rest, σ, K => (evO P ds o σ fun σ' => evR C ds rest σ' K) ∨ (o.guard = none ∧ stpX P σ o.op fun v σ' => evR C ds rest (σ'.put o.dst v) K) ∨ evY C ds o σ fun σ' => evR C ds rest σ' K

theorem nth_eq (ops : Array Oper) (j : Nat) : nth (ops.toList.map (·.dst)) j = (ops[j]?).bind (·.dst) := by
  have h : ∀ (l : List Oper) (j : Nat), nth (l.map (·.dst)) j = (l[j]?).bind (·.dst) := by
    intro l
    induction l with
    | nil => intro j; simp [nth]
    | cons o l ih => intro j; cases j with
      | zero => simp [nth]
      | succ j => simp [nth, ih]
  rw [h]; simp

section
variable {P : Program} {N : Nat} {cx : Cx} {σ : St} {ι : Nat → Nat} {ρ : Nat → Value} {a : Act} {w : World} {Q : Exit → Act → World → Prop} {o : Oper}

theorem SF.put (h : SF N cx σ ι ρ a w) {d : Option Tmp} (hd : dstIn N d = true) {v : V} {x : Value} (hr : MR cx σ.mem σ.nx ι ρ w v x) : SF N cx (σ.put d v) ι ρ (a.put d x) w := by
  cases d with
  | none => exact h
  | some d =>
    have hd0 : d < N ∧ d < 1000000 := by simpa [dstIn] using hd
    have hd' : d < a.tmps.size := by rw [h.size]; exact hd0.1
    refine ⟨⟨h.sr.ml, fun t => ?_⟩, by simp [Act.put, h.size], h.defers⟩
    simp only [St.put, St.slot, Act.put, List.lookup_cons]
    by_cases e : t = d
    · subst e
      unfold tv
      rw [if_pos hd0.2]
      simp [Array.getD, hd']
      exact hr
    · have e1 : (t == d) = false := by simpa using e
      have e2 : (a.tmps.setIfInBounds d x).getD t undef = a.tmps.getD t undef := by
        rw [Array.getD_eq_getD_getElem?, Array.getElem?_setIfInBounds_ne (Ne.symm e), ← Array.getD_eq_getD_getElem?]
      have e3 : tv cx { a with tmps := a.tmps.setIfInBounds d x } t = tv cx a t := by unfold tv; split <;> first | rfl | exact e2
      rw [e1]
      have e4 := h.sr.env t
      rw [← e3] at e4
      exact e4

theorem gof_sound {ops : Array Oper} {j d : Nat} {want : Bool} {K : Bool → Prop} (hj : (ops[j]?).bind (·.dst) = some d) (h : SR cx σ ι ρ a w) (hd : d < a.tmps.size) (hs : gof (σ.get (.tmp d)) want K) :
    ∃ gb, K gb ∧ (gb = true ↔ yielded ops a.tmps j = some want) := by
  have hr := h.get (.tmp d)
  rw [show a.eval (.tmp d) = a.tmps.getD d undef from rfl] at hr
  have hy : yielded ops a.tmps j = match a.tmps.getD d undef with | .bool b => some b | _ => none := by
    unfold yielded
    rw [hj]
    simp only [Option.bind_some, Array.getElem?_eq_getElem hd, Array.getD, dif_pos hd]
    show _ = match a.tmps[d] with | .bool b => some b | _ => none
    cases a.tmps[d] <;> rfl
  unfold gof at hs
  split at hs
  · rename_i b hb
    rw [hb] at hr
    rw [hr.bool_inv] at hy
    exact ⟨_, hs, by rw [hy]; simp⟩
  · rename_i g' b hb
    rw [hb] at hr
    refine ⟨_, hs, ?_⟩
    unfold MR at hr
    generalize a.tmps.getD d undef = x at hr hy
    cases hr with
    | gd _ _ _ _ h1 h0 =>
      cases g' with
      | true => have := (h1 rfl).bool_inv; subst this; rw [hy]; simp
      | false => have := h0 rfl; subst this; rw [hy]; simp [undef]
  · exact hs.elim

theorem evO_sound {ops : Array Oper} {K : St → Prop} {rest : List Oper} {Q : Exit → Act → World → Prop} (hs : evO P (ops.toList.map (·.dst)) o σ K) (hd : dstIn N o.dst = true) (hN : ∀ (j d : Nat), (ops[j]?).bind (·.dst) = some d → d < N) (h : SF N cx σ ι ρ a w)
    (hrest : ∀ σ' ι' ρ' a' w', K σ' → SF N cx σ' ι' ρ' a' w' → wpListIn (Fr cx.r) 0 P ops Q rest a' w') : wpListIn (Fr cx.r) 0 P ops Q (o :: rest) a w := by
  unfold evO at hs
  split at hs
  · rename_i hg
    unfold wpListIn
    rw [if_pos (by simp [Region.wanted, hg])]
    refine Oper.wpIn_of_wp (stp_nodefer hs) (Oper.wp_mono (fun a' w' ⟨v, σ', ι', ρ', x, hk, ha, hsr, hmr⟩ => ?_) (stp_sound (cx := cx) h.sr rfl hs))
    subst ha
    exact hrest _ ι' ρ' _ _ hk (SF.put ⟨hsr, h.size, h.defers⟩ hd hmr)
  · rename_i j want hg
    split at hs
    · rename_i d hj
      rw [nth_eq] at hj
      obtain ⟨gb, hs, hiff⟩ := gof_sound hj h.sr (by rw [h.size]; exact hN j d hj) hs
      unfold wpListIn
      by_cases hw : Region.wanted o (yielded ops a.tmps) = true
      · rw [if_pos hw]
        have hgb : gb = true := hiff.2 (by simpa [Region.wanted, hg] using hw)
        obtain ⟨v0, hs, hK⟩ := hs
        refine Oper.wpIn_of_wp (stp_nodefer (hs hgb)) (Oper.wp_mono (fun a' w' ⟨v, σ', ι', ρ', x, hk, ha, hsr, hmr⟩ => ?_) (stp_sound (cx := cx) h.sr (by simpa using hgb) (hs hgb)))
        subst ha
        obtain ⟨rfl, rfl⟩ := hk
        exact hrest _ ι' ρ' _ _ hK (SF.put ⟨hsr, h.size, h.defers⟩ hd (.gd _ _ _ _ (fun _ => hmr) (fun e => by rw [hgb] at e; cases e)))
      · rw [if_neg hw]
        refine ⟨fun _ _ => trivial, ?_⟩
        have hgb : gb = false := by
          cases gb with
          | false => rfl
          | true => exact (hw (by simpa [Region.wanted, hg] using hiff.1 rfl)).elim
        obtain ⟨v0, -, hK⟩ := hs
        exact hrest _ ι ρ _ _ hK (SF.put h hd (.gd _ _ _ _ (fun e => by rw [hgb] at e; cases e) (fun _ => rfl)))
    · exact hs.elim

theorem evY_sound {C : Ctl P N} {ops : Array Oper} {K : St → Prop} {rest : List Oper} {Q : Exit → Act → World → Prop} (hS : C.S cx) (hs : evY C (ops.toList.map (·.dst)) o σ K) (hd : dstIn N o.dst = true) (hN : ∀ (j d : Nat), (ops[j]?).bind (·.dst) = some d → d < N) (h : SF N cx σ ι ρ a w)
    (hrest : ∀ cx' σ' ι' ρ' a' w', C.L cx cx' → K σ' → SF N cx' σ' ι' ρ' a' w' → wpListIn (Fr cx.r) 0 P ops Q rest a' w') : wpListIn (Fr cx.r) 0 P ops Q (o :: rest) a w := by
  unfold evY at hs
  split at hs
  · rename_i hg
    unfold wpListIn
    rw [if_pos (by simp [Region.wanted, hg])]
    refine Oper.wpIn_mono (fun a' w' hq => ?_) (C.ys hS h hs)
    obtain ⟨cx', v, σ', ι', ρ', x, hk, hL, rfl, hsf, hmr⟩ := hq
    exact hrest cx' _ ι' ρ' _ _ hL hk (hsf.put hd hmr)
  · rename_i j want hg
    split at hs
    · rename_i d hj
      rw [nth_eq] at hj
      obtain ⟨gb, hs, hiff⟩ := gof_sound hj h.sr (by rw [h.size]; exact hN j d hj) hs
      unfold wpListIn
      by_cases hw : Region.wanted o (yielded ops a.tmps) = true
      · rw [if_pos hw]
        have hgb : gb = true := hiff.2 (by simpa [Region.wanted, hg] using hw)
        refine Oper.wpIn_mono (fun a' w' hq => ?_) (C.ys hS h (hs.1 hgb))
        obtain ⟨cx', v, σ', ι', ρ', x, hk, hL, rfl, hsf, hmr⟩ := hq
        exact hrest cx' _ ι' ρ' _ _ hL hk (hsf.put hd (.gd _ _ _ _ (fun _ => hmr) (fun e => by cases e)))
      · rw [if_neg hw]
        refine ⟨fun _ _ => trivial, ?_⟩
        have hgb : gb = false := by
          cases gb with
          | false => rfl
          | true => exact (hw (by simpa [Region.wanted, hg] using hiff.1 rfl)).elim
        obtain ⟨v0, hk0⟩ := hs.2 hgb
        exact hrest cx _ ι ρ _ _ (C.refl hS) hk0 (SF.put h hd (.gd _ _ _ _ (fun e => by cases e) (fun _ => rfl)))
    · exact hs.elim

theorem evR_sound {C : Ctl P N} {ops : Array Oper} {Q : Exit → Act → World → Prop} (hN : ∀ (j d : Nat), (ops[j]?).bind (·.dst) = some d → d < N) {K : St → Prop} : ∀ {l : List Oper} {cx : Cx} {σ : St} {ι : Nat → Nat} {ρ : Nat → Value} {a : Act} {w : World}, (∀ o ∈ l, dstIn N o.dst = true) → C.S cx → evR C (ops.toList.map (·.dst)) l σ K → SF N cx σ ι ρ a w →
    (∀ cx' σ' ι' ρ' a' w', C.L cx cx' → K σ' → SF N cx' σ' ι' ρ' a' w' → Q .normal a' w') → wpListIn (Fr cx.r) 0 P ops Q l a w
  | [], cx, σ, ι, ρ, a, w, _, hS, h, hf, hq => wpListIn_nil (hq cx σ ι ρ a w (C.refl hS) h hf)
  | o :: l, cx, σ, ι, ρ, a, w, hl, hS, .inl h, hf, hq => evO_sound h (hl o (by simp)) hN hf fun σ' ι' ρ' a' w' hk hf' => evR_sound hN (fun o ho => hl o (by simp [ho])) hS hk hf' hq
  | o :: l, cx, σ, ι, ρ, a, w, hl, hS, .inr (.inl ⟨hg, hs⟩), hf, hq => by
    unfold wpListIn
    rw [if_pos (by simp [Region.wanted, hg])]
    refine Oper.wpIn_of_wp (stpX_nodefer hs) (Oper.wp_mono (fun a' w' ⟨v, σ', ι', ρ', x, hk, ha, hsr, hmr⟩ => ?_) (stpX_sound (cx := cx) hf.sr hs))
    subst ha
    exact evR_sound hN (fun o ho => hl o (by simp [ho])) hS hk (SF.put ⟨hsr, hf.size, hf.defers⟩ (hl o (by simp)) hmr) hq
  | o :: l, cx, σ, ι, ρ, a, w, hl, hS, .inr (.inr hs), hf, hq => evY_sound hS hs (hl o (by simp)) hN hf fun cx' σ' ι' ρ' a' w' hL hk hf' => by
    have e := C.hr hL
    rw [← e]
    exact evR_sound hN (fun o ho => hl o (by simp [ho])) (C.pres hL hS) hk hf' fun cx2 σ2 ι2 ρ2 a2 w2 hL2 => hq cx2 σ2 ι2 ρ2 a2 w2 (C.trans hL hL2)

end

/-! #### code -/
def St.norm (keep : List Nat) (σ : St) : St := ⟨keep.filterMap fun s => (σ.env.lookup s).map fun v => (s, v), σ.mem, σ.nx⟩

theorem lookup_norm (keep : List Nat) (env : List (Nat × V)) (t : Nat) : ((keep.filterMap fun s => (env.lookup s).map fun v => (s, v)).lookup t) = none ∨ ((keep.filterMap fun s => (env.lookup s).map fun v => (s, v)).lookup t) = env.lookup t := by
  induction keep with
  | nil => exact .inl rfl
  | cons s keep ih =>
    simp only [List.filterMap_cons]
    cases hs : env.lookup s with
    | none => exact ih
    | some v =>
      simp only [Option.map_some, List.lookup_cons]
      by_cases e : t = s
      · subst e; simp [hs]
      · have e1 : (t == s) = false := by simpa using e
        rw [e1]; exact ih

theorem SR.norm {cx : Cx} {σ : St} {ι : Nat → Nat} {ρ : Nat → Value} {a : Act} {w : World} (h : SR cx σ ι ρ a w) (keep : List Nat) : SR cx (σ.norm keep) ι ρ a w := by
  refine ⟨h.ml, fun t => ?_⟩
  simp only [St.norm, St.slot]
  rcases lookup_norm keep σ.env t with e | e
  · rw [e]; exact .any ..
  · rw [e]; exact h.env t

/-- From a state for which σ stands, the code comes to one for which a σ' stands, that is as Ψ asks. -/
def Tr {P : Program} {N : Nat} (C : Ctl P N) (c : Code) (σ : St) (Ψ : Exit → St → Prop) : Prop :=
  ∀ (cx : Cx) (ι : Nat → Nat) (ρ : Nat → Value) (a : Act) (w : World), C.S cx → SF N cx σ ι ρ a w → c.wpIn (Fr cx.r) 0 P (fun e a' w' => ∃ cx' σ' ι' ρ', C.L cx cx' ∧ Ψ e σ' ∧ SF N cx' σ' ι' ρ' a' w') a w

def thenE (K : St → Prop) (Ψ : Exit → St → Prop) : Exit → St → Prop
  | .normal, σ => K σ
  | e, σ => Ψ e σ
def inBlkE (id : Nat) (Ψ : Exit → St → Prop) : Exit → St → Prop
  | .exit id', σ => if id' = id then Ψ .normal σ else Ψ (.exit id') σ
  | e, σ => Ψ e σ

/-- Each slot that the region writes is one of the N; the table of its own that a guard asks. -/
def dstsIn (N : Nat) (ops : List Oper) : Bool := ops.all fun o => dstIn N o.dst

def evC {P : Program} {N : Nat} (C : Ctl P N) (keep : List Nat) : Code → St → (Exit → St → Prop) → Prop
  | .skip, σ, Ψ => Ψ .normal σ
  | .label _, σ, Ψ => Ψ .normal σ
  | .ret, σ, Ψ => Ψ .ret σ
  | .exit id, σ, Ψ => Ψ (.exit id) σ
  | .region _ ops false, σ, Ψ => dstsIn N ops.toList = true ∧ evR C (ops.toList.map (·.dst)) ops.toList σ fun σ' => Ψ .normal (σ'.norm keep)
  | .seq x y, σ, Ψ => evC C keep x σ (thenE (fun σ' => evC C keep y σ' Ψ) Ψ)
  | .cond c x y, σ, Ψ =>
    match σ.get c with
    | .bool b => (b = true → evC C keep x σ Ψ) ∧ (b = false → evC C keep y σ Ψ)
    | _ => False
  | .block id c, σ, Ψ => evC C keep c σ (inBlkE id Ψ)
  | c, σ, Ψ => Tr C c σ Ψ

section
variable {P : Program} {N : Nat} {C : Ctl P N} {keep : List Nat}

theorem Tr.mono {c : Code} {σ : St} {Ψ Ψ' : Exit → St → Prop} (h : Tr C c σ Ψ) (hq : ∀ e σ, Ψ e σ → Ψ' e σ) : Tr C c σ Ψ' :=
  fun cx ι ρ a w hR hf => Code.wpIn_mono (fun e a' w' ⟨cx', σ', ι', ρ', hL, h1, h2⟩ => ⟨cx', σ', ι', ρ', hL, hq _ _ h1, h2⟩) (h cx ι ρ a w hR hf)

theorem dstsIn_spec {ops : Array Oper} (h : dstsIn N ops.toList = true) (j d : Nat) (hj : (ops[j]?).bind (·.dst) = some d) : d < N := by
  cases ho : ops[j]? with
  | none => simp [ho] at hj
  | some o =>
    simp [ho] at hj
    have := List.all_eq_true.1 h o (by simpa using Array.mem_of_getElem? ho)
    have h2 : d < N ∧ d < 1000000 := by simpa [dstIn, hj] using this
    exact h2.1

theorem evC_sound : ∀ (c : Code) (σ : St) (Ψ : Exit → St → Prop), evC C keep c σ Ψ → Tr C c σ Ψ
  | .skip, σ, Ψ, h => fun cx ι ρ a w hR hf => wpIn_skip ⟨cx, σ, ι, ρ, C.refl hR, h, hf⟩
  | .label l, σ, Ψ, h => fun cx ι ρ a w hR hf => wpIn_label ⟨cx, σ, ι, ρ, C.refl hR, h, hf⟩
  | .ret, σ, Ψ, h => fun cx ι ρ a w hR hf => wpIn_ret ⟨cx, σ, ι, ρ, C.refl hR, h, hf⟩
  | .exit id, σ, Ψ, h => fun cx ι ρ a w hR hf => wpIn_exit ⟨cx, σ, ι, ρ, C.refl hR, h, hf⟩
  | .region id ops false, σ, Ψ, h => fun cx ι ρ a w hR hf => by
    refine wpIn_region_list (evR_sound (dstsIn_spec h.1) (fun o ho => List.all_eq_true.1 h.1 o ho) hR h.2 hf fun cx' σ' ι' ρ' a' w' hL hk hf' => ⟨cx', _, ι', ρ', hL, hk, ⟨hf'.sr.norm keep, hf'.size, hf'.defers⟩⟩)
  | .region id ops true, σ, Ψ, h => h
  | .seq x y, σ, Ψ, h => fun cx ι ρ a w hR hf => by
    refine wpIn_seq (Code.wpIn_mono (fun e a' w' hq => ?_) (evC_sound x σ _ h cx ι ρ a w hR hf))
    obtain ⟨cx', σ', ι', ρ', hL, h1, h2⟩ := hq
    cases e with
    | normal =>
      have e := C.hr hL
      rw [← e]
      exact Code.wpIn_mono (fun e a' w' ⟨cx2, σ2, ι2, ρ2, hL2, k⟩ => ⟨cx2, σ2, ι2, ρ2, C.trans hL hL2, k⟩) (evC_sound y σ' Ψ h1 cx' ι' ρ' a' w' (C.pres hL hR) h2)
    | _ => exact ⟨cx', σ', ι', ρ', hL, h1, h2⟩
  | .cond c x y, σ, Ψ, h => fun cx ι ρ a w hR hf => by
    unfold evC at h
    split at h
    · rename_i b hb
      have hr := hf.sr.get c
      rw [hb] at hr
      exact wpIn_cond_split hr.bool_inv (fun ht => evC_sound x σ Ψ (h.1 ht) cx ι ρ a w hR hf) (fun ht => evC_sound y σ Ψ (h.2 ht) cx ι ρ a w hR hf)
    · exact h.elim
  | .block id c, σ, Ψ, h => fun cx ι ρ a w hR hf => by
    refine wpIn_block (Code.wpIn_mono (fun e a' w' hq => ?_) (evC_sound c σ _ h cx ι ρ a w hR hf))
    obtain ⟨cx', σ', ι', ρ', hL, h1, h2⟩ := hq
    cases e with
    | exit id' =>
      simp only [inBlkE] at h1
      simp only [Exit.inBlock]
      split
      · rename_i he; rw [if_pos he] at h1; exact ⟨cx', σ', ι', ρ', hL, h1, h2⟩
      · rename_i he; rw [if_neg he] at h1; exact ⟨cx', σ', ι', ρ', hL, h1, h2⟩
    | _ => exact ⟨cx', σ', ι', ρ', hL, h1, h2⟩
  | .loop c, σ, Ψ, h => h
  | .rangeFunc .., σ, Ψ, h => h
  | .scope c, σ, Ψ, h => h
  | .goto l, σ, Ψ, h => h
  | .refuse s, σ, Ψ, h => h

/-! #### the walk's own moves: what follows stays closed -/
theorem evR_nil {ds : List (Option Tmp)} {σ : St} {K : St → Prop} (h : K σ) : evR C ds [] σ K := h
theorem evR_step {ds : List (Option Tmp)} {o : Oper} {l : List Oper} {σ : St} {K : St → Prop} (h : ∀ K' : St → Prop, (∀ σ', evR C ds l σ' K → K' σ') → evO P ds o σ K') : evR C ds (o :: l) σ K :=
  .inl (h _ fun _ h => h)
theorem evR_stepX {ds : List (Option Tmp)} {dst : Option Tmp} {op : Op} {ty : TypeId} {pos : String} {after : Array Edge} {l : List Oper} {σ : St} {K : St → Prop} (h : ∀ K' : St → Prop, (∀ σ', evR C ds l σ' K → K' σ') → stpX P σ op fun v σ' => K' (σ'.put dst v)) : evR C ds (⟨dst, op, ty, pos, after, none⟩ :: l) σ K :=
  .inr (.inl ⟨rfl, h _ fun _ h => h⟩)
theorem evR_stepY {ds : List (Option Tmp)} {dst : Option Tmp} {op : Op} {ty : TypeId} {pos : String} {after : Array Edge} {j : Nat} {want b : Bool} {d : Nat} {l : List Oper} {σ : St} {K : St → Prop} (hj : nth ds j = some d) (hb : σ.get (.tmp d) = .bool b)
    (h : ∀ K' : St → Prop, (∀ σ', evR C ds l σ' K → K' σ') → ((b == want) = true → C.Y op σ fun v σ' => K' (σ'.put dst (.gd true v))) ∧ ((b == want) = false → ∃ v0, K' (σ.put dst (.gd false v0)))) : evR C ds (⟨dst, op, ty, pos, after, some (j, want)⟩ :: l) σ K := by
  refine .inr (.inr ?_)
  unfold evY
  simp only [hj, hb]
  exact h _ fun _ h => h
theorem evR_stepY0 {ds : List (Option Tmp)} {dst : Option Tmp} {op : Op} {ty : TypeId} {pos : String} {after : Array Edge} {l : List Oper} {σ : St} {K : St → Prop}
    (h : ∀ K' : St → Prop, (∀ σ', evR C ds l σ' K → K' σ') → C.Y op σ fun v σ' => K' (σ'.put dst v)) : evR C ds (⟨dst, op, ty, pos, after, none⟩ :: l) σ K := .inr (.inr (h _ fun _ h => h))
theorem evO_guard {ds : List (Option Tmp)} {dst : Option Tmp} {op : Op} {ty : TypeId} {pos : String} {after : Array Edge} {j : Nat} {want : Bool} {d : Nat} {σ : St} {K : St → Prop} (hj : nth ds j = some d) {gb : Bool}
    (hg : ∀ K' : Bool → Prop, K' gb → gof (σ.get (.tmp d)) want K') {v0 : V} (hs : gb = true → stp P σ (some gb) op fun v σ' => v = v0 ∧ σ' = σ) (hK : K (σ.put dst (.gd gb v0))) :
    evO P ds ⟨dst, op, ty, pos, after, some (j, want)⟩ σ K := by
  unfold evO; simp only [hj]; exact hg _ ⟨v0, hs, hK⟩
theorem gof_bool {b want : Bool} (K : Bool → Prop) (h : K (b == want)) : gof (.bool b) want K := h
theorem gof_gd {g b want : Bool} (K : Bool → Prop) (h : K (g && (b == want))) : gof (.gd g (.bool b)) want K := h
theorem evC_region {id : Nat} {l : List Oper} {ds : List (Option Tmp)} {σ : St} {Ψ : Exit → St → Prop} (hd : dstsIn N l = true) (hds : l.map (·.dst) = ds)
    (h : ∀ K : St → Prop, (∀ σ', Ψ .normal (σ'.norm keep) → K σ') → evR C ds l σ K) : evC C keep (.region id l.toArray false) σ Ψ :=
  ⟨hd, by rw [show l.toArray.toList = l from rfl, hds]; exact h _ fun _ h => h⟩
theorem evC_seq {x y : Code} {σ : St} {Ψ : Exit → St → Prop} (h : ∀ K : St → Prop, (∀ σ', evC C keep y σ' Ψ → K σ') → evC C keep x σ (thenE K Ψ)) : evC C keep (.seq x y) σ Ψ :=
  h _ fun _ h => h
theorem evC_block {id : Nat} {c : Code} {σ : St} {Ψ : Exit → St → Prop} (h : evC C keep c σ (inBlkE id Ψ)) : evC C keep (.block id c) σ Ψ := h
theorem evC_cond {c : Operand} {x y : Code} {σ : St} {Ψ : Exit → St → Prop} {b : Bool} (hb : σ.get c = .bool b) (ht : b = true → evC C keep x σ Ψ) (hf : b = false → evC C keep y σ Ψ) :
    evC C keep (.cond c x y) σ Ψ := by
  unfold evC; rw [hb]; exact ⟨ht, hf⟩
theorem evC_skip {σ : St} {Ψ : Exit → St → Prop} (h : Ψ .normal σ) : evC C keep .skip σ Ψ := h
theorem evC_ret {σ : St} {Ψ : Exit → St → Prop} (h : Ψ .ret σ) : evC C keep .ret σ Ψ := h
theorem evC_exit {id : Nat} {σ : St} {Ψ : Exit → St → Prop} (h : Ψ (.exit id) σ) : evC C keep (.exit id) σ Ψ := h

/-! #### a call -/
def envOf : Nat → List V → List (Nat × V)
  | _, [] => []
  | k, v :: vs => (k, v) :: envOf (k + 1) vs

theorem lookup_envOf : ∀ (vs : List V) (k t : Nat), (envOf k vs).lookup t = if k ≤ t then vs[t - k]? else none
  | [], k, t => by simp [envOf]
  | v :: vs, k, t => by
    simp only [envOf, List.lookup_cons, lookup_envOf vs (k + 1) t]
    by_cases e : t = k
    · subst e; simp
    · have e1 : (t == k) = false := by simpa using e
      rw [e1]
      by_cases hle : k ≤ t
      · rw [if_pos hle, if_pos (by omega)]
        have : t - k = (t - (k + 1)) + 1 := by omega
        rw [this]; simp
      · rw [if_neg hle, if_neg (by omega)]

def resV1 (P : Program) (σ : St) : ResultVar → (V → Prop) → Prop
  | .tmp t, K => K (σ.get (.tmp t))
  | .cell p ty, K => loadV (lay P ty) σ.mem (σ.get (.tmp p)) K

/-- The results of a function, when it ends in σ; what it made is written no more. -/
def postA (P : Program) (rs : List ResultVar) (K : V → Prop) (e : Exit) (σ : St) : Prop :=
  let σ' := fzAll σ (σ.mem.map fun p => .own p.1)
  (match e with | .normal => True | .ret => True | _ => False) ∧
  match rs with
  | [] => K (.tup [])
  | [r] => resV1 P σ' r fun v => v.cl = true ∧ K v
  | [r, s] => resV1 P σ' r fun v => resV1 P σ' s fun u => v.cl = true ∧ u.cl = true ∧ K (.tup [v, u])
  | [r, s, t] => resV1 P σ' r fun v => resV1 P σ' s fun u => resV1 P σ' t fun x => v.cl = true ∧ u.cl = true ∧ x.cl = true ∧ K (.tup [v, u, x])
  | _ => False

end
end Go.Proofs.Ytcphhbiehaimeaa
