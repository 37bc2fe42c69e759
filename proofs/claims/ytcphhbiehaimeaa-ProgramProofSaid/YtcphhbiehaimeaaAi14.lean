/- A call of a function, by what its code comes to. -/
import Derived.Test.YtcphhbiehaimeaaAi13
import Derived.RangeFuncLeaves
import Derived.RangeFuncOwn
import Derived.RangeFuncKeeps
namespace Go.Proofs.Ytcphhbiehaimeaa
open Go.RowKit
set_option linter.unusedVariables false
set_option linter.unusedSimpArgs false

section
variable {P : Program} {N : Nat} {cx : Cx} {σ : St} {ι : Nat → Nat} {ρ : Nat → Value} {a : Act} {w : World}

def rvRun (tmps : Array Value) : ResultVar → Sem Value
  | .tmp t => pure (tmps.getD t undef)
  | .cell p ty => do loadVar ty (← asAddr (tmps.getD p undef))

theorem loadAt_addr {ty : TypeId} {x y : Value} {w w' : World} (h : (Instr.loadAt ty x).run P w = .ok y w') : (do loadVar ty (← asAddr x) : Sem Value).run P w = .ok y w' := by
  cases x with
  | pointer ad =>
    cases ad with
    | some ad => exact h
    | none => simp [Instr.loadAt, Instr.sureAddr] at h
  | _ => simp [Instr.loadAt, Instr.sureAddr] at h

theorem resV1_sound {rv : ResultVar} {K : V → Prop} (h : SR cx σ ι ρ a w) (hs : resV1 P σ rv K) :
    ∃ x v, (rvRun a.tmps rv).run P w = .ok x w ∧ MR cx σ.mem σ.nx ι ρ w v x ∧ K v := by
  cases rv with
  | tmp t => exact ⟨_, _, rfl, h.get (.tmp t), hs⟩
  | cell p ty =>
    obtain ⟨v, y, h1, h2, h3⟩ := loadV_sound h.ml hs (h.get (.tmp p))
    exact ⟨y, v, loadAt_addr h1, h2, h3⟩

theorem results_eq (fn : Func) (tmps : Array Value) : results fn tmps = (do
    let vs ← fn.results.mapM (rvRun tmps)
    pure (if h : vs.size = 1 then vs[0] else .tuple vs)) := by
  unfold results
  congr 1

theorem results0 {fn : Func} {tmps : Array Value} (h : fn.results.toList = []) : (results fn tmps).run P w = .ok (.tuple #[]) w := by
  have e : fn.results = #[] := by apply Array.toList_inj.1; simpa using h
  rw [results_eq, e]; simp
theorem results1 {fn : Func} {tmps : Array Value} {r : ResultVar} {x : Value} (h : fn.results.toList = [r]) (h1 : (rvRun tmps r).run P w = .ok x w) : (results fn tmps).run P w = .ok x w := by
  have e : fn.results = #[r] := by apply Array.toList_inj.1; simpa using h
  rw [results_eq, e]; simp [Array.mapM_eq_mapM_toList, h1]
theorem results2 {fn : Func} {tmps : Array Value} {r s : ResultVar} {x y : Value} (h : fn.results.toList = [r, s]) (h1 : (rvRun tmps r).run P w = .ok x w) (h2 : (rvRun tmps s).run P w = .ok y w) :
    (results fn tmps).run P w = .ok (.tuple #[x, y]) w := by
  have e : fn.results = #[r, s] := by apply Array.toList_inj.1; simpa using h
  rw [results_eq, e]; simp [Array.mapM_eq_mapM_toList, h1, h2]
theorem results3 {fn : Func} {tmps : Array Value} {r s t : ResultVar} {x y z : Value} (h : fn.results.toList = [r, s, t]) (h1 : (rvRun tmps r).run P w = .ok x w) (h2 : (rvRun tmps s).run P w = .ok y w) (h3 : (rvRun tmps t).run P w = .ok z w) :
    (results fn tmps).run P w = .ok (.tuple #[x, y, z]) w := by
  have e : fn.results = #[r, s, t] := by apply Array.toList_inj.1; simpa using h
  rw [results_eq, e]; simp [Array.mapM_eq_mapM_toList, h1, h2, h3]

theorem postA_sound {fn : Func} {K : V → Prop} {e : Exit} (hf : SF N cx σ ι ρ a w) (h : postA P fn.results.toList K e σ) :
    (e = .normal ∨ e = .ret) ∧ ∃ x v mem, (results fn a.tmps).run P w = .ok x w ∧ Rel w (OO cx.X mem ι ρ) ι ρ σ.nx true v x ∧ K v := by
  have hnx : ∀ (vs : List V) (σ : St), (fzAll σ vs).nx = σ.nx := by
    intro vs
    induction vs with
    | nil => intro σ; rfl
    | cons v vs ih =>
      intro σ
      unfold fzAll
      split
      · rfl
      · rename_i heq; cases heq; split
        · rw [ih]; rfl
        · exact ih σ
      · rename_i heq; cases heq; split
        · split
          · rw [ih]; rfl
          · exact ih σ
        · exact ih σ
      · rename_i heq; cases heq; exact ih σ
  unfold postA at h
  simp only at h
  have hz := hf.sr.fzAll (σ.mem.map fun p => .own p.1)
  have hn := hnx (σ.mem.map fun p => .own p.1) σ
  generalize fzAll σ (σ.mem.map fun p => .own p.1) = σ' at h hz hn
  obtain ⟨he, h⟩ := h
  rw [← hn]
  refine ⟨by cases e <;> simp_all, ?_⟩
  split at h
  · rename_i hr; exact ⟨_, _, σ'.mem, results0 hr, .tup _ _ _ rfl (by simp), h⟩
  · rename_i r hr
    obtain ⟨x, v, h1, h2, hc, hk⟩ := resV1_sound hz h
    exact ⟨x, v, σ'.mem, results1 hr h1, h2.of_cl hc true, hk⟩
  · rename_i r s hr
    obtain ⟨x, v, h1, h2, h⟩ := resV1_sound hz h
    obtain ⟨y, u, h3, h4, hc, hd, hk⟩ := resV1_sound hz h
    refine ⟨_, _, σ'.mem, results2 hr h1 h3, .tup _ _ _ rfl fun i hi => ?_, hk⟩
    have : i = 0 ∨ i = 1 := by simp at hi; omega
    rcases this with rfl | rfl
    · simpa using h2.of_cl hc true
    · simpa using h4.of_cl hd true
  · rename_i r s t hr
    obtain ⟨x, v, h1, h2, h⟩ := resV1_sound hz h
    obtain ⟨y, u, h3, h4, h⟩ := resV1_sound hz h
    obtain ⟨z, q, h5, h6, hc, hd, hq, hk⟩ := resV1_sound hz h
    refine ⟨_, _, σ'.mem, results3 hr h1 h3 h5, .tup _ _ _ rfl fun i hi => ?_, hk⟩
    have : i = 0 ∨ i = 1 ∨ i = 2 := by simp at hi; omega
    rcases this with rfl | rfl | rfl
    · simpa using h2.of_cl hc true
    · simpa using h4.of_cl hd true
    · simpa using h6.of_cl hq true
  · exact h.elim

/-- How the world of reference may turn: marks come upon the deferred calls. -/
def mrk (D : Nat) : Deferred := { target := .collected D, args := #[] }
structure Ltr (a b : Cx) : Prop where
  r : b.r = a.r
  X : b.X = a.X
  G : b.G = a.G
  os : b.w0.os = a.w0.os
  tape : b.w0.tape = a.w0.tape
  output : b.w0.output = a.w0.output
  size : a.w0.heap.size ≤ b.w0.heap.size
  old : ∀ k, k < a.w0.heap.size → ¬ a.D k → b.w0.heap[k]? = a.w0.heap[k]?
  d : ∀ k, k < a.w0.heap.size → b.D k → a.D k
  df : ∃ ms : List Nat, b.df = ms.map mrk ++ a.df ∧ ms.Nodup ∧ ∀ D ∈ ms, a.w0.heap.size ≤ D ∧ b.w0.heap[D]? = some (.deferred (some [])) ∧ ¬ b.D D

theorem Ltr.refl (a : Cx) : Ltr a a := ⟨rfl, rfl, rfl, rfl, rfl, rfl, Nat.le_refl _, fun _ _ _ => rfl, fun _ _ h => h, [], rfl, .nil, by simp⟩
theorem some_lt {w : World} {k : Nat} {o : Obj} (h : w.heap[k]? = some o) : k < w.heap.size := (Array.getElem?_eq_some_iff.1 h).1
theorem Ltr.trans {a b c : Cx} (h : Ltr a b) (k : Ltr b c) : Ltr a c := by
  obtain ⟨ms, h1, h2, h3⟩ := h.df
  obtain ⟨ns, k1, k2, k3⟩ := k.df
  have hms : ∀ D ∈ ms, a.w0.heap.size ≤ D ∧ c.w0.heap[D]? = some (.deferred (some [])) ∧ ¬ c.D D := fun D hD => by
    obtain ⟨e1, e2, e3⟩ := h3 D hD
    have hc : c.w0.heap[D]? = some (.deferred (some [])) := by rw [k.old D (some_lt e2) e3]; exact e2
    exact ⟨e1, hc, fun hd => e3 (k.d D (some_lt e2) hd)⟩
  refine ⟨k.r.trans h.r, k.X.trans h.X, k.G.trans h.G, k.os.trans h.os, k.tape.trans h.tape, k.output.trans h.output, Nat.le_trans h.size k.size, fun i hi hd => ?_, fun i hi hd => h.d i hi (k.d i (Nat.lt_of_lt_of_le hi h.size) hd), ns ++ ms, by simp [h1, k1], ?_, fun D hD => ?_⟩
  · rw [k.old i (Nat.lt_of_lt_of_le hi h.size) (fun hb => hd (h.d i hi hb))]; exact h.old i hi hd
  · refine List.nodup_append.2 ⟨k2, h2, fun x hx y hy e => ?_⟩
    subst e
    have := (k3 x hx).1
    have := some_lt (h3 x hy).2.1
    omega
  · rcases List.mem_append.1 hD with hD | hD
    · have := k3 D hD; exact ⟨Nat.le_trans h.size this.1, this.2⟩
    · exact hms D hD

/-- The walk of a function that is called. -/
def C0 (P : Program) (N : Nat) : Ctl P N where
  S := fun a => a.r = none
  L := Ltr
  Y := fun _ _ _ => False
  refl := fun _ => Ltr.refl _
  trans := Ltr.trans
  pres := fun h k => h.r.trans k
  hr := Ltr.r
  ys := fun _ _ h => h.elim

theorem ML.rebase {a b : Cx} {mem : Mem} {nx : Nat} {w : World} (hL : Ltr a b) (hx : ∀ k, a.X k → k < a.w0.heap.size) (h : ML b mem nx ι ρ w) : ML a mem nx ι ρ w := by
  refine ⟨h.os.trans hL.os, h.tape.trans hL.tape, h.output.trans hL.output, Nat.le_trans hL.size h.size, fun i hi hd => ?_, h.keys, h.lt, fun p hp k hk => ?_, h.inj, hx, fun p hp => ?_⟩
  · rw [h.old i (Nat.lt_of_lt_of_le hi hL.size) (fun hb => hd (hL.d i hi hb))]; exact hL.old i hi hd
  · have := h.own p hp k hk
    refine ⟨this.1, ?_, by rw [← hL.X]; exact this.2.2⟩
    by_cases hi : k < a.w0.heap.size
    · right
      rcases this.2.1 with h1 | h1
      · have := hL.size; omega
      · exact hL.d k hi h1
    · left; omega
  · have := h.obj p hp; rw [hL.X] at this; exact this
theorem SF.back {a b : Cx} {c : Act} {w : World} (hL : Ltr a b) (hx : ∀ k, a.X k → k < a.w0.heap.size) (h : SF N b σ ι ρ c w) (ds : List Deferred) : SF N { a with df := ds } σ ι ρ { c with defers := ds } w := by
  refine ⟨⟨?_, fun t => ?_⟩, h.size, rfl⟩
  · have := h.sr.ml.rebase hL hx
    exact ⟨this.os, this.tape, this.output, this.size, this.old, this.keys, this.lt, this.own, this.inj, this.xlt, this.obj⟩
  · have := h.sr.env t
    have e1 : tv b c t = tv { a with df := ds } { c with defers := ds } t := by unfold tv; split <;> first | rfl | rw [hL.G]
    rw [e1] at this
    unfold MR at this ⊢
    rw [hL.X] at this
    exact this

/-- A block that holds no cells, and lies beyond the world of reference, turns. -/
theorem SF.turn {c : Act} {w : World} {D : Nat} {o o' : Obj} (h : SF N cx σ ι ρ c w) (hD : w.heap[D]? = some o) (ho : o.isCells = false) (hn : cx.w0.heap.size ≤ D) : SF N cx σ ι ρ c (w.putObj D o') := by
  have hb : ∀ b, b ≠ D → (w.putObj D o').heap[b]? = w.heap[b]? := fun b hb => World.putObj_heap_other hb
  have hc : ∀ a x, w.cell? a = some x → a.block ≠ D := fun a x hx e => by
    unfold World.cell? at hx
    rw [e, hD] at hx
    cases o <;> simp_all [Obj.isCells]
  have hm := h.sr.ml
  have hk : ∀ c v x, Rel w (OO cx.X σ.mem ι ρ) ι ρ σ.nx c v x → Rel (w.putObj D o') (OO cx.X σ.mem ι ρ) ι ρ σ.nx c v x := fun c v x hr =>
    hr.mono (fun a y hy hno => ⟨cell_of_block hy (hb _ (hc _ _ hy)), hno⟩) (fun _ _ => ⟨rfl, rfl⟩) (Nat.le_refl _)
  have hown : ∀ p ∈ σ.mem, ∀ b, blk ι ρ p = some b → b ≠ D := by
    rintro p hp b hpb rfl
    obtain ⟨i, ob⟩ := p
    have hob := hm.obj _ hp
    cases ob with
    | cells cs =>
      obtain ⟨vals, e, h1, _⟩ := hob
      simp [blk] at hpb
      simp only at h1
      rw [hpb, hD] at h1
      cases h1; cases ho
    | row e z rows =>
      obtain ⟨xs, h1, _⟩ := hob
      simp only [blk] at hpb
      rcases h1.2 with ⟨hv, _⟩ | ⟨g, cap, cur, hv, _, hg, _⟩
      · simp only at hv; rw [hv] at hpb; cases hpb
      · simp only at hv; rw [hv] at hpb
        simp [Value.ownBlock] at hpb
        rw [hpb, hD] at hg
        cases hg; cases ho
  refine ⟨⟨⟨hm.os, hm.tape, hm.output, by simpa using hm.size, fun b hb0 hd => ?_, hm.keys, hm.lt, fun p hp b hpb => ?_, hm.inj, hm.xlt, fun p hp => ?_⟩, fun t => hk _ _ _ (h.sr.env t)⟩, h.size, h.defers⟩
  · rw [hb b (by omega)]; exact hm.old b hb0 hd
  · have := hm.own p hp b hpb; exact ⟨by simpa using this.1, this.2⟩
  · exact OR.mono hk rfl rfl (fun b hpb => hb b (hown p hp b hpb)) (hm.obj p hp)

/-- The way out, by the marks. -/
theorem leaves_marks {fn : Func} {c : Act} {R : Ending → World → Prop} : ∀ (ms : List Nat) (w : World), ms.Nodup → (∀ D ∈ ms, cx.w0.heap.size ≤ D ∧ w.heap[D]? = some (.deferred (some []))) → SF N cx σ ι ρ c w →
    (∀ w', SF N cx σ ι ρ c w' → LeavesIn (Fr none) 0 P fn c.tmps R [] .returning w') → LeavesInM (Fr none) 0 P fn c.tmps R (ms.map mrk) .returning w
  | [], w, _, _, h, hk => hk w h
  | D :: ms, w, hn, hD, h, hk => by
    have h1 := hD D (by simp)
    refine ⟨by simp, .inl ⟨D, _, rfl, run_takeDeferred h1.2, ?_⟩⟩
    have hn' := List.nodup_cons.1 hn
    refine leaves_marks ms _ hn'.2 (fun E hE => ?_) (h.turn h1.2 rfl h1.1) hk
    have h2 := hD E (List.mem_cons_of_mem _ hE)
    refine ⟨h2.1, ?_⟩
    have hne : E ≠ D := by rintro rfl; exact hn'.1 hE
    rw [World.putObj_heap_other hne]; exact h2.2

/-- A call, by what its code comes to. -/
theorem calls_of_tr {f : FuncId} {fn : Func} {c : Code} (hf : P.funcs[f]? = some fn) (hb : fn.body = some c) {vs : Array Value} {Ψ : Exit → St → Prop} {R : Ending → World → Prop}
    (hr : cx.r = none) (hdf : cx.df = []) (h0 : SF fn.ntmps cx σ ι ρ { tmps := vs ++ Array.replicate (fn.ntmps - vs.size) undef, defers := [] } w) (h : Tr (C0 P fn.ntmps) c σ Ψ) (hΨ : ∀ e σ, Ψ e σ → e = .normal ∨ e = .ret)
    (hfin : ∀ e σ' ι' ρ' a' w', Ψ e σ' → SF fn.ntmps cx σ' ι' ρ' a' w' → ∃ x, (results fn a'.tmps).run P w' = .ok x w' ∧ R (.returned x) w') : Calls P f vs w R := by
  refine callsIn_wide.1 (callsIn_of_wp_marks (F := Fr none) (n := 0) hf hb trivial ?_)
  have hwp := h cx ι ρ _ w hr h0
  rw [hr] at hwp
  refine Code.wpIn_mono (fun e a' w' hq => ?_) hwp
  obtain ⟨cx', σ', ι', ρ', hL, hp, hs⟩ := hq
  have key : LeavesInM (Fr none) 0 P fn a'.tmps R a'.defers .returning w' := by
    obtain ⟨ms, h1, h2, h3⟩ := hL.df
    have hd : a'.defers = ms.map mrk := by rw [hs.defers, h1, hdf]; simp
    rw [hd]
    have hm := hs.sr.ml
    have hsb := hs.back hL h0.sr.ml.xlt []
    refine leaves_marks (cx := { cx with df := [] }) (c := { a' with defers := [] }) ms w' h2 (fun D hD => ?_) hsb fun w2 h4 => ?_
    · obtain ⟨e1, e2, e3⟩ := h3 D hD
      exact ⟨e1, by rw [hm.old D (some_lt e2) e3]; exact e2⟩
    · have hcx : ({ cx with df := [] } : Cx) = cx := by rw [← hdf]
      rw [hcx] at h4
      obtain ⟨x, hx, hR⟩ := hfin e σ' ι' ρ' _ w2 hp h4
      exact ⟨x, hx, hR⟩
  rcases hΨ e σ' hp with rfl | rfl
  · exact key
  · exact key

/-- **A call, by the statement over its code.** -/
theorem callsA_of_tr {f : FuncId} {fn : Func} {c : Code} (hf : P.funcs[f]? = some fn) (hb : fn.body = some c) {args : List V} {r : V} (hn : args.length ≤ fn.ntmps)
    (h : Tr (C0 P fn.ntmps) c ⟨envOf 0 args, [], 0⟩ (postA P fn.results.toList fun v => v = r)) : CallsA P f args r := by
  intro w X vs hX hl hr
  let cx : Cx := ⟨w, fun _ => False, X, none, [], fun t => vs.getD t undef⟩
  have hsf : SF fn.ntmps cx ⟨envOf 0 args, [], 0⟩ (fun _ => 0) (fun _ => undef) { tmps := vs ++ Array.replicate (fn.ntmps - vs.size) undef, defers := [] } w := by
    refine ⟨⟨⟨rfl, rfl, rfl, Nat.le_refl _, fun _ _ _ => rfl, by simp, by simp, by simp, by simp, hX, by simp⟩, fun t => ?_⟩, by simp; omega, rfl⟩
    simp only [St.slot, lookup_envOf]
    simp only [Nat.zero_le, if_true, Nat.sub_zero]
    by_cases ht : t < args.length
    · have h1 := hr t ht
      have e1 : args[t]?.getD .any = args.getD t .any := rfl
      have e2 : tv cx { tmps := vs ++ Array.replicate (fn.ntmps - vs.size) undef, defers := [] } t = vs.getD t undef := by
        unfold tv
        split
        · simp [Array.getD_eq_getD_getElem?, Array.getElem?_append_left (show t < vs.size by omega)]
        · rfl
      rw [e1, e2]
      refine Rel.mono (fun a x hc hno => ⟨hc, fun h => ?_⟩) (fun _ _ => ⟨rfl, rfl⟩) (Nat.le_refl _) (h1.free rfl false)
      rcases h with h | ⟨p, hp, _⟩
      · exact hno h
      · cases hp
    · rw [List.getElem?_eq_none (by omega)]; exact .any ..
  refine calls_of_tr hf hb rfl rfl hsf h (fun e σ hp => (by unfold postA at hp; cases e <;> simp_all)) fun e σ' ι' ρ' a' w' hp hs => ?_
  obtain ⟨he, x, v, mem, h1, h2, rfl⟩ := postA_sound hs hp
  have hm := hs.sr.ml
  have hbel : Below w.heap.size w w' := ⟨hm.os, hm.tape, hm.output, hm.size, fun b hb => hm.old b hb (fun h => h)⟩
  exact ⟨x, h1, x, rfl, hbel, Rel.mono (fun a y hc hno => ⟨hc, fun hx => hno (.inl hx)⟩) (fun _ _ => ⟨rfl, rfl⟩) (Nat.le_refl _) (h2.free rfl true)⟩

theorem callsA_of_evC {f : FuncId} {fn : Func} {c : Code} (hf : P.funcs[f]? = some fn) (hb : fn.body = some c) (keep : List Nat) {args : List V} {r : V} (hn : args.length ≤ fn.ntmps)
    (h : evC (C0 P fn.ntmps) keep c ⟨envOf 0 args, [], 0⟩ (postA P fn.results.toList fun v => v = r)) : CallsA P f args r :=
  callsA_of_tr hf hb hn (evC_sound c _ _ h)

end
end Go.Proofs.Ytcphhbiehaimeaa
