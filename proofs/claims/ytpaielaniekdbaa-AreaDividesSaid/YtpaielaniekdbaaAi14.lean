/- A call of a function, by what its code comes to. -/
import Derived.Test.YtpaielaniekdbaaAi13
namespace Go.Proofs.Ytpaielaniekdbaa
open Go.RowKit
set_option linter.unusedVariables false
set_option linter.unusedSimpArgs false

section
variable {P : Program} {N : Nat} {cx : Cx} {σ : St} {ι : Nat → Nat} {ρ : Nat → Value} {a : Act} {w : World}

def rvRun (tmps : Array Value) : ResultVar → Sem Value
  | .tmp t => pure (tmps.getD t undef)
  | .cell p ty => do loadVar ty (← asAddr (tmps.getD p undef))

theorem loadAt_addr {ty : TypeId} {x y : Value} {w w' : World} (h : (Instr.loadAt ty x).run P w = .ok y w') : (do loadVar ty (← asAddr x) : Sem Value).run P w = .ok y w' := by
  cases x with
  | pointer ad =>
    cases ad with
    | some ad => exact h
    | none => simp [Instr.loadAt, Instr.sureAddr] at h
  | _ => simp [Instr.loadAt, Instr.sureAddr] at h

theorem resV1_sound {rv : ResultVar} {K : V → Prop} (h : SR cx σ ι ρ a w) (hs : resV1 P σ rv K) :
    ∃ x v, (rvRun a.tmps rv).run P w = .ok x w ∧ MR cx σ.mem σ.nx ι ρ w v x ∧ K v := by
  cases rv with
  | tmp t => exact ⟨_, _, rfl, h.env t, hs⟩
  | cell p ty =>
    obtain ⟨v, y, h1, h2, h3⟩ := loadV_sound h.ml hs (h.env p)
    exact ⟨y, v, loadAt_addr h1, h2, h3⟩

theorem results_eq (fn : Func) (tmps : Array Value) : results fn tmps = (do
    let vs ← fn.results.mapM (rvRun tmps)
    pure (if h : vs.size = 1 then vs[0] else .tuple vs)) := by
  unfold results
  congr 1

theorem results0 {fn : Func} {tmps : Array Value} (h : fn.results.toList = []) : (results fn tmps).run P w = .ok (.tuple #[]) w := by
  have e : fn.results = #[] := by apply Array.toList_inj.1; simpa using h
  rw [results_eq, e]; simp
theorem results1 {fn : Func} {tmps : Array Value} {r : ResultVar} {x : Value} (h : fn.results.toList = [r]) (h1 : (rvRun tmps r).run P w = .ok x w) : (results fn tmps).run P w = .ok x w := by
  have e : fn.results = #[r] := by apply Array.toList_inj.1; simpa using h
  rw [results_eq, e]; simp [Array.mapM_eq_mapM_toList, h1]
theorem results2 {fn : Func} {tmps : Array Value} {r s : ResultVar} {x y : Value} (h : fn.results.toList = [r, s]) (h1 : (rvRun tmps r).run P w = .ok x w) (h2 : (rvRun tmps s).run P w = .ok y w) :
    (results fn tmps).run P w = .ok (.tuple #[x, y]) w := by
  have e : fn.results = #[r, s] := by apply Array.toList_inj.1; simpa using h
  rw [results_eq, e]; simp [Array.mapM_eq_mapM_toList, h1, h2]
theorem results3 {fn : Func} {tmps : Array Value} {r s t : ResultVar} {x y z : Value} (h : fn.results.toList = [r, s, t]) (h1 : (rvRun tmps r).run P w = .ok x w) (h2 : (rvRun tmps s).run P w = .ok y w) (h3 : (rvRun tmps t).run P w = .ok z w) :
    (results fn tmps).run P w = .ok (.tuple #[x, y, z]) w := by
  have e : fn.results = #[r, s, t] := by apply Array.toList_inj.1; simpa using h
  rw [results_eq, e]; simp [Array.mapM_eq_mapM_toList, h1, h2, h3]

theorem postA_sound {fn : Func} {K : V → Prop} {e : Exit} (hf : SF N cx σ ι ρ a w) (h : postA P fn.results.toList K e σ) :
    (e = .normal ∨ e = .ret) ∧ ∃ x v mem, (results fn a.tmps).run P w = .ok x w ∧ Rel w (OO cx.X mem ι ρ) ι ρ σ.nx true v x ∧ K v := by
  have hnx : ∀ (vs : List V) (σ : St), (fzAll σ vs).nx = σ.nx := by
    intro vs
    induction vs with
    | nil => intro σ; rfl
    | cons v vs ih =>
      intro σ
      unfold fzAll
      split
      · rfl
      · rename_i heq; cases heq; split
        · rw [ih]; rfl
        · exact ih σ
      · rename_i heq; cases heq; split
        · split
          · rw [ih]; rfl
          · exact ih σ
        · exact ih σ
      · rename_i heq; cases heq; exact ih σ
  unfold postA at h
  simp only at h
  have hz := hf.sr.fzAll (σ.mem.map fun p => .own p.1)
  have hn := hnx (σ.mem.map fun p => .own p.1) σ
  generalize fzAll σ (σ.mem.map fun p => .own p.1) = σ' at h hz hn
  obtain ⟨he, h⟩ := h
  rw [← hn]
  refine ⟨by cases e <;> simp_all, ?_⟩
  split at h
  · rename_i hr; exact ⟨_, _, σ'.mem, results0 hr, .tup _ _ _ rfl (by simp), h⟩
  · rename_i r hr
    obtain ⟨x, v, h1, h2, hc, hk⟩ := resV1_sound hz h
    exact ⟨x, v, σ'.mem, results1 hr h1, h2.of_cl hc true, hk⟩
  · rename_i r s hr
    obtain ⟨x, v, h1, h2, h⟩ := resV1_sound hz h
    obtain ⟨y, u, h3, h4, hc, hd, hk⟩ := resV1_sound hz h
    refine ⟨_, _, σ'.mem, results2 hr h1 h3, .tup _ _ _ rfl fun i hi => ?_, hk⟩
    have : i = 0 ∨ i = 1 := by simp at hi; omega
    rcases this with rfl | rfl
    · simpa using h2.of_cl hc true
    · simpa using h4.of_cl hd true
  · rename_i r s t hr
    obtain ⟨x, v, h1, h2, h⟩ := resV1_sound hz h
    obtain ⟨y, u, h3, h4, h⟩ := resV1_sound hz h
    obtain ⟨z, q, h5, h6, hc, hd, hq, hk⟩ := resV1_sound hz h
    refine ⟨_, _, σ'.mem, results3 hr h1 h3 h5, .tup _ _ _ rfl fun i hi => ?_, hk⟩
    have : i = 0 ∨ i = 1 ∨ i = 2 := by simp at hi; omega
    rcases this with rfl | rfl | rfl
    · simpa using h2.of_cl hc true
    · simpa using h4.of_cl hd true
    · simpa using h6.of_cl hq true
  · exact h.elim

/-- **A call, by the statement over its code.** -/
theorem callsA_of_tr {f : FuncId} {fn : Func} {c : Code} (hf : P.funcs[f]? = some fn) (hb : fn.body = some c) {args : List V} {r : V} (hn : args.length ≤ fn.ntmps)
    (h : Tr P fn.ntmps c ⟨envOf 0 args, [], 0⟩ (postA P fn.results.toList fun v => v = r)) : CallsA P f args r := by
  intro w X vs hX hl hr
  refine calls_of_wp hf hb ?_
  let cx : Cx := ⟨w, fun _ => False, X⟩
  have hsf : SF fn.ntmps cx ⟨envOf 0 args, [], 0⟩ (fun _ => 0) (fun _ => undef) { tmps := vs ++ Array.replicate (fn.ntmps - vs.size) undef, defers := [] } w := by
    refine ⟨⟨⟨rfl, rfl, rfl, Nat.le_refl _, fun _ _ _ => rfl, by simp, by simp, by simp, by simp, hX, by simp⟩, fun t => ?_⟩, by simp; omega, rfl⟩
    simp only [St.slot, lookup_envOf]
    simp only [Nat.zero_le, if_true, Nat.sub_zero]
    by_cases ht : t < args.length
    · have h1 := hr t ht
      have e1 : args[t]?.getD .any = args.getD t .any := rfl
      have e2 : (vs ++ Array.replicate (fn.ntmps - vs.size) undef).getD t undef = vs.getD t undef := by
        simp [Array.getD_eq_getD_getElem?, Array.getElem?_append_left (show t < vs.size by omega)]
      rw [e1, e2]
      refine Rel.mono (fun a x hc hno => ⟨hc, fun h => ?_⟩) (fun _ _ => ⟨rfl, rfl⟩) (Nat.le_refl _) (h1.free rfl false)
      rcases h with h | ⟨p, hp, _⟩
      · exact hno h
      · cases hp
    · rw [List.getElem?_eq_none (by omega)]; exact .any ..
  refine Code.wp_mono (fun e a' w' hq => ?_) (h cx _ _ _ w hsf)
  obtain ⟨σ', ι', ρ', hp, hs⟩ := hq
  obtain ⟨he, x, v, mem, h1, h2, rfl⟩ := postA_sound hs hp
  have hm := hs.sr.ml
  have hbel : Below w.heap.size w w' := ⟨hm.os, hm.tape, hm.output, hm.size, fun b hb => hm.old b hb (fun h => h)⟩
  have hres : ∃ y, Ending.returned x = .returned y ∧ Below w.heap.size w w' ∧ Rel w' X (fun _ => 0) (fun _ => undef) 0 true v y :=
    ⟨x, rfl, hbel, Rel.mono (fun a y hc hno => ⟨hc, fun hx => hno (.inl hx)⟩) (fun _ _ => ⟨rfl, rfl⟩) (Nat.le_refl _) (h2.free rfl true)⟩
  rcases he with rfl | rfl
  · exact ⟨hs.defers, x, h1, hres⟩
  · exact ⟨hs.defers, x, h1, hres⟩

theorem callsA_of_evC {f : FuncId} {fn : Func} {c : Code} (hf : P.funcs[f]? = some fn) (hb : fn.body = some c) (keep : List Nat) {args : List V} {r : V} (hn : args.length ≤ fn.ntmps)
    (h : evC P fn.ntmps keep c ⟨envOf 0 args, [], 0⟩ (postA P fn.results.toList fun v => v = r)) : CallsA P f args r :=
  callsA_of_tr hf hb hn (evC_sound c _ _ h)

end
end Go.Proofs.Ytpaielaniekdbaa
