/- A contract of a function that works on the caller's memory, out of its code; what may be seen as less. -/
import Derived.Test.YtcphhbiehaimeaaAi20
namespace Go.Proofs.Ytcphhbiehaimeaa
open Go.RowKit
set_option linter.unusedVariables false
set_option linter.unusedSimpArgs false

def gv (p : Nat × AObj) : V :=
  match p.2 with
  | .cells _ => .ptr p.1 0
  | .row .. => .own p.1
/-- Ghosts: what the numbers of 'pre' stood for. -/
def gh : Mem → List (Nat × V)
  | [] => []
  | p :: ps => (1000000 + p.1, gv p) :: gh ps
def ghOK : Mem → St → Prop
  | [], _ => True
  | p :: ps, σ => σ.slot (1000000 + p.1) = gv p ∧ ghOK ps σ
theorem ghOK_mem : ∀ {pre : Mem} {σ : St}, ghOK pre σ → ∀ p ∈ pre, σ.slot (1000000 + p.1) = gv p
  | [], _, _, p, hp => by cases hp
  | q :: ps, σ, h, p, hp => by
    rcases List.mem_cons.1 hp with rfl | hp
    · exact h.1
    · exact ghOK_mem h.2 p hp
theorem gh_lookup : ∀ {pre : Mem} {t : Nat} {v : V}, (gh pre).lookup t = some v → ∃ p ∈ pre, t = 1000000 + p.1 ∧ v = gv p
  | [], t, v, h => by simp [gh] at h
  | q :: ps, t, v, h => by
    simp only [gh, List.lookup_cons] at h
    by_cases e : t = 1000000 + q.1
    · have e1 : (t == 1000000 + q.1) = true := by simpa using e
      rw [e1] at h
      exact ⟨q, by simp, e, by cases h; rfl⟩
    · have e1 : (t == 1000000 + q.1) = false := by simpa using e
      rw [e1] at h
      obtain ⟨p, hp, h1⟩ := gh_lookup h
      exact ⟨p, List.mem_cons_of_mem _ hp, h1⟩
theorem lookup_app : ∀ (l m : List (Nat × V)) (t : Nat), (l ++ m).lookup t = match l.lookup t with | some v => some v | none => m.lookup t
  | [], m, t => by simp
  | (a, b) :: l, m, t => by
    simp only [List.cons_append, List.lookup_cons]
    cases t == a
    · exact lookup_app l m t
    · rfl

def postM (P : Program) (rs : List ResultVar) (pre : Mem) (r : V) (mem' : Mem) (k' : Nat) (e : Exit) (σ : St) : Prop :=
  (match e with | .normal => True | .ret => True | _ => False) ∧ ghOK pre σ ∧ σ.mem = mem' ∧ σ.nx = k' ∧
  match rs with
  | [] => r = .tup []
  | [a] => resV1 P σ a fun v => v = r
  | [a, b] => resV1 P σ a fun v => resV1 P σ b fun u => r = .tup [v, u]
  | _ => False

def gG (pre : Mem) (ι : Nat → Nat) (ρ : Nat → Value) (t : Nat) : Value :=
  match pre.find? (fun p => p.1 == t - 1000000) with
  | some (id, .cells _) => .pointer (some ⟨ι id, 0, none⟩)
  | some (id, .row ..) => ρ id
  | none => undef
theorem gG_spec {pre : Mem} {ι : Nat → Nat} {ρ : Nat → Value} (hk : ∀ p ∈ pre, ∀ q ∈ pre, p.1 = q.1 → p = q) {p : Nat × AObj} (hp : p ∈ pre) :
    gG pre ι ρ (1000000 + p.1) = match p.2 with | .cells _ => .pointer (some ⟨ι p.1, 0, none⟩) | .row .. => ρ p.1 := by
  unfold gG
  rw [show 1000000 + p.1 - 1000000 = p.1 by omega]
  cases hf : pre.find? (fun q => q.1 == p.1) with
  | none =>
    have := List.find?_eq_none.1 hf p hp
    simp at this
  | some q =>
    have h1 := List.find?_some hf
    have h2 := List.mem_of_find?_eq_some hf
    have : q = p := hk q h2 p hp (by simpa using h1)
    subst this
    obtain ⟨i, o⟩ := q
    cases o <;> rfl

section
variable {P : Program}
/-- .. at a state that may be seen as less. -/
def postW (N : Nat) (P : Program) (rs : List ResultVar) (pre : Mem) (r : V) (mem' : Mem) (k' : Nat) (e : Exit) (σ : St) : Prop := ∃ σ2, Wk N σ σ2 ∧ postM P rs pre r mem' k' e σ2
theorem callsM_of_tr {f : FuncId} {fn : Func} {c : Code} (hf : P.funcs[f]? = some fn) (hb : fn.body = some c) {args : List V} {pre : Mem} {k : Nat} {r : V} {mem' : Mem} {k' : Nat} (hn : args.length ≤ fn.ntmps) (hg : args.length ≤ 1000000) (hk : k ≤ k')
    (h : Tr (C0 P fn.ntmps) c ⟨envOf 0 args ++ gh pre, pre, k⟩ (postW fn.ntmps P fn.results.toList pre r mem' k')) : CallsM P f args pre k r mem' k' := by
  intro w X ι ρ vs hml hl hr
  let cx : Cx := ⟨w, fun b => ∃ p ∈ pre, blk ι ρ p = some b, X, none, [], gG pre ι ρ⟩
  have hml2 : ML cx pre k ι ρ w := ⟨hml.os, hml.tape, hml.output, hml.size, hml.old, hml.keys, hml.lt, hml.own, hml.inj, hml.xlt, hml.obj⟩
  have hsf : SF fn.ntmps cx ⟨envOf 0 args ++ gh pre, pre, k⟩ ι ρ { tmps := vs ++ Array.replicate (fn.ntmps - vs.size) undef, defers := [] } w := by
    refine ⟨⟨hml2, fun t => ?_⟩, by simp; omega, rfl⟩
    simp only [St.slot, lookup_app, lookup_envOf, Nat.zero_le, if_true, Nat.sub_zero]
    by_cases ht : t < args.length
    · have h1 := hr t ht
      have e1 : args[t]? = some (args.getD t .any) := by simp [List.getD, ht]
      have e2 : tv cx { tmps := vs ++ Array.replicate (fn.ntmps - vs.size) undef, defers := [] } t = vs.getD t undef := by
        unfold tv
        rw [if_pos (by omega)]
        simp [Array.getD_eq_getD_getElem?, Array.getElem?_append_left (show t < vs.size by omega)]
      rw [e1, e2]
      exact h1
    · rw [List.getElem?_eq_none (by omega)]
      simp only
      cases hl2 : (gh pre).lookup t with
      | none => exact .any ..
      | some v =>
        obtain ⟨p, hp, rfl, rfl⟩ := gh_lookup hl2
        have e2 : tv cx { tmps := vs ++ Array.replicate (fn.ntmps - vs.size) undef, defers := [] } (1000000 + p.1) = gG pre ι ρ (1000000 + p.1) := by
          unfold tv; rw [if_neg (by omega)]
        rw [e2, gG_spec hml.keys hp]
        have hlt := hml.lt p hp
        have hob := hml.obj p hp
        obtain ⟨i, o⟩ := p
        cases o with
        | cells cs => exact .ptr _ _ hlt
        | row e z rows =>
          obtain ⟨xs, ho, -⟩ := hob
          refine .own _ hlt ?_
          rcases ho.2 with ⟨h1, -⟩ | ⟨g, cap, cur, h1, -⟩ <;> (simp only at h1 ⊢; rw [h1]; rfl)
  refine calls_of_tr hf hb rfl rfl hsf h (fun e σ ⟨σ2, _, hp⟩ => (by unfold postM at hp; cases e <;> simp_all)) fun e σ1 ι1 ρ1 a' w' hq hs1 => ?_
  obtain ⟨σ', hw, hq⟩ := hq
  obtain ⟨ι', ρ', hs⟩ := hw cx ι1 ρ1 a' w' hs1
  obtain ⟨he, hgh, hmm, hnn, hres⟩ := hq
  subst hmm; subst hnn
  have hm := hs.sr.ml
  have hpin : ∀ p ∈ pre, (p.2.isC = true → ι' p.1 = ι p.1) ∧ (p.2.isC = false → ρ' p.1 = ρ p.1) := fun p hp => by
    have h1 := hs.sr.env (1000000 + p.1)
    rw [ghOK_mem hgh p hp] at h1
    have e2 : tv cx a' (1000000 + p.1) = gG pre ι ρ (1000000 + p.1) := by unfold tv; rw [if_neg (by omega)]
    rw [e2, gG_spec hml.keys hp] at h1
    obtain ⟨i, o⟩ := p
    unfold MR at h1
    cases o with
    | cells cs =>
      refine ⟨fun _ => ?_, fun hc => (by cases hc)⟩
      simp only [gv] at h1
      generalize hx : Value.pointer (some ⟨ι i, 0, none⟩) = x at h1
      cases h1
      simp only [Value.pointer.injEq, Option.some.injEq, Addr.mk.injEq, and_true] at hx
      exact hx.symm
    | row e z rows =>
      refine ⟨fun hc => (by cases hc), fun _ => ?_⟩
      simp only [gv] at h1
      generalize hx : ρ i = x at h1 ⊢
      cases h1
      rfl
  have hml3 : ML ⟨w, fun b => ∃ p ∈ pre, blk ι ρ p = some b, X, none, [], fun _ => undef⟩ σ'.mem σ'.nx ι' ρ' w' := ⟨hm.os, hm.tape, hm.output, hm.size, hm.old, hm.keys, hm.lt, hm.own, hm.inj, hm.xlt, hm.obj⟩
  have fin : ∀ x, (results fn a'.tmps).run P w' = .ok x w' → Rel w' (OO X σ'.mem ι' ρ') ι' ρ' σ'.nx false r x →
      ∃ x, (results fn a'.tmps).run P w' = .ok x w' ∧ ∃ x_1 ι' ρ'_1, Ending.returned x = .returned x_1 ∧ ML ⟨w, fun b => ∃ p ∈ pre, blk ι ρ p = some b, X, none, [], fun _ => undef⟩ σ'.mem σ'.nx ι' ρ'_1 w' ∧ Rel w' (OO X σ'.mem ι' ρ'_1) ι' ρ'_1 σ'.nx false r x_1 ∧ k ≤ σ'.nx ∧
        ∀ p ∈ pre, (p.2.isC = true → ι' p.1 = ι p.1) ∧ (p.2.isC = false → ρ'_1 p.1 = ρ p.1) := by
    intro x hx hrx
    exact ⟨x, hx, x, ι', ρ', rfl, hml3, hrx, hk, hpin⟩
  split at hres
  · rename_i hrs
    subst hres
    exact fin _ (results0 hrs) (.tup _ _ _ rfl (by simp))
  · rename_i rv hrs
    obtain ⟨x, v, h1, h2, rfl⟩ := resV1_sound hs.sr hres
    exact fin x (results1 hrs h1) h2
  · rename_i rv rv2 hrs
    obtain ⟨x, v, h1, h2, hres⟩ := resV1_sound hs.sr hres
    obtain ⟨y, u, h3, h4, rfl⟩ := resV1_sound hs.sr hres
    refine fin _ (results2 hrs h1 h3) (.tup _ _ _ rfl fun i hi => ?_)
    have : i = 0 ∨ i = 1 := by simp at hi; omega
    rcases this with rfl | rfl
    · simpa [MR] using h2
    · simpa [MR] using h4
  · exact hres.elim
end

/-! #### less -/
mutual
/-- What v stands for, u stands for too. -/
inductive V.Le : V → V → Prop where
  | refl (v : V) : V.Le v v
  | nsl (e : Nat) : V.Le .nsl (.sl e [])
  | slc (e : Nat) (rows : List (List V)) : V.Le (.slc e rows) (.sl e rows)
  | agg {cs ds : List V} (h : V.LeL cs ds) : V.Le (.agg cs) (.agg ds)
  | tup {cs ds : List V} (h : V.LeL cs ds) : V.Le (.tup cs) (.tup ds)
inductive V.LeL : List V → List V → Prop where
  | nil : V.LeL [] []
  | cons {v u : V} {cs ds : List V} (h : V.Le v u) (hs : V.LeL cs ds) : V.LeL (v :: cs) (u :: ds)
end
theorem V.LeL.refl : ∀ cs : List V, V.LeL cs cs
  | [] => .nil
  | v :: vs => .cons (.refl v) (V.LeL.refl vs)
theorem Le.sc {v u : V} (h : V.Le v u) (hs : v.sc = true) : u.sc = true := by
  cases h with
  | refl => exact hs
  | nsl => rfl
  | slc => rfl
  | agg => cases hs
  | tup => cases hs
mutual
theorem Rel.le {w : World} {O : Nat → Prop} {ι : Nat → Nat} {ρ : Nat → Value} {nx : Nat} {c : Bool} : ∀ {v u : V} {x : Value}, V.Le v u → Rel w O ι ρ nx c v x → Rel w O ι ρ nx c u x
  | _, _, _, .refl _, h => h
  | _, _, _, .nsl e, h => by cases h; exact .slnil _ _
  | _, _, _, .slc e rows, h => by cases h with | slc _ _ _ _ _ h => exact h
  | _, _, _, .agg hl, h => by
    cases h with
    | agg _ _ vs h1 h2 h3 =>
      obtain ⟨e, k1, k2⟩ := Rel.leL hl vs h1 h2 h3
      exact .agg _ _ vs e k1 k2
  | _, _, _, .tup hl, h => by
    cases h with
    | tup _ _ vs h1 h3 =>
      obtain ⟨e, k2⟩ := Rel.leT hl vs h1 h3
      exact .tup _ _ vs e k2
theorem Rel.leL {w : World} {O : Nat → Prop} {ι : Nat → Nat} {ρ : Nat → Value} {nx : Nat} {c : Bool} : ∀ {cs ds : List V}, V.LeL cs ds → ∀ (vs : Array Value), vs.size = cs.length → (∀ i, i < cs.length → (cs.getD i .any).sc = true) →
    (∀ i, i < cs.length → Rel w O ι ρ nx c (cs.getD i .any) (vs.getD i undef)) → vs.size = ds.length ∧ (∀ i, i < ds.length → (ds.getD i .any).sc = true) ∧ ∀ i, i < ds.length → Rel w O ι ρ nx c (ds.getD i .any) (vs.getD i undef)
  | _, _, .nil, vs, h1, h2, h3 => ⟨h1, h2, h3⟩
  | v :: cs, u :: ds, .cons h hs, vs, h1, h2, h3 => by
    have hd : ∀ i, i < cs.length → Rel w O ι ρ nx c (cs.getD i .any) ((vs.extract 1 vs.size).getD i undef) := fun i hi => by
      have := h3 (i + 1) (by simpa using hi)
      simp only [List.getD_cons_succ] at this
      have e : (vs.extract 1 vs.size).getD i undef = vs.getD (i + 1) undef := by
        rw [Array.getD_eq_getD_getElem?, Array.getD_eq_getD_getElem?]
        simp only [List.length_cons] at h1
        simp [Array.getElem?_extract, Nat.add_comm 1 i, show i < vs.size - 1 by omega, show i + 1 < vs.size by omega]
      rw [e]; exact this
    simp only [List.length_cons] at h1
    obtain ⟨e, k1, k2⟩ := Rel.leL hs (vs.extract 1 vs.size) (by simp; omega) (fun i hi => by simpa using h2 (i + 1) (by simpa using hi)) hd
    have e' : vs.size = ds.length + 1 := by simp at e; omega
    refine ⟨by simpa using e', fun i hi => ?_, fun i hi => ?_⟩
    · cases i with
      | zero => simpa using Le.sc h (by simpa using h2 0 (by simp))
      | succ i => simpa using k1 i (by simpa using hi)
    · cases i with
      | zero => simpa using Rel.le h (by simpa using h3 0 (by simp))
      | succ i =>
        have := k2 i (by simpa using hi)
        have e2 : (vs.extract 1 vs.size).getD i undef = vs.getD (i + 1) undef := by
          rw [Array.getD_eq_getD_getElem?, Array.getD_eq_getD_getElem?]
          simp only [List.length_cons] at hi
          simp [Array.getElem?_extract, Nat.add_comm 1 i, show i < vs.size - 1 by omega, show i + 1 < vs.size by omega]
        rw [e2] at this
        simpa using this
theorem Rel.leT {w : World} {O : Nat → Prop} {ι : Nat → Nat} {ρ : Nat → Value} {nx : Nat} {c : Bool} : ∀ {cs ds : List V}, V.LeL cs ds → ∀ (vs : Array Value), vs.size = cs.length →
    (∀ i, i < cs.length → Rel w O ι ρ nx c (cs.getD i .any) (vs.getD i undef)) → vs.size = ds.length ∧ ∀ i, i < ds.length → Rel w O ι ρ nx c (ds.getD i .any) (vs.getD i undef)
  | _, _, .nil, vs, h1, h3 => ⟨h1, h3⟩
  | v :: cs, u :: ds, .cons h hs, vs, h1, h3 => by
    simp only [List.length_cons] at h1
    have ex : ∀ i, i < vs.size - 1 → (vs.extract 1 vs.size).getD i undef = vs.getD (i + 1) undef := fun i hi => by
      rw [Array.getD_eq_getD_getElem?, Array.getD_eq_getD_getElem?]
      simp [Array.getElem?_extract, Nat.add_comm 1 i, hi, show i + 1 < vs.size by omega]
    obtain ⟨e, k2⟩ := Rel.leT hs (vs.extract 1 vs.size) (by simp; omega) (fun i hi => by
      rw [ex i (by omega)]
      simpa using h3 (i + 1) (by simpa using hi))
    have e' : vs.size = ds.length + 1 := by simp at e; omega
    refine ⟨by simpa using e', fun i hi => ?_⟩
    cases i with
    | zero => simpa using Rel.le h (by simpa using h3 0 (by simp))
    | succ i =>
      simp only [List.length_cons] at hi
      have := k2 i (by omega)
      rw [ex i (by omega)] at this
      simpa using this
end
theorem CallsA.le {P : Program} {f : FuncId} {args : List V} {r r' : V} (h : CallsA P f args r) (hl : V.Le r r') : CallsA P f args r' := fun w X vs hX hs hr =>
  (h w X vs hX hs hr).mono fun e w' ⟨x, h1, h2, h3⟩ => ⟨x, h1, h2, h3.le hl⟩
theorem CallsA.arg {P : Program} {f : FuncId} {args args' : List V} {r : V} (h : CallsA P f args' r) (hl : V.LeL args args') : CallsA P f args r := fun w X vs hX hs hr => by
  obtain ⟨e, k⟩ := Rel.leT hl vs hs hr
  exact h w X vs hX e k
section
variable {P : Program}
/-- **A call, by the statement over its code.** -/
theorem callsA_of_trL {f : FuncId} {fn : Func} {c : Code} (hf : P.funcs[f]? = some fn) (hb : fn.body = some c) {args : List V} {r : V} (hn : args.length ≤ fn.ntmps)
    (h : Tr (C0 P fn.ntmps) c ⟨envOf 0 args, [], 0⟩ (postA P fn.results.toList fun v => V.Le v r)) : CallsA P f args r := by
  intro w X vs hX hl hr
  let cx : Cx := ⟨w, fun _ => False, X, none, [], fun t => vs.getD t undef⟩
  have hsf : SF fn.ntmps cx ⟨envOf 0 args, [], 0⟩ (fun _ => 0) (fun _ => undef) { tmps := vs ++ Array.replicate (fn.ntmps - vs.size) undef, defers := [] } w := by
    refine ⟨⟨⟨rfl, rfl, rfl, Nat.le_refl _, fun _ _ _ => rfl, by simp, by simp, by simp, by simp, hX, by simp⟩, fun t => ?_⟩, by simp; omega, rfl⟩
    simp only [St.slot, lookup_envOf]
    simp only [Nat.zero_le, if_true, Nat.sub_zero]
    by_cases ht : t < args.length
    · have h1 := hr t ht
      have e1 : args[t]?.getD .any = args.getD t .any := rfl
      have e2 : tv cx { tmps := vs ++ Array.replicate (fn.ntmps - vs.size) undef, defers := [] } t = vs.getD t undef := by
        unfold tv
        split
        · simp [Array.getD_eq_getD_getElem?, Array.getElem?_append_left (show t < vs.size by omega)]
        · rfl
      rw [e1, e2]
      refine Rel.mono (fun a x hc hno => ⟨hc, fun h => ?_⟩) (fun _ _ => ⟨rfl, rfl⟩) (Nat.le_refl _) (h1.free rfl false)
      rcases h with h | ⟨p, hp, _⟩
      · exact hno h
      · cases hp
    · rw [List.getElem?_eq_none (by omega)]; exact .any ..
  refine calls_of_tr hf hb rfl rfl hsf h (fun e σ hp => (by unfold postA at hp; cases e <;> simp_all)) fun e σ' ι' ρ' a' w' hp hs => ?_
  obtain ⟨he, x, v, mem, h1, h2, hle⟩ := postA_sound hs hp
  replace h2 := h2.le hle
  have hm := hs.sr.ml
  have hbel : Below w.heap.size w w' := ⟨hm.os, hm.tape, hm.output, hm.size, fun b hb => hm.old b hb (fun h => h)⟩
  exact ⟨x, h1, x, rfl, hbel, Rel.mono (fun a y hc hno => ⟨hc, fun hx => hno (.inl hx)⟩) (fun _ _ => ⟨rfl, rfl⟩) (Nat.le_refl _) (h2.free rfl true)⟩

end

section
variable {cx : Cx} {mem : Mem} {nx : Nat} {ι : Nat → Nat} {ρ : Nat → Value} {w : World}
/-- A variable's cells, seen as less. -/
theorem ML.recell (h : ML cx mem nx ι ρ w) {i : Nat} {cs cs' : List V} (hl : cs'.length = cs.length) (hm : (i, .cells cs) ∈ mem)
    (hs : ∀ k, k < cs.length → (cs.getD k .any).sc = true → (cs'.getD k .any).sc = true)
    (hr : ∀ k x, k < cs.length → Rel w (OO cx.X mem ι ρ) ι ρ nx false (cs.getD k .any) x → Rel w (OO cx.X mem ι ρ) ι ρ nx false (cs'.getD k .any) x) :
    ML cx (mem.map fun p => if p.1 = i then (i, .cells cs') else p) nx ι ρ w ∧ ∀ b, OO cx.X (mem.map fun p => if p.1 = i then (i, .cells cs') else p) ι ρ b → OO cx.X mem ι ρ b := by
  have hin : ∀ q, q ∈ (mem.map fun p => if p.1 = i then (i, AObj.cells cs') else p) → ∃ p ∈ mem, q = (if p.1 = i then (i, AObj.cells cs') else p) ∧ blk ι ρ q = blk ι ρ p ∧ q.1 = p.1 := by
    intro q hq
    obtain ⟨p, hp, rfl⟩ := List.mem_map.1 hq
    refine ⟨p, hp, rfl, ?_⟩
    by_cases hpid : p.1 = i
    · have : p = (i, .cells cs) := h.keys p hp _ hm hpid
      subst this; simp [blk]
    · simp [hpid]
  have hO : ∀ b, OO cx.X (mem.map fun p => if p.1 = i then (i, AObj.cells cs') else p) ι ρ b → OO cx.X mem ι ρ b := by
    rintro b (hx | ⟨q, hq, hqb⟩)
    · exact .inl hx
    · obtain ⟨p, hp, -, hpb, -⟩ := hin q hq
      exact .inr ⟨p, hp, by rw [← hpb]; exact hqb⟩
  have hk : ∀ c v x, Rel w (OO cx.X mem ι ρ) ι ρ nx c v x → Rel w (OO cx.X (mem.map fun p => if p.1 = i then (i, AObj.cells cs') else p) ι ρ) ι ρ nx c v x := fun c v x hr =>
    hr.mono (fun a y hc hno => ⟨hc, fun hn => hno (hO _ hn)⟩) (fun _ _ => ⟨rfl, rfl⟩) (Nat.le_refl _)
  refine ⟨⟨h.os, h.tape, h.output, h.size, h.old, ?_, ?_, ?_, ?_, h.xlt, ?_⟩, hO⟩
  · intro p hp q hq e
    obtain ⟨p', hp', rfl, -, e1⟩ := hin p hp
    obtain ⟨q', hq', rfl, -, e2⟩ := hin q hq
    have : p' = q' := h.keys p' hp' q' hq' (by rw [← e1, ← e2]; exact e)
    rw [this]
  · intro p hp; obtain ⟨p', hp', -, -, e1⟩ := hin p hp; rw [e1]; exact h.lt p' hp'
  · intro p hp b hb; obtain ⟨p', hp', -, e1, -⟩ := hin p hp; rw [e1] at hb; exact h.own p' hp' b hb
  · intro p hp q hq b hpb hqb
    obtain ⟨p', hp', rfl, e1, -⟩ := hin p hp
    obtain ⟨q', hq', rfl, e2, -⟩ := hin q hq
    have : p' = q' := h.inj p' hp' q' hq' b (by rw [← e1]; exact hpb) (by rw [← e2]; exact hqb)
    rw [this]
  · intro q hq
    obtain ⟨p, hp, rfl, -, -⟩ := hin q hq
    by_cases hpid : p.1 = i
    · have : p = (i, .cells cs) := h.keys p hp _ hm hpid
      subst this
      obtain ⟨vals, e, h1, h2, h3, h4⟩ := h.obj _ hm
      simp only [if_true]
      exact ⟨vals, e, h1, by rw [hl]; exact h2, fun k hk' => hs k (by omega) (h3 k (by omega)), fun k hk' => hk _ _ _ (hr k _ (by omega) (h4 k (by omega)))⟩
    · simp only [if_neg hpid]
      exact OR.mono hk rfl rfl (fun b hb => rfl) (h.obj p hp)
end
/-- A nil slice in a variable, as a slice of the call's own that has not grown yet. -/
theorem Wk.nilown {N : Nat} {σ : St} (e z i j : Nat) {cs : List V} (hl : σ.mem.look i = some (.cells cs)) (hj : j < cs.length) (hn : cs.getD j .any = .nsl) :
    Wk N σ ⟨σ.env, ((σ.nx, AObj.row e z []) :: σ.mem).map fun p => if p.1 = i then (i, .cells (cs.set j (.own σ.nx))) else p, σ.nx + 1⟩ := fun cx ι ρ a w h => by
  obtain ⟨m1, m2⟩ := h.sr.ml.addNil e z
  have hmem := Mem.look_mem hl
  have gs : ∀ k, (cs.set j (.own σ.nx)).getD k .any = if k = j then .own σ.nx else cs.getD k .any := fun k => by
    simp only [List.getD, List.getElem?_set]
    by_cases e : j = k
    · subst e; simp [hj]
    · rw [if_neg e, if_neg (Ne.symm e)]
  obtain ⟨m3, m4⟩ := m1.recell (i := i) (cs := cs) (cs' := cs.set j (.own σ.nx)) (by simp) (List.mem_cons_of_mem _ hmem) (fun k hk hs => by
      rw [gs]; split
      · rfl
      · exact hs) (fun k x hk hr => by
      rw [gs]; split
      · rename_i e; subst e
        rw [hn] at hr
        have hx : x = .slice none 0 0 := by cases hr; rfl
        have := Rel.own (w := w) (O := OO cx.X ((σ.nx, AObj.row e z []) :: σ.mem) ι (fun i => if i = σ.nx then .slice none 0 0 else ρ i)) (ι := ι) (ρ := fun i => if i = σ.nx then (.slice none 0 0 : Value) else ρ i) (nx := σ.nx + 1) σ.nx (by omega) (by simp [Value.oneCell'])
        simpa [hx] using this
      · exact hr)
  exact ⟨ι, _, ⟨⟨m3, fun t => (m2 _ _ _ (h.sr.env t)).mono (fun a y hc hno => ⟨hc, fun hn => hno (m4 _ hn)⟩) (fun _ _ => ⟨rfl, rfl⟩) (Nat.le_refl _)⟩, h.size, h.defers⟩⟩
theorem lookup_mapK (u : Nat) (x : V) : ∀ (env : List (Nat × V)) (t : Nat), (env.map fun p => if p.1 = u then (u, x) else p).lookup t = if t = u then (env.lookup t).map (fun _ => x) else env.lookup t
  | [], t => by simp
  | (k, v) :: env, t => by
    have ih := lookup_mapK u x env t
    by_cases e : k = u
    · subst e
      simp only [List.map_cons, if_true, List.lookup_cons, ih]
      by_cases e2 : t = k
      · subst e2; simp
      · have : (t == k) = false := by simpa using e2
        simp [this, e2]
    · simp only [List.map_cons, if_neg e, List.lookup_cons, ih]
      by_cases e2 : t = k
      · subst e2; simp [e]
      · have : (t == k) = false := by simpa using e2
        simp only [this]
/-- A nil slice in a slot, as a slice of the call's own that has not grown yet. -/
theorem Wk.nilslot {N : Nat} {σ : St} (e z t : Nat) (hn : σ.slot t = .nsl) : Wk N σ ⟨σ.env.map fun p => if p.1 = t then (t, .own σ.nx) else p, (σ.nx, AObj.row e z []) :: σ.mem, σ.nx + 1⟩ := fun cx ι ρ a w h => by
  obtain ⟨m1, m2⟩ := h.sr.ml.addNil e z
  refine ⟨ι, _, ⟨⟨m1, fun t' => ?_⟩, h.size, h.defers⟩⟩
  have hr := h.sr.env t'
  unfold St.slot at hn hr ⊢
  simp only [lookup_mapK]
  by_cases et : t' = t
  · subst et
    rw [if_pos rfl]
    rw [hn] at hr
    cases hl : σ.env.lookup t' with
    | none => exact .any ..
    | some u =>
      have hx : tv cx a t' = .slice none 0 0 := by unfold MR at hr; generalize tv cx a t' = x at hr; cases hr; rfl
      have := Rel.own (w := w) (O := OO cx.X ((σ.nx, AObj.row e z []) :: σ.mem) ι (fun i => if i = σ.nx then .slice none 0 0 else ρ i)) (ι := ι) (ρ := fun i => if i = σ.nx then (.slice none 0 0 : Value) else ρ i) (nx := σ.nx + 1) σ.nx (by omega) (by simp [Value.oneCell'])
      simp only [Option.map_some, Option.getD_some]
      rw [hx]
      simpa [MR] using this
  · rw [if_neg et]
    exact m2 _ _ _ hr
/-- Memory has no order. -/
theorem Wk.perm {N : Nat} {σ : St} (mem' : Mem) (hp : ∀ p, p ∈ mem' ↔ p ∈ σ.mem) : Wk N σ ⟨σ.env, mem', σ.nx⟩ := fun cx ι ρ a w h => by
  have hm := h.sr.ml
  have hO : ∀ b, OO cx.X mem' ι ρ b → OO cx.X σ.mem ι ρ b := by
    rintro b (hx | ⟨q, hq, hb⟩)
    · exact .inl hx
    · exact .inr ⟨q, (hp q).1 hq, hb⟩
  have hk : ∀ c v x, Rel w (OO cx.X σ.mem ι ρ) ι ρ σ.nx c v x → Rel w (OO cx.X mem' ι ρ) ι ρ σ.nx c v x := fun c v x hr =>
    hr.mono (fun a y hc hno => ⟨hc, fun hn => hno (hO _ hn)⟩) (fun _ _ => ⟨rfl, rfl⟩) (Nat.le_refl _)
  exact ⟨ι, ρ, ⟨⟨⟨hm.os, hm.tape, hm.output, hm.size, hm.old, fun p h1 q h2 => hm.keys p ((hp p).1 h1) q ((hp q).1 h2), fun p h1 => hm.lt p ((hp p).1 h1), fun p h1 => hm.own p ((hp p).1 h1),
    fun p h1 q h2 => hm.inj p ((hp p).1 h1) q ((hp q).1 h2), hm.xlt, fun p h1 => OR.mono hk rfl rfl (fun _ _ => rfl) (hm.obj p ((hp p).1 h1))⟩, fun t => hk _ _ _ (h.sr.env t)⟩, h.size, h.defers⟩⟩
theorem Wk.swap {N : Nat} {e : List (Nat × V)} {a b : Nat × AObj} {m : Mem} {n : Nat} : Wk N ⟨e, a :: b :: m, n⟩ ⟨e, b :: a :: m, n⟩ :=
  Wk.perm (σ := ⟨e, a :: b :: m, n⟩) (b :: a :: m) fun p => by simp only [List.mem_cons]; constructor <;> (rintro (h | h | h) <;> simp [h])
end Go.Proofs.Ytcphhbiehaimeaa