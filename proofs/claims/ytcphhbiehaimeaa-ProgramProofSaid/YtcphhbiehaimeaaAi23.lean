/- Loops over functions: the side of the iterator. -/
import Derived.Test.YtcphhbiehaimeaaAi22
namespace Go.Proofs.Ytcphhbiehaimeaa
open Go.RowKit
set_option linter.unusedVariables false
set_option linter.unusedSimpArgs false

/-- What stands in any world. -/
def V.simp : V → Bool
  | .int _ _ => true
  | .bool _ => true
  | .str _ => true
  | .yl _ => true
  | .nf => true
  | .ub => true
  | .gd _ v => v.simp
  | _ => false
theorem Rel.simp {w w' : World} {O O' : Nat → Prop} {ι ι' : Nat → Nat} {ρ ρ' : Nat → Value} {nx nx' : Nat} {c : Bool} {v : V} {x : Value} (h : Rel w O ι ρ nx c v x) : v.simp = true → Rel w' O' ι' ρ' nx' c v x := by
  induction h with
  | int c k n => exact fun _ => .int c k n
  | bool c b => exact fun _ => .bool c b
  | str c s => exact fun _ => .str c s
  | yl c l => exact fun _ => .yl c l
  | nf c => exact fun _ => .nf c
  | ub c b => exact fun _ => .ub c b
  | gd c g v x _ h0 ih => exact fun e => .gd c g v x (fun hg => ih hg (by simpa [V.simp] using e)) h0
  | _ => intro e; simp [V.simp] at e
def V.simpl (v : V) : V :=
  match v.simp with
  | true => v
  | false => .any
def simE : List (Nat × V) → List (Nat × V)
  | [] => []
  | p :: ps => (p.1, p.2.simpl) :: simE ps
theorem lookup_simE : ∀ (env : List (Nat × V)) (t : Nat), ((simE env).lookup t).getD .any = ((env.lookup t).getD .any).simpl
  | [], t => by simp [simE, V.simpl, V.simp]
  | (k, v) :: env, t => by
    simp only [simE, List.lookup_cons]
    cases t == k
    · exact lookup_simE env t
    · rfl
def keepE (σ : St) : List Nat → List (Nat × V)
  | [] => []
  | t :: ts => (t, σ.slot t) :: keepE σ ts
theorem lookup_keepE (σ : St) : ∀ (ts : List Nat) (t : Nat), (keepE σ ts).lookup t = none ∨ (t ∈ ts ∧ (keepE σ ts).lookup t = some (σ.slot t))
  | [], t => .inl rfl
  | s :: ts, t => by
    simp only [keepE, List.lookup_cons]
    by_cases e : t = s
    · subst e; right; simp
    · have e1 : (t == s) = false := by simpa using e
      rw [e1]
      rcases lookup_keepE σ ts t with h | ⟨h1, h2⟩
      · exact .inl h
      · exact .inr ⟨List.mem_cons_of_mem _ h1, h2⟩

section
variable {α : Type}
/-- Behind a round that goes on; behind one that has said no more. -/
def goY (en : α → V) (σ : St) (pre : List α) (ts : List Nat) : St := ⟨(1000000, .tup (pre.map en)) :: (keepE σ ts ++ simE σ.env), [], σ.nx⟩
def stY (en : α → V) (σ : St) (pre : List α) : St := ⟨(1000000, .tup (pre.map en)) :: (1000001, .bool true) :: simE σ.env, [], σ.nx⟩

/-- A call of yield. -/
def YI (l : Nat) (en : α → V) (n : Nat) (caps : List (Value × V)) (op : Op) (σ : St) (K : V → St → Prop) : Prop :=
  match op with
  | .call { callee := .value f, args, argTypes } =>
    match args.toList with
    | [x] => un (some true) (σ.get f) fun vf => vf = .yl l ∧ un (some true) (σ.get x) fun vx => ∃ (x0 : α) (pre : List α) (ts : List Nat), vx = en x0 ∧ σ.slot 1000000 = .tup (pre.map en) ∧ σ.slot 1000001 = .bool false ∧ pre.length < n ∧
        (∀ t ∈ ts, ∃ q ∈ caps, σ.slot t = .eq q.1 q.2) ∧ K (.bool true) (goY en σ (pre ++ [x0]) ts) ∧ K (.bool false) (stY en σ (pre ++ [x0]))
    | _ => False
  | _ => False

/-- How the iterator's value stands for the loop's. -/
structure EnOK (ev : α → Value) (en : α → V) : Prop where
  inj : ∀ x y, ev x = ev y → x = y
  inv : ∀ (x : α) (w : World) (O : Nat → Prop) (ι : Nat → Nat) (ρ : Nat → Value) (nx : Nat) (c : Bool) (y : Value), Rel w O ι ρ nx c (en x) y → y = ev x
  rel : ∀ (x : α) (w : World) (O : Nat → Prop) (ι : Nat → Nat) (ρ : Nat → Value) (nx : Nat) (c : Bool), Rel w O ι ρ nx c (en x) (ev x)

structure YC (α : Type) where
  ev : α → Value
  en : α → V
  ok : EnOK ev en
  B : Nat
  B1 : Nat
  X : Nat → Prop
  l : Nat
  J : List α → World → Prop
  Jx : List α → World → Prop
  n : Nat
  caps : List (Value × V)
  hB : B ≤ B1
  hX : ∀ b, X b → b < B
  hJ : AbidesFrom B1 J
  hJx : AbidesFrom B1 Jx

def SI {α : Type} (y : YC α) (cx : Cx) : Prop :=
  cx.r = none ∧ cx.D = (fun _ => False) ∧ cx.df = [] ∧ ∃ (pre : List α) (stop : Bool), cx.G 1000000 = .tuple (pre.map y.ev).toArray ∧ cx.G 1000001 = .bool stop ∧
    (stop = false → cx.X = y.X ∧ y.B ≤ cx.w0.heap.size ∧ y.J pre cx.w0 ∧ ∀ q ∈ y.caps, Rel cx.w0 (fun b => y.X b ∨ y.B ≤ b) (fun _ => 0) (fun _ => undef) 0 true q.2 q.1) ∧ (stop = true → y.Jx pre cx.w0)

theorem tup_eq {ev : α → Value} {en : α → V} (hk : EnOK ev en) {w : World} {O : Nat → Prop} {ι : Nat → Nat} {ρ : Nat → Value} {nx : Nat} {c : Bool} {pre pre' : List α}
    (h : Rel w O ι ρ nx c (.tup (pre.map en)) (.tuple (pre'.map ev).toArray)) : pre' = pre := by
  generalize hts : pre.map en = ts at h
  generalize hvs : (pre'.map ev).toArray = vs at h
  cases h with
  | tup _ _ _ hl hr =>
    subst hts; subst hvs
    have hlen : pre'.length = pre.length := by simpa using hl
    refine List.ext_getElem hlen fun i h1 h2 => ?_
    have := hr i (by simpa using h2)
    have e1 : (pre.map en).getD i .any = en pre[i] := by simp [List.getD, h2]
    have e2 : (pre'.map ev).toArray.getD i undef = ev pre'[i] := by simp [Array.getD, h1]
    rw [e1, e2] at this
    exact hk.inj _ _ (hk.inv _ _ _ _ _ _ _ _ this)
theorem tup_rel {ev : α → Value} {en : α → V} (hk : EnOK ev en) (w : World) (O : Nat → Prop) (ι : Nat → Nat) (ρ : Nat → Value) (nx : Nat) (c : Bool) (pre : List α) :
    Rel w O ι ρ nx c (.tup (pre.map en)) (.tuple (pre.map ev).toArray) := by
  refine .tup _ _ _ (by simp) fun i hi => ?_
  have hi' : i < pre.length := by simpa using hi
  have e1 : (pre.map en).getD i .any = en pre[i] := by simp [List.getD, hi']
  have e2 : (pre.map ev).toArray.getD i undef = ev pre[i] := by simp [Array.getD, hi']
  rw [e1, e2]
  exact hk.rel _ _ _ _ _ _ _

section
variable {P : Program} {N : Nat}

theorem yield_sound (y : YC α) (hY : ∀ pre x W1, y.J pre W1 → pre.length < y.n → YieldAt (Fr none) 0 P y.l #[y.ev x] W1 fun e W' =>
      (e = .returned (.bool true) ∧ y.J (pre ++ [x]) W' ∧ KpX y.B y.X W1 W') ∨ (e = .returned (.bool false) ∧ y.Jx (pre ++ [x]) W'))
    {cx : Cx} {σ : St} {ι : Nat → Nat} {ρ : Nat → Value} {a : Act} {w : World} {o : Oper} {K : V → St → Prop} {Q : Exit → Act → World → Prop} (hS : SI y cx) (h : SF N cx σ ι ρ a w) (hs : YI y.l y.en y.n y.caps o.op σ K) :
    o.wpIn (Fr cx.r) 0 P a w (fun a' w' => ∃ (cx' : Cx) (v : V) (σ' : St) (ι' : Nat → Nat) (ρ' : Nat → Value) (x : Value), K v σ' ∧ (cx'.r = cx.r ∧ SI y cx') ∧ a' = a.put o.dst x ∧ SF N cx' σ' ι' ρ' a w' ∧ MR cx' σ'.mem σ'.nx ι' ρ' w' v x) Q := by
  generalize ho : o.op = op at hs
  unfold YI at hs
  split at hs
  · rename_i f args ts
    split at hs
    · rename_i xo hargs
      obtain ⟨vf, hf', rfl, hs⟩ := un1 h.sr rfl hs
      obtain ⟨vx, hx', x0, pre, tk, rfl, hs0, hs1, hlen, htk, hK1, hK0⟩ := un1 h.sr rfl hs
      obtain ⟨hr, hD, hdf, pre', stop, hG0, hG1, hgo, -⟩ := hS
      have hxe : a.eval xo = y.ev x0 := y.ok.inv _ _ _ _ _ _ _ _ hx'
      have hfe : a.eval f = .func (.yield y.l) #[] #[] := by
        unfold MR at hf'
        generalize a.eval f = z at hf'
        cases hf'; rfl
      have hst : stop = false := by
        have := h.sr.env 1000001
        rw [hs1] at this
        have e : tv cx a 1000001 = .bool stop := by unfold tv; rw [if_neg (by omega)]; exact hG1
        rw [e] at this
        have := this.bool_inv
        simpa using this
      have hpre : pre' = pre := by
        have := h.sr.env 1000000
        rw [hs0] at this
        have e : tv cx a 1000000 = .tuple (pre'.map y.ev).toArray := by unfold tv; rw [if_neg (by omega)]; exact hG0
        rw [e] at this
        exact tup_eq y.ok this
      subst hpre
      obtain ⟨hX, hBw, hJ0, hcap⟩ := hgo hst
      have hm := h.sr.ml
      have hgr : cx.w0.grownBy w none := ⟨hm.os, hm.tape, hm.output, hm.size, fun k hk _ => hm.old k hk (by rw [hD]; exact id)⟩
      have hJ1 := y.hJ _ _ _ none hJ0 hgr (fun r e => by cases e)
      obtain ⟨fn, tmps, assign, body, hy, hR⟩ := hY pre' x0 w hJ1 hlen
      have hargs' : args.map a.eval = #[y.ev x0] := by
        have : args = #[xo] := by apply Array.toList_inj.1; simpa using hargs
        rw [this]; simp [hxe]
      have hrun : (execOp a.eval o).run P w = .ok (.round y.l fn tmps assign body) w := by
        simp [execOp, ho, resolve, hfe, Deferred.ofValue, invoke, hargs', hy]
      rw [hr]
      refine ⟨fun _ _ => trivial, ?_⟩
      rw [Oper.semAt_eq _ _ _ (by rw [ho]; intro c e; cases e)]
      rw [hrun]
      simp only [Oper.uponIn]
      refine ⟨fun h => by simp [Fr] at h, RoundIn.mono hR fun e w' he => ?_⟩
      have hcap2 : ∀ q ∈ y.caps, Rel w (fun b => y.X b ∨ y.B ≤ b) (fun _ => 0) (fun _ => undef) 0 true q.2 q.1 := fun q hq =>
        (hcap q hq).mono (fun ad u hc hno => ⟨cell_of_block hc (hgr.block _ (block_lt_of_cell hc) (by simp)), hno⟩) (fun _ _ => ⟨rfl, rfl⟩) (Nat.le_refl _)
      rcases he with ⟨rfl, hJ', hkp⟩ | ⟨rfl, hJ'⟩
      · have hcap3 : ∀ q ∈ y.caps, Rel w' (fun b => y.X b ∨ y.B ≤ b) (fun _ => 0) (fun _ => undef) 0 true q.2 q.1 := fun q hq =>
          (hcap2 q hq).mono (fun ad u hc hno => ⟨cell_of_block hc (hkp.old _ (by omega) (fun hX => hno (.inl hX))), hno⟩) (fun _ _ => ⟨rfl, rfl⟩) (Nat.le_refl _)
        have hsz : y.B ≤ w'.heap.size := Nat.le_trans (Nat.le_trans hBw hm.size) hkp.size
        refine ⟨⟨w', fun _ => False, y.X, none, [], fun t => if t = 1000000 then .tuple ((pre' ++ [x0]).map y.ev).toArray else cx.G t⟩, .bool true, goY y.en σ (pre' ++ [x0]) tk, ι, ρ, .bool true, hK1,
          ⟨rfl, rfl, rfl, rfl, pre' ++ [x0], false, by simp, by simp [hG1, hst], (fun _ => ⟨rfl, hsz, hJ', hcap3⟩), (fun e => by cases e)⟩, rfl, ⟨⟨⟨rfl, rfl, rfl, Nat.le_refl _, fun _ _ _ => rfl, by simp [goY], by simp [goY], by simp [goY], by simp [goY], fun b hb => Nat.lt_of_lt_of_le (y.hX b hb) hsz, by simp [goY]⟩, fun t => ?_⟩, h.size, by rw [h.defers, hdf]⟩, .bool ..⟩
        have het : t ≠ 1000000 → tv (⟨w', fun _ => False, y.X, none, [], fun t => if t = 1000000 then .tuple ((pre' ++ [x0]).map y.ev).toArray else cx.G t⟩ : Cx) a t = tv cx a t := fun hne => by
          unfold tv; split
          · rfl
          · simp only [if_neg hne]
        by_cases e0 : t = 1000000
        · subst e0
          have e1 : (goY y.en σ (pre' ++ [x0]) tk).slot 1000000 = .tup ((pre' ++ [x0]).map y.en) := rfl
          have e2 : tv (⟨w', fun _ => False, y.X, none, [], fun t => if t = 1000000 then .tuple ((pre' ++ [x0]).map y.ev).toArray else cx.G t⟩ : Cx) a 1000000 = .tuple ((pre' ++ [x0]).map y.ev).toArray := by unfold tv; rw [if_neg (by omega)]; simp
          rw [e1, e2]
          exact tup_rel y.ok ..
        · rw [het e0]
          have hv := h.sr.env t
          have e1 : (goY y.en σ (pre' ++ [x0]) tk).slot t = ((keepE σ tk ++ simE σ.env).lookup t).getD .any := by
            unfold goY St.slot
            have : (t == 1000000) = false := by simpa using e0
            simp only [List.lookup_cons, this]
          rw [e1, lookup_app]
          rcases lookup_keepE σ tk t with h2 | ⟨h2, h3⟩
          · rw [h2]
            simp only
            rw [lookup_simE]
            unfold V.simpl
            split
            · rename_i hsi; exact hv.simp hsi
            · exact .any ..
          · rw [h3]
            obtain ⟨q, hq, hqe⟩ := htk t h2
            simp only [Option.getD]
            rw [hqe] at hv ⊢
            unfold MR at hv ⊢
            generalize tv cx a t = z at hv
            cases hv with
            | eq _ _ _ hv =>
              refine .eq _ _ _ (((hcap3 q hq).mono (fun ad u hc hno => ⟨hc, fun hO => hno ?_⟩) (fun _ _ => ⟨rfl, rfl⟩) (Nat.le_refl _)).free rfl false)
              rcases hO with hO | ⟨p, hp, _⟩
              · exact .inl hO
              · simp [goY] at hp
      ·   refine ⟨⟨w', fun _ => False, fun _ => False, none, [], fun t => if t = 1000000 then .tuple ((pre' ++ [x0]).map y.ev).toArray else if t = 1000001 then .bool true else cx.G t⟩, .bool false, stY y.en σ (pre' ++ [x0]), ι, ρ, .bool false, hK0,
            ⟨rfl, rfl, rfl, rfl, pre' ++ [x0], true, by simp, by simp, (fun e => by cases e), (fun _ => hJ')⟩, rfl, ⟨⟨⟨rfl, rfl, rfl, Nat.le_refl _, fun _ _ _ => rfl, by simp [stY], by simp [stY], by simp [stY], by simp [stY], fun b hb => hb.elim, by simp [stY]⟩, fun t => ?_⟩, h.size, by rw [h.defers, hdf]⟩, .bool ..⟩
          by_cases e0 : t = 1000000
          · subst e0
            have e1 : (stY y.en σ (pre' ++ [x0])).slot 1000000 = .tup ((pre' ++ [x0]).map y.en) := rfl
            have e2 : tv (⟨w', fun _ => False, fun _ => False, none, [], fun t => if t = 1000000 then .tuple ((pre' ++ [x0]).map y.ev).toArray else if t = 1000001 then .bool true else cx.G t⟩ : Cx) a 1000000 = .tuple ((pre' ++ [x0]).map y.ev).toArray := by unfold tv; rw [if_neg (by omega)]; simp
            rw [e1, e2]
            exact tup_rel y.ok ..
          · by_cases e1 : t = 1000001
            · subst e1
              have e1 : (stY y.en σ (pre' ++ [x0])).slot 1000001 = .bool true := rfl
              have e2 : tv (⟨w', fun _ => False, fun _ => False, none, [], fun t => if t = 1000000 then .tuple ((pre' ++ [x0]).map y.ev).toArray else if t = 1000001 then .bool true else cx.G t⟩ : Cx) a 1000001 = .bool true := by unfold tv; rw [if_neg (by omega)]; simp
              rw [e1, e2]
              exact .bool ..
            · have hv := h.sr.env t
              have het : tv (⟨w', fun _ => False, fun _ => False, none, [], fun t => if t = 1000000 then .tuple ((pre' ++ [x0]).map y.ev).toArray else if t = 1000001 then .bool true else cx.G t⟩ : Cx) a t = tv cx a t := by
                unfold tv; split
                · rfl
                · simp only [if_neg e0, if_neg e1]
              have e3 : (stY y.en σ (pre' ++ [x0])).slot t = ((simE σ.env).lookup t).getD .any := by
                unfold stY St.slot
                have h1 : (t == 1000000) = false := by simpa using e0
                have h2 : (t == 1000001) = false := by simpa using e1
                simp only [List.lookup_cons, h1, h2]
              rw [het, e3, lookup_simE]
              unfold V.simpl
              split
              · rename_i hsi; exact hv.simp hsi
              · exact .any ..
    · exact hs.elim
  · exact hs.elim
/-- The walk of an iterator. -/
def CI (y : YC α) (hY : ∀ pre x W1, y.J pre W1 → pre.length < y.n → YieldAt (Fr none) 0 P y.l #[y.ev x] W1 fun e W' =>
      (e = .returned (.bool true) ∧ y.J (pre ++ [x]) W' ∧ KpX y.B y.X W1 W') ∨ (e = .returned (.bool false) ∧ y.Jx (pre ++ [x]) W')) : Ctl P N where
  S := SI y
  L := fun a b => b.r = a.r ∧ SI y b
  Y := YI y.l y.en y.n y.caps
  refl := fun h => ⟨rfl, h⟩
  trans := fun h k => ⟨k.1.trans h.1, k.2⟩
  pres := fun h _ => h.2
  hr := fun h => h.1
  ys := fun hS h hs => yield_sound y hY hS h hs

def postI (S : List α → Prop) (en : α → V) (e : Exit) (σ : St) : Prop :=
  (match e with | .normal => True | .ret => True | _ => False) ∧ (σ.slot 1000001 = .bool true ∨ (σ.slot 1000001 = .bool false ∧ ∃ xs, S xs ∧ σ.slot 1000000 = .tup (xs.map en)))

theorem seqA_of_tr {f : FuncId} {fn : Func} {c : Code} (hf : P.funcs[f]? = some fn) (hb : fn.body = some c) (hres : fn.results.toList = []) {caps : List V} {S : List α → Prop} {n : Nat} {ev : α → Value} {en : α → V} (hk : EnOK ev en)
    (hn : caps.length + 1 ≤ fn.ntmps) (hn1 : caps.length + 1 ≤ 1000000)
    (h : ∀ (l : Nat) (xs : List Value) (C : Ctl P fn.ntmps), xs.length = caps.length → (∀ op σ K, YI l en n (xs.zip caps) op σ K → C.Y op σ K) →
      Tr C c ⟨envOf 0 (.yl l :: List.zipWith V.eq xs caps) ++ [(1000000, .tup []), (1000001, .bool false)], [], 0⟩ (postI S en)) : SeqA P ev f caps S n := by
  intro w X cvs hX hcs hcr l J Jx W hW hJ hJx hY h0
  let y : YC α := { ev, en, ok := hk, B := w.heap.size, B1 := W.heap.size, X, l, J, Jx, n, caps := cvs.toList.zip caps, hB := hW.size, hX, hJ, hJx }
  let C : Ctl P fn.ntmps := CI y hY
  have hlen : cvs.toList.length = caps.length := by simpa using hcs
  have hT := h l cvs.toList C hlen (fun op σ K hk => hk)
  have hcap : ∀ i, i < caps.length → Rel W (fun b => X b ∨ w.heap.size ≤ b) (fun _ => 0) (fun _ => undef) 0 true (caps.getD i .any) (cvs.getD i undef) := fun i hi =>
    (hcr i hi).mono (fun ad u hc hno => by
      have hlt := block_lt_of_cell hc
      exact ⟨cell_of_block hc (hW.block _ hlt), fun hO => hO.elim hno (fun h => by omega)⟩) (fun _ _ => ⟨rfl, rfl⟩) (Nat.le_refl _)
  let cx : Cx := ⟨W, fun _ => False, X, none, [], fun t => if t = 1000000 then .tuple #[] else .bool false⟩
  have hSI : SI y cx := by
    refine ⟨rfl, rfl, rfl, [], false, rfl, rfl, fun _ => ⟨rfl, hW.size, h0, fun q hq => ?_⟩, (fun e => by cases e)⟩
    obtain ⟨i, hi, he⟩ := List.getElem_of_mem hq
    have hi2 : i < caps.length := by simp [y] at hi; omega
    have hi3 : i < cvs.size := by omega
    have := hcap i hi2
    have e1 : q = (cvs[i], caps[i]) := by rw [← he]; simp [y]
    rw [e1]
    simpa [List.getD, Array.getD, hi2, hi3] using this
  refine callsIn_wide.2 (calls_of_wp hf hb ((wpIn_wide (n := 0)).1 ?_))
  have hsf : SF fn.ntmps cx ⟨envOf 0 (.yl l :: List.zipWith V.eq cvs.toList caps) ++ [(1000000, .tup []), (1000001, .bool false)], [], 0⟩ (fun _ => 0) (fun _ => undef)
      { tmps := (#[Value.func (.yield l) #[] #[]] ++ cvs) ++ Array.replicate (fn.ntmps - (#[Value.func (.yield l) #[] #[]] ++ cvs).size) undef, defers := [] } W := by
    refine ⟨⟨⟨rfl, rfl, rfl, Nat.le_refl _, fun _ _ _ => rfl, by simp, by simp, by simp, by simp, fun b hb => Nat.lt_of_lt_of_le (hX b hb) hW.size, by simp⟩, fun t => ?_⟩, by simp; omega, rfl⟩
    simp only [St.slot, lookup_app, lookup_envOf, Nat.zero_le, if_true, Nat.sub_zero]
    by_cases ht : t < caps.length + 1
    · have e1 : (V.yl l :: List.zipWith V.eq cvs.toList caps)[t]? = some ((V.yl l :: List.zipWith V.eq cvs.toList caps).getD t .any) := by
        have : t < (V.yl l :: List.zipWith V.eq cvs.toList caps).length := by simp; omega
        rw [List.getElem?_eq_getElem this]; simp [List.getD, List.getElem?_eq_getElem this]
      rw [e1]
      simp only [Option.getD]
      have e2 : tv cx { tmps := (#[Value.func (.yield l) #[] #[]] ++ cvs) ++ Array.replicate (fn.ntmps - (#[Value.func (.yield l) #[] #[]] ++ cvs).size) undef, defers := [] } t = (#[Value.func (.yield l) #[] #[]] ++ cvs).getD t undef := by
        unfold tv
        rw [if_pos (by omega)]
        rw [Array.getD_eq_getD_getElem?, Array.getElem?_append_left (by simp; omega), ← Array.getD_eq_getD_getElem?]
      rw [e2]
      cases t with
      | zero =>
        have e4 : (#[Value.func (.yield l) #[] #[]] ++ cvs).getD 0 undef = Value.func (.yield l) #[] #[] := by
          rw [Array.getD_eq_getD_getElem?, Array.getElem?_append_left (by simp)]; rfl
        rw [e4]
        exact Rel.yl false l
      | succ i =>
        have hi : i < caps.length := by omega
        have hi3 : i < cvs.size := by omega
        have e3 : (V.yl l :: List.zipWith V.eq cvs.toList caps).getD (i + 1) .any = .eq cvs[i] caps[i] := by
          simp [List.getD, List.getElem?_zipWith, hi, hi3]
        have e4 : (#[Value.func (.yield l) #[] #[]] ++ cvs).getD (i + 1) undef = cvs[i] := by
          rw [Array.getD_eq_getD_getElem?, Array.getElem?_append_right (by simp)]
          simp [hi3]
        rw [e3, e4]
        refine .eq _ _ _ ?_
        have := hcap i hi
        have e5 : caps.getD i .any = caps[i] := by simp [List.getD, hi]
        have e6 : cvs.getD i undef = cvs[i] := by simp [Array.getD, hi3]
        rw [e5, e6] at this
        exact (this.mono (fun ad u hc hno => ⟨hc, fun hO => hno (by
          rcases hO with hO | ⟨p, hp, _⟩
          · exact .inl hO
          · cases hp)⟩) (fun _ _ => ⟨rfl, rfl⟩) (Nat.le_refl _)).free rfl false
    · rw [List.getElem?_eq_none (by simp; omega)]
      simp only [List.lookup_cons, List.lookup_nil]
      by_cases e0 : t = 1000000
      · subst e0
        exact .tup _ _ _ rfl (by simp)
      · have e1 : (t == 1000000) = false := by simpa using e0
        rw [e1]
        by_cases e2 : t = 1000001
        · subst e2
          exact .bool ..
        · have e3 : (t == 1000001) = false := by simpa using e2
          rw [e3]; exact .any ..
  refine Code.wpIn_mono (fun e a' w' hq => ?_) (hT cx _ _ _ W hSI hsf)
  obtain ⟨cx', σ', ι', ρ', ⟨-, hL⟩, ⟨he, hp⟩, hs⟩ := hq
  obtain ⟨hr, hD, hdf, pre', stop, hG0, hG1, hgo, hstop⟩ := hL
  have hm := hs.sr.ml
  have hgr : cx'.w0.grownBy w' none := ⟨hm.os, hm.tape, hm.output, hm.size, fun k hk _ => hm.old k hk (by rw [hD]; exact id)⟩
  have h1 := hs.sr.env 1000001
  have e1 : tv cx' a' 1000001 = .bool stop := by unfold tv; rw [if_neg (by omega)]; exact hG1
  rw [e1] at h1
  have hfin : (∃ xs, S xs ∧ J xs w') ∨ (∃ pre : List α, True ∧ Jx pre w') := by
    rcases hp with hp | ⟨hp, xs, hS, h2⟩
    · rw [hp] at h1
      have : stop = true := by simpa using h1.bool_inv
      exact .inr ⟨pre', trivial, hJx _ _ _ none (hstop this) hgr (fun r e => by cases e)⟩
    · rw [hp] at h1
      have hst : stop = false := by simpa using h1.bool_inv
      have h3 := hs.sr.env 1000000
      have e2 : tv cx' a' 1000000 = .tuple (pre'.map ev).toArray := by unfold tv; rw [if_neg (by omega)]; exact hG0
      rw [h2, e2] at h3
      have hpp : pre' = xs := tup_eq hk h3
      subst hpp
      exact .inl ⟨pre', hS, hJ _ _ _ none (hgo hst).2.2.1 hgr (fun r e => by cases e)⟩
  have hdef : a'.defers = [] := by rw [hs.defers, hdf]
  cases e with
  | normal => exact ⟨hdef, _, results0 hres, ⟨_, rfl⟩, hfin⟩
  | ret => exact ⟨hdef, _, results0 hres, ⟨_, rfl⟩, hfin⟩
  | _ => exact he.elim
end
end
end Go.Proofs.Ytcphhbiehaimeaa
