/- Texts of this proof, put together. -/
import Derived.Test.YtgmgifmfhpoglaaDoorKMb
namespace Go.Proofs.YtgmgifmfhpoglaaDoor
open Go.RowKit
set_option linter.unusedVariables false
set_option linter.unusedSimpArgs false

/-- What stands in any world. -/
def V.simp : V → Bool
  | .int _ _ => true
  | .bool _ => true
  | .str _ => true
  | .yl _ => true
  | .nf => true
  | .np => true
  | .ub => true
  | .gd _ v => v.simp
  | _ => false
theorem Rel.simp {w w' : World} {O O' : Nat → Prop} {ι ι' : Nat → Nat} {ρ ρ' : Nat → Value} {nx nx' : Nat} {c : Bool} {v : V} {x : Value} (h : Rel w O ι ρ nx c v x) : v.simp = true → Rel w' O' ι' ρ' nx' c v x := by
  induction h with
  | int c k n => exact fun _ => .int c k n
  | bool c b => exact fun _ => .bool c b
  | str c s => exact fun _ => .str c s
  | yl c l => exact fun _ => .yl c l
  | nf c => exact fun _ => .nf c
  | np c => exact fun _ => .np c
  | ub c b => exact fun _ => .ub c b
  | gd c g v x _ h0 ih => exact fun e => .gd c g v x (fun hg => ih hg (by simpa [V.simp] using e)) h0
  | _ => intro e; simp [V.simp] at e
def V.simpl (v : V) : V :=
  match v.simp with
  | true => v
  | false => .any
def simE : List (Nat × V) → List (Nat × V)
  | [] => []
  | p :: ps => (p.1, p.2.simpl) :: simE ps
theorem lookup_simE : ∀ (env : List (Nat × V)) (t : Nat), ((simE env).lookup t).getD .any = ((env.lookup t).getD .any).simpl
  | [], t => by simp [simE, V.simpl, V.simp]
  | (k, v) :: env, t => by
    simp only [simE, List.lookup_cons]
    cases t == k
    · exact lookup_simE env t
    · rfl
def keepE (σ : St) : List Nat → List (Nat × V)
  | [] => []
  | t :: ts => (t, σ.slot t) :: keepE σ ts
theorem lookup_keepE (σ : St) : ∀ (ts : List Nat) (t : Nat), (keepE σ ts).lookup t = none ∨ (t ∈ ts ∧ (keepE σ ts).lookup t = some (σ.slot t))
  | [], t => .inl rfl
  | s :: ts, t => by
    simp only [keepE, List.lookup_cons]
    by_cases e : t = s
    · subst e; right; simp
    · have e1 : (t == s) = false := by simpa using e
      rw [e1]
      rcases lookup_keepE σ ts t with h | ⟨h1, h2⟩
      · exact .inl h
      · exact .inr ⟨List.mem_cons_of_mem _ h1, h2⟩

section
variable {α : Type}
/-- Behind a round that goes on; behind one that has said no more. -/
def goY (en : α → V) (σ : St) (pre : List α) (ts : List Nat) : St := ⟨(1000000, .tup (pre.map en)) :: (keepE σ ts ++ simE σ.env), [], σ.nx⟩
def stY (en : α → V) (σ : St) (pre : List α) : St := ⟨(1000000, .tup (pre.map en)) :: (1000001, .bool true) :: simE σ.env, [], σ.nx⟩

/-- A call of yield. -/
def YI (l : Nat) (en : α → V) (n : Nat) (caps : List (Value × V)) (op : Op) (σ : St) (K : V → St → Prop) : Prop :=
  match op with
  | .call { callee := .value f, args, argTypes } =>
    match args.toList with
    | [x] => un (some true) (σ.get f) fun vf => vf = .yl l ∧ un (some true) (σ.get x) fun vx => ∃ (x0 : α) (pre : List α) (ts : List Nat), vx = en x0 ∧ σ.slot 1000000 = .tup (pre.map en) ∧ σ.slot 1000001 = .bool false ∧ pre.length < n ∧
        (∀ t ∈ ts, ∃ q ∈ caps, σ.slot t = .eq q.1 q.2) ∧ K (.bool true) (goY en σ (pre ++ [x0]) ts) ∧ K (.bool false) (stY en σ (pre ++ [x0]))
    | _ => False
  | _ => False

/-- How the iterator's value stands for the loop's. -/
structure EnOK (ev : α → Value) (en : α → V) : Prop where
  inj : ∀ x y, ev x = ev y → x = y
  inv : ∀ (x : α) (w : World) (O : Nat → Prop) (ι : Nat → Nat) (ρ : Nat → Value) (nx : Nat) (c : Bool) (y : Value), Rel w O ι ρ nx c (en x) y → y = ev x
  rel : ∀ (x : α) (w : World) (O : Nat → Prop) (ι : Nat → Nat) (ρ : Nat → Value) (nx : Nat) (c : Bool), Rel w O ι ρ nx c (en x) (ev x)

structure YC (α : Type) where
  ev : α → Value
  en : α → V
  ok : EnOK ev en
  B : Nat
  B1 : Nat
  X : Nat → Prop
  l : Nat
  J : List α → World → Prop
  Jx : List α → World → Prop
  n : Nat
  caps : List (Value × V)
  hB : B ≤ B1
  hX : ∀ b, X b → b < B
  hGx : ∀ pre w', Jx pre w' → GTC w' fun _ => False
  hJ : AbidesFrom B1 J
  hJx : AbidesFrom B1 Jx

def SI {α : Type} (y : YC α) (cx : Cx) : Prop :=
  cx.r = none ∧ cx.D = (fun _ => False) ∧ cx.df = [] ∧ ∃ (pre : List α) (stop : Bool), cx.G 1000000 = .tuple (pre.map y.ev).toArray ∧ cx.G 1000001 = .bool stop ∧
    (stop = false → cx.X = y.X ∧ y.B ≤ cx.w0.heap.size ∧ y.J pre cx.w0 ∧ (∀ q ∈ y.caps, Rel cx.w0 (fun b => y.X b ∨ y.B ≤ b) (fun _ => 0) (fun _ => undef) 0 true q.2 q.1) ∧ GTC cx.w0 fun b => y.X b ∨ y.B ≤ b) ∧ (stop = true → y.Jx pre cx.w0)

theorem tup_eq {ev : α → Value} {en : α → V} (hk : EnOK ev en) {w : World} {O : Nat → Prop} {ι : Nat → Nat} {ρ : Nat → Value} {nx : Nat} {c : Bool} {pre pre' : List α}
    (h : Rel w O ι ρ nx c (.tup (pre.map en)) (.tuple (pre'.map ev).toArray)) : pre' = pre := by
  generalize hts : pre.map en = ts at h
  generalize hvs : (pre'.map ev).toArray = vs at h
  cases h with
  | tup _ _ _ hl hr =>
    subst hts; subst hvs
    have hlen : pre'.length = pre.length := by simpa using hl
    refine List.ext_getElem hlen fun i h1 h2 => ?_
    have := hr i (by simpa using h2)
    have e1 : (pre.map en).getD i .any = en pre[i] := by simp [List.getD, h2]
    have e2 : (pre'.map ev).toArray.getD i undef = ev pre'[i] := by simp [Array.getD, h1]
    rw [e1, e2] at this
    exact hk.inj _ _ (hk.inv _ _ _ _ _ _ _ _ this)
theorem tup_rel {ev : α → Value} {en : α → V} (hk : EnOK ev en) (w : World) (O : Nat → Prop) (ι : Nat → Nat) (ρ : Nat → Value) (nx : Nat) (c : Bool) (pre : List α) :
    Rel w O ι ρ nx c (.tup (pre.map en)) (.tuple (pre.map ev).toArray) := by
  refine .tup _ _ _ (by simp) fun i hi => ?_
  have hi' : i < pre.length := by simpa using hi
  have e1 : (pre.map en).getD i .any = en pre[i] := by simp [List.getD, hi']
  have e2 : (pre.map ev).toArray.getD i undef = ev pre[i] := by simp [Array.getD, hi']
  rw [e1, e2]
  exact hk.rel _ _ _ _ _ _ _

section
variable {P : Program} {N : Nat}

theorem yield_sound (y : YC α) (hY : ∀ pre x W1, y.J pre W1 → pre.length < y.n → YieldAt (Fr none) 0 P y.l #[y.ev x] W1 fun e W' =>
      (e = .returned (.bool true) ∧ y.J (pre ++ [x]) W' ∧ KpX y.B y.X W1 W') ∨ (e = .returned (.bool false) ∧ y.Jx (pre ++ [x]) W'))
    {cx : Cx} {σ : St} {ι : Nat → Nat} {ρ : Nat → Value} {a : Act} {w : World} {o : Oper} {K : V → St → Prop} {Q : Exit → Act → World → Prop} (hS : SI y cx) (h : SF N cx σ ι ρ a w) (hs : YI y.l y.en y.n y.caps o.op σ K) :
    o.wpIn (Fr cx.r) 0 P a w (fun a' w' => ∃ (cx' : Cx) (v : V) (σ' : St) (ι' : Nat → Nat) (ρ' : Nat → Value) (x : Value), K v σ' ∧ (cx'.r = cx.r ∧ SI y cx') ∧ a' = a.put o.dst x ∧ SF N cx' σ' ι' ρ' a w' ∧ MR cx' σ'.mem σ'.nx ι' ρ' w' v x) Q := by
  generalize ho : o.op = op at hs
  unfold YI at hs
  split at hs
  · rename_i f args ts
    split at hs
    · rename_i xo hargs
      obtain ⟨vf, hf', rfl, hs⟩ := un1 h.sr rfl hs
      obtain ⟨vx, hx', x0, pre, tk, rfl, hs0, hs1, hlen, htk, hK1, hK0⟩ := un1 h.sr rfl hs
      obtain ⟨hr, hD, hdf, pre', stop, hG0, hG1, hgo, -⟩ := hS
      have hxe : a.eval xo = y.ev x0 := y.ok.inv _ _ _ _ _ _ _ _ hx'
      have hfe : a.eval f = .func (.yield y.l) #[] #[] := by
        unfold MR at hf'
        generalize a.eval f = z at hf'
        cases hf'; rfl
      have hst : stop = false := by
        have := h.sr.env 1000001
        rw [hs1] at this
        have e : tv cx a 1000001 = .bool stop := by unfold tv; rw [if_neg (by omega)]; exact hG1
        rw [e] at this
        have := this.bool_inv
        simpa using this
      have hpre : pre' = pre := by
        have := h.sr.env 1000000
        rw [hs0] at this
        have e : tv cx a 1000000 = .tuple (pre'.map y.ev).toArray := by unfold tv; rw [if_neg (by omega)]; exact hG0
        rw [e] at this
        exact tup_eq y.ok this
      subst hpre
      obtain ⟨hX, hBw, hJ0, hcap, hgc⟩ := hgo hst
      have hm := h.sr.ml
      have hgr : cx.w0.grownBy w none := ⟨hm.os, hm.tape, hm.output, hm.size, fun k hk _ => hm.old k hk (by rw [hD]; exact id)⟩
      have hJ1 := y.hJ _ _ _ none hJ0 hgr (fun r e => by cases e)
      obtain ⟨fn, tmps, assign, body, hy, hR⟩ := hY pre' x0 w hJ1 hlen
      have hargs' : args.map a.eval = #[y.ev x0] := by
        have : args = #[xo] := by apply Array.toList_inj.1; simpa using hargs
        rw [this]; simp [hxe]
      have hrun : (execOp a.eval o).run P w = .ok (.round y.l fn tmps assign body) w := by
        simp [execOp, ho, resolve, hfe, Deferred.ofValue, invoke, hargs', hy]
      rw [hr]
      refine ⟨fun _ _ => trivial, ?_⟩
      rw [Oper.semAt_eq _ _ _ (by rw [ho]; intro c e; cases e)]
      rw [hrun]
      simp only [Oper.uponIn]
      refine ⟨fun h => by simp [Fr] at h, RoundIn.mono hR fun e w' he => ?_⟩
      have hcap2 : ∀ q ∈ y.caps, Rel w (fun b => y.X b ∨ y.B ≤ b) (fun _ => 0) (fun _ => undef) 0 true q.2 q.1 := fun q hq =>
        (hcap q hq).mono (fun ad u hc hno => ⟨cell_of_block hc (hgr.block _ (block_lt_of_cell hc) (by simp)), hno⟩) (fun _ _ => ⟨rfl, rfl⟩) (Nat.le_refl _)
      have hgc2 : GTC w (fun b => y.X b ∨ y.B ≤ b) := hgc.mono fun ad u hc hno => ⟨cell_of_block hc (hgr.block _ (block_lt_of_cell hc) (by simp)), hno⟩
      rcases he with ⟨rfl, hJ', hkp⟩ | ⟨rfl, hJ'⟩
      · have hcap3 : ∀ q ∈ y.caps, Rel w' (fun b => y.X b ∨ y.B ≤ b) (fun _ => 0) (fun _ => undef) 0 true q.2 q.1 := fun q hq =>
          (hcap2 q hq).mono (fun ad u hc hno => ⟨cell_of_block hc (hkp.old _ (by omega) (fun hX => hno (.inl hX))), hno⟩) (fun _ _ => ⟨rfl, rfl⟩) (Nat.le_refl _)
        have hgc3 : GTC w' (fun b => y.X b ∨ y.B ≤ b) := hgc2.mono fun ad u hc hno => ⟨cell_of_block hc (hkp.old _ (by omega) (fun hX => hno (.inl hX))), hno⟩
        have hsz : y.B ≤ w'.heap.size := Nat.le_trans (Nat.le_trans hBw hm.size) hkp.size
        refine ⟨⟨w', fun _ => False, y.X, none, [], fun t => if t = 1000000 then .tuple ((pre' ++ [x0]).map y.ev).toArray else cx.G t⟩, .bool true, goY y.en σ (pre' ++ [x0]) tk, ι, ρ, .bool true, hK1,
          ⟨rfl, rfl, rfl, rfl, pre' ++ [x0], false, by simp, by simp [hG1, hst], (fun _ => ⟨rfl, hsz, hJ', hcap3, hgc3⟩), (fun e => by cases e)⟩, rfl, ⟨⟨⟨rfl, rfl, rfl, Nat.le_refl _, fun _ _ _ => rfl, by simp [goY], by simp [goY], by simp [goY], by simp [goY], ⟨fun b hb => Nat.lt_of_lt_of_le (y.hX b hb) hsz, hgc3.mono fun ad u hc hno => ⟨hc, fun ho => hno (.inl (ho.elim False.elim id))⟩⟩, by simp [goY]⟩, fun t => ?_⟩, h.size, by rw [h.defers, hdf]⟩, .bool ..⟩
        have het : t ≠ 1000000 → tv (⟨w', fun _ => False, y.X, none, [], fun t => if t = 1000000 then .tuple ((pre' ++ [x0]).map y.ev).toArray else cx.G t⟩ : Cx) a t = tv cx a t := fun hne => by
          unfold tv; split
          · rfl
          · simp only [if_neg hne]
        by_cases e0 : t = 1000000
        · subst e0
          have e1 : (goY y.en σ (pre' ++ [x0]) tk).slot 1000000 = .tup ((pre' ++ [x0]).map y.en) := rfl
          have e2 : tv (⟨w', fun _ => False, y.X, none, [], fun t => if t = 1000000 then .tuple ((pre' ++ [x0]).map y.ev).toArray else cx.G t⟩ : Cx) a 1000000 = .tuple ((pre' ++ [x0]).map y.ev).toArray := by unfold tv; rw [if_neg (by omega)]; simp
          rw [e1, e2]
          exact tup_rel y.ok ..
        · rw [het e0]
          have hv := h.sr.env t
          have e1 : (goY y.en σ (pre' ++ [x0]) tk).slot t = ((keepE σ tk ++ simE σ.env).lookup t).getD .any := by
            unfold goY St.slot
            have : (t == 1000000) = false := by simpa using e0
            simp only [List.lookup_cons, this]
          rw [e1, lookup_app]
          rcases lookup_keepE σ tk t with h2 | ⟨h2, h3⟩
          · rw [h2]
            simp only
            rw [lookup_simE]
            unfold V.simpl
            split
            · rename_i hsi; exact hv.simp hsi
            · exact .any ..
          · rw [h3]
            obtain ⟨q, hq, hqe⟩ := htk t h2
            simp only [Option.getD]
            rw [hqe] at hv ⊢
            unfold MR at hv ⊢
            generalize tv cx a t = z at hv
            cases hv with
            | eq _ _ _ hv =>
              refine .eq _ _ _ (((hcap3 q hq).mono (fun ad u hc hno => ⟨hc, fun hO => hno ?_⟩) (fun _ _ => ⟨rfl, rfl⟩) (Nat.le_refl _)).free rfl false)
              rcases hO with hO | ⟨p, hp, _⟩
              · exact .inl hO
              · simp [goY] at hp
      ·   refine ⟨⟨w', fun _ => False, fun _ => False, none, [], fun t => if t = 1000000 then .tuple ((pre' ++ [x0]).map y.ev).toArray else if t = 1000001 then .bool true else cx.G t⟩, .bool false, stY y.en σ (pre' ++ [x0]), ι, ρ, .bool false, hK0,
            ⟨rfl, rfl, rfl, rfl, pre' ++ [x0], true, by simp, by simp, (fun e => by cases e), (fun _ => hJ')⟩, rfl, ⟨⟨⟨rfl, rfl, rfl, Nat.le_refl _, fun _ _ _ => rfl, by simp [stY], by simp [stY], by simp [stY], by simp [stY], ⟨fun b hb => hb.elim, (y.hGx _ _ hJ').mono fun ad u hc hno => ⟨hc, fun ho => ho.elim id id⟩⟩, by simp [stY]⟩, fun t => ?_⟩, h.size, by rw [h.defers, hdf]⟩, .bool ..⟩
          by_cases e0 : t = 1000000
          · subst e0
            have e1 : (stY y.en σ (pre' ++ [x0])).slot 1000000 = .tup ((pre' ++ [x0]).map y.en) := rfl
            have e2 : tv (⟨w', fun _ => False, fun _ => False, none, [], fun t => if t = 1000000 then .tuple ((pre' ++ [x0]).map y.ev).toArray else if t = 1000001 then .bool true else cx.G t⟩ : Cx) a 1000000 = .tuple ((pre' ++ [x0]).map y.ev).toArray := by unfold tv; rw [if_neg (by omega)]; simp
            rw [e1, e2]
            exact tup_rel y.ok ..
          · by_cases e1 : t = 1000001
            · subst e1
              have e1 : (stY y.en σ (pre' ++ [x0])).slot 1000001 = .bool true := rfl
              have e2 : tv (⟨w', fun _ => False, fun _ => False, none, [], fun t => if t = 1000000 then .tuple ((pre' ++ [x0]).map y.ev).toArray else if t = 1000001 then .bool true else cx.G t⟩ : Cx) a 1000001 = .bool true := by unfold tv; rw [if_neg (by omega)]; simp
              rw [e1, e2]
              exact .bool ..
            · have hv := h.sr.env t
              have het : tv (⟨w', fun _ => False, fun _ => False, none, [], fun t => if t = 1000000 then .tuple ((pre' ++ [x0]).map y.ev).toArray else if t = 1000001 then .bool true else cx.G t⟩ : Cx) a t = tv cx a t := by
                unfold tv; split
                · rfl
                · simp only [if_neg e0, if_neg e1]
              have e3 : (stY y.en σ (pre' ++ [x0])).slot t = ((simE σ.env).lookup t).getD .any := by
                unfold stY St.slot
                have h1 : (t == 1000000) = false := by simpa using e0
                have h2 : (t == 1000001) = false := by simpa using e1
                simp only [List.lookup_cons, h1, h2]
              rw [het, e3, lookup_simE]
              unfold V.simpl
              split
              · rename_i hsi; exact hv.simp hsi
              · exact .any ..
    · exact hs.elim
  · exact hs.elim
/-- The walk of an iterator. -/
def CI (y : YC α) (hY : ∀ pre x W1, y.J pre W1 → pre.length < y.n → YieldAt (Fr none) 0 P y.l #[y.ev x] W1 fun e W' =>
      (e = .returned (.bool true) ∧ y.J (pre ++ [x]) W' ∧ KpX y.B y.X W1 W') ∨ (e = .returned (.bool false) ∧ y.Jx (pre ++ [x]) W')) : Ctl P N where
  S := SI y
  L := fun a b => b.r = a.r ∧ SI y b
  Y := YI y.l y.en y.n y.caps
  refl := fun h => ⟨rfl, h⟩
  trans := fun h k => ⟨k.1.trans h.1, k.2⟩
  pres := fun h _ => h.2
  hr := fun h => h.1
  ys := fun hS h hs => yield_sound y hY hS h hs

def postI (S : List α → Prop) (en : α → V) (e : Exit) (σ : St) : Prop :=
  (match e with | .normal => True | .ret => True | _ => False) ∧ (σ.slot 1000001 = .bool true ∨ (σ.slot 1000001 = .bool false ∧ ∃ xs, S xs ∧ σ.slot 1000000 = .tup (xs.map en)))

theorem seqA_of_tr {f : FuncId} {fn : Func} {c : Code} (hf : P.funcs[f]? = some fn) (hb : fn.body = some c) (hres : fn.results.toList = []) {caps : List V} {S : List α → Prop} {n : Nat} {ev : α → Value} {en : α → V} (hk : EnOK ev en)
    (hn : caps.length + 1 ≤ fn.ntmps) (hn1 : caps.length + 1 ≤ 1000000)
    (h : ∀ (l : Nat) (xs : List Value) (C : Ctl P fn.ntmps), xs.length = caps.length → (∀ op σ K, YI l en n (xs.zip caps) op σ K → C.Y op σ K) →
      Tr C c ⟨envOf 0 (.yl l :: List.zipWith V.eq xs caps) ++ [(1000000, .tup []), (1000001, .bool false)], [], 0⟩ (postI S en)) : SeqA P ev f caps S n := by
  intro w X cvs hX hcs hcr l J Jx W hW hJ hJx hGx hY h0
  let y : YC α := { ev, en, ok := hk, B := w.heap.size, B1 := W.heap.size, X, l, J, Jx, n, caps := cvs.toList.zip caps, hB := hW.size, hX := hX.lt, hJ, hJx, hGx }
  let C : Ctl P fn.ntmps := CI y hY
  have hlen : cvs.toList.length = caps.length := by simpa using hcs
  have hT := h l cvs.toList C hlen (fun op σ K hk => hk)
  have hcap : ∀ i, i < caps.length → Rel W (fun b => X b ∨ w.heap.size ≤ b) (fun _ => 0) (fun _ => undef) 0 true (caps.getD i .any) (cvs.getD i undef) := fun i hi =>
    (hcr i hi).mono (fun ad u hc hno => by
      have hlt := block_lt_of_cell hc
      exact ⟨cell_of_block hc (hW.block _ hlt), fun hO => hO.elim hno (fun h => by omega)⟩) (fun _ _ => ⟨rfl, rfl⟩) (Nat.le_refl _)
  have hGW : GTC W (fun b => X b ∨ w.heap.size ≤ b) := hX.gt.mono fun ad u hc hno => by
    have hlt := block_lt_of_cell hc
    exact ⟨cell_of_block hc (hW.block _ hlt), fun hO => hO.elim (fun h => hno (.inr h)) (fun h => by omega)⟩
  let cx : Cx := ⟨W, fun _ => False, X, none, [], fun t => if t = 1000000 then .tuple #[] else .bool false⟩
  have hSI : SI y cx := by
    refine ⟨rfl, rfl, rfl, [], false, rfl, rfl, fun _ => ⟨rfl, hW.size, h0, fun q hq => ?_, hGW⟩, (fun e => by cases e)⟩
    obtain ⟨i, hi, he⟩ := List.getElem_of_mem hq
    have hi2 : i < caps.length := by simp [y] at hi; omega
    have hi3 : i < cvs.size := by omega
    have := hcap i hi2
    have e1 : q = (cvs[i], caps[i]) := by rw [← he]; simp [y]
    rw [e1]
    simpa [List.getD, Array.getD, hi2, hi3] using this
  refine callsIn_wide.2 (calls_of_wp hf hb ((wpIn_wide (n := 0)).1 ?_))
  have hsf : SF fn.ntmps cx ⟨envOf 0 (.yl l :: List.zipWith V.eq cvs.toList caps) ++ [(1000000, .tup []), (1000001, .bool false)], [], 0⟩ (fun _ => 0) (fun _ => undef)
      { tmps := (#[Value.func (.yield l) #[] #[]] ++ cvs) ++ Array.replicate (fn.ntmps - (#[Value.func (.yield l) #[] #[]] ++ cvs).size) undef, defers := [] } W := by
    refine ⟨⟨⟨rfl, rfl, rfl, Nat.le_refl _, fun _ _ _ => rfl, by simp, by simp, by simp, by simp, ⟨fun b hb => Nat.lt_of_lt_of_le (hX.lt b hb) hW.size, hGW.mono fun ad u hc hno => ⟨hc, fun ho => hno (.inl (ho.elim False.elim id))⟩⟩, by simp⟩, fun t => ?_⟩, by simp; omega, rfl⟩
    simp only [St.slot, lookup_app, lookup_envOf, Nat.zero_le, if_true, Nat.sub_zero]
    by_cases ht : t < caps.length + 1
    · have e1 : (V.yl l :: List.zipWith V.eq cvs.toList caps)[t]? = some ((V.yl l :: List.zipWith V.eq cvs.toList caps).getD t .any) := by
        have : t < (V.yl l :: List.zipWith V.eq cvs.toList caps).length := by simp; omega
        rw [List.getElem?_eq_getElem this]; simp [List.getD, List.getElem?_eq_getElem this]
      rw [e1]
      simp only [Option.getD]
      have e2 : tv cx { tmps := (#[Value.func (.yield l) #[] #[]] ++ cvs) ++ Array.replicate (fn.ntmps - (#[Value.func (.yield l) #[] #[]] ++ cvs).size) undef, defers := [] } t = (#[Value.func (.yield l) #[] #[]] ++ cvs).getD t undef := by
        unfold tv
        rw [if_pos (by omega)]
        rw [Array.getD_eq_getD_getElem?, Array.getElem?_append_left (by simp; omega), ← Array.getD_eq_getD_getElem?]
      rw [e2]
      cases t with
      | zero =>
        have e4 : (#[Value.func (.yield l) #[] #[]] ++ cvs).getD 0 undef = Value.func (.yield l) #[] #[] := by
          rw [Array.getD_eq_getD_getElem?, Array.getElem?_append_left (by simp)]; rfl
        rw [e4]
        exact Rel.yl false l
      | succ i =>
        have hi : i < caps.length := by omega
        have hi3 : i < cvs.size := by omega
        have e3 : (V.yl l :: List.zipWith V.eq cvs.toList caps).getD (i + 1) .any = .eq cvs[i] caps[i] := by
          simp [List.getD, List.getElem?_zipWith, hi, hi3]
        have e4 : (#[Value.func (.yield l) #[] #[]] ++ cvs).getD (i + 1) undef = cvs[i] := by
          rw [Array.getD_eq_getD_getElem?, Array.getElem?_append_right (by simp)]
          simp [hi3]
        rw [e3, e4]
        refine .eq _ _ _ ?_
        have := hcap i hi
        have e5 : caps.getD i .any = caps[i] := by simp [List.getD, hi]
        have e6 : cvs.getD i undef = cvs[i] := by simp [Array.getD, hi3]
        rw [e5, e6] at this
        exact (this.mono (fun ad u hc hno => ⟨hc, fun hO => hno (by
          rcases hO with hO | ⟨p, hp, _⟩
          · exact .inl hO
          · cases hp)⟩) (fun _ _ => ⟨rfl, rfl⟩) (Nat.le_refl _)).free rfl false
    · rw [List.getElem?_eq_none (by simp; omega)]
      simp only [List.lookup_cons, List.lookup_nil]
      by_cases e0 : t = 1000000
      · subst e0
        exact .tup _ _ _ rfl (by simp)
      · have e1 : (t == 1000000) = false := by simpa using e0
        rw [e1]
        by_cases e2 : t = 1000001
        · subst e2
          exact .bool ..
        · have e3 : (t == 1000001) = false := by simpa using e2
          rw [e3]; exact .any ..
  refine Code.wpIn_mono (fun e a' w' hq => ?_) (hT cx _ _ _ W hSI hsf)
  obtain ⟨cx', σ', ι', ρ', ⟨-, hL⟩, ⟨he, hp⟩, hs⟩ := hq
  obtain ⟨hr, hD, hdf, pre', stop, hG0, hG1, hgo, hstop⟩ := hL
  have hm := hs.sr.ml
  have hgr : cx'.w0.grownBy w' none := ⟨hm.os, hm.tape, hm.output, hm.size, fun k hk _ => hm.old k hk (by rw [hD]; exact id)⟩
  have h1 := hs.sr.env 1000001
  have e1 : tv cx' a' 1000001 = .bool stop := by unfold tv; rw [if_neg (by omega)]; exact hG1
  rw [e1] at h1
  have hfin : (∃ xs, S xs ∧ J xs w') ∨ (∃ pre : List α, True ∧ Jx pre w') := by
    rcases hp with hp | ⟨hp, xs, hS, h2⟩
    · rw [hp] at h1
      have : stop = true := by simpa using h1.bool_inv
      exact .inr ⟨pre', trivial, hJx _ _ _ none (hstop this) hgr (fun r e => by cases e)⟩
    · rw [hp] at h1
      have hst : stop = false := by simpa using h1.bool_inv
      have h3 := hs.sr.env 1000000
      have e2 : tv cx' a' 1000000 = .tuple (pre'.map ev).toArray := by unfold tv; rw [if_neg (by omega)]; exact hG0
      rw [h2, e2] at h3
      have hpp : pre' = xs := tup_eq hk h3
      subst hpp
      exact .inl ⟨pre', hS, hJ _ _ _ none (hgo hst).2.2.1 hgr (fun r e => by cases e)⟩
  have hdef : a'.defers = [] := by rw [hs.defers, hdf]
  cases e with
  | normal => exact ⟨hdef, _, results0 hres, ⟨_, rfl⟩, hfin⟩
  | ret => exact ⟨hdef, _, results0 hres, ⟨_, rfl⟩, hfin⟩
  | _ => exact he.elim
end
end
end Go.Proofs.YtgmgifmfhpoglaaDoor

namespace Go.Proofs.YtgmgifmfhpoglaaDoor
open Go.RowKit
set_option linter.unusedVariables false
set_option linter.unusedSimpArgs false
section
variable {P : Program} {N : Nat} {C : Ctl P N} {fz : List Nat}
theorem evR_p {ds : List (Option Tmp)} {o : Oper} {l : List Oper} {σ σ' : St} {K : St → Prop}
    (k : evR C ds l σ' K) (h : ∀ Kq : St → Prop, Kq σ' → evO P ds o σ Kq := by intro Kq hKq; simp (maxSteps := 4000000) (disch := first | assumption | omega | (simp only [go_sem, *]; done) | (simp only [go_sem, *]; omega)) only [go_sem, isE, isO, stpO, notIn, St.bare, Bool.false_and, Bool.true_and, Bool.and_true, Bool.not_true, Bool.not_false, Int.reduceToNat, Nat.reduceBEq, Nat.reduceEqDiff, Nat.reduceAdd, Nat.reduceMul, Nat.reduceLeDiff, Nat.reduceLT, Nat.reduceSub, ↓reduceIte, reduceCtorEq, hq]; (repeat (refine And.intro (by first | assumption | omega | decide | (simp; done) | (simp; omega) | (have hq := hvv hgt; omega) | (have hq := hvv hgt.1; omega) | (simp_all; done)) ?_)); exact hKq) : evR C ds (o :: l) σ K :=
  evR_step fun Kq hKq => h Kq (hKq _ k)
theorem evR_bo {ds : List (Option Tmp)} {o : Oper} {l : List Oper} {σ σ' : St} {K : St → Prop}
    (k : evR C ds l σ' K) (h : ∀ Kq : St → Prop, Kq σ' → evO P ds o σ Kq := by intro Kq hKq; simp (maxSteps := 4000000) (disch := first | assumption | omega | (simp only [go_sem, *]; done) | (simp only [go_sem, *]; omega)) only [go_sem, isE, isO, stpO, notIn, St.bare, Bool.false_and, Bool.true_and, Bool.and_true, Bool.not_true, Bool.not_false, Int.reduceToNat, Nat.reduceBEq, Nat.reduceEqDiff, Nat.reduceAdd, Nat.reduceMul, Nat.reduceLeDiff, Nat.reduceLT, Nat.reduceSub, ↓reduceIte, reduceCtorEq, hq]; (repeat (refine And.intro (by first | assumption | omega | decide | (simp; done) | (simp; omega) | (have hq := hvv hgt; omega) | (have hq := hvv hgt.1; omega) | (simp_all; done)) ?_)); exact Or.inl hKq) : evR C ds (o :: l) σ K :=
  evR_step fun Kq hKq => h Kq (hKq _ k)
theorem evR_bs {ds : List (Option Tmp)} {o : Oper} {l : List Oper} {σ σ' : St} {K : St → Prop}
    (k : evR C ds l σ' K) (h : ∀ Kq : St → Prop, Kq σ' → evO P ds o σ Kq := by intro Kq hKq; simp (maxSteps := 4000000) (disch := first | assumption | omega | (simp only [go_sem, *]; done) | (simp only [go_sem, *]; omega)) only [go_sem, isE, isO, stpO, notIn, St.bare, Bool.false_and, Bool.true_and, Bool.and_true, Bool.not_true, Bool.not_false, Int.reduceToNat, Nat.reduceBEq, Nat.reduceEqDiff, Nat.reduceAdd, Nat.reduceMul, Nat.reduceLeDiff, Nat.reduceLT, Nat.reduceSub, ↓reduceIte, reduceCtorEq, hq]; (repeat (refine And.intro (by first | assumption | omega | decide | (simp; done) | (simp; omega) | (have hq := hvv hgt; omega) | (have hq := hvv hgt.1; omega) | (simp_all; done)) ?_)); exact Or.inr (Or.inl hKq)) : evR C ds (o :: l) σ K :=
  evR_step fun Kq hKq => h Kq (hKq _ k)
theorem evR_bc {ds : List (Option Tmp)} {o : Oper} {l : List Oper} {σ σ' : St} {K : St → Prop}
    (k : evR C ds l σ' K) (h : ∀ Kq : St → Prop, Kq σ' → evO P ds o σ Kq := by intro Kq hKq; simp (maxSteps := 4000000) (disch := first | assumption | omega | (simp only [go_sem, *]; done) | (simp only [go_sem, *]; omega)) only [go_sem, isE, isO, stpO, notIn, St.bare, Bool.false_and, Bool.true_and, Bool.and_true, Bool.not_true, Bool.not_false, Int.reduceToNat, Nat.reduceBEq, Nat.reduceEqDiff, Nat.reduceAdd, Nat.reduceMul, Nat.reduceLeDiff, Nat.reduceLT, Nat.reduceSub, ↓reduceIte, reduceCtorEq, hq]; (repeat (refine And.intro (by first | assumption | omega | decide | (simp; done) | (simp; omega) | (have hq := hvv hgt; omega) | (have hq := hvv hgt.1; omega) | (simp_all; done)) ?_)); exact Or.inr (Or.inr hKq)) : evR C ds (o :: l) σ K :=
  evR_step fun Kq hKq => h Kq (hKq _ k)
theorem evR_g {ds : List (Option Tmp)} {dst : Option Tmp} {op : Op} {ty : TypeId} {pos : String} {after : Array Edge} {j : Nat} {want : Bool} {d : Nat} {l : List Oper} {σ σ' : St} {K : St → Prop} {gb : Bool} {v0 : V} (k : evR C ds l σ' K)
    (hj : nth ds j = some d := by rfl) (hg : ∀ K' : Bool → Prop, K' gb → gof (σ.get (.tmp d)) want K' := by intro K3 h3; simp (maxSteps := 4000000) (disch := first | assumption | omega | (simp only [go_sem, *]; done) | (simp only [go_sem, *]; omega)) only [go_sem, isE, isO, stpO, notIn, St.bare, Bool.false_and, Bool.true_and, Bool.and_true, Bool.not_true, Bool.not_false, Int.reduceToNat, Nat.reduceBEq, Nat.reduceEqDiff, Nat.reduceAdd, Nat.reduceMul, Nat.reduceLeDiff, Nat.reduceLT, Nat.reduceSub, ↓reduceIte, reduceCtorEq, hq]; exact h3)
    (hs : gb = true → stp P σ (some gb) op fun v s => v = v0 ∧ s = σ := by intro hgt; (try simp only [decide_eq_true_eq, decide_eq_false_iff_not, Bool.not_eq_true', Bool.not_eq_false', Bool.and_eq_true, Bool.or_eq_true, Bool.and_eq_false_iff, Bool.or_eq_false_iff, beq_true, beq_false] at hgt); simp (maxSteps := 4000000) (disch := first | assumption | omega | (simp only [go_sem, *]; done) | (simp only [go_sem, *]; omega)) only [go_sem, isE, isO, stpO, notIn, St.bare, Bool.false_and, Bool.true_and, Bool.and_true, Bool.not_true, Bool.not_false, Int.reduceToNat, Nat.reduceBEq, Nat.reduceEqDiff, Nat.reduceAdd, Nat.reduceMul, Nat.reduceLeDiff, Nat.reduceLT, Nat.reduceSub, ↓reduceIte, reduceCtorEq, hq]; (repeat (refine And.intro (by first | assumption | omega | decide | (simp; done) | (simp; omega) | (have hq := hvv hgt; omega) | (have hq := hvv hgt.1; omega) | (simp_all; done)) ?_)); first | rfl | exact ⟨rfl, rfl⟩ | (refine Or.inl ?_; rfl) | (refine Or.inl ?_; exact ⟨rfl, rfl⟩))
    (hp : σ.put dst (.gd gb v0) = σ' := by simp only [St.put]; rfl) : evR C ds (⟨dst, op, ty, pos, after, some (j, want)⟩ :: l) σ K :=
  evR_step fun Kq hKq => evO_guard hj hg hs (by rw [hp]; exact hKq _ k)
theorem evR_gf {ds : List (Option Tmp)} {dst : Option Tmp} {op : Op} {ty : TypeId} {pos : String} {after : Array Edge} {j : Nat} {want : Bool} {d : Nat} {l : List Oper} {σ σ' : St} {K : St → Prop} (v0 : V) (k : evR C ds l σ' K)
    (hj : nth ds j = some d := by rfl) (hg : ∀ K' : Bool → Prop, K' false → gof (σ.get (.tmp d)) want K' := by intro K3 h3; simp (maxSteps := 4000000) (disch := first | assumption | omega | (simp only [go_sem, *]; done) | (simp only [go_sem, *]; omega)) only [go_sem, isE, isO, stpO, notIn, St.bare, Bool.false_and, Bool.true_and, Bool.and_true, Bool.not_true, Bool.not_false, Int.reduceToNat, Nat.reduceBEq, Nat.reduceEqDiff, Nat.reduceAdd, Nat.reduceMul, Nat.reduceLeDiff, Nat.reduceLT, Nat.reduceSub, ↓reduceIte, reduceCtorEq, hq, Int.lt_irrefl, Nat.lt_irrefl, Bool.and_false, beq_iff_eq]; exact h3)
    (hp : σ.put dst (.gd false v0) = σ' := by simp only [St.put]; rfl) : evR C ds (⟨dst, op, ty, pos, after, some (j, want)⟩ :: l) σ K :=
  evR_step fun Kq hKq => evO_guard hj hg (fun h => by cases h) (by rw [hp]; exact hKq _ k)
theorem evR_c {ds : List (Option Tmp)} {o : Oper} {l : List Oper} {σ : St} {K : St → Prop} {f : FuncId} {args : List V} {r : V} {F : V → St}
    (h : ∀ (Kq : St → Prop) (r : V), CallsA P f args r → Kq (F r) → evO P ds o σ Kq := by intro Kq r hc hKq; simp (maxSteps := 4000000) (disch := first | assumption | omega | (simp only [go_sem, *]; done) | (simp only [go_sem, *]; omega)) only [go_sem, isE, isO, stpO, notIn, St.bare, Bool.false_and, Bool.true_and, Bool.and_true, Bool.not_true, Bool.not_false, Int.reduceToNat, Nat.reduceBEq, Nat.reduceEqDiff, Nat.reduceAdd, Nat.reduceMul, Nat.reduceLeDiff, Nat.reduceLT, Nat.reduceSub, ↓reduceIte, reduceCtorEq, hq]; (repeat (refine And.intro (by first | assumption | omega | decide | (simp; done) | (simp; omega) | (have hq := hvv hgt; omega) | (have hq := hvv hgt.1; omega) | (simp_all; done)) ?_)); exact ⟨r, hc, hKq⟩)
    (hc : CallsA P f args r) (k : evR C ds l (F r) K) : evR C ds (o :: l) σ K :=
  evR_step fun Kq hKq => h Kq r hc (hKq _ k)
theorem evR_gc {ds : List (Option Tmp)} {dst : Option Tmp} {op : Op} {ty : TypeId} {pos : String} {after : Array Edge} {j : Nat} {want : Bool} {d : Nat} {l : List Oper} {σ σ' : St} {K : St → Prop} {gb : Bool} {f : FuncId} {args : List V} {r : V}
    (hj : nth ds j = some d := by rfl) (hg : ∀ K' : Bool → Prop, K' gb → gof (σ.get (.tmp d)) want K' := by intro K3 h3; simp (maxSteps := 4000000) (disch := first | assumption | omega | (simp only [go_sem, *]; done) | (simp only [go_sem, *]; omega)) only [go_sem, isE, isO, stpO, notIn, St.bare, Bool.false_and, Bool.true_and, Bool.and_true, Bool.not_true, Bool.not_false, Int.reduceToNat, Nat.reduceBEq, Nat.reduceEqDiff, Nat.reduceAdd, Nat.reduceMul, Nat.reduceLeDiff, Nat.reduceLT, Nat.reduceSub, ↓reduceIte, reduceCtorEq, hq]; exact h3)
    (hs : ∀ r : V, CallsA P f args r → gb = true → stp P σ (some gb) op fun v s => v = r ∧ s = σ := by intro r hc hgt; (try simp only [decide_eq_true_eq, decide_eq_false_iff_not, Bool.not_eq_true', Bool.not_eq_false', Bool.and_eq_true, Bool.or_eq_true, Bool.and_eq_false_iff, Bool.or_eq_false_iff, beq_true, beq_false] at hgt); simp (maxSteps := 4000000) (disch := first | assumption | omega | (simp only [go_sem, *]; done) | (simp only [go_sem, *]; omega)) only [go_sem, isE, isO, stpO, notIn, St.bare, Bool.false_and, Bool.true_and, Bool.and_true, Bool.not_true, Bool.not_false, Int.reduceToNat, Nat.reduceBEq, Nat.reduceEqDiff, Nat.reduceAdd, Nat.reduceMul, Nat.reduceLeDiff, Nat.reduceLT, Nat.reduceSub, ↓reduceIte, reduceCtorEq, hq]; (repeat (refine And.intro (by first | assumption | omega | decide | (simp; done) | (simp; omega) | (have hq := hvv hgt; omega) | (have hq := hvv hgt.1; omega) | (simp_all; done)) ?_)); (refine ⟨_, hc, ?_⟩); first | rfl | exact ⟨rfl, rfl⟩)
    (hc : CallsA P f args r)
    (hp : σ.put dst (.gd gb r) = σ' := by simp only [St.put]; rfl) (k : evR C ds l σ' K) : evR C ds (⟨dst, op, ty, pos, after, some (j, want)⟩ :: l) σ K :=
  evR_step fun Kq hKq => evO_guard hj hg (hs r hc) (by rw [hp]; exact hKq _ k)
theorem evR_gch {ds : List (Option Tmp)} {dst : Option Tmp} {op : Op} {ty : TypeId} {pos : String} {after : Array Edge} {j : Nat} {want : Bool} {d : Nat} {l : List Oper} {σ σ' : St} {K : St → Prop} {gb : Bool} {f : FuncId} {args : List V} {r : V}
    (hj : nth ds j = some d := by rfl) (hg : ∀ K' : Bool → Prop, K' gb → gof (σ.get (.tmp d)) want K' := by intro K3 h3; simp (maxSteps := 4000000) (disch := first | assumption | omega | (simp only [go_sem, *]; done) | (simp only [go_sem, *]; omega)) only [go_sem, isE, isO, stpO, notIn, St.bare, Bool.false_and, Bool.true_and, Bool.and_true, Bool.not_true, Bool.not_false, Int.reduceToNat, Nat.reduceBEq, Nat.reduceEqDiff, Nat.reduceAdd, Nat.reduceMul, Nat.reduceLeDiff, Nat.reduceLT, Nat.reduceSub, ↓reduceIte, reduceCtorEq, hq]; exact h3)
    (hs : ∀ r : V, (gb = true → CallsA P f args r) → gb = true → stp P σ (some gb) op fun v s => v = r ∧ s = σ := by intro r hc hgt; have hc1 := hc hgt; (try simp only [decide_eq_true_eq, decide_eq_false_iff_not, Bool.not_eq_true', Bool.not_eq_false', Bool.and_eq_true, Bool.or_eq_true, Bool.and_eq_false_iff, Bool.or_eq_false_iff, beq_true, beq_false] at hgt); simp (maxSteps := 4000000) (disch := first | assumption | omega | (simp only [go_sem, *]; done) | (simp only [go_sem, *]; omega)) only [go_sem, isE, isO, stpO, notIn, St.bare, Bool.false_and, Bool.true_and, Bool.and_true, Bool.not_true, Bool.not_false, Int.reduceToNat, Nat.reduceBEq, Nat.reduceEqDiff, Nat.reduceAdd, Nat.reduceMul, Nat.reduceLeDiff, Nat.reduceLT, Nat.reduceSub, ↓reduceIte, reduceCtorEq, hq]; (repeat (refine And.intro (by first | assumption | omega | decide | (simp; done) | (simp; omega) | (have hq := hvv hgt; omega) | (have hq := hvv hgt.1; omega) | (simp_all; done)) ?_)); (refine ⟨_, hc1, ?_⟩); first | rfl | exact ⟨rfl, rfl⟩)
    (hc : gb = true → CallsA P f args r)
    (hp : σ.put dst (.gd gb r) = σ' := by simp only [St.put]; rfl) (k : evR C ds l σ' K) : evR C ds (⟨dst, op, ty, pos, after, some (j, want)⟩ :: l) σ K :=
  evR_step fun Kq hKq => evO_guard hj hg (hs r hc) (by rw [hp]; exact hKq _ k)
theorem evR_e {ds : List (Option Tmp)} {σ σ' : St} {K : St → Prop} {Ψ : Exit → St → Prop} {kp : List Nat} (hK : ∀ s, Ψ .normal (s.norm kp) → K s) (k : Ψ .normal σ')
    (hn : σ.norm kp = σ' := by simp only [St.norm, List.filterMap, List.lookup, Option.map, Nat.reduceBEq]; rfl) : evR C ds [] σ K := hK σ (hn ▸ k)
theorem evD_p {ds : List (Option Tmp)} {o : Oper} {l : List Oper} {σ σ' : St} {K : St → Prop}
    (k : evD fz P ds l σ' K) (h : ∀ Kq : St → Prop, Kq σ' → evDO fz P ds o σ Kq := by intro Kq hKq; simp (maxSteps := 4000000) (disch := first | assumption | omega | (simp only [go_sem, *]; done) | (simp only [go_sem, *]; omega)) only [go_sem, isE, isO, stpO, notIn, St.bare, Bool.false_and, Bool.true_and, Bool.and_true, Bool.not_true, Bool.not_false, Int.reduceToNat, Nat.reduceBEq, Nat.reduceEqDiff, Nat.reduceAdd, Nat.reduceMul, Nat.reduceLeDiff, Nat.reduceLT, Nat.reduceSub, ↓reduceIte, reduceCtorEq, hq]; (repeat (refine And.intro (by first | assumption | omega | decide | (simp; done) | (simp; omega) | (have hq := hvv hgt; omega) | (have hq := hvv hgt.1; omega) | (simp_all; done)) ?_)); exact hKq) : evD fz P ds (o :: l) σ K :=
  evD_step fun Kq hKq => h Kq (hKq _ k)
theorem evD_bo {ds : List (Option Tmp)} {o : Oper} {l : List Oper} {σ σ' : St} {K : St → Prop}
    (k : evD fz P ds l σ' K) (h : ∀ Kq : St → Prop, Kq σ' → evDO fz P ds o σ Kq := by intro Kq hKq; simp (maxSteps := 4000000) (disch := first | assumption | omega | (simp only [go_sem, *]; done) | (simp only [go_sem, *]; omega)) only [go_sem, isE, isO, stpO, notIn, St.bare, Bool.false_and, Bool.true_and, Bool.and_true, Bool.not_true, Bool.not_false, Int.reduceToNat, Nat.reduceBEq, Nat.reduceEqDiff, Nat.reduceAdd, Nat.reduceMul, Nat.reduceLeDiff, Nat.reduceLT, Nat.reduceSub, ↓reduceIte, reduceCtorEq, hq]; (repeat (refine And.intro (by first | assumption | omega | decide | (simp; done) | (simp; omega) | (have hq := hvv hgt; omega) | (have hq := hvv hgt.1; omega) | (simp_all; done)) ?_)); exact Or.inl hKq) : evD fz P ds (o :: l) σ K :=
  evD_step fun Kq hKq => h Kq (hKq _ k)
theorem evD_bs {ds : List (Option Tmp)} {o : Oper} {l : List Oper} {σ σ' : St} {K : St → Prop}
    (k : evD fz P ds l σ' K) (h : ∀ Kq : St → Prop, Kq σ' → evDO fz P ds o σ Kq := by intro Kq hKq; simp (maxSteps := 4000000) (disch := first | assumption | omega | (simp only [go_sem, *]; done) | (simp only [go_sem, *]; omega)) only [go_sem, isE, isO, stpO, notIn, St.bare, Bool.false_and, Bool.true_and, Bool.and_true, Bool.not_true, Bool.not_false, Int.reduceToNat, Nat.reduceBEq, Nat.reduceEqDiff, Nat.reduceAdd, Nat.reduceMul, Nat.reduceLeDiff, Nat.reduceLT, Nat.reduceSub, ↓reduceIte, reduceCtorEq, hq]; (repeat (refine And.intro (by first | assumption | omega | decide | (simp; done) | (simp; omega) | (have hq := hvv hgt; omega) | (have hq := hvv hgt.1; omega) | (simp_all; done)) ?_)); exact Or.inl hKq) : evD fz P ds (o :: l) σ K :=
  evD_step fun Kq hKq => h Kq (hKq _ k)
theorem evD_bc {ds : List (Option Tmp)} {o : Oper} {l : List Oper} {σ σ' : St} {K : St → Prop}
    (k : evD fz P ds l σ' K) (h : ∀ Kq : St → Prop, Kq σ' → evDO fz P ds o σ Kq := by intro Kq hKq; simp (maxSteps := 4000000) (disch := first | assumption | omega | (simp only [go_sem, *]; done) | (simp only [go_sem, *]; omega)) only [go_sem, isE, isO, stpO, notIn, St.bare, Bool.false_and, Bool.true_and, Bool.and_true, Bool.not_true, Bool.not_false, Int.reduceToNat, Nat.reduceBEq, Nat.reduceEqDiff, Nat.reduceAdd, Nat.reduceMul, Nat.reduceLeDiff, Nat.reduceLT, Nat.reduceSub, ↓reduceIte, reduceCtorEq, hq]; (repeat (refine And.intro (by first | assumption | omega | decide | (simp; done) | (simp; omega) | (have hq := hvv hgt; omega) | (have hq := hvv hgt.1; omega) | (simp_all; done)) ?_)); exact Or.inr hKq) : evD fz P ds (o :: l) σ K :=
  evD_step fun Kq hKq => h Kq (hKq _ k)
theorem evD_g {ds : List (Option Tmp)} {dst : Option Tmp} {op : Op} {ty : TypeId} {pos : String} {after : Array Edge} {j : Nat} {want : Bool} {d : Nat} {l : List Oper} {σ σ' : St} {K : St → Prop} {gb : Bool} {v0 : V} (k : evD fz P ds l σ' K)
    (he : isE fz ⟨dst, op, ty, pos, after, some (j, want)⟩ = false := by rfl) (hj : nth ds j = some d := by rfl) (hg : ∀ K' : Bool → Prop, K' gb → gof (σ.get (.tmp d)) want K' := by intro K3 h3; simp (maxSteps := 4000000) (disch := first | assumption | omega | (simp only [go_sem, *]; done) | (simp only [go_sem, *]; omega)) only [go_sem, isE, isO, stpO, notIn, St.bare, Bool.false_and, Bool.true_and, Bool.and_true, Bool.not_true, Bool.not_false, Int.reduceToNat, Nat.reduceBEq, Nat.reduceEqDiff, Nat.reduceAdd, Nat.reduceMul, Nat.reduceLeDiff, Nat.reduceLT, Nat.reduceSub, ↓reduceIte, reduceCtorEq, hq]; exact h3)
    (hs : gb = true → stp P σ (some gb) op fun v s => v = v0 ∧ s = σ := by intro hgt; (try simp only [decide_eq_true_eq, decide_eq_false_iff_not, Bool.not_eq_true', Bool.not_eq_false', Bool.and_eq_true, Bool.or_eq_true, Bool.and_eq_false_iff, Bool.or_eq_false_iff, beq_true, beq_false] at hgt); simp (maxSteps := 4000000) (disch := first | assumption | omega | (simp only [go_sem, *]; done) | (simp only [go_sem, *]; omega)) only [go_sem, isE, isO, stpO, notIn, St.bare, Bool.false_and, Bool.true_and, Bool.and_true, Bool.not_true, Bool.not_false, Int.reduceToNat, Nat.reduceBEq, Nat.reduceEqDiff, Nat.reduceAdd, Nat.reduceMul, Nat.reduceLeDiff, Nat.reduceLT, Nat.reduceSub, ↓reduceIte, reduceCtorEq, hq]; (repeat (refine And.intro (by first | assumption | omega | decide | (simp; done) | (simp; omega) | (have hq := hvv hgt; omega) | (have hq := hvv hgt.1; omega) | (simp_all; done)) ?_)); first | rfl | exact ⟨rfl, rfl⟩ | (refine Or.inl ?_; rfl) | (refine Or.inl ?_; exact ⟨rfl, rfl⟩))
    (hp : σ.put dst (.gd gb v0) = σ' := by simp only [St.put]; rfl) : evD fz P ds (⟨dst, op, ty, pos, after, some (j, want)⟩ :: l) σ K :=
  evD_step fun Kq hKq => evDO_guard he hj hg hs (by rw [hp]; exact hKq _ k)
theorem evD_gf {ds : List (Option Tmp)} {dst : Option Tmp} {op : Op} {ty : TypeId} {pos : String} {after : Array Edge} {j : Nat} {want : Bool} {d : Nat} {l : List Oper} {σ σ' : St} {K : St → Prop} (v0 : V) (k : evD fz P ds l σ' K)
    (he : isE fz ⟨dst, op, ty, pos, after, some (j, want)⟩ = false := by rfl) (hj : nth ds j = some d := by rfl) (hg : ∀ K' : Bool → Prop, K' false → gof (σ.get (.tmp d)) want K' := by intro K3 h3; simp (maxSteps := 4000000) (disch := first | assumption | omega | (simp only [go_sem, *]; done) | (simp only [go_sem, *]; omega)) only [go_sem, isE, isO, stpO, notIn, St.bare, Bool.false_and, Bool.true_and, Bool.and_true, Bool.not_true, Bool.not_false, Int.reduceToNat, Nat.reduceBEq, Nat.reduceEqDiff, Nat.reduceAdd, Nat.reduceMul, Nat.reduceLeDiff, Nat.reduceLT, Nat.reduceSub, ↓reduceIte, reduceCtorEq, hq, Int.lt_irrefl, Nat.lt_irrefl, Bool.and_false, beq_iff_eq]; exact h3)
    (hp : σ.put dst (.gd false v0) = σ' := by simp only [St.put]; rfl) : evD fz P ds (⟨dst, op, ty, pos, after, some (j, want)⟩ :: l) σ K :=
  evD_step fun Kq hKq => evDO_guard he hj hg (fun h => by cases h) (by rw [hp]; exact hKq _ k)
theorem evD_c {ds : List (Option Tmp)} {o : Oper} {l : List Oper} {σ : St} {K : St → Prop} {f : FuncId} {args : List V} {r : V} {F : V → St}
    (h : ∀ (Kq : St → Prop) (r : V), CallsA P f args r → Kq (F r) → evDO fz P ds o σ Kq := by intro Kq r hc hKq; simp (maxSteps := 4000000) (disch := first | assumption | omega | (simp only [go_sem, *]; done) | (simp only [go_sem, *]; omega)) only [go_sem, isE, isO, stpO, notIn, St.bare, Bool.false_and, Bool.true_and, Bool.and_true, Bool.not_true, Bool.not_false, Int.reduceToNat, Nat.reduceBEq, Nat.reduceEqDiff, Nat.reduceAdd, Nat.reduceMul, Nat.reduceLeDiff, Nat.reduceLT, Nat.reduceSub, ↓reduceIte, reduceCtorEq, hq]; (repeat (refine And.intro (by first | assumption | omega | decide | (simp; done) | (simp; omega) | (have hq := hvv hgt; omega) | (have hq := hvv hgt.1; omega) | (simp_all; done)) ?_)); exact ⟨r, hc, hKq⟩)
    (hc : CallsA P f args r) (k : evD fz P ds l (F r) K) : evD fz P ds (o :: l) σ K :=
  evD_step fun Kq hKq => h Kq r hc (hKq _ k)
theorem evD_gc {ds : List (Option Tmp)} {dst : Option Tmp} {op : Op} {ty : TypeId} {pos : String} {after : Array Edge} {j : Nat} {want : Bool} {d : Nat} {l : List Oper} {σ σ' : St} {K : St → Prop} {gb : Bool} {f : FuncId} {args : List V} {r : V}
    (he : isE fz ⟨dst, op, ty, pos, after, some (j, want)⟩ = false := by rfl) (hj : nth ds j = some d := by rfl) (hg : ∀ K' : Bool → Prop, K' gb → gof (σ.get (.tmp d)) want K' := by intro K3 h3; simp (maxSteps := 4000000) (disch := first | assumption | omega | (simp only [go_sem, *]; done) | (simp only [go_sem, *]; omega)) only [go_sem, isE, isO, stpO, notIn, St.bare, Bool.false_and, Bool.true_and, Bool.and_true, Bool.not_true, Bool.not_false, Int.reduceToNat, Nat.reduceBEq, Nat.reduceEqDiff, Nat.reduceAdd, Nat.reduceMul, Nat.reduceLeDiff, Nat.reduceLT, Nat.reduceSub, ↓reduceIte, reduceCtorEq, hq]; exact h3)
    (hs : ∀ r : V, CallsA P f args r → gb = true → stp P σ (some gb) op fun v s => v = r ∧ s = σ := by intro r hc hgt; (try simp only [decide_eq_true_eq, decide_eq_false_iff_not, Bool.not_eq_true', Bool.not_eq_false', Bool.and_eq_true, Bool.or_eq_true, Bool.and_eq_false_iff, Bool.or_eq_false_iff, beq_true, beq_false] at hgt); simp (maxSteps := 4000000) (disch := first | assumption | omega | (simp only [go_sem, *]; done) | (simp only [go_sem, *]; omega)) only [go_sem, isE, isO, stpO, notIn, St.bare, Bool.false_and, Bool.true_and, Bool.and_true, Bool.not_true, Bool.not_false, Int.reduceToNat, Nat.reduceBEq, Nat.reduceEqDiff, Nat.reduceAdd, Nat.reduceMul, Nat.reduceLeDiff, Nat.reduceLT, Nat.reduceSub, ↓reduceIte, reduceCtorEq, hq]; (repeat (refine And.intro (by first | assumption | omega | decide | (simp; done) | (simp; omega) | (have hq := hvv hgt; omega) | (have hq := hvv hgt.1; omega) | (simp_all; done)) ?_)); (refine ⟨_, hc, ?_⟩); first | rfl | exact ⟨rfl, rfl⟩)
    (hc : CallsA P f args r)
    (hp : σ.put dst (.gd gb r) = σ' := by simp only [St.put]; rfl) (k : evD fz P ds l σ' K) : evD fz P ds (⟨dst, op, ty, pos, after, some (j, want)⟩ :: l) σ K :=
  evD_step fun Kq hKq => evDO_guard he hj hg (hs r hc) (by rw [hp]; exact hKq _ k)
theorem evD_gch {ds : List (Option Tmp)} {dst : Option Tmp} {op : Op} {ty : TypeId} {pos : String} {after : Array Edge} {j : Nat} {want : Bool} {d : Nat} {l : List Oper} {σ σ' : St} {K : St → Prop} {gb : Bool} {f : FuncId} {args : List V} {r : V}
    (he : isE fz ⟨dst, op, ty, pos, after, some (j, want)⟩ = false := by rfl) (hj : nth ds j = some d := by rfl) (hg : ∀ K' : Bool → Prop, K' gb → gof (σ.get (.tmp d)) want K' := by intro K3 h3; simp (maxSteps := 4000000) (disch := first | assumption | omega | (simp only [go_sem, *]; done) | (simp only [go_sem, *]; omega)) only [go_sem, isE, isO, stpO, notIn, St.bare, Bool.false_and, Bool.true_and, Bool.and_true, Bool.not_true, Bool.not_false, Int.reduceToNat, Nat.reduceBEq, Nat.reduceEqDiff, Nat.reduceAdd, Nat.reduceMul, Nat.reduceLeDiff, Nat.reduceLT, Nat.reduceSub, ↓reduceIte, reduceCtorEq, hq]; exact h3)
    (hs : ∀ r : V, (gb = true → CallsA P f args r) → gb = true → stp P σ (some gb) op fun v s => v = r ∧ s = σ := by intro r hc hgt; have hc1 := hc hgt; (try simp only [decide_eq_true_eq, decide_eq_false_iff_not, Bool.not_eq_true', Bool.not_eq_false', Bool.and_eq_true, Bool.or_eq_true, Bool.and_eq_false_iff, Bool.or_eq_false_iff, beq_true, beq_false] at hgt); simp (maxSteps := 4000000) (disch := first | assumption | omega | (simp only [go_sem, *]; done) | (simp only [go_sem, *]; omega)) only [go_sem, isE, isO, stpO, notIn, St.bare, Bool.false_and, Bool.true_and, Bool.and_true, Bool.not_true, Bool.not_false, Int.reduceToNat, Nat.reduceBEq, Nat.reduceEqDiff, Nat.reduceAdd, Nat.reduceMul, Nat.reduceLeDiff, Nat.reduceLT, Nat.reduceSub, ↓reduceIte, reduceCtorEq, hq]; (repeat (refine And.intro (by first | assumption | omega | decide | (simp; done) | (simp; omega) | (have hq := hvv hgt; omega) | (have hq := hvv hgt.1; omega) | (simp_all; done)) ?_)); (refine ⟨_, hc1, ?_⟩); first | rfl | exact ⟨rfl, rfl⟩)
    (hc : gb = true → CallsA P f args r)
    (hp : σ.put dst (.gd gb r) = σ' := by simp only [St.put]; rfl) (k : evD fz P ds l σ' K) : evD fz P ds (⟨dst, op, ty, pos, after, some (j, want)⟩ :: l) σ K :=
  evD_step fun Kq hKq => evDO_guard he hj hg (hs r hc) (by rw [hp]; exact hKq _ k)
theorem evD_e {ds : List (Option Tmp)} {σ σ' : St} {K : St → Prop} {Ψ : Exit → St → Prop} {kp : List Nat} (hK : ∀ s, Ψ .normal (s.norm kp) → K s) (k : Ψ .normal σ')
    (hn : σ.norm kp = σ' := by simp only [St.norm, List.filterMap, List.lookup, Option.map, Nat.reduceBEq]; rfl) : evD fz P ds [] σ K := hK σ (hn ▸ k)
theorem evD_o {ds : List (Option Tmp)} {o : Oper} {l : List Oper} {σ : St} {K : St → Prop} {f : FuncId} {args : List V} {e z : Nat} {rows : List (List V)} {F : Nat → Nat → List (List V) → St}
    (h : ∀ (Kq : St → Prop) (e z : Nat) (rows : List (List V)), CallsO P f args e z rows → Kq (F e z rows) → evDO fz P ds o σ Kq := by intro Kq e z rows hc hKq; simp (maxSteps := 4000000) (disch := first | assumption | omega | (simp only [go_sem, *]; done) | (simp only [go_sem, *]; omega)) only [go_sem, isE, isO, stpO, notIn, St.bare, Bool.false_and, Bool.true_and, Bool.and_true, Bool.not_true, Bool.not_false, Int.reduceToNat, Nat.reduceBEq, Nat.reduceEqDiff, Nat.reduceAdd, Nat.reduceMul, Nat.reduceLeDiff, Nat.reduceLT, Nat.reduceSub, ↓reduceIte, reduceCtorEq, hq]; (repeat (refine And.intro (by first | assumption | omega | decide | (simp; done) | (simp; omega) | (have hq := hvv hgt; omega) | (have hq := hvv hgt.1; omega) | (simp_all; done)) ?_)); (refine Or.inl ?_); (repeat (refine And.intro (by first | assumption | omega | decide | (simp; done) | (simp; omega) | (have hq := hvv hgt; omega) | (have hq := hvv hgt.1; omega) | (simp_all; done)) ?_)); exact ⟨e, z, rows, hc, hKq⟩)
    (hc : CallsO P f args e z rows) (k : evD fz P ds l (F e z rows) K) : evD fz P ds (o :: l) σ K :=
  evD_step fun Kq hKq => h Kq e z rows hc (hKq _ k)
theorem tr_condB {c : Operand} {x y : Code} {σ : St} {Ψ : Exit → St → Prop} {b : Bool} {p q : Prop} (ht : p → Tr C x σ Ψ) (hf : q → Tr C y σ Ψ) (hb : σ.get c = .bool b := by rfl)
    (e1 : (b = true) = p := by first | (simp only [decide_eq_true_eq, decide_eq_false_iff_not, Bool.not_eq_true', Bool.not_eq_false', Bool.and_eq_true, Bool.or_eq_true, Bool.and_eq_false_iff, Bool.or_eq_false_iff, beq_true, beq_false]; exact rfl) | exact rfl) (e2 : (b = false) = q := by first | (simp only [decide_eq_true_eq, decide_eq_false_iff_not, Bool.not_eq_true', Bool.not_eq_false', Bool.and_eq_true, Bool.or_eq_true, Bool.and_eq_false_iff, Bool.or_eq_false_iff, beq_true, beq_false]; exact rfl) | exact rfl) : Tr C (.cond c x y) σ Ψ := tr_cond hb (fun h => ht (e1 ▸ h)) (fun h => hf (e2 ▸ h))
end
end Go.Proofs.YtgmgifmfhpoglaaDoor

namespace Go.Proofs.YtgmgifmfhpoglaaDoor
open Go.RowKit
def pickW (c n : Int) : Int := if c < 0 then Int.tmod (IntKind.i64.wrap (0 - IntKind.i64.wrap (c + 1))) n else Int.tmod c n
/-- The place of the first that is so, or -1. -/
def idxOf {α : Type} (p : α → Bool) : List α → Int
  | [] => -1
  | x :: xs => if p x then 0 else (let r := idxOf p xs; if r < 0 then -1 else r + 1)
theorem idxOf_ge {α : Type} (p : α → Bool) : ∀ xs : List α, decide (0 ≤ idxOf p xs) = xs.any p
  | [] => by simp [idxOf]
  | x :: xs => by
    have ih := idxOf_ge p xs
    simp only [idxOf, List.any_cons]
    cases hp : p x with
    | true => simp
    | false =>
      simp only [Bool.false_eq_true, if_false, Bool.false_or, ← ih]
      by_cases h : idxOf p xs < 0
      · rw [if_pos h]; simp; omega
      · rw [if_neg h]
        have h1 : 0 ≤ idxOf p xs := by omega
        have h2 : 0 ≤ idxOf p xs + 1 := by omega
        simp [h1, h2]
theorem idxOf_none {α : Type} (p : α → Bool) : ∀ xs : List α, (∀ x ∈ xs, p x = false) → idxOf p xs = -1
  | [], _ => rfl
  | x :: xs, h => by simp [idxOf, h x (by simp), idxOf_none p xs fun y hy => h y (by simp [hy])]
theorem idxOf_at {α : Type} (p : α → Bool) (d : α) : ∀ (xs : List α) (i : Nat), i < xs.length → (∀ j, j < i → p (xs.getD j d) = false) → p (xs.getD i d) = true → idxOf p xs = i
  | [], i, h, _, _ => by simp at h
  | x :: xs, 0, _, _, h => by simp at h; simp [idxOf, h]
  | x :: xs, i + 1, hl, h, hi => by
    have h0 := h 0 (by omega)
    simp at h0
    have ih := idxOf_at p d xs i (by simpa using hl) (fun j hj => by simpa using h (j + 1) (by omega)) (by simpa using hi)
    simp only [idxOf, h0, Bool.false_eq_true, if_false, ih]
    rw [if_neg (by omega)]; omega
theorem getD_mem {α : Type} {d : α} {xs : List α} {i : Nat} (h : i < xs.length) : xs.getD i d ∈ xs := by simp [List.getD, h]
theorem step_false {α : Type} {d : α} {xs : List α} {p : α → Bool} {i : Nat} (h : ∀ j, j < i → p (xs.getD j d) = false) (hi : p (xs.getD i d) = false) : ∀ j, j < i + 1 → p (xs.getD j d) = false := by
  intro j hj
  rcases Nat.lt_or_ge j i with h1 | h1
  · exact h j h1
  · have : j = i := by omega
    subst this; exact hi
theorem all_false {α : Type} (d : α) {xs : List α} {p : α → Bool} {i : Nat} (h : ∀ j, j < i → p (xs.getD j d) = false) (hi : xs.length ≤ i) : ∀ x ∈ xs, p x = false := by
  intro x hx
  obtain ⟨j, hj, rfl⟩ := List.getElem_of_mem hx
  have := h j (by omega)
  simpa [List.getD, hj] using this
theorem w64 {x : Int} (h : -9223372036854775808 ≤ x ∧ x ≤ 9223372036854775807) : IntKind.i64.wrap x = x := by
  unfold IntKind.wrap; simp [IntKind.signed, IntKind.bits]; omega
def validA (a : List Int) : Bool := !(a.any fun x => decide (x < 0) || decide (65535 < x))
def zeros16 : List Int := List.replicate 16 0
/-- The first n of 16 cells are done. -/
def outA (f : Nat → Int) (n : Nat) : List Int := (List.range 16).map fun j => if j < n then f j else 0
theorem outA_length (f : Nat → Int) (n : Nat) : (outA f n).length = 16 := by simp [outA]
theorem outA_zero (f : Nat → Int) : outA f 0 = List.replicate 16 0 := by simp [outA]; rfl
theorem outA_set (f : Nat → Int) {n : Nat} (h : n < 16) : (outA f n).set n (f n) = outA f (n + 1) := by
  apply List.ext_getElem?
  intro j
  simp only [outA, List.getElem?_set, List.length_map, List.length_range, List.getElem?_map]
  by_cases e : n = j
  · subst e; simp [h]
  · by_cases hj : j < 16
    · simp only [e, if_false, List.getElem?_range hj, Option.map_some]
      congr 1
      by_cases h1 : j < n
      · rw [if_pos h1, if_pos (by omega)]
      · rw [if_neg h1, if_neg (by omega)]
    · simp [e, hj]
theorem outA_all (p : Int → Int → Int) {a b : List Int} (ha : a.length = 16) (hb : b.length = 16) : outA (fun j => p (a.getD j 0) (b.getD j 0)) 16 = List.zipWith p a b := by
  apply List.ext_getElem?
  intro j
  simp only [outA, List.getElem?_map, List.getElem?_zipWith]
  by_cases hj : j < 16
  · have h1 : j < a.length := by omega
    have h2 : j < b.length := by omega
    simp [hj, h1, h2, List.getD]
  · have h1 : a[j]? = none := List.getElem?_eq_none (by omega)
    have h3 : (List.range 16)[j]? = none := List.getElem?_eq_none (by simp; omega)
    rw [h1, h3]; rfl
theorem outA_allg (p : Int → Int → Int) {a b : List Int} (ha : a.length = 16) (hb : b.length = 16) : outA (fun j => p (a[j]?.getD 0) (b[j]?.getD 0)) 16 = List.zipWith p a b := outA_all p ha hb
def eachA (p : Int → Int → Int) (a b : List Int) : List Int := if validA a && validA b then List.zipWith p a b else zeros16
theorem eachA_length (p : Int → Int → Int) {a b : List Int} (ha : a.length = 16) (hb : b.length = 16) : (eachA p a b).length = 16 := by
  unfold eachA; split <;> simp [ha, hb, zeros16]
theorem cellsI_inj {a b : List Int} (h : cellsI a = cellsI b) : a = b := by
  have : (cellsI a).map (fun v => match v with | .int _ n => n | _ => 0) = (cellsI b).map (fun v => match v with | .int _ n => n | _ => 0) := by rw [h]
  simpa [cellsI, List.map_map, Function.comp_def] using this
theorem agEq_cells (a b : List Int) : agEq (cellsI a) (cellsI b) = decide (a = b) := by
  unfold agEq
  by_cases h : a = b
  · subst h; simp
  · have h' : ¬ cellsI a = cellsI b := fun e => h (cellsI_inj e)
    simp [h, h']
theorem cellsI_isI (a : List Int) : (cellsI a).all (V.isI .i64) = true := by simp [cellsI, V.isI]
def minusA := eachA (bitsV .andNot .i64)
def unionA := eachA (bitsV .or .i64)
def meetA := eachA (bitsV .and .i64)
def withinA (a b : List Int) : Bool := validA a && (validA b && decide (minusA a b = zeros16))
/-- Cell x of a row. -/
def cellB (r x : Int) : Bool := decide (bitsV .and .i64 (shrW .i64 r x) 1 = 1)
def hasA (a : List Int) (x y : Int) : Bool := validA a && (decide (0 ≤ minV x y) && (decide (maxV x y < 16) && cellB (a.getD y.toNat 0) x))
theorem minV_le (x y : Int) : minV x y ≤ x ∧ minV x y ≤ y := by unfold minV; split <;> omega
theorem maxV_ge (x y : Int) : x ≤ maxV x y ∧ y ≤ maxV x y := by unfold maxV; split <;> omega
theorem ib (k : IntKind) : k = k := rfl
/-! #### how many -/
def onesW (x : Int) : Int :=
  let a := IntKind.u64.wrap (bitsV .and .u64 (shrW .u64 x 1) 6148914691236517205 + bitsV .and .u64 x 6148914691236517205)
  let b := IntKind.u64.wrap (bitsV .and .u64 (shrW .u64 a 2) 3689348814741910323 + bitsV .and .u64 a 3689348814741910323)
  let c := bitsV .and .u64 (IntKind.u64.wrap (shrW .u64 b 4 + b)) 1085102592571150095
  let d := IntKind.u64.wrap (c + shrW .u64 c 8)
  let e := IntKind.u64.wrap (d + shrW .u64 d 16)
  let f := IntKind.u64.wrap (e + shrW .u64 e 32)
  bitsV .and .i64 (IntKind.i64.wrap f) 127
theorem and127 (x : Int) : 0 ≤ bitsV .and .i64 x 127 ∧ bitsV .and .i64 x 127 ≤ 127 := by
  have h : (BitVec.ofInt 64 x &&& BitVec.ofInt 64 127).toNat ≤ 127 := by
    rw [BitVec.toNat_and]; exact Nat.and_le_right
  have e : bitsV .and .i64 x 127 = IntKind.i64.wrap ((BitVec.ofInt 64 x &&& BitVec.ofInt 64 127).toNat : Int) := rfl
  rw [e, w64 (by omega)]
  omega
theorem onesW_range (x : Int) : 0 ≤ onesW x ∧ onesW x ≤ 127 := and127 _
def sumTo (f : Nat → Int) : Nat → Int
  | 0 => 0
  | n + 1 => sumTo f n + f n
theorem sumTo_range {f : Nat → Int} (h : ∀ j, 0 ≤ f j ∧ f j ≤ 127) : ∀ n, 0 ≤ sumTo f n ∧ sumTo f n ≤ 127 * n
  | 0 => by simp [sumTo]
  | n + 1 => by have := sumTo_range h n; have := h n; simp only [sumTo]; omega
def rowOnes (a : List Int) (j : Nat) : Int := onesW (IntKind.u64.wrap (a.getD j 0))
def sizeA (a : List Int) : Int := if validA a then sumTo (rowOnes a) 16 else 0
/-! #### moved -/
def shiftW (r dx : Int) : Int := if 0 ≤ dx then bitsV .and .i64 (shlW .i64 r dx) 65535 else shrW .i64 r (0 - dx)
def outM (a : List Int) (dx dy : Int) (n : Nat) : List Int := (List.range 16).map fun (j : Nat) => if 0 ≤ (j : Int) - dy ∧ (j : Int) - dy < n then shiftW (a.getD ((j : Int) - dy).toNat 0) dx else 0
def moveA (a : List Int) (dx dy : Int) : List Int := if !validA a || decide (minV dx dy ≤ -16) || decide (16 ≤ maxV dx dy) then zeros16 else outM a dx dy 16
theorem outM_length (a : List Int) (dx dy : Int) (n : Nat) : (outM a dx dy n).length = 16 := by simp [outM]
theorem outM_zero (a : List Int) (dx dy : Int) : outM a dx dy 0 = List.replicate 16 0 := by
  simp only [outM]
  rw [show (List.replicate 16 (0 : Int)) = (List.range 16).map fun _ => 0 from rfl]
  refine List.map_congr_left fun j _ => ?_
  rw [if_neg (by omega)]
theorem outM_skip (a : List Int) (dx dy : Int) {n : Nat} (h : (n : Int) + dy < 0 ∨ 16 ≤ (n : Int) + dy) : outM a dx dy (n + 1) = outM a dx dy n := by
  refine List.map_congr_left fun j hj => ?_
  have hj' : j < 16 := by simpa using hj
  by_cases h1 : 0 ≤ (j : Int) - dy ∧ (j : Int) - dy < n
  · rw [if_pos h1, if_pos (by omega)]
  · rw [if_neg h1, if_neg (by omega)]
theorem outM_set (a : List Int) (dx dy : Int) {n : Nat} (h0 : 0 ≤ (n : Int) + dy) (h : (n : Int) + dy < 16) : (outM a dx dy n).set ((n : Int) + dy).toNat (shiftW (a.getD n 0) dx) = outM a dx dy (n + 1) := by
  apply List.ext_getElem?
  intro j
  simp only [outM, List.getElem?_set, List.length_map, List.length_range, List.getElem?_map]
  by_cases e : ((n : Int) + dy).toNat = j
  · have hj : j < 16 := by omega
    have h2 : (j : Int) - dy = n := by omega
    simp only [e, if_true, hj, List.getElem?_range hj, Option.map_some, h2]
    rw [if_pos (by omega)]
    rfl
  · by_cases hj : j < 16
    · simp only [e, if_false, List.getElem?_range hj, Option.map_some]
      congr 1
      by_cases h1 : 0 ≤ (j : Int) - dy ∧ (j : Int) - dy < n
      · rw [if_pos h1, if_pos (by omega)]
      · rw [if_neg h1, if_neg (by omega)]
    · simp [e, hj]
/-! #### places -/
structure Pl where
  x : Int
  y : Int
def encP (l : List Pl) : List (List V) := l.map fun p => [V.int .i64 p.x, V.int .i64 p.y]
theorem encP_length (l : List Pl) : (encP l).length = l.length := by simp [encP]
theorem encP_getD (l : List Pl) (k : Nat) (h : k < l.length) : (encP l).getD k [] = [V.int .i64 (l.getD k ⟨0, 0⟩).x, V.int .i64 (l.getD k ⟨0, 0⟩).y] := by simp [encP, List.getD, h]
def onMap (p : Pl) : Bool := decide (0 ≤ minV p.x p.y) && decide (maxV p.x p.y ≤ 64)
theorem onMap_spec {p : Pl} (h : onMap p = true) : 0 ≤ p.x ∧ p.x ≤ 64 ∧ 0 ≤ p.y ∧ p.y ≤ 64 := by
  simp [onMap] at h
  have := minV_le p.x p.y
  have := maxV_ge p.x p.y
  omega
theorem onMap_mk {p : Pl} (h : 0 ≤ p.x ∧ p.x ≤ 64 ∧ 0 ≤ p.y ∧ p.y ≤ 64) : onMap p = true := by
  have h1 : 0 ≤ minV p.x p.y := by unfold minV; split <;> omega
  have h2 : maxV p.x p.y ≤ 64 := by unfold maxV; split <;> omega
  simp [onMap, h1, h2]
theorem mulB {u v : Int} (h1 : -64 ≤ u) (h2 : u ≤ 64) (h3 : -64 ≤ v) (h4 : v ≤ 64) : -4096 ≤ u * v ∧ u * v ≤ 4096 := by
  have e : (64 - u) * (64 + v) ≥ 0 := Int.mul_nonneg (by omega) (by omega)
  have e2 : (64 + u) * (64 - v) ≥ 0 := Int.mul_nonneg (by omega) (by omega)
  have e3 : (64 - u) * (64 - v) ≥ 0 := Int.mul_nonneg (by omega) (by omega)
  have e4 : (64 + u) * (64 + v) ≥ 0 := Int.mul_nonneg (by omega) (by omega)
  simp only [Int.sub_mul, Int.mul_sub, Int.add_mul, Int.mul_add] at e e2 e3 e4
  omega
def turnP (a b c : Pl) : Int := (b.x - a.x) * (c.y - a.y) - (b.y - a.y) * (c.x - a.x)
theorem turnP_range {a b c : Pl} (ha : onMap a = true) (hb : onMap b = true) (hc : onMap c = true) : -8192 ≤ turnP a b c ∧ turnP a b c ≤ 8192 := by
  have ha := onMap_spec ha
  have hb := onMap_spec hb
  have hc := onMap_spec hc
  have h1 := mulB (u := b.x - a.x) (v := c.y - a.y) (by omega) (by omega) (by omega) (by omega)
  have h2 := mulB (u := b.y - a.y) (v := c.x - a.x) (by omega) (by omega) (by omega) (by omega)
  unfold turnP; omega
theorem turn_wrap {a b c : Pl} (ha : onMap a = true) (hb : onMap b = true) (hc : onMap c = true) :
    IntKind.i64.wrap (IntKind.i64.wrap (IntKind.i64.wrap (b.x - a.x) * IntKind.i64.wrap (c.y - a.y)) - IntKind.i64.wrap (IntKind.i64.wrap (b.y - a.y) * IntKind.i64.wrap (c.x - a.x))) = turnP a b c := by
  have hr := turnP_range ha hb hc
  have ha := onMap_spec ha
  have hb := onMap_spec hb
  have hc := onMap_spec hc
  have h1 := mulB (u := b.x - a.x) (v := c.y - a.y) (by omega) (by omega) (by omega) (by omega)
  have h2 := mulB (u := b.y - a.y) (v := c.x - a.x) (by omega) (by omega) (by omega) (by omega)
  rw [w64 (x := b.x - a.x) (by omega), w64 (x := c.y - a.y) (by omega), w64 (x := b.y - a.y) (by omega), w64 (x := c.x - a.x) (by omega), w64 (x := (b.x - a.x) * (c.y - a.y)) (by omega), w64 (x := (b.y - a.y) * (c.x - a.x)) (by omega)]
  exact w64 (by unfold turnP at hr; omega)
def validP (l : List Pl) : Bool := decide (3 ≤ (l.length : Int)) && (decide ((l.length : Int) ≤ 12) && !(l.any fun p => !onMap p))
theorem validP_len {l : List Pl} (h : validP l = true) : 3 ≤ l.length ∧ l.length ≤ 12 ∧ ∀ p ∈ l, onMap p = true := by
  simp [validP] at h
  exact ⟨by omega, by omega, h.2.2⟩
/-! #### where a place is -/
def nearP (a b p : Pl) : Bool := ((decide (minV a.x b.x ≤ p.x) && decide (p.x ≤ maxV a.x b.x)) && decide (minV a.y b.y ≤ p.y)) && decide (p.y ≤ maxV a.y b.y)
def hitP (a b p : Pl) : Bool := decide (turnP a b p = 0) && nearP a b p
def crossP (a b p : Pl) : Bool := ((decide (a.y ≤ p.y) && decide (p.y < b.y)) && decide (0 < turnP a b p)) || ((decide (b.y ≤ p.y) && decide (p.y < a.y)) && decide (turnP a b p < 0))
def sideGo (p : Pl) (a : Pl) (out : Int) : List Pl → Int
  | [] => out
  | b :: bs => if hitP a b p then 0 else sideGo p b (if crossP a b p then 0 - out else out) bs
def sideP (l : List Pl) (p : Pl) : Int := sideGo p (l.getD (l.length - 1) ⟨0, 0⟩) (-1) l
theorem drop_cons {α : Type} {d : α} {l : List α} {i : Nat} (h : i < l.length) : l.drop i = l.getD i d :: l.drop (i + 1) := by
  rw [List.drop_eq_getElem_cons h]; simp [List.getD, h]
theorem sideGo_hit {p a : Pl} {out : Int} {l : List Pl} {i : Nat} (h : i < l.length) (hit : hitP a (l.getD i ⟨0, 0⟩) p = true) : sideGo p a out (l.drop i) = 0 := by
  rw [drop_cons (d := ⟨0, 0⟩) h]; simp only [sideGo, hit, if_true]
theorem sideGo_cross {p a : Pl} {out : Int} {l : List Pl} {i : Nat} (h : i < l.length) (hit : hitP a (l.getD i ⟨0, 0⟩) p = false) (hc : crossP a (l.getD i ⟨0, 0⟩) p = true) :
    sideGo p (l.getD i ⟨0, 0⟩) (0 - out) (l.drop (i + 1)) = sideGo p a out (l.drop i) := by
  rw [drop_cons (d := ⟨0, 0⟩) h]; simp only [sideGo, hit, hc, if_true, Bool.false_eq_true, if_false]
theorem sideGo_miss {p a : Pl} {out : Int} {l : List Pl} {i : Nat} (h : i < l.length) (hit : hitP a (l.getD i ⟨0, 0⟩) p = false) (hc : crossP a (l.getD i ⟨0, 0⟩) p = false) :
    sideGo p (l.getD i ⟨0, 0⟩) out (l.drop (i + 1)) = sideGo p a out (l.drop i) := by
  rw [drop_cons (d := ⟨0, 0⟩) h]; simp only [sideGo, hit, hc, Bool.false_eq_true, if_false]
def insideP (l : List Pl) (p : Pl) : Int := if validP l && onMap p then sideP l p else -1
/-! #### the cells that are so -/
def rowG (g : Nat → Nat → Bool) (y : Nat) : Nat → Int
  | 0 => 0
  | n + 1 => if g n y = true then bitsV .or .i64 (rowG g y n) (shlW .i64 1 n) else rowG g y n
theorem rowG_succ (g : Nat → Nat → Bool) (y n : Nat) : rowG g y (n + 1) = if g n y = true then bitsV .or .i64 (rowG g y n) (shlW .i64 1 n) else rowG g y n := rfl
def cellsG (g : Nat → Nat → Bool) : List Int := outA (fun j => rowG g j 16) 16
theorem cellsG_length (g : Nat → Nat → Bool) : (cellsG g).length = 16 := outA_length _ _
theorem outA_set0 (f : Nat → Int) {n : Nat} (h : n < 16) : (outA f n).set n 0 = outA f n := by
  apply List.ext_getElem?
  intro j
  simp only [outA, List.getElem?_set, List.length_map, List.length_range, List.getElem?_map]
  by_cases e : n = j
  · subst e; simp [h]
  · simp [e]
theorem outR_zero (g : Nat → Nat → Bool) {y : Nat} (h : y < 16) : (outA (fun j => rowG g j 16) y).set y (rowG g y 0) = outA (fun j => rowG g j 16) y := outA_set0 _ h
theorem getD_set_same (xs : List Int) (k : Nat) (v : Int) (h : k < xs.length) : (xs.set k v).getD k 0 = v := by simp [List.getD, h]
def ctr (x y : Nat) : Pl := ⟨4 * (x : Int) + 2, 4 * (y : Int) + 2⟩
theorem ctr_on {x y : Nat} (hx : x < 16) (hy : y < 16) : onMap (ctr x y) = true := onMap_mk (by simp only [ctr]; omega)
def polyA (l : List Pl) : List Int × Int := if validP l then (cellsG fun x y => decide (0 ≤ sideP l (ctr x y)), 0) else (zeros16, 210)
def nearR (q p : Pl) (r : Int) : Bool := decide ((q.x - p.x) * (q.x - p.x) + (q.y - p.y) * (q.y - p.y) ≤ r * r)
theorem sqB {u : Int} (h1 : -100 ≤ u) (h2 : u ≤ 100) : 0 ≤ u * u ∧ u * u ≤ 10000 := by
  have e : (100 - u) * (100 + u) ≥ 0 := Int.mul_nonneg (by omega) (by omega)
  have e2 : u * u ≥ 0 := by
    rcases Int.le_total 0 u with h | h
    · exact Int.mul_nonneg h h
    · exact Int.mul_nonneg_of_nonpos_of_nonpos h h
  have e3 : 100 * u = u * 100 := Int.mul_comm _ _
  simp only [Int.sub_mul, Int.mul_add] at e
  omega
theorem near_wrap {q p : Pl} {r : Int} (hq : onMap q = true) (hp : onMap p = true) (h0 : 0 ≤ r) (h1 : r ≤ 100) :
    decide (IntKind.i64.wrap (IntKind.i64.wrap (IntKind.i64.wrap (q.x - p.x) * IntKind.i64.wrap (q.x - p.x)) + IntKind.i64.wrap (IntKind.i64.wrap (q.y - p.y) * IntKind.i64.wrap (q.y - p.y))) ≤ IntKind.i64.wrap (r * r)) = nearR q p r := by
  have hq := onMap_spec hq
  have hp := onMap_spec hp
  have e1 := sqB (u := q.x - p.x) (by omega) (by omega)
  have e2 := sqB (u := q.y - p.y) (by omega) (by omega)
  have e3 := sqB (u := r) (by omega) (by omega)
  rw [w64 (x := q.x - p.x) (by omega), w64 (x := q.y - p.y) (by omega), w64 (x := (q.x - p.x) * (q.x - p.x)) (by omega), w64 (x := (q.y - p.y) * (q.y - p.y)) (by omega), w64 (x := r * r) (by omega), w64 (by omega)]
  rfl
def discA (p : Pl) (r : Int) : List Int × Int := if onMap p && (decide (0 ≤ r) && decide (r ≤ 100)) then (cellsG fun x y => nearR (ctr x y) p r, 0) else (zeros16, 210)
theorem discA_bad {p : Pl} {r : Int} (h : (onMap p = false ∨ r < 0) ∨ 100 < r) : discA p r = (zeros16, 210) := by
  unfold discA
  rcases h with (h | h) | h
  · simp [h]
  · have : ¬ 0 ≤ r := by omega
    simp [this]
  · have : ¬ r ≤ 100 := by omega
    simp [this]
theorem discA_ok {p : Pl} {r : Int} (h : onMap p = true) (h0 : 0 ≤ r) (h1 : r ≤ 100) : discA p r = (cellsG fun x y => nearR (ctr x y) p r, 0) := by
  simp [discA, h, h0, h1]
/-! #### made -/
def placeP (p : Pl) : Pl := ⟨pickW p.x 65, pickW p.y 65⟩
def padA (j : Nat) : Pl := ⟨20 * (j : Int), 30 * ((j : Int).tmod 2)⟩
def padP (a : List Pl) (j : Nat) : List Pl := a ++ ((List.range j).drop a.length).map padA
def madeP (l : List Pl) : List Pl := padP ((l.take 9).map placeP) (max 3 ((l.take 9).map placeP).length)
theorem encP_snoc (a : List Pl) (p : Pl) : encP (a ++ [p]) = encP a ++ [[V.int .i64 p.x, V.int .i64 p.y]] := by simp [encP]
theorem take_snoc {α β : Type} (f : α → β) (d : α) {l : List α} {i : Nat} (h : i < l.length) : (l.take (i + 1)).map f = (l.take i).map f ++ [f (l.getD i d)] := by
  rw [List.take_add_one, List.map_append]; simp [List.getD, h]
theorem padP_self (a : List Pl) {j : Nat} (h : j ≤ a.length) : padP a j = a := by simp [padP, List.drop_eq_nil_of_le, h]
theorem padP_snoc (a : List Pl) {j : Nat} (h : a.length ≤ j) : padP a (j + 1) = padP a j ++ [padA j] := by
  simp [padP, List.range_succ, List.drop_append_of_le_length, h]
theorem padP_length (a : List Pl) (j : Nat) : (padP a j).length = max a.length j := by simp [padP]; omega
theorem polyA_length (l : List Pl) : (polyA l).1.length = 16 := by unfold polyA; split <;> simp [cellsG_length, zeros16]
theorem discA_length (p : Pl) (r : Int) : (discA p r).1.length = 16 := by unfold discA; split <;> simp [cellsG_length, zeros16]
theorem pickW_range (c : Int) {n : Int} (hn : 0 < n) (hb : n ≤ 1000) (hc : -9223372036854775808 ≤ c ∧ c ≤ 9223372036854775807) : 0 ≤ pickW c n ∧ pickW c n < n := by
  unfold pickW
  split
  · rename_i h
    rw [w64 (x := c + 1) (by omega), w64 (by omega)]
    exact ⟨Int.tmod_nonneg _ (by omega), Int.tmod_lt_of_pos _ hn⟩
  · exact ⟨Int.tmod_nonneg _ (by omega), Int.tmod_lt_of_pos _ hn⟩
def okI (c : Int) : Prop := -9223372036854775808 ≤ c ∧ c ≤ 9223372036854775807
def okP (p : Pl) : Prop := okI p.x ∧ okI p.y
theorem placeP_on {p : Pl} (h : okP p) : onMap (placeP p) = true := by
  have h1 := pickW_range p.x (n := 65) (by omega) (by omega) h.1
  have h2 := pickW_range p.y (n := 65) (by omega) (by omega) h.2
  exact onMap_mk (by simp only [placeP]; omega)
def rectP (u v : Pl) : List Pl := [u, ⟨v.x, u.y⟩, v, ⟨u.x, v.y⟩]
end Go.Proofs.YtgmgifmfhpoglaaDoor

namespace Go.Proofs.YtgmgifmfhpoglaaDoor
open Go.RowKit
set_option linter.unusedVariables false
set_option linter.unusedSimpArgs false
theorem encI_snoc (a : List Int) (n : Int) : encI (a ++ [n]) = encI a ++ [[V.int .i64 n]] := by simp [encI]
theorem encI_drop (l : List Int) (n : Nat) : (encI l).drop n = encI (l.drop n) := by simp [encI, List.map_drop]
theorem encI_take (l : List Int) (n : Nat) : (encI l).take n = encI (l.take n) := by simp [encI, List.map_take]
theorem encI_app (a b : List Int) : encI a ++ encI b = encI (a ++ b) := by simp [encI]
structure Rw where
  kind : Int
  a : Int
  b : Int
  pl : Int
  coef : List Int
  most : Int
instance : Inhabited Rw := ⟨⟨0, 0, 0, 0, [], 0⟩⟩
def rw0 : Rw := ⟨0, 0, 0, 0, [], 0⟩
def encRw (r : Rw) : List V := [.int .i64 r.kind, .int .i64 r.a, .int .i64 r.b, .int .i64 r.pl, .sl 1 (encI r.coef), .int .i64 r.most]
def encR (l : List Rw) : List (List V) := l.map encRw
theorem encR_length (l : List Rw) : (encR l).length = l.length := by simp [encR]
theorem encR_getD (l : List Rw) (k : Nat) (h : k < l.length) : (encR l).getD k [] = encRw (l.getD k rw0) := by simp [encR, List.getD, h]
theorem encR_snoc (a : List Rw) (r : Rw) : encR (a ++ [r]) = encR a ++ [encRw r] := by simp [encR]
structure Pg where
  vars : Int
  rows : List Rw
  gain : List Int
def encPg (p : Pg) : List V := [.int .i64 p.vars, .sl 6 (encR p.rows), .sl 1 (encI p.gain)]
def cBit (set : Int) (i : Nat) : Bool := decide (bitsV .and .i64 (shrW .i64 set i) 1 = 1)
def chosenG (l : List Int) (set : Int) : Nat → Int
  | 0 => 0
  | n + 1 => if cBit set n then IntKind.i64.wrap (chosenG l set n + l.getD n 0) else chosenG l set n
def chosenW (l : List Int) (set : Int) : Int := chosenG l set l.length
theorem chosenG_t {l : List Int} {set : Int} {i : Nat} (h : cBit set i = true) : chosenG l set (i + 1) = IntKind.i64.wrap (chosenG l set i + l.getD i 0) := by simp [chosenG, h]
theorem chosenG_f {l : List Int} {set : Int} {i : Nat} (h : cBit set i = false) : chosenG l set (i + 1) = chosenG l set i := by simp [chosenG, h]
def isInB (n lo hi : Int) : Bool := decide (lo ≤ n) && decide (n ≤ hi)
theorem isInB_spec {n lo hi : Int} : isInB n lo hi = true ↔ lo ≤ n ∧ n ≤ hi := by simp [isInB]
def coefB (l : List Int) : Bool := l.all fun n => isInB n (-1000000000) 1000000000
def rightB (r : Rw) (vars : Int) : Bool := decide ((r.coef.length : Int) = vars) && (coefB r.coef && isInB r.most (-1000000000000) 1000000000000)
def validB (p : Pg) : Bool := isInB p.vars 0 12 && (decide ((p.rows.length : Int) ≤ 300) && (p.rows.all (fun r => rightB r p.vars) && (decide ((p.gain.length : Int) = p.vars) && coefB p.gain)))
theorem validB_vars {p : Pg} (h : validB p = true) : 0 ≤ p.vars ∧ p.vars ≤ 12 := by
  simp only [validB, Bool.and_eq_true] at h
  exact isInB_spec.1 h.1
def choiceB (p : Pg) (set : Int) : Bool := validB p && isInB set 0 (IntKind.i64.wrap (shlW .i64 1 p.vars - 1))
def keptB (r : Rw) (set : Int) : Bool := decide (chosenW r.coef set ≤ r.most)
def keepsB (p : Pg) (set : Int) : Bool := choiceB p set && p.rows.all fun r => keptB r set
def gainW (p : Pg) (set : Int) : Int := if choiceB p set then chosenW p.gain set else 0
def brkTo (p : Pg) (set : Int) : Nat → List Int
  | 0 => []
  | n + 1 => if keptB (p.rows.getD n rw0) set then brkTo p set n else brkTo p set n ++ [(n : Int)]
theorem brkTo_t {p : Pg} {set : Int} {i : Nat} (h : keptB (p.rows.getD i rw0) set = true) : brkTo p set (i + 1) = brkTo p set i := by simp only [brkTo, h, if_true]
theorem brkTo_f {p : Pg} {set : Int} {i : Nat} (h : keptB (p.rows.getD i rw0) set = false) : brkTo p set (i + 1) = brkTo p set i ++ [(i : Int)] := by simp only [brkTo, h]; rfl
theorem brkTo_length (p : Pg) (set : Int) : ∀ n, (brkTo p set n).length ≤ n
  | 0 => Nat.le_refl _
  | n + 1 => by have := brkTo_length p set n; simp only [brkTo]; split <;> (try simp) <;> omega
def brokenW (p : Pg) (set : Int) : List Int := if choiceB p set then brkTo p set p.rows.length else []
def sumW (r : Rw) (set : Int) : Int := if decide (12 < (r.coef.length : Int)) || (!rightB r r.coef.length || !isInB set 0 (IntKind.i64.wrap (shlW .i64 1 r.coef.length - 1))) then 0 else chosenW r.coef set
theorem all_not {α : Type} (p : α → Bool) (l : List α) : (!(l.any fun x => !p x)) = l.all p := by simp [List.all_eq_not_any_not]
theorem shl_small {k : Int} (h : 0 ≤ k ∧ k ≤ 12) : IntKind.i64.wrap (shlW .i64 1 k - 1) = shlW .i64 1 k - 1 ∧ 1 ≤ shlW .i64 1 k ∧ shlW .i64 1 k ≤ 4096 := by
  obtain ⟨n, rfl⟩ := Int.eq_ofNat_of_zero_le h.1
  have hn : n ≤ 12 := by omega
  have : ∀ n : Fin 13, IntKind.i64.wrap (shlW .i64 1 (n.val : Int) - 1) = shlW .i64 1 (n.val : Int) - 1 ∧ 1 ≤ shlW .i64 1 (n.val : Int) ∧ shlW .i64 1 (n.val : Int) ≤ 4096 := by decide +kernel
  exact this ⟨n, by omega⟩
theorem choiceB_rows {p : Pg} {set : Int} (h : choiceB p set = true) : p.rows.length ≤ 300 := by
  simp only [choiceB, validB, Bool.and_eq_true, decide_eq_true_eq] at h
  have := h.1.2.1
  omega
def negG (g : List Int) (n : Nat) : List Int := (g.take n).map fun x => IntKind.i64.wrap (0 - x)
theorem negG_succ {g : List Int} {n : Nat} (h : n < g.length) : negG g (n + 1) = negG g n ++ [IntKind.i64.wrap (0 - g.getD n 0)] := take_snoc _ _ h
theorem negG_length (g : List Int) (n : Nat) : (negG g n).length = min n g.length := by simp [negG]
/-- What 'goal' makes. -/
def goalW (p : Pg) (gain : Int) : Rw := ⟨0, 0, 0, 0, negG p.gain p.gain.length, IntKind.i64.wrap (0 - IntKind.i64.wrap (gain + 1))⟩
theorem take_one_eq {α : Type} {d : α} {a b : List α} {i : Nat} (ha : i < a.length) (hb : i < b.length) (h : a.take i = b.take i) (he : a.getD i d = b.getD i d) : a.take (i + 1) = b.take (i + 1) := by
  rw [List.take_add_one, List.take_add_one, h, List.getElem?_eq_getElem ha, List.getElem?_eq_getElem hb]
  simp only [List.getD, List.getElem?_eq_getElem ha, List.getElem?_eq_getElem hb, Option.getD_some] at he
  rw [he]
theorem ne_of_getD {α : Type} {d : α} {a b : List α} {i : Nat} (h : ¬ a.getD i d = b.getD i d) : a ≠ b := fun e => h (by rw [e])
theorem eq_of_take {α : Type} {a b : List α} (hl : a.length = b.length) (h : a.take a.length = b.take a.length) : a = b := by
  rw [List.take_length] at h
  rw [h, hl, List.take_length]
/-! #### proofs -/
/-- The least sum of a row, where the first things are decided. -/
def leastT (l : List Int) (s : Int) : Nat → Int
  | 0 => s
  | n + 1 => IntKind.i64.wrap (leastT l s n + minV 0 (l.getD n 0))
def leastW (r : Rw) (d : Nat) (set : Int) : Int := leastT (r.coef.drop d) (chosenW (r.coef.take d) set) (r.coef.drop d).length
structure Stp where
  var : Int
  no : Int
  yes : Int
  leaf : Option Int
def stp0 : Stp := ⟨0, 0, 0, none⟩
def encSt (s : Stp) : List V := [.int .i64 s.var, .int .i64 s.no, .int .i64 s.yes, match s.leaf with | some i => .sl 2 [[.int .i64 i, .int .i64 1]] | none => .nsl]
def encS (l : List Stp) : List (List V) := l.map encSt
theorem encS_length (l : List Stp) : (encS l).length = l.length := by simp [encS]
theorem encS_getD (l : List Stp) (k : Nat) (h : k < l.length) : (encS l).getD k [] = encSt (l.getD k stp0) := by simp [encS, List.getD, h]
theorem encS_snoc (a : List Stp) (s : Stp) : encS (a ++ [s]) = encS a ++ [encSt s] := by simp [encS]
theorem encS_set (a : List Stp) (k : Nat) (s : Stp) : encS (a.set k s) = (encS a).set k (encSt s) := by simp [encS, List.map_set]
def overB (d : Nat) (set : Int) (r : Rw) : Bool := decide (r.most < leastW r d set)
def setBit (set : Int) (d : Nat) : Int := bitsV .or .i64 set (shlW .i64 1 d)
def growN (rows : List Rw) : Nat → Nat → Int → List Stp → List Stp
  | 0, d, set, out => out ++ [⟨-1, 0, 0, some (idxOf (overB d set) rows)⟩]
  | n + 1, d, set, out =>
    if 0 ≤ idxOf (overB d set) rows then out ++ [⟨-1, 0, 0, some (idxOf (overB d set) rows)⟩]
    else
      let o1 := growN rows n (d + 1) set (out ++ [⟨d, 0, 0, none⟩])
      (growN rows n (d + 1) (setBit set d) o1).set out.length ⟨d, out.length + 1, o1.length, none⟩
theorem growN_length (rows : List Rw) : ∀ (n d : Nat) (set : Int) (out : List Stp), out.length < (growN rows n d set out).length ∧ (growN rows n d set out).length + 1 ≤ out.length + 2 ^ (n + 1)
  | 0, d, set, out => by simp [growN]
  | n + 1, d, set, out => by
    have hp : 2 ≤ 2 ^ (n + 1) := by have := Nat.one_le_two_pow (n := n); rw [Nat.pow_succ]; omega
    have hs : 2 ^ (n + 1 + 1) = 2 * 2 ^ (n + 1) := by rw [Nat.pow_succ (n := 2) (m := n + 1)]; omega
    simp only [growN]
    split
    · simp; omega
    · have h1 := growN_length rows n (d + 1) set (out ++ [⟨d, 0, 0, none⟩])
      have h2 := growN_length rows n (d + 1) (setBit set d) (growN rows n (d + 1) set (out ++ [⟨d, 0, 0, none⟩]))
      simp only [List.length_append, List.length_cons, List.length_nil, List.length_set] at h1 h2 ⊢
      omega
theorem growN_leaf {rows : List Rw} {d : Nat} {set : Int} (h : 0 ≤ idxOf (overB d set) rows) (out : List Stp) : ∀ n, growN rows n d set out = out ++ [⟨-1, 0, 0, some (idxOf (overB d set) rows)⟩]
  | 0 => rfl
  | n + 1 => by simp only [growN, if_pos h]
/-- There is no choice that keeps all rows. -/
def infN (rows : List Rw) : Nat → Nat → Int → Prop
  | 0, d, set => 0 ≤ idxOf (overB d set) rows
  | n + 1, d, set => 0 ≤ idxOf (overB d set) rows ∨ (infN rows n (d + 1) set ∧ infN rows n (d + 1) (setBit set d))
theorem infN_step {rows : List Rw} {n d : Nat} {set : Int} (h : infN rows n d set) (hi : ¬ 0 ≤ idxOf (overB d set) rows) : ∃ m, m + 1 = n ∧ infN rows m (d + 1) set ∧ infN rows m (d + 1) (setBit set d) := by
  cases n with
  | zero => exact (hi h).elim
  | succ n =>
    rcases h with h | h
    · exact (hi h).elim
    · exact ⟨n, rfl, h.1, h.2⟩
theorem growN_pre (rows : List Rw) : ∀ (n d : Nat) (set : Int) (out : List Stp) (i : Nat), i < out.length → (growN rows n d set out).getD i stp0 = out.getD i stp0
  | 0, d, set, out, i, h => by simp [growN, List.getD, List.getElem?_append_left h]
  | n + 1, d, set, out, i, h => by
    simp only [growN]
    split
    · simp [List.getD, List.getElem?_append_left h]
    · have hne : out.length ≠ i := by omega
      have e : ∀ (l : List Stp) (s : Stp), (l.set out.length s).getD i stp0 = l.getD i stp0 := fun l s => by simp [List.getD, List.getElem?_set_ne hne]
      rw [e, growN_pre rows n _ _ _ i (by have := (growN_length rows n (d + 1) set (out ++ [⟨d, 0, 0, none⟩])).1; simp at this; omega), growN_pre rows n _ _ _ i (by simp; omega)]
      simp [List.getD, List.getElem?_append_left h]
theorem encS_one (a : List Stp) (v : Int) : encS a ++ (List.replicate 1 [V.int .i64 0, V.int .i64 0, V.int .i64 0, V.nsl]).set 0 [V.int .i64 v, V.int .i64 0, V.int .i64 0, V.nsl] = encS (a ++ [⟨v, 0, 0, none⟩]) := by rw [encS_snoc]; rfl
theorem encS_leaf (a : List Stp) (v i : Int) : encS a ++ (List.replicate 1 [V.int .i64 0, V.int .i64 0, V.int .i64 0, V.nsl]).set 0 [V.int .i64 v, V.int .i64 0, V.int .i64 0, V.sl 2 ((List.replicate 1 [V.int .i64 0, V.int .i64 0]).set 0 [V.int .i64 i, V.int .i64 1])] = encS (a ++ [⟨v, 0, 0, some i⟩]) := by rw [encS_snoc]; rfl
theorem getD_set_self {α : Type} {l : List α} {k : Nat} {a d : α} (h : k < l.length) : (l.set k a).getD k d = a := by simp [List.getD, h]
theorem grow_fin {o : List Stp} {k : Nat} {d no yes : Int} (hk : k < o.length) (h : o.getD k stp0 = ⟨d, 0, 0, none⟩) :
    (((encS o).set k (List.take 1 ((encS o).getD k []) ++ V.int .i64 no :: List.drop 2 ((encS o).getD k []))).set k
      (List.take 2 (((encS o).set k (List.take 1 ((encS o).getD k []) ++ V.int .i64 no :: List.drop 2 ((encS o).getD k []))).getD k []) ++
        V.int .i64 yes :: List.drop 3 (((encS o).set k (List.take 1 ((encS o).getD k []) ++ V.int .i64 no :: List.drop 2 ((encS o).getD k []))).getD k []))) = encS (o.set k ⟨d, no, yes, none⟩) := by
  have e : (encS o).getD k [] = [.int .i64 d, .int .i64 0, .int .i64 0, .nsl] := by rw [encS_getD o k hk, h]; rfl
  rw [e, getD_set_self (by rw [encS_length]; exact hk), List.set_set, encS_set]
  rfl
theorem growN_at {rows : List Rw} {n d : Nat} {set : Int} {out : List Stp} : (growN rows n (d + 1) (setBit set d) (growN rows n (d + 1) set (out ++ [⟨d, 0, 0, none⟩]))).getD out.length stp0 = ⟨d, 0, 0, none⟩ := by
  have h := (growN_length rows n (d + 1) set (out ++ [⟨d, 0, 0, none⟩])).1
  simp only [List.length_append, List.length_cons, List.length_nil] at h
  rw [growN_pre rows n _ _ _ _ (by omega), growN_pre rows n _ _ _ _ (by simp)]
  simp [List.getD]
def FN60 : V := .fn 60 [.ptr 1 0, .ptr 0 0, .ptr 2 0]
def sameRw (r s : Rw) : Bool := decide (r.kind = s.kind) && (decide (r.a = s.a) && (decide (r.b = s.b) && (decide (r.pl = s.pl) && (decide (r.most = s.most) && decide (r.coef = s.coef)))))
def sameTo (a b : List Rw) : Nat → Bool
  | 0 => true
  | n + 1 => sameTo a b n && sameRw (a.getD n rw0) (b.getD n rw0)
def sameB (a b : Pg) : Bool := decide (a.vars = b.vars) && (decide ((a.rows.length : Int) = b.rows.length) && (decide (a.gain = b.gain) && sameTo a.rows b.rows a.rows.length))
theorem sameTo_mono (a b : List Rw) {i : Nat} (h : sameRw (a.getD i rw0) (b.getD i rw0) = false) : ∀ n, i < n → sameTo a b n = false
  | 0, hn => by omega
  | n + 1, hn => by
    simp only [sameTo]
    by_cases e : i = n
    · subst e; rw [h]; simp
    · rw [sameTo_mono a b h n (by omega)]; rfl
theorem sameRw_ne {r s : Rw} (h : ((((¬ r.kind = s.kind ∨ ¬ r.a = s.a) ∨ ¬ r.b = s.b) ∨ ¬ r.pl = s.pl) ∨ ¬ r.most = s.most) ∨ ¬ r.coef = s.coef) : sameRw r s = false := by
  rcases h with ((((h | h) | h) | h) | h) | h <;> simp [sameRw, h]
def exP : Pg := ⟨3, [⟨0, 0, 0, 0, [2, 3, 1], 5⟩, ⟨0, 0, 0, 0, [1, 0, 1], 1⟩], [5, 4, 3]⟩
/-! #### programs that integers determine -/
structure T3 where
  p : Int
  q : Int
  r : Int
def t30 : T3 := ⟨0, 0, 0⟩
def encT (l : List T3) : List (List V) := l.map fun t => [V.int .i64 t.p, V.int .i64 t.q, V.int .i64 t.r]
theorem encT_length (l : List T3) : (encT l).length = l.length := by simp [encT]
theorem encT_getD (l : List T3) (k : Nat) (h : k < l.length) : (encT l).getD k [] = [V.int .i64 (l.getD k t30).p, V.int .i64 (l.getD k t30).q, V.int .i64 (l.getD k t30).r] := by simp [encT, List.getD, h]
def gainM (g : List Int) (n : Nat) : List Int := (List.range n).map fun j => IntKind.i64.wrap (pickW (g.getD j 0) 40 - 8)
theorem gainM_succ (g : List Int) (n : Nat) : gainM g (n + 1) = gainM g n ++ [IntKind.i64.wrap (pickW (g.getD n 0) 40 - 8)] := by simp [gainM, List.range_succ]
theorem gainM_length (g : List Int) (n : Nat) : (gainM g n).length = n := by simp [gainM]
def coefM (t : T3) (n : Nat) : List Int := (List.range n).map fun (k : Nat) => IntKind.i64.wrap (pickW (IntKind.i64.wrap (t.p.tdiv (1 + 3 * (k : Int)))) 12 - pickW (IntKind.i64.wrap (t.q.tdiv (1 + 5 * (k : Int)))) 5)
theorem coefM_succ (t : T3) (n : Nat) : coefM t (n + 1) = coefM t n ++ [IntKind.i64.wrap (pickW (IntKind.i64.wrap (t.p.tdiv (1 + 3 * (n : Int)))) 12 - pickW (IntKind.i64.wrap (t.q.tdiv (1 + 5 * (n : Int)))) 5)] := by simp [coefM, List.range_succ]
theorem coefM_length (t : T3) (n : Nat) : (coefM t n).length = n := by simp [coefM]
def rowM0 (v : Nat) (t : T3) (i : Nat) : Rw := ⟨1 + (i : Int), pickW t.p 9, 0, 0, coefM t v, IntKind.i64.wrap (pickW t.r 30 - 4)⟩
def rowsM (v : Nat) (x : List T3) (n : Nat) : List Rw := (List.range n).map fun i => rowM0 v (x.getD i t30) i
theorem rowsM_succ (v : Nat) (x : List T3) (n : Nat) : rowsM v x (n + 1) = rowsM v x n ++ [rowM0 v (x.getD n t30) n] := by simp [rowsM, List.range_succ]
theorem rowsM_length (v : Nat) (x : List T3) (n : Nat) : (rowsM v x n).length = n := by simp [rowsM]
def madeW (v : Int) (x : List T3) (g : List Int) : Pg := ⟨pickW v 9, rowsM (pickW v 9).toNat x (min x.length 8), gainM g (pickW v 9).toNat⟩
theorem encR_one (a : List Rw) (k b c d most : Int) (coef : List Int) : encR a ++ (List.replicate 1 [V.int .i64 0, V.int .i64 0, V.int .i64 0, V.int .i64 0, V.nsl, V.int .i64 0]).set 0 [V.int .i64 k, V.int .i64 b, V.int .i64 c, V.int .i64 d, V.sl 1 (encI coef), V.int .i64 most] = encR (a ++ [⟨k, b, c, d, coef, most⟩]) := by rw [encR_snoc]; rfl
/-! #### searching -/
def srt (l : List Int) : Prop := ∀ i j : Nat, i < j → j < l.length → l.getD i 0 < l.getD j 0
theorem srt_le {l : List Int} (h : srt l) {k i : Nat} (hk : k ≤ i) (hi : i < l.length) : l.getD k 0 ≤ l.getD i 0 := by
  rcases Nat.lt_or_eq_of_le hk with h1 | rfl
  · have := h k i h1 hi; omega
  · exact Int.le_refl _
def cntL (l : List Int) (t : Int) : Nat := (l.takeWhile fun x => decide (x < t)).length
theorem bs_cnt {t : Int} : ∀ {l : List Int} {i : Nat}, i ≤ l.length → (∀ k, k < i → l.getD k 0 < t) → (∀ k, i ≤ k → k < l.length → t ≤ l.getD k 0) → cntL l t = i
  | [], i, hi, _, _ => by simp at hi; subst hi; rfl
  | a :: l, 0, _, _, h2 => by
    have := h2 0 (Nat.le_refl _) (by simp)
    simp only [List.getD_cons_zero] at this
    simp [cntL, List.takeWhile, show ¬ a < t by omega]
  | a :: l, i + 1, hi, h1, h2 => by
    have h0 := h1 0 (by omega)
    simp only [List.getD_cons_zero] at h0
    have ih := bs_cnt (t := t) (l := l) (i := i) (by simpa using hi) (fun k hk => by simpa using h1 (k + 1) (by omega)) (fun k hk hl => by simpa using h2 (k + 1) (by omega) (by simpa using hl))
    unfold cntL at ih ⊢
    simp [List.takeWhile, h0, ih]
theorem bs_mem {t : Int} {l : List Int} {i : Nat} (hs : srt l) (h1 : ∀ k, k < i → l.getD k 0 < t) (h2 : ∀ k, i ≤ k → k < l.length → t ≤ l.getD k 0) : t ∈ l ↔ i < l.length ∧ l.getD i 0 = t := by
  constructor
  · intro h
    obtain ⟨k, hk, rfl⟩ := List.getElem_of_mem h
    have e : l[k] = l.getD k 0 := by simp [List.getD, hk]
    rw [e] at h1 h2 ⊢
    have hik : i ≤ k := by
      rcases Nat.lt_or_ge k i with h3 | h3
      · have := h1 k h3; omega
      · exact h3
    refine ⟨by omega, ?_⟩
    have h4 := h2 i (Nat.le_refl _) (by omega)
    have h5 := srt_le hs hik hk
    omega
  · rintro ⟨h3, h4⟩
    rw [← h4]; exact getD_mem h3
theorem bs_res {t : Int} {l : List Int} {i j : Nat} (hs : srt l) (hi : i ≤ l.length) (hj : j = i) (h1 : ∀ k, k < i → l.getD k 0 < t) (h2 : ∀ k, j ≤ k → k < l.length → t ≤ l.getD k 0) :
    V.tup [.int .i64 (i : Nat), .bool (decide ((i : Int) < (l.length : Nat)) && decide (l.getD i 0 = t))] = V.tup [.int .i64 (cntL l t : Nat), .bool (decide (t ∈ l))] := by
  subst hj
  rw [bs_cnt hi h1 h2]
  have hm := bs_mem hs h1 h2
  have : decide (t ∈ l) = (decide ((j : Int) < (l.length : Nat)) && decide (l.getD j 0 = t)) := by
    rw [Bool.eq_iff_iff, Bool.and_eq_true, decide_eq_true_eq, decide_eq_true_eq, decide_eq_true_eq]
    exact hm.trans ⟨fun ⟨a, b⟩ => ⟨by omega, b⟩, fun ⟨a, b⟩ => ⟨by omega, b⟩⟩
  rw [this]
theorem mid_u {i j : Nat} (h : i + j ≤ 100000) : IntKind.i64.wrap ((i : Int) + j) = ((i + j : Nat) : Int) ∧ IntKind.u64.wrap ((i + j : Nat) : Int) = ((i + j : Nat) : Int) ∧ shrW .u64 ((i + j : Nat) : Int) 1 = (((i + j) / 2 : Nat) : Int) ∧ IntKind.i64.wrap (((i + j) / 2 : Nat) : Int) = (((i + j) / 2 : Nat) : Int) := by
  refine ⟨by rw [w64 (by omega)]; omega, ?_, ?_, w64 (by omega)⟩
  · simp only [IntKind.wrap, IntKind.bits, IntKind.signed]
    simp only [Bool.false_eq_true, if_false, Bool.false_and, false_and]
    show ((i + j : Nat) : Int) % 2 ^ 64 = _
    exact Int.emod_eq_of_lt (by omega) (by omega)
  · show (((i + j : Nat) : Int)).fdiv (2 ^ (min (1 : Int).toNat 64)) = _
    have : (2 : Int) ^ (min (1 : Int).toNat 64) = 2 := by decide
    rw [this, Int.fdiv_eq_ediv_of_nonneg _ (by omega)]
    omega
end Go.Proofs.YtgmgifmfhpoglaaDoor

namespace Go.Proofs.YtgmgifmfhpoglaaDoor
open Go.RowKit
set_option linter.unusedVariables false
set_option linter.unusedSimpArgs false
theorem enok_int : EnOK (Value.int .i64) (V.int .i64) := ⟨fun x y h => by cases h; rfl, fun x w O ι ρ nx c y h => by cases h; rfl, fun x w O ι ρ nx c => .int ..⟩
theorem toNat64 {a : Nat} (h : a < 65536) : (BitVec.ofInt 64 (a : Int)).toNat = a := by
  rw [BitVec.ofInt_natCast, BitVec.toNat_ofNat, Nat.mod_eq_of_lt (by omega)]
theorem orN {a b : Nat} (ha : a < 65536) (hb : b < 65536) : bitsV .or .i64 a b = ((a ||| b : Nat) : Int) := by
  have h : a ||| b < 2 ^ 16 := Nat.or_lt_two_pow (by omega) (by omega)
  have e : bitsV .or .i64 a b = IntKind.i64.wrap (((BitVec.ofInt 64 (a : Int)) ||| (BitVec.ofInt 64 (b : Int))).toNat : Int) := rfl
  rw [e, BitVec.toNat_or, toNat64 ha, toNat64 hb, w64 (by omega)]
theorem andN {a b : Nat} (ha : a < 65536) (hb : b < 65536) : bitsV .and .i64 a b = ((a &&& b : Nat) : Int) := by
  have h : a &&& b < 2 ^ 16 := Nat.and_lt_two_pow a (by omega)
  have e : bitsV .and .i64 a b = IntKind.i64.wrap (((BitVec.ofInt 64 (a : Int)) &&& (BitVec.ofInt 64 (b : Int))).toNat : Int) := rfl
  rw [e, BitVec.toNat_and, toNat64 ha, toNat64 hb, w64 (by omega)]
theorem shl1 {n : Nat} (h : n < 16) : shlW .i64 1 n = ((2 ^ n : Nat) : Int) := by
  have hp : 2 ^ n < 2 ^ 16 := Nat.pow_lt_pow_right (by omega) h
  have e : shlW .i64 1 n = IntKind.i64.wrap (1 * 2 ^ (min ((n : Int).toNat) 64)) := rfl
  have e2 : min ((n : Int).toNat) 64 = n := by simp; omega
  rw [e, e2, Int.one_mul]
  have e3 : (2 : Int) ^ n = ((2 ^ n : Nat) : Int) := by simp
  rw [e3, w64 ⟨Int.le_trans (by decide) (Int.natCast_nonneg _), Int.le_trans (Int.ofNat_le.2 (Nat.le_of_lt hp)) (by decide)⟩]
theorem shrN {a k : Nat} (h : k < 64) : shrW .i64 a k = ((a / 2 ^ k : Nat) : Int) := by
  have e : shrW .i64 a k = (a : Int).fdiv (2 ^ (min ((k : Int).toNat) 64)) := rfl
  have e2 : min ((k : Int).toNat) 64 = k := by simp; omega
  rw [e, e2]
  have e3 : (2 : Int) ^ k = ((2 ^ k : Nat) : Int) := by simp
  rw [e3, Int.fdiv_eq_ediv_of_nonneg _ (Int.natCast_nonneg _)]; exact (Int.natCast_ediv a (2 ^ k)).symm
theorem cBit_nat {s i : Nat} (hs : s < 65536) (hi : i < 64) : cBit s i = s.testBit i := by
  have h1 : s / 2 ^ i ≤ s := Nat.div_le_self _ _
  unfold cBit
  have e := andN (a := s / 2 ^ i) (b := 1) (by omega) (by omega)
  rw [shrN hi]
  show decide (bitsV .and .i64 ((s / 2 ^ i : Nat) : Int) ((1 : Nat) : Int) = 1) = _
  rw [e, Nat.and_one_is_mod, Nat.testBit_eq_decide_div_mod_eq]
  rw [decide_eq_decide]; omega
theorem fzL_mapI (id : Nat) (o : AObj) (xs : List Int) : V.fzL id o (xs.map (V.int .i64)) = xs.map (V.int .i64) := cellsI_fzL id o xs
theorem uptoL_mapI (n : Nat) (xs : List Int) : V.uptoL n (xs.map (V.int .i64)) = true := cellsI_uptoL n xs
/-! #### sums, exactly -/
def sumG (l : List Int) (s : Nat) : Nat → Int
  | 0 => 0
  | n + 1 => sumG l s n + if s.testBit n then l.getD n 0 else 0
def sumS (l : List Int) (s : Nat) : Int := sumG l s l.length
theorem coefB_iff {l : List Int} : coefB l = true ↔ ∀ x ∈ l, -1000000000 ≤ x ∧ x ≤ 1000000000 := by
  simp only [coefB, List.all_eq_true]
  exact ⟨fun h x hx => isInB_spec.1 (h x hx), fun h x hx => isInB_spec.2 (h x hx)⟩
theorem coef_getD {l : List Int} (h : coefB l = true) (n : Nat) : -1000000000 ≤ l.getD n 0 ∧ l.getD n 0 ≤ 1000000000 := by
  by_cases hn : n < l.length
  · exact coefB_iff.1 h _ (getD_mem hn)
  · have : l.getD n 0 = 0 := by simp [List.getD, List.getElem?_eq_none (Nat.le_of_not_lt hn)]
    rw [this]; omega
theorem chosenG_sum {l : List Int} (hb : coefB l = true) {s : Nat} (hs : s < 65536) : ∀ n : Nat, n ≤ 12 → chosenG l s n = sumG l s n ∧ -((n : Int) * 1000000000) ≤ sumG l s n ∧ sumG l s n ≤ (n : Int) * 1000000000
  | 0, _ => by simp [chosenG, sumG]
  | n + 1, hn => by
    obtain ⟨h1, h2, h3⟩ := chosenG_sum hb hs n (by omega)
    have hc := coef_getD hb n
    simp only [chosenG, sumG, cBit_nat hs (show n < 64 by omega)]
    split
    · rw [h1, w64 (by omega)]; refine ⟨rfl, ?_, ?_⟩ <;> omega
    · rw [h1]; refine ⟨by omega, ?_, ?_⟩ <;> omega
theorem chosenW_sum {l : List Int} (hb : coefB l = true) {s : Nat} (hs : s < 65536) (hl : l.length ≤ 12) : chosenW l s = sumS l s := (chosenG_sum hb hs _ hl).1
theorem sumS_range {l : List Int} (hb : coefB l = true) {s : Nat} (hs : s < 65536) (hl : l.length ≤ 12) : -12000000000 ≤ sumS l s ∧ sumS l s ≤ 12000000000 := by
  have h := chosenG_sum hb hs _ hl
  have : sumS l s = sumG l s l.length := rfl
  omega
theorem validB_all {p : Pg} (h : validB p = true) : 0 ≤ p.vars ∧ p.vars ≤ 12 ∧ p.rows.length ≤ 300 ∧ (p.gain.length : Int) = p.vars ∧ coefB p.gain = true ∧ ∀ r ∈ p.rows, (r.coef.length : Int) = p.vars ∧ coefB r.coef = true ∧ -1000000000000 ≤ r.most ∧ r.most ≤ 1000000000000 := by
  simp only [validB, Bool.and_eq_true, decide_eq_true_eq, isInB_spec, List.all_eq_true, rightB] at h
  exact ⟨h.1.1, h.1.2, by omega, h.2.2.2.1, h.2.2.2.2, fun r hr => ⟨(h.2.2.1 r hr).1, (h.2.2.1 r hr).2.1, (h.2.2.1 r hr).2.2.1, (h.2.2.1 r hr).2.2.2⟩⟩
/-! #### choices -/
def allKept (rows : List Rw) (set : Int) : Bool := rows.all fun r => keptB r set
def chL (rows : List Rw) : Nat → List Int
  | 0 => []
  | n + 1 => if allKept rows n then chL rows n ++ [(n : Int)] else chL rows n
theorem chL_t {rows : List Rw} {n : Nat} (h : allKept rows n = true) : chL rows (n + 1) = chL rows n ++ [(n : Int)] := by simp only [chL, h, if_true]
theorem chL_f {rows : List Rw} {n : Nat} (h : allKept rows n = false) : chL rows (n + 1) = chL rows n := by simp [chL, h]
theorem chL_length (rows : List Rw) : ∀ n, (chL rows n).length ≤ n
  | 0 => Nat.le_refl _
  | n + 1 => by have := chL_length rows n; simp only [chL]; split <;> (try simp) <;> omega
theorem mem_chL {rows : List Rw} {x : Int} : ∀ {n : Nat}, x ∈ chL rows n ↔ ∃ s : Nat, x = s ∧ s < n ∧ allKept rows s = true
  | 0 => by simp [chL]
  | n + 1 => by
    have ih := mem_chL (rows := rows) (x := x) (n := n)
    cases h : allKept rows n with
    | true =>
      rw [chL_t h, List.mem_append, ih, List.mem_singleton]
      constructor
      · rintro (⟨s, h1, h2, h3⟩ | h1)
        · exact ⟨s, h1, by omega, h3⟩
        · exact ⟨n, h1, by omega, h⟩
      · rintro ⟨s, h1, h2, h3⟩
        by_cases e : s = n
        · subst e; exact .inr h1
        · exact .inl ⟨s, h1, by omega, h3⟩
    | false =>
      rw [chL_f h, ih]
      constructor
      · rintro ⟨s, h1, h2, h3⟩; exact ⟨s, h1, by omega, h3⟩
      · rintro ⟨s, h1, h2, h3⟩
        by_cases e : s = n
        · subst e; rw [h] at h3; cases h3
        · exact ⟨s, h1, by omega, h3⟩
def choiceL (p : Pg) : List Int := chL p.rows (2 ^ p.vars.toNat)
theorem vars_pow {p : Pg} (h : validB p = true) : ∃ v : Nat, p.vars = v ∧ v ≤ 12 ∧ shlW .i64 1 (v : Nat) = ((2 ^ v : Nat) : Int) ∧ 2 ^ v ≤ 4096 := by
  obtain ⟨h0, h1, -⟩ := validB_all h
  obtain ⟨v, hv⟩ := Int.eq_ofNat_of_zero_le h0
  have : v ≤ 12 := by omega
  exact ⟨v, hv, this, shl1 (by omega), Nat.le_trans (Nat.pow_le_pow_right (by omega) this) (by decide)⟩
/-! #### the best -/
def bestS (g : List Int) (s : Bool × Int × Int) (x : Int) : Bool × Int × Int := if (!s.1 || decide (s.2.2 < chosenW g x)) = true then (true, x, chosenW g x) else s
def bestW (g : List Int) (xs : List Int) : Bool × Int × Int := xs.foldl (bestS g) (false, 0, 0)
theorem bestW_snoc (g xs : List Int) (x : Int) : bestW g (xs ++ [x]) = bestS g (bestW g xs) x := by simp [bestW]
theorem bestS_t {g : List Int} {s : Bool × Int × Int} {x : Int} (h : (!s.1 || decide (s.2.2 < chosenW g x)) = true) : bestS g s x = (true, x, chosenW g x) := by unfold bestS; rw [if_pos h]
theorem bestS_f {g : List Int} {s : Bool × Int × Int} {x : Int} (h : (!s.1 || decide (s.2.2 < chosenW g x)) = false) : bestS g s x = s := by unfold bestS; rw [h]; rfl
theorem bestW_foldr (g : List Int) (P : List Int → Bool × Int × Int → Prop) (h0 : P [] (false, 0, 0)) (hs : ∀ xs s x, P xs s → P (xs ++ [x]) (bestS g s x)) : ∀ xs, P xs (bestW g xs) := by
  intro xs
  have : ∀ (ys zs : List Int) s, P zs s → P (zs ++ ys) (ys.foldl (bestS g) s) := by
    intro ys
    induction ys with
    | nil => intro zs s h; simpa using h
    | cons y ys ih => intro zs s h; have := ih (zs ++ [y]) _ (hs zs s y h); simpa using this
  exact this xs [] _ h0
/-- What is found is one of them, none is more, and those that are as much stand behind it. -/
theorem bestW_spec (g xs : List Int) : ((bestW g xs).1 = false → xs = [] ∧ bestW g xs = (false, 0, 0)) ∧ ((bestW g xs).1 = true → (bestW g xs).2.1 ∈ xs ∧ (bestW g xs).2.2 = chosenW g (bestW g xs).2.1 ∧ ∀ x ∈ xs, chosenW g x ≤ (bestW g xs).2.2) := by
  refine bestW_foldr g (fun xs s => (s.1 = false → xs = [] ∧ s = (false, 0, 0)) ∧ (s.1 = true → s.2.1 ∈ xs ∧ s.2.2 = chosenW g s.2.1 ∧ ∀ x ∈ xs, chosenW g x ≤ s.2.2)) (by simp) ?_ xs
  rintro xs ⟨f, x0, g0⟩ x ⟨h1, h2⟩
  simp only at h1 h2 ⊢
  cases hc : (!f || decide (g0 < chosenW g x)) with
  | true =>
    rw [bestS_t hc]
    refine ⟨(fun h => (by cases h)), fun _ => ⟨by simp, rfl, fun y hy => ?_⟩⟩
    rcases List.mem_append.1 hy with hy | hy
    · cases hf : f with
      | true =>
        have := (h2 hf).2.2 y hy
        simp [hf] at hc
        simp only; omega
      | false => have := (h1 hf).1; subst this; cases hy
    · rw [List.mem_singleton] at hy; subst hy; exact Int.le_refl _
  | false =>
    rw [bestS_f hc]
    simp only [Bool.or_eq_false_iff, Bool.not_eq_false', decide_eq_false_iff_not] at hc
    obtain ⟨hf, hc⟩ := hc
    subst hf
    refine ⟨(fun h => (by cases h)), fun _ => ?_⟩
    obtain ⟨k1, k2, k3⟩ := h2 rfl
    refine ⟨List.mem_append_left _ k1, k2, fun y hy => ?_⟩
    rcases List.mem_append.1 hy with hy | hy
    · exact k3 y hy
    · rw [List.mem_singleton] at hy; subst hy; simp only; omega
structure Sol where
  found : Bool
  set : Int
  gain : Int
  proof : List Stp
def encSol (s : Sol) : List V := [.bool s.found, .int .i64 s.set, .int .i64 s.gain, .sl 4 (encS s.proof)]
def solveB (p : Pg) : Bool × Int × Int := bestW p.gain (choiceL p)
def solRows (p : Pg) (b : Bool × Int × Int) : List Rw := if b.1 = true then p.rows ++ [goalW p b.2.2] else p.rows
def solveW (p : Pg) : Sol := ⟨(solveB p).1, (solveB p).2.1, (solveB p).2.2, growN (solRows p (solveB p)) p.vars.toNat 0 0 []⟩
theorem solRows_t {p : Pg} {b : Bool × Int × Int} (h : b.1 = true) : solRows p b = p.rows ++ [goalW p b.2.2] := by unfold solRows; rw [if_pos h]
theorem solRows_f {p : Pg} {b : Bool × Int × Int} (h : b.1 = false) : solRows p b = p.rows := by unfold solRows; rw [h]; rfl
theorem encR_takeA (l : List Rw) : List.take l.length (encR l) = encR l := List.take_of_length_le (by rw [encR_length]; exact Nat.le_refl _)
/-! #### without some rows -/
def idxOk (p : Pg) (rows : List Int) (i : Nat) : Bool := isInB (rows.getD i 0) 0 (IntKind.i64.wrap (p.rows.length - 1)) && !(decide (0 < (i : Int)) && decide (rows.getD i 0 ≤ rows.getD (i - 1) 0))
def okTo (p : Pg) (rows : List Int) : Nat → Bool
  | 0 => true
  | n + 1 => okTo p rows n && idxOk p rows n
def okRows (p : Pg) (rows : List Int) : Bool := okTo p rows rows.length
theorem okTo_t {p : Pg} {rows : List Int} {n : Nat} (h : okTo p rows n = true) (h2 : idxOk p rows n = true) : okTo p rows (n + 1) = true := by simp [okTo, h, h2]
theorem okTo_iff {p : Pg} {rows : List Int} : ∀ {n : Nat}, okTo p rows n = true ↔ ∀ i, i < n → idxOk p rows i = true
  | 0 => by simp [okTo]
  | n + 1 => by
    simp only [okTo, Bool.and_eq_true, okTo_iff (n := n)]
    constructor
    · rintro ⟨h1, h2⟩ i hi
      by_cases e : i = n
      · subst e; exact h2
      · exact h1 i (by omega)
    · exact fun h => ⟨fun i hi => h i (by omega), h n (by omega)⟩
theorem okTo_f {p : Pg} {rows : List Int} {i : Nat} (hi : i < rows.length) (h : idxOk p rows i = false) : okRows p rows = false := by
  rw [Bool.eq_false_iff]
  intro h2
  rw [okTo_iff.1 h2 i hi] at h; cases h
theorem idxOk_iff {p : Pg} {rows : List Int} {i : Nat} : idxOk p rows i = true ↔ 0 ≤ rows.getD i 0 ∧ rows.getD i 0 ≤ IntKind.i64.wrap (p.rows.length - 1) ∧ (0 < i → rows.getD (i - 1) 0 < rows.getD i 0) := by
  simp only [idxOk, Bool.and_eq_true, isInB_spec, Bool.not_eq_true', Bool.and_eq_false_iff, decide_eq_false_iff_not]
  omega
theorem idx_no {p : Pg} {rows : List Int} {i : Nat} (h : isInB (rows.getD i 0) 0 (IntKind.i64.wrap (p.rows.length - 1)) = false ∨ 0 < (i : Int) ∧ rows.getD i 0 ≤ rows.getD (i - 1) 0) : idxOk p rows i = false := by
  rcases h with h | h
  · unfold idxOk; rw [h]; rfl
  · unfold idxOk; rw [decide_eq_true h.1, decide_eq_true h.2]; simp
theorem idx_fin {p : Pg} {rows : List Int} {i : Nat} (h : isInB (rows.getD i 0) 0 (IntKind.i64.wrap (p.rows.length - 1)) = true ∧ (¬ 0 < (i : Int) ∨ ¬ rows.getD i 0 ≤ rows.getD (i - 1) 0)) : idxOk p rows i = true := by
  obtain ⟨h1, h2⟩ := h
  unfold idxOk
  rw [h1]
  rcases h2 with h | h <;> rw [decide_eq_false h] <;> simp
theorem okRows_srt {p : Pg} {rows : List Int} (h : okRows p rows = true) : srt rows := by
  have hk := okTo_iff.1 h
  intro i j hij hj
  induction j with
  | zero => omega
  | succ j ih =>
    have h1 := (idxOk_iff.1 (hk (j + 1) hj)).2.2 (by omega)
    simp only [Nat.add_sub_cancel] at h1
    by_cases e : i = j
    · subst e; exact h1
    · have := ih (by omega) (by omega); omega
theorem okRows_len {p : Pg} {rows : List Int} (h : okRows p rows = true) (hv : validB p = true) : rows.length ≤ p.rows.length := by
  have hk := okTo_iff.1 h
  obtain ⟨h0, h1, h2, h3, h4, h5⟩ := validB_all hv
  have key : ∀ i : Nat, i < rows.length → (i : Int) ≤ rows.getD i 0 := by
    intro i
    induction i with
    | zero => intro hi; have := (idxOk_iff.1 (hk 0 hi)).1; simpa using this
    | succ i ih =>
      intro hi
      have h6 := ih (by omega)
      have h7 := (idxOk_iff.1 (hk (i + 1) hi)).2.2 (by omega)
      simp only [Nat.add_sub_cancel] at h7
      omega
  rcases Nat.eq_zero_or_pos rows.length with e | e
  · omega
  · have h6 := key (rows.length - 1) (by omega)
    have h7 := (idxOk_iff.1 (hk (rows.length - 1) (by omega))).2.1
    rw [w64 (by omega)] at h7
    omega
theorem okRows_1000 {p : Pg} {rows : List Int} (h : okRows p rows = true) (hv : validB p = true) : rows.length ≤ 1000 := by
  have := okRows_len h hv
  have := (validB_all hv).2.2.1
  omega
theorem gain_1000 {p : Pg} (hv : validB p = true) : p.gain.length ≤ 1000 := by
  obtain ⟨h0, h1, h2, h3, h4, h5⟩ := validB_all hv; omega
theorem coef_1000 {p : Pg} (hv : validB p = true) {i : Nat} (hi : i < p.rows.length) : (p.rows.getD i rw0).coef.length ≤ 1000 := by
  obtain ⟨h0, h1, h2, h3, h4, h5⟩ := validB_all hv
  have := (h5 _ (getD_mem (d := rw0) hi)).1; omega
def keepTo (p : Pg) (rows : List Int) : Nat → List Rw
  | 0 => []
  | n + 1 => if (n : Int) ∈ rows then keepTo p rows n else keepTo p rows n ++ [p.rows.getD n rw0]
theorem keepTo_t {p : Pg} {rows : List Int} {n : Nat} (h : (n : Int) ∈ rows) : keepTo p rows (n + 1) = keepTo p rows n := by simp only [keepTo, h, if_true]
theorem keepTo_f {p : Pg} {rows : List Int} {n : Nat} (h : ¬ (n : Int) ∈ rows) : keepTo p rows (n + 1) = keepTo p rows n ++ [p.rows.getD n rw0] := by simp only [keepTo, h, if_false]
theorem keepTo_length (p : Pg) (rows : List Int) : ∀ n, (keepTo p rows n).length ≤ n
  | 0 => Nat.le_refl _
  | n + 1 => by have := keepTo_length p rows n; simp only [keepTo]; split <;> (try simp) <;> omega
def withoutW (p : Pg) (rows : List Int) : Pg := ⟨p.vars, keepTo p rows p.rows.length, p.gain⟩
def wthV (p : Pg) (rows : List Int) : List V := if (okRows p rows && validB p) = true then [.agg (encPg (withoutW p rows)), .int .i64 0] else [.agg [.int .i64 0, .nsl, .nsl], .int .i64 230]
theorem wthV_t {p : Pg} {rows : List Int} (h1 : okRows p rows = true) (h2 : validB p = true) : wthV p rows = [.agg (encPg (withoutW p rows)), .int .i64 0] := by unfold wthV; rw [h1, h2]; rfl
theorem wthV_f1 {p : Pg} {rows : List Int} (h1 : okRows p rows = false) : wthV p rows = [.agg [.int .i64 0, .nsl, .nsl], .int .i64 230] := by unfold wthV; rw [h1]; rfl
theorem wthV_f2 {p : Pg} {rows : List Int} (h1 : validB p = false) : wthV p rows = [.agg [.int .i64 0, .nsl, .nsl], .int .i64 230] := by unfold wthV; rw [h1, Bool.and_false]; rfl
/-! #### its proof -/
theorem idx_any {α : Type} {p : α → Bool} {xs : List α} : 0 ≤ idxOf p xs ↔ ∃ x ∈ xs, p x = true := by
  have := idxOf_ge p xs
  rw [← List.any_eq_true, ← this, decide_eq_true_eq]
theorem setBit_nat {s d : Nat} (hs : s < 2 ^ d) (hd : d ≤ 12) : setBit s d = ((s + 2 ^ d : Nat) : Int) := by
  have hp : 2 ^ d ≤ 4096 := Nat.le_trans (Nat.pow_le_pow_right (by omega) hd) (by decide)
  unfold setBit
  rw [shl1 (by omega), orN (by omega) (by omega)]
  congr 1
  have := Nat.two_pow_add_eq_or_of_lt hs 1
  rw [Nat.or_comm, Nat.add_comm]
  simpa using this.symm
theorem infN_of {rows : List Rw} {v : Nat} (hv : v ≤ 12) (hc : ∀ r ∈ rows, r.coef.length = v) : ∀ (n d s : Nat), d + n = v → s < 2 ^ d → (∀ t : Nat, t < 2 ^ v → t % 2 ^ d = s → ∃ r ∈ rows, r.most < chosenW r.coef t) → infN rows n d s
  | 0, d, s, hd, hs, h => by
    have hd' : d = v := by omega
    subst hd'
    obtain ⟨r, hr, hm⟩ := h s hs (Nat.mod_eq_of_lt hs)
    refine idx_any.2 ⟨r, hr, ?_⟩
    have e := hc r hr
    have e2 : leastW r d s = chosenW r.coef s := by
      unfold leastW
      rw [List.drop_eq_nil_of_le (by omega), List.take_of_length_le (by omega)]; rfl
    simp only [overB, decide_eq_true_eq, e2]
    exact hm
  | n + 1, d, s, hd, hs, h => by
    by_cases hi : 0 ≤ idxOf (overB d s) rows
    · exact .inl hi
    · refine .inr ⟨infN_of hv hc n (d + 1) s (by omega) (by rw [Nat.pow_succ]; omega) fun t ht he => h t ht ?_, ?_⟩
      · have : t % 2 ^ (d + 1) % 2 ^ d = t % 2 ^ d := Nat.mod_mod_of_dvd _ (Nat.pow_dvd_pow 2 (by omega))
        rw [← this, he, Nat.mod_eq_of_lt hs]
      · rw [setBit_nat hs (by omega)]
        refine infN_of hv hc n (d + 1) (s + 2 ^ d) (by omega) (by rw [Nat.pow_succ]; omega) fun t ht he => h t ht ?_
        have : t % 2 ^ (d + 1) % 2 ^ d = t % 2 ^ d := Nat.mod_mod_of_dvd _ (Nat.pow_dvd_pow 2 (by omega))
        rw [← this, he, Nat.add_mod_right, Nat.mod_eq_of_lt hs]
theorem negG_all (g : List Int) : negG g g.length = g.map fun x => IntKind.i64.wrap (0 - x) := by simp [negG]
theorem negG_neg {g : List Int} (h : coefB g = true) : negG g g.length = g.map fun x => -x := by
  rw [negG_all]
  refine List.map_congr_left fun x hx => ?_
  have := coefB_iff.1 h x hx
  rw [w64 (by omega)]; omega
theorem sumG_neg (g : List Int) (s : Nat) : ∀ n, sumG (g.map fun x => -x) s n = - sumG g s n
  | 0 => rfl
  | n + 1 => by
    simp only [sumG, sumG_neg g s n]
    have : (g.map fun x => -x).getD n 0 = - g.getD n 0 := by
      simp only [List.getD, List.getElem?_map]
      cases g[n]? <;> simp
    rw [this]
    split <;> omega
theorem coefB_neg {g : List Int} (h : coefB g = true) : coefB (g.map fun x => -x) = true := by
  refine coefB_iff.2 fun x hx => ?_
  obtain ⟨y, hy, rfl⟩ := List.mem_map.1 hx
  have := coefB_iff.1 h y hy
  omega
/-- The row of the goal is broken by those that gain no more. -/
theorem goal_sum {p : Pg} (hv : validB p = true) {s : Nat} (hs : s < 65536) : chosenW (negG p.gain p.gain.length) s = - sumS p.gain s := by
  obtain ⟨h0, h1, h2, h3, h4, h5⟩ := validB_all hv
  rw [negG_neg h4, chosenW_sum (coefB_neg h4) hs (by simp; omega)]
  simp only [sumS, List.length_map, sumG_neg]
theorem goal_most {p : Pg} {g : Int} (h : -100000000000 ≤ g ∧ g ≤ 100000000000) : (goalW p g).most = -(g + 1) := by
  simp only [goalW]
  rw [w64 (x := g + 1) (by omega), w64 (by omega)]; omega
theorem solRows_coef {p : Pg} (hv : validB p = true) (b : Bool × Int × Int) : ∀ r ∈ solRows p b, r.coef.length = p.vars.toNat := by
  obtain ⟨h0, h1, h2, h3, h4, h5⟩ := validB_all hv
  intro r hr
  unfold solRows at hr
  split at hr
  · rcases List.mem_append.1 hr with hr | hr
    · have := (h5 r hr).1; omega
    · rw [List.mem_singleton] at hr; subst hr
      simp only [goalW, negG_length]; omega
  · have := (h5 r hr).1; omega
theorem mem_choiceL {p : Pg} {x : Int} : x ∈ choiceL p ↔ ∃ s : Nat, x = s ∧ s < 2 ^ p.vars.toNat ∧ allKept p.rows s = true := mem_chL
theorem solveB_mem {p : Pg} (h : (solveB p).1 = true) : ∃ s : Nat, (solveB p).2.1 = s ∧ s < 2 ^ p.vars.toNat ∧ allKept p.rows s = true := mem_choiceL.1 ((bestW_spec p.gain (choiceL p)).2 h).1
theorem solveB_gain {p : Pg} (hv : validB p = true) (h : (solveB p).1 = true) : ∃ s : Nat, (solveB p).2.1 = s ∧ s < 2 ^ p.vars.toNat ∧ (solveB p).2.2 = sumS p.gain s ∧ -12000000000 ≤ (solveB p).2.2 ∧ (solveB p).2.2 ≤ 12000000000 := by
  obtain ⟨s, h1, h2, h3⟩ := solveB_mem h
  obtain ⟨v, hv1, hv2, hv3, hv4⟩ := vars_pow hv
  obtain ⟨q0, q1, q2, q3, q4, q5⟩ := validB_all hv
  rw [hv1] at h2
  simp only [Int.toNat_natCast] at h2
  have e : (solveB p).2.2 = sumS p.gain s := by
    have e0 : (solveB p).2.2 = chosenW p.gain (solveB p).2.1 := ((bestW_spec p.gain (choiceL p)).2 h).2.1
    rw [e0, h1, chosenW_sum q4 (by omega) (by omega)]
  have := sumS_range q4 (show s < 65536 by omega) (by omega)
  exact ⟨s, h1, by rw [hv1]; simpa using h2, e, by omega, by omega⟩
theorem keptB_iff {r : Rw} {s : Int} : keptB r s = true ↔ chosenW r.coef s ≤ r.most := by simp [keptB]
theorem solve_inf {p : Pg} (hv : validB p = true) : infN (solRows p (solveB p)) p.vars.toNat 0 0 := by
  obtain ⟨v, hv1, hv2, hv3, hv4⟩ := vars_pow hv
  obtain ⟨q0, q1, q2, q3, q4, q5⟩ := validB_all hv
  have := infN_of (rows := solRows p (solveB p)) (v := v) hv2 (fun r hr => by have := solRows_coef hv _ r hr; rw [this, hv1]; rfl) v 0 0 (by omega) (by simp) fun t ht _ => by
    have hin : ∀ r ∈ p.rows, r ∈ solRows p (solveB p) := fun r hr => by
      unfold solRows; split
      · exact List.mem_append_left _ hr
      · exact hr
    cases hk : allKept p.rows t with
    | false =>
      obtain ⟨r, hr, hb⟩ : ∃ r ∈ p.rows, keptB r t = false := by
        simpa [allKept] using hk
      refine ⟨r, hin r hr, ?_⟩
      have : ¬ chosenW r.coef t ≤ r.most := fun h => by rw [keptB_iff.2 h] at hb; cases hb
      omega
    | true =>
      have hm : (t : Int) ∈ choiceL p := mem_choiceL.2 ⟨t, rfl, by rw [hv1]; exact ht, hk⟩
      cases hf : (solveB p).1 with
      | false => have := ((bestW_spec p.gain (choiceL p)).1 hf).1; rw [this] at hm; cases hm
      | true =>
        have hle := ((bestW_spec p.gain (choiceL p)).2 hf).2.2 _ hm
        obtain ⟨s, hs1, hs2, hs3, hs4, hs5⟩ := solveB_gain hv hf
        refine ⟨goalW p (solveB p).2.2, ?_, ?_⟩
        · unfold solRows; rw [if_pos hf]; simp
        · rw [goal_most (by omega)]
          show _ < chosenW (negG p.gain p.gain.length) t
          rw [goal_sum hv (by omega)]
          rw [chosenW_sum q4 (by omega) (by omega)] at hle
          have e : (solveB p).2.2 = (bestW p.gain (choiceL p)).2.2 := rfl
          omega
  simpa [hv1] using this
end Go.Proofs.YtgmgifmfhpoglaaDoor

namespace Go.Proofs.YtgmgifmfhpoglaaDoor
open Go.RowKit
set_option linter.unusedVariables false
set_option linter.unusedSimpArgs false
theorem wrap_okI (x : Int) : -9223372036854775808 ≤ IntKind.i64.wrap x ∧ IntKind.i64.wrap x ≤ 9223372036854775807 := by
  unfold IntKind.wrap; simp [IntKind.signed, IntKind.bits]; split <;> omega
def okT (t : T3) : Prop := okI t.p ∧ okI t.q ∧ okI t.r
theorem coefB_madeM {t : T3} (n : Nat) : coefB (coefM t n) = true := by
  refine coefB_iff.2 fun x hx => ?_
  obtain ⟨k, -, rfl⟩ := List.mem_map.1 hx
  have h1 := pickW_range (IntKind.i64.wrap (t.p.tdiv (1 + 3 * (k : Int)))) (n := 12) (by omega) (by omega) (wrap_okI _)
  have h2 := pickW_range (IntKind.i64.wrap (t.q.tdiv (1 + 5 * (k : Int)))) (n := 5) (by omega) (by omega) (wrap_okI _)
  rw [w64 (by omega)]; omega
theorem coefM_small {t : T3} {n : Nat} : ∀ x ∈ coefM t n, -4 ≤ x ∧ x ≤ 11 := by
  intro x hx
  obtain ⟨k, -, rfl⟩ := List.mem_map.1 hx
  have h1 := pickW_range (IntKind.i64.wrap (t.p.tdiv (1 + 3 * (k : Int)))) (n := 12) (by omega) (by omega) (wrap_okI _)
  have h2 := pickW_range (IntKind.i64.wrap (t.q.tdiv (1 + 5 * (k : Int)))) (n := 5) (by omega) (by omega) (wrap_okI _)
  rw [w64 (by omega)]; omega
theorem getD_okI {g : List Int} (h : ∀ x ∈ g, okI x) (k : Nat) : okI (g.getD k 0) := by
  by_cases hk : k < g.length
  · exact h _ (getD_mem hk)
  · rw [show g.getD k 0 = 0 by simp [List.getD, List.getElem?_eq_none (Nat.le_of_not_lt hk)]]; unfold okI; omega
theorem gainM_small {g : List Int} (h : ∀ x ∈ g, okI x) {n : Nat} : ∀ x ∈ gainM g n, -8 ≤ x ∧ x ≤ 31 := by
  intro x hx
  obtain ⟨k, -, rfl⟩ := List.mem_map.1 hx
  have h1 := pickW_range (g.getD k 0) (n := 40) (by omega) (by omega) (getD_okI h k)
  rw [w64 (by omega)]; omega
theorem made_row {v : Int} {x : List T3} {g : List Int} (hx : ∀ t ∈ x, okT t) {r : Rw} (hr : r ∈ (madeW v x g).rows) :
    r.coef.length = (pickW v 9).toNat ∧ (∀ c ∈ r.coef, -4 ≤ c ∧ c ≤ 11) ∧ -4 ≤ r.most ∧ r.most ≤ 25 := by
  obtain ⟨i, hi, rfl⟩ := List.mem_map.1 hr
  have hi' : i < x.length := by have := List.mem_range.1 hi; omega
  have ht := hx _ (getD_mem (d := t30) hi')
  have h1 := pickW_range (x.getD i t30).r (n := 30) (by omega) (by omega) ht.2.2
  refine ⟨by simp only [rowM0, coefM_length], coefM_small, ?_, ?_⟩ <;> simp only [rowM0] <;> rw [w64 (by omega)] <;> omega
theorem made_vars {v : Int} (hv : okI v) {x : List T3} {g : List Int} : 0 ≤ (madeW v x g).vars ∧ (madeW v x g).vars ≤ 8 := by
  have := pickW_range v (n := 9) (by omega) (by omega) hv
  simp only [madeW]; omega
theorem made_rows (v : Int) (x : List T3) (g : List Int) : (madeW v x g).rows.length ≤ 8 := by simp only [madeW, rowsM_length]; omega
theorem made_valid {v : Int} {x : List T3} {g : List Int} (hv : okI v) (hx : ∀ t ∈ x, okT t) (hg : ∀ c ∈ g, okI c) : validB (madeW v x g) = true := by
  have h1 := made_vars hv (x := x) (g := g)
  have h2 := made_rows v x g
  have e : (madeW v x g).vars = pickW v 9 := rfl
  simp only [validB, Bool.and_eq_true, decide_eq_true_eq, isInB_spec, List.all_eq_true, rightB]
  refine ⟨⟨h1.1, by omega⟩, by omega, fun r hr => ?_, ?_, ?_⟩
  · obtain ⟨k1, k2, k3, k4⟩ := made_row hx hr
    refine ⟨by rw [k1, e]; omega, coefB_iff.2 fun c hc => ?_, by omega, by omega⟩
    have := k2 c hc; omega
  · simp only [madeW, gainM_length]; omega
  · refine coefB_iff.2 fun c hc => ?_
    have := gainM_small hg c hc; omega
theorem valid_max {p : Pg} (h : validB p = true) : p.rows.length ≤ maxLen ∧ p.gain.length ≤ maxLen ∧ ∀ r ∈ p.rows, r.coef.length ≤ maxLen := by
  obtain ⟨h0, h1, h2, h3, h4, h5⟩ := validB_all h
  unfold maxLen
  exact ⟨by omega, by omega, fun r hr => by have := (h5 r hr).1; omega⟩
/-! #### sums by remainders -/
def totG (l : List Int) (set : Int) : Nat → Int
  | 0 => 0
  | n + 1 => IntKind.i64.wrap (totG l set n + IntKind.i64.wrap (l.getD n 0 * (shrW .i64 set n).tmod 2))
theorem rem_bit {s n : Nat} (hn : n < 64) : (shrW .i64 s n).tmod 2 = if s.testBit n then 1 else 0 := by
  rw [shrN hn, Nat.testBit_eq_decide_div_mod_eq]
  have : ((s / 2 ^ n : Nat) : Int).tmod 2 = ((s / 2 ^ n % 2 : Nat) : Int) := by
    rw [Int.tmod_eq_emod_of_nonneg (Int.natCast_nonneg _)]; omega
  rw [this]
  rcases Nat.mod_two_eq_zero_or_one (s / 2 ^ n) with h | h <;> simp [h]
theorem totG_sum {l : List Int} (hb : coefB l = true) {s : Nat} (hs : s < 65536) : ∀ n : Nat, n ≤ 12 → totG l s n = sumG l s n
  | 0, _ => rfl
  | n + 1, hn => by
    have h1 := chosenG_sum hb hs n (by omega)
    have hc := coef_getD hb n
    simp only [totG, sumG, totG_sum hb hs n (by omega), rem_bit (show n < 64 by omega)]
    split
    · rw [Int.mul_one, w64 (x := l.getD n 0) (by omega), w64 (by omega)]
    · rw [Int.mul_zero, w64 (x := (0 : Int)) (by omega), w64 (by omega)]
def keptTo (rows : List Rw) (set : Int) (v : Nat) : Nat → Bool
  | 0 => true
  | n + 1 => keptTo rows set v n && decide (totG (rows.getD n rw0).coef set v ≤ (rows.getD n rw0).most)
theorem keptTo_iff {rows : List Rw} {set : Int} {v : Nat} : ∀ {n : Nat}, keptTo rows set v n = true ↔ ∀ i, i < n → totG (rows.getD i rw0).coef set v ≤ (rows.getD i rw0).most
  | 0 => by simp [keptTo]
  | n + 1 => by
    simp only [keptTo, Bool.and_eq_true, keptTo_iff (n := n), decide_eq_true_eq]
    constructor
    · rintro ⟨h1, h2⟩ i hi
      by_cases e : i = n
      · subst e; exact h2
      · exact h1 i (by omega)
    · exact fun h => ⟨fun i hi => h i (by omega), h n (by omega)⟩
theorem keptTo_all {p : Pg} (hv : validB p = true) {v : Nat} (e : p.vars = v) {s : Nat} (hs : s < 65536) : keptTo p.rows s v p.rows.length = allKept p.rows s := by
  obtain ⟨h0, h1, h2, h3, h4, h5⟩ := validB_all hv
  rw [Bool.eq_iff_iff, keptTo_iff]
  have key : ∀ r ∈ p.rows, (totG r.coef s v ≤ r.most ↔ keptB r s = true) := fun r hr => by
    obtain ⟨k1, k2, -⟩ := h5 r hr
    rw [keptB_iff, chosenW_sum k2 hs (by omega), totG_sum k2 hs v (by omega)]
    have : r.coef.length = v := by omega
    unfold sumS; rw [this]
  simp only [allKept, List.all_eq_true]
  constructor
  · intro h r hr
    obtain ⟨i, hi, rfl⟩ := List.getElem_of_mem hr
    have := h i hi
    have e2 : p.rows.getD i rw0 = p.rows[i] := by simp [List.getD, hi]
    rw [e2] at this
    exact (key _ hr).1 this
  · intro h i hi
    exact (key _ (getD_mem hi)).2 (h _ (getD_mem hi))
theorem choice_in {p : Pg} (hv : validB p = true) {v : Nat} (e : p.vars = v) {s : Nat} (hs : s < 2 ^ v) : choiceB p s = true := by
  obtain ⟨v', e', h1, h2, h3⟩ := vars_pow hv
  have : v' = v := by omega
  subst this
  obtain ⟨k1, -⟩ := shl_small (k := (v' : Nat)) (by omega)
  unfold choiceB
  rw [hv, e', k1, h2]
  simp only [Bool.true_and, isInB_spec]; omega
theorem choice_iff {p : Pg} (hv : validB p = true) {v : Nat} (e : p.vars = v) {s : Int} : choiceB p s = true ↔ ∃ n : Nat, s = n ∧ n < 2 ^ v := by
  obtain ⟨v', e', h1, h2, h3⟩ := vars_pow hv
  have : v' = v := by omega
  subst this
  obtain ⟨k1, -⟩ := shl_small (k := (v' : Nat)) (by omega)
  unfold choiceB
  rw [hv, e', k1, h2]
  simp only [Bool.true_and, isInB_spec]
  constructor
  · rintro ⟨q1, q2⟩
    obtain ⟨n, rfl⟩ := Int.eq_ofNat_of_zero_le q1
    exact ⟨n, rfl, by omega⟩
  · rintro ⟨n, rfl, hn⟩; omega
theorem keeps_in {p : Pg} (hv : validB p = true) {v : Nat} (e : p.vars = v) {s : Nat} (hs : s < 2 ^ v) : keepsB p s = allKept p.rows s := by
  unfold keepsB; rw [choice_in hv e hs]; rfl
theorem gain_in {p : Pg} (hv : validB p = true) {v : Nat} (e : p.vars = v) {s : Nat} (hs : s < 2 ^ v) : gainW p s = sumG p.gain s v ∧ totG p.gain s v = sumG p.gain s v := by
  obtain ⟨h0, h1, h2, h3, h4, h5⟩ := validB_all hv
  have hp : 2 ^ v ≤ 2 ^ 12 := Nat.pow_le_pow_right (by omega) (by omega)
  refine ⟨?_, totG_sum h4 (by omega) v (by omega)⟩
  unfold gainW
  rw [if_pos (choice_in hv e hs), chosenW_sum h4 (by omega) (by omega)]
  unfold sumS
  rw [show p.gain.length = v by omega]
/-- None with the same gain is a lesser number. -/
theorem best_least (g : List Int) (rows : List Rw) : ∀ n : Nat, ∀ x ∈ chL rows n, chosenW g x = (bestW g (chL rows n)).2.2 → (bestW g (chL rows n)).2.1 ≤ x
  | 0 => by intro x hx; cases hx
  | n + 1 => by
    intro x hx he
    cases h : allKept rows n with
    | false => rw [chL_f h] at hx he ⊢; exact best_least g rows n x hx he
    | true =>
      rw [chL_t h] at hx he ⊢
      rw [bestW_snoc] at he ⊢
      have hsp := bestW_spec g (chL rows n)
      generalize hb : bestW g (chL rows n) = b at he hsp ⊢
      have ih := best_least g rows n
      rw [hb] at ih
      cases hc : (!b.1 || decide (b.2.2 < chosenW g n)) with
      | true =>
        rw [bestS_t hc] at he ⊢
        simp only at he ⊢
        rcases List.mem_append.1 hx with hx | hx
        · cases hf : b.1 with
          | false => rw [(hsp.1 hf).1] at hx; cases hx
          | true =>
            have := (hsp.2 hf).2.2 x hx
            simp [hf] at hc; omega
        · rw [List.mem_singleton] at hx; omega
      | false =>
        rw [bestS_f hc] at he ⊢
        simp only [Bool.or_eq_false_iff, Bool.not_eq_false', decide_eq_false_iff_not] at hc
        rcases List.mem_append.1 hx with hx | hx
        · exact ih x hx he
        · rw [List.mem_singleton] at hx; subst hx
          have := (hsp.2 hc.1).1
          obtain ⟨s, e, hs, -⟩ := mem_chL.1 this
          omega
/-- What Solve's answer says of a choice that keeps all rows. -/
theorem solve_kept {p : Pg} (hv : validB p = true) {v : Nat} (e : p.vars = v) {s : Nat} (hs : s < 2 ^ v) (hk : allKept p.rows s = true) :
    (solveB p).1 = true ∧ sumG p.gain s v ≤ (solveB p).2.2 ∧ (sumG p.gain s v = (solveB p).2.2 → (solveB p).2.1 ≤ s) ∧ ((s : Int) = (solveB p).2.1 → sumG p.gain s v = (solveB p).2.2) := by
  obtain ⟨h0, h1, h2, h3, h4, h5⟩ := validB_all hv
  have hp : 2 ^ v ≤ 2 ^ 12 := Nat.pow_le_pow_right (by omega) (by omega)
  have hm : (s : Int) ∈ choiceL p := mem_choiceL.2 ⟨s, rfl, by rw [e]; exact hs, hk⟩
  have hsp := bestW_spec p.gain (choiceL p)
  have eb : bestW p.gain (choiceL p) = solveB p := rfl
  rw [eb] at hsp
  have hl : chosenW p.gain s = sumG p.gain s v := by
    rw [chosenW_sum h4 (by omega) (by omega)]; unfold sumS; rw [show p.gain.length = v by omega]
  have hf : (solveB p).1 = true := by
    cases hf : (solveB p).1 with
    | true => rfl
    | false => rw [(hsp.1 hf).1] at hm; cases hm
  refine ⟨hf, by rw [← hl]; exact (hsp.2 hf).2.2 _ hm, fun h => ?_, fun h => ?_⟩
  · exact best_least p.gain p.rows (2 ^ p.vars.toNat) s hm (by rw [hl]; exact h)
  · rw [← hl, h]; exact (hsp.2 hf).2.1.symm
theorem solve_set {p : Pg} (hv : validB p = true) {v : Nat} (e : p.vars = v) : ((solveB p).1 = true → 0 ≤ (solveB p).2.1 ∧ (solveB p).2.1 < ((2 ^ v : Nat) : Int)) ∧ ((solveB p).1 = false → (solveB p).2.1 = 0 ∧ (solveB p).2.2 = 0) := by
  have hsp := bestW_spec p.gain (choiceL p)
  have eb : bestW p.gain (choiceL p) = solveB p := rfl
  rw [eb] at hsp
  refine ⟨fun h => ?_, fun h => ?_⟩
  · obtain ⟨s, h1, h2, h3⟩ := solveB_mem h
    rw [e] at h2
    simp only [Int.toNat_natCast] at h2
    omega
  · have := (hsp.1 h).2
    rw [this]; exact ⟨rfl, rfl⟩
theorem there_0 {p : Pg} (hv : validB p = true) {v : Nat} (e : p.vars = v) : ((solveW p).found && decide ((solveW p).set < ((0 : Nat) : Int))) = false := by
  have := (solve_set hv e).1
  cases hf : (solveW p).found with
  | false => rfl
  | true => have h1 := this hf; have e1 : (solveW p).set = (solveB p).2.1 := rfl; simp only [Bool.true_and, decide_eq_false_iff_not]; omega
theorem there_f {p : Pg} (hv : validB p = true) {v : Nat} (e : p.vars = v) {i : Nat} (hk : allKept p.rows i = false) : ((solveW p).found && decide ((solveW p).set < (i : Int))) = ((solveW p).found && decide ((solveW p).set < ((i + 1 : Nat) : Int))) := by
  cases hf : (solveW p).found with
  | false => rfl
  | true =>
    obtain ⟨s, h1, h2, h3⟩ := solveB_mem hf
    have e1 : (solveW p).set = (solveB p).2.1 := rfl
    have : s ≠ i := fun e => by subst e; rw [h3] at hk; cases hk
    simp only [Bool.true_and]; rw [decide_eq_decide]; omega
theorem there_t {p : Pg} (hv : validB p = true) {v : Nat} (e : p.vars = v) {i : Nat} (hi : i < 2 ^ v) (hk : allKept p.rows i = true) : ((solveW p).found && decide ((solveW p).set < (i : Int)) || decide ((i : Int) = (solveW p).set)) = ((solveW p).found && decide ((solveW p).set < ((i + 1 : Nat) : Int))) := by
  have hf : (solveW p).found = true := (solve_kept hv e hi hk).1
  rw [hf, Bool.true_and, Bool.true_and, Bool.eq_iff_iff, Bool.or_eq_true, decide_eq_true_eq, decide_eq_true_eq, decide_eq_true_eq]; omega
theorem there_n {p : Pg} (hv : validB p = true) {v : Nat} (e : p.vars = v) : ((solveW p).found && decide ((solveW p).set < ((2 ^ v : Nat) : Int))) = (solveW p).found := by
  cases hf : (solveW p).found with
  | false => rfl
  | true => have h1 := (solve_set hv e).1 hf; have e1 : (solveW p).set = (solveB p).2.1 := rfl; simp only [Bool.true_and, decide_eq_true_eq]; omega
theorem best_no {p : Pg} (hv : validB p = true) {v : Nat} (e : p.vars = v) {i : Nat} (hi : i < 2 ^ v) (hk : allKept p.rows i = true) :
    (solveW p).found = true ∧ ¬ (solveW p).gain < sumG p.gain i v ∧ ¬ (sumG p.gain i v = (solveW p).gain ∧ (i : Int) < (solveW p).set) ∧ ¬ ((i : Int) = (solveW p).set ∧ ¬ sumG p.gain i v = (solveW p).gain) := by
  obtain ⟨h1, h2, h3, h4⟩ := solve_kept hv e hi hk
  have e1 : (solveW p).set = (solveB p).2.1 := rfl
  have e2 : (solveW p).gain = (solveB p).2.2 := rfl
  rw [e1, e2]
  refine ⟨h1, by omega, fun h => ?_, fun h => h.2 (h4 h.1)⟩
  have := h3 h.1; omega
end Go.Proofs.YtgmgifmfhpoglaaDoor

namespace Go.Proofs.YtgmgifmfhpoglaaDoor
open Go.RowKit
set_option linter.unusedVariables false
set_option linter.unusedSimpArgs false
theorem andNotN {a b : Nat} (ha : a < 65536) (hb : b < 65536) : ∃ K : Nat, bitsV .andNot .i64 a b = K ∧ K ≤ a ∧ ∀ i, K.testBit i = (a.testBit i && !b.testBit i) := by
  refine ⟨a &&& (b ^^^ 65535), ?_, Nat.and_le_left, fun i => ?_⟩
  · have e : bitsV .andNot .i64 a b = IntKind.i64.wrap (((BitVec.ofInt 64 (a : Int)) &&& ~~~(BitVec.ofInt 64 (b : Int))).toNat : Int) := rfl
    have e2 : ((BitVec.ofInt 64 (a : Int)) &&& ~~~(BitVec.ofInt 64 (b : Int))).toNat = a &&& (b ^^^ 65535) := by
      apply Nat.eq_of_testBit_eq
      intro i
      rw [← BitVec.getLsbD]
      simp only [BitVec.getLsbD_and, BitVec.getLsbD_not, Nat.testBit_and, Nat.testBit_xor]
      rw [BitVec.getLsbD, BitVec.getLsbD, toNat64 ha, toNat64 hb]
      by_cases h : i < 16
      · rw [show (65535 : Nat) = 2 ^ 16 - 1 from rfl, Nat.testBit_two_pow_sub_one]
        simp [h, show i < 64 by omega]
      · have : a.testBit i = false := Nat.testBit_lt_two_pow (Nat.lt_of_lt_of_le ha (by rw [show (65536 : Nat) = 2 ^ 16 from rfl]; exact Nat.pow_le_pow_right (by omega) (by omega)))
        simp [this]
    have h16 : a &&& (b ^^^ 65535) ≤ a := Nat.and_le_left
    rw [e, e2, w64 (by omega)]
  · rw [Nat.testBit_and, Nat.testBit_xor, show (65535 : Nat) = 2 ^ 16 - 1 from rfl, Nat.testBit_two_pow_sub_one]
    by_cases h : i < 16
    · simp [h]
    · have : a.testBit i = false := Nat.testBit_lt_two_pow (Nat.lt_of_lt_of_le ha (by rw [show (65536 : Nat) = 2 ^ 16 from rfl]; exact Nat.pow_le_pow_right (by omega) (by omega)))
      simp [this]
theorem sumG_or (l : List Int) {a b : Nat} (h : ∀ i, a.testBit i = true → b.testBit i = false) : ∀ n, sumG l a n + sumG l b n = sumG l (a ||| b) n
  | 0 => rfl
  | n + 1 => by
    have ih := sumG_or l h n
    simp only [sumG, Nat.testBit_or]
    have hn := h n
    cases ha : a.testBit n <;> cases hb : b.testBit n <;> simp_all <;> omega
theorem sum_in {p : Pg} (hv : validB p = true) {v : Nat} (e : p.vars = v) {r : Rw} (hr : r ∈ p.rows) {s : Nat} (hs : s < 2 ^ v) : sumW r s = sumG r.coef s v ∧ chosenW r.coef s = sumG r.coef s v ∧ -12000000000 ≤ sumG r.coef s v ∧ sumG r.coef s v ≤ 12000000000 := by
  obtain ⟨h0, h1, h2, h3, h4, h5⟩ := validB_all hv
  obtain ⟨k1, k2, k3⟩ := h5 r hr
  have hp : 2 ^ v ≤ 2 ^ 12 := Nat.pow_le_pow_right (by omega) (by omega)
  have hl : r.coef.length = v := by omega
  have e1 : chosenW r.coef s = sumG r.coef s v := by rw [chosenW_sum k2 (by omega) (by omega)]; unfold sumS; rw [hl]
  have h6 := chosenG_sum k2 (show s < 65536 by omega) v (by omega)
  refine ⟨?_, e1, by omega, by omega⟩
  unfold sumW
  have hright : rightB r r.coef.length = true := by simp only [rightB, Bool.and_eq_true, decide_eq_true_eq, isInB_spec]; exact ⟨trivial, k2, k3⟩
  obtain ⟨q1, q2, q3⟩ := shl_small (k := (r.coef.length : Nat)) (by omega)
  have hsh : shlW .i64 1 (r.coef.length : Nat) = ((2 ^ v : Nat) : Int) := by rw [hl]; exact shl1 (by omega)
  have hin : isInB (s : Int) 0 (IntKind.i64.wrap (shlW .i64 1 r.coef.length - 1)) = true := by rw [q1, hsh, isInB_spec]; omega
  rw [hright, hin, decide_eq_false (by omega), e1]
  rfl
theorem gainW_in {p : Pg} (hv : validB p = true) {v : Nat} (e : p.vars = v) {s : Nat} (hs : s < 2 ^ v) : gainW p s = sumG p.gain s v ∧ -12000000000 ≤ sumG p.gain s v ∧ sumG p.gain s v ≤ 12000000000 := by
  obtain ⟨h0, h1, h2, h3, h4, h5⟩ := validB_all hv
  have hp : 2 ^ v ≤ 2 ^ 12 := Nat.pow_le_pow_right (by omega) (by omega)
  have h6 := chosenG_sum h4 (show s < 65536 by omega) v (by omega)
  exact ⟨(gain_in hv e hs).1, by omega, by omega⟩
theorem keptB_in {p : Pg} (hv : validB p = true) {v : Nat} (e : p.vars = v) {r : Rw} (hr : r ∈ p.rows) {s : Nat} (hs : s < 2 ^ v) : keptB r s = decide (sumG r.coef s v ≤ r.most) := by
  unfold keptB; rw [(sum_in hv e hr hs).2.1]
theorem brkTo_app (p : Pg) (s : Int) : ∀ {i n : Nat}, i ≤ n → ∃ l, brkTo p s n = brkTo p s i ++ l
  | i, 0, h => ⟨[], by have : i = 0 := by omega
                       subst this; simp⟩
  | i, n + 1, h => by
    by_cases e : i = n + 1
    · subst e; exact ⟨[], by simp⟩
    · obtain ⟨l, hl⟩ := brkTo_app p s (show i ≤ n by omega)
      simp only [brkTo]
      split
      · exact ⟨l, hl⟩
      · exact ⟨l ++ [(n : Int)], by rw [hl, List.append_assoc]⟩
/-- A broken row stands in the list, where it has to. -/
theorem brkTo_at {p : Pg} {s : Int} {i n : Nat} (hi : i < n) (hk : keptB (p.rows.getD i rw0) s = false) : (brkTo p s i).length < (brkTo p s n).length ∧ (brkTo p s n).getD (brkTo p s i).length 0 = i := by
  obtain ⟨l, hl⟩ := brkTo_app p s (show i + 1 ≤ n by omega)
  rw [hl, brkTo_f hk]
  constructor
  · simp
  · simp [List.getD]
theorem brkTo_nil {p : Pg} {s : Int} : ∀ {n : Nat}, brkTo p s n = [] ↔ ∀ i, i < n → keptB (p.rows.getD i rw0) s = true
  | 0 => by simp [brkTo]
  | n + 1 => by
    cases h : keptB (p.rows.getD n rw0) s with
    | true =>
      rw [brkTo_t h, brkTo_nil (n := n)]
      constructor
      · intro h2 i hi
        by_cases e : i = n
        · subst e; exact h
        · exact h2 i (by omega)
      · exact fun h2 i hi => h2 i (by omega)
    | false =>
      rw [brkTo_f h]
      constructor
      · intro h2; simp at h2
      · intro h2; rw [h2 n (by omega)] at h; cases h
theorem broken_in {p : Pg} (hv : validB p = true) {v : Nat} (e : p.vars = v) {s : Nat} (hs : s < 2 ^ v) : brokenW p s = brkTo p s p.rows.length := by
  unfold brokenW; rw [if_pos (choice_in hv e hs)]
theorem broken_keeps {p : Pg} (hv : validB p = true) {v : Nat} (e : p.vars = v) {s : Nat} (hs : s < 2 ^ v) : decide (((brkTo p s p.rows.length).length : Int) = 0) = keepsB p s := by
  rw [keeps_in hv e hs, Bool.eq_iff_iff, decide_eq_true_eq]
  have h1 : ((brkTo p s p.rows.length).length : Int) = 0 ↔ brkTo p s p.rows.length = [] := by rw [← List.length_eq_zero_iff]; omega
  rw [h1, brkTo_nil]
  simp only [allKept, List.all_eq_true]
  constructor
  · intro h r hr
    obtain ⟨i, hi, rfl⟩ := List.getElem_of_mem hr
    have := h i hi
    rwa [show p.rows.getD i rw0 = p.rows[i] by simp [List.getD, hi]] at this
  · exact fun h i hi => h _ (getD_mem hi)
theorem broken_keeps2 {p : Pg} (hv : validB p = true) {v : Nat} (e : p.vars = v) {s : Nat} (hs : s < 2 ^ v) : decide (brkTo p s p.rows.length = []) = keepsB p s := by
  rw [← broken_keeps hv e hs, decide_eq_decide, ← List.length_eq_zero_iff]; omega
theorem pow_pos_int (v : Nat) : 0 < ((2 ^ v : Nat) : Int) := by have := Nat.two_pow_pos v; omega
theorem brk_no {p : Pg} (hv : validB p = true) {v : Nat} (e : p.vars = v) {i : Nat} (hi : i < p.rows.length) {s : Nat} (hs : s < 2 ^ v) (h : ¬ sumW (p.rows.getD i rw0) s ≤ (p.rows.getD i rw0).most) :
    (brkTo p s i).length < (brokenW p s).length ∧ (brokenW p s).getD (brkTo p s i).length 0 = i ∧ (brkTo p s (i + 1)).length = (brkTo p s i).length + 1 := by
  have hr := getD_mem (d := rw0) hi
  have hk : keptB (p.rows.getD i rw0) s = false := by
    rw [keptB_in hv e hr hs, decide_eq_false_iff_not, ← (sum_in hv e hr hs).1]; exact h
  obtain ⟨h1, h2⟩ := brkTo_at hi hk
  rw [broken_in hv e hs]
  exact ⟨h1, h2, by rw [brkTo_f hk]; simp⟩
theorem brk_yes {p : Pg} (hv : validB p = true) {v : Nat} (e : p.vars = v) {i : Nat} (hi : i < p.rows.length) {s : Nat} (hs : s < 2 ^ v) (h : sumW (p.rows.getD i rw0) s ≤ (p.rows.getD i rw0).most) : brkTo p s (i + 1) = brkTo p s i := by
  have hr := getD_mem (d := rw0) hi
  exact brkTo_t (by rw [keptB_in hv e hr hs, decide_eq_true_eq, ← (sum_in hv e hr hs).1]; exact h)
theorem sums_in {p : Pg} (hv : validB p = true) {v : Nat} (e : p.vars = v) {r : Rw} (hr : r ∈ p.rows) {A B : Nat} (hA : A < 2 ^ v) (hB : B < 2 ^ v) (hC : A ||| B < 2 ^ v) (hd : ∀ i, A.testBit i = true → B.testBit i = false) :
    IntKind.i64.wrap (sumW r A + sumW r B) = sumW r ((A ||| B : Nat) : Int) := by
  have h1 := sum_in hv e hr hA
  have h2 := sum_in hv e hr hB
  have h3 := sum_in hv e hr hC
  rw [h1.1, h2.1, h3.1, sumG_or _ hd, w64 (by omega)]
theorem gains_in {p : Pg} (hv : validB p = true) {v : Nat} (e : p.vars = v) {A B : Nat} (hA : A < 2 ^ v) (hB : B < 2 ^ v) (hC : A ||| B < 2 ^ v) (hd : ∀ i, A.testBit i = true → B.testBit i = false) :
    IntKind.i64.wrap (gainW p A + gainW p B) = gainW p ((A ||| B : Nat) : Int) := by
  have h1 := gainW_in hv e hA
  have h2 := gainW_in hv e hB
  have h3 := gainW_in hv e hC
  rw [h1.1, h2.1, h3.1, sumG_or _ hd, w64 (by omega)]
/-- Two choices without a common thing. -/
theorem two_choices {v : Nat} (hv : v ≤ 12) {c d : Int} (hc : okI c) (hd : okI d) :
    ∃ A B : Nat, pickW c ((2 ^ v : Nat) : Int) = A ∧ bitsV .andNot .i64 (pickW d ((2 ^ v : Nat) : Int)) A = B ∧ A < 2 ^ v ∧ B < 2 ^ v ∧ bitsV .or .i64 A B = ((A ||| B : Nat) : Int) ∧ A ||| B < 2 ^ v ∧ ∀ i, A.testBit i = true → B.testBit i = false := by
  have hp : 2 ^ v ≤ 2 ^ 12 := Nat.pow_le_pow_right (by omega) hv
  have hp0 : 0 < 2 ^ v := Nat.two_pow_pos v
  have key : ∀ c : Int, okI c → 0 ≤ pickW c ((2 ^ v : Nat) : Int) ∧ pickW c ((2 ^ v : Nat) : Int) < ((2 ^ v : Nat) : Int) := fun c hc => by
    unfold okI at hc
    unfold pickW
    split
    · rw [w64 (x := c + 1) (by omega), w64 (by omega), Int.tmod_eq_emod_of_nonneg (by omega)]
      exact ⟨Int.emod_nonneg _ (by omega), Int.emod_lt_of_pos _ (by omega)⟩
    · rw [Int.tmod_eq_emod_of_nonneg (by omega)]
      exact ⟨Int.emod_nonneg _ (by omega), Int.emod_lt_of_pos _ (by omega)⟩
  obtain ⟨a1, a2⟩ := key c hc
  obtain ⟨b1, b2⟩ := key d hd
  obtain ⟨A, hA⟩ := Int.eq_ofNat_of_zero_le a1
  obtain ⟨D, hD⟩ := Int.eq_ofNat_of_zero_le b1
  obtain ⟨B, hB, hB1, hB2⟩ := andNotN (a := D) (b := A) (by omega) (by omega)
  refine ⟨A, B, hA, by rw [hD]; exact hB, by omega, by omega, orN (by omega) (by omega), Nat.or_lt_two_pow (by omega) (by omega), fun i hi => ?_⟩
  rw [hB2, hi]; simp
end Go.Proofs.YtgmgifmfhpoglaaDoor

namespace Go.Proofs.YtgmgifmfhpoglaaDoor
open Go.RowKit
set_option linter.unusedVariables false
set_option linter.unusedSimpArgs false
theorem encR_set (l : List Rw) (k : Nat) (a b c d m : Int) (cf : List Int) : (encR l).set k [V.int .i64 a, V.int .i64 b, V.int .i64 c, V.int .i64 d, V.sl 1 (encI cf), V.int .i64 m] = encR (l.set k ⟨a, b, c, d, cf, m⟩) := by simp [encR, List.map_set, encRw]
theorem encR_app (a b : List Rw) : encR a ++ encR b = encR (a ++ b) := by simp [encR]
theorem encR_drop (l : List Rw) (n : Nat) : (encR l).drop n = encR (l.drop n) := by simp [encR, List.map_drop]
theorem encR_take (l : List Rw) (n : Nat) : (encR l).take n = encR (l.take n) := by simp [encR, List.map_take]
def nmTo (l : List Rw) (nm : List Int) : Nat → List Rw
  | 0 => l
  | n + 1 => (nmTo l nm n).set n ⟨nm.getD 0 0, nm.getD 1 0, nm.getD 2 0, nm.getD 3 0, ((nmTo l nm n).getD n rw0).coef, ((nmTo l nm n).getD n rw0).most⟩
theorem nmTo_length (l : List Rw) (nm : List Int) : ∀ n, (nmTo l nm n).length = l.length
  | 0 => rfl
  | n + 1 => by simp [nmTo, nmTo_length l nm n]
theorem nmTo_same (l : List Rw) (nm : List Int) : ∀ n j, ((nmTo l nm n).getD j rw0).coef = (l.getD j rw0).coef ∧ ((nmTo l nm n).getD j rw0).most = (l.getD j rw0).most
  | 0, j => ⟨rfl, rfl⟩
  | n + 1, j => by
    have ih := nmTo_same l nm n
    by_cases hn : n < l.length
    · by_cases e : j = n
      · subst e
        simp only [nmTo]
        rw [getD_set_self (by rw [nmTo_length]; exact hn)]
        exact ih j
      · have : ((nmTo l nm (n + 1)).getD j rw0) = (nmTo l nm n).getD j rw0 := by
          simp only [nmTo, List.getD, List.getElem?_set_ne (show n ≠ j by omega)]
        rw [this]; exact ih j
    · have : nmTo l nm (n + 1) = nmTo l nm n := by
        simp only [nmTo]
        exact List.set_eq_of_length_le (by rw [nmTo_length]; omega)
      rw [this]; exact ih j
theorem keptB_same {r s : Rw} (h : r.coef = s.coef ∧ r.most = s.most) (set : Int) : keptB r set = keptB s set := by unfold keptB; rw [h.1, h.2]
theorem all_getD {α : Type} (d : α) (l : List α) (p : α → Bool) : l.all p = true ↔ ∀ i, i < l.length → p (l.getD i d) = true := by
  rw [List.all_eq_true]
  constructor
  · exact fun h i hi => h _ (getD_mem hi)
  · intro h x hx
    obtain ⟨i, hi, rfl⟩ := List.getElem_of_mem hx
    have := h i hi
    rwa [show l.getD i d = l[i] by simp [List.getD, hi]] at this
/-- Rows turned around, under other names. -/
def turnR (rows : List Rw) (k : Nat) (nm : List Int) : List Rw := nmTo (rows.drop k ++ rows.take k) nm (rows.drop k ++ rows.take k).length
theorem turn_len (rows : List Rw) (k : Nat) : (rows.drop k ++ rows.take k).length = rows.length := by simp; omega
theorem turn_mem (rows : List Rw) (k : Nat) (r : Rw) : r ∈ rows.drop k ++ rows.take k ↔ r ∈ rows := by
  rw [List.mem_append, Or.comm, ← List.mem_append, List.take_append_drop]
theorem turnR_all (rows : List Rw) (k : Nat) (nm : List Int) (p : Rw → Bool) (hp : ∀ r s : Rw, r.coef = s.coef ∧ r.most = s.most → p r = p s) : (turnR rows k nm).all p = rows.all p := by
  have h1 : (turnR rows k nm).all p = (rows.drop k ++ rows.take k).all p := by
    rw [Bool.eq_iff_iff, all_getD rw0, all_getD rw0]
    unfold turnR
    rw [nmTo_length]
    have key : ∀ i, p ((nmTo (rows.drop k ++ rows.take k) nm (rows.drop k ++ rows.take k).length).getD i rw0) = p ((rows.drop k ++ rows.take k).getD i rw0) := fun i => hp _ _ (nmTo_same _ nm _ i)
    simp only [key]
  rw [h1, Bool.eq_iff_iff, List.all_eq_true, List.all_eq_true]
  exact ⟨fun h r hr => h r ((turn_mem rows k r).2 hr), fun h r hr => h r ((turn_mem rows k r).1 hr)⟩
def turnPg (p : Pg) (k : Nat) (nm : List Int) : Pg := ⟨p.vars, turnR p.rows k nm, p.gain⟩
theorem turn_valid {p : Pg} (hv : validB p = true) (k : Nat) (nm : List Int) : validB (turnPg p k nm) = true := by
  have e : (turnR p.rows k nm).length = p.rows.length := by unfold turnR; rw [nmTo_length, turn_len]
  have e2 : (turnR p.rows k nm).all (fun r => rightB r p.vars) = p.rows.all (fun r => rightB r p.vars) := turnR_all _ _ _ _ fun r s h => by unfold rightB; rw [h.1, h.2]
  have : validB (turnPg p k nm) = validB p := by
    have e3 : decide (((turnR p.rows k nm).length : Int) ≤ 300) = decide ((p.rows.length : Int) ≤ 300) := by rw [e]
    show (isInB p.vars 0 12 && (decide (((turnR p.rows k nm).length : Int) ≤ 300) && ((turnR p.rows k nm).all (fun r => rightB r p.vars) && (decide ((p.gain.length : Int) = p.vars) && coefB p.gain)))) = _
    rw [e3, e2]; rfl
  rw [this]; exact hv
theorem turn_choices (p : Pg) (k : Nat) (nm : List Int) : choiceL (turnPg p k nm) = choiceL p := by
  have key : ∀ s : Int, allKept (turnR p.rows k nm) s = allKept p.rows s := fun s => turnR_all _ _ _ _ fun r s' h => keptB_same h s
  have : ∀ n, chL (turnR p.rows k nm) n = chL p.rows n := by
    intro n
    induction n with
    | zero => rfl
    | succ n ih => simp only [chL, key, ih]
  exact this _
theorem turn_solve (p : Pg) (k : Nat) (nm : List Int) : (solveW (turnPg p k nm)).found = (solveW p).found ∧ (solveW (turnPg p k nm)).set = (solveW p).set ∧ (solveW (turnPg p k nm)).gain = (solveW p).gain := by
  have : solveB (turnPg p k nm) = solveB p := by unfold solveB; rw [turn_choices]; rfl
  simp only [solveW, this, and_self]
theorem pick_nat {c : Int} (hc : okI c) {n : Nat} (h0 : 0 < n) (hn : n ≤ 1000) : ∃ k : Nat, pickW c (n : Nat) = k ∧ k < n := by
  have := pickW_range c (n := (n : Nat)) (by omega) (by omega) hc
  obtain ⟨k, hk⟩ := Int.eq_ofNat_of_zero_le this.1
  exact ⟨k, hk, by omega⟩
theorem choice_max {p : Pg} (hv : validB p = true) : (choiceL p).length ≤ maxLen ∧ (choiceL p).length ≤ 4096 := by
  obtain ⟨v, hv1, hv2, hv3, hv4⟩ := vars_pow hv
  have h := chL_length p.rows (2 ^ p.vars.toNat)
  rw [hv1] at h
  simp only [Int.toNat_natCast] at h
  have : (choiceL p).length ≤ 2 ^ v := by unfold choiceL; rw [hv1]; exact h
  unfold maxLen; omega
end Go.Proofs.YtgmgifmfhpoglaaDoor

namespace Go.Proofs.YtgmgifmfhpoglaaDoor
open Go.RowKit
set_option linter.unusedVariables false
set_option linter.unusedSimpArgs false
/-! #### lists that grow -/
theorem chL_srt (rows : List Rw) : ∀ n, srt (chL rows n) ∧ ∀ x ∈ chL rows n, x < (n : Int)
  | 0 => ⟨fun i j _ h => by simp [chL] at h, by simp [chL]⟩
  | n + 1 => by
    obtain ⟨h1, h2⟩ := chL_srt rows n
    cases h : allKept rows n with
    | false => rw [chL_f h]; exact ⟨h1, fun x hx => by have := h2 x hx; omega⟩
    | true =>
      rw [chL_t h]
      refine ⟨fun i j hij hj => ?_, fun x hx => ?_⟩
      · by_cases hj2 : j < (chL rows n).length
        · have e1 : (chL rows n ++ [(n : Int)]).getD i 0 = (chL rows n).getD i 0 := by simp [List.getD, List.getElem?_append_left (show i < (chL rows n).length by omega)]
          have e2 : (chL rows n ++ [(n : Int)]).getD j 0 = (chL rows n).getD j 0 := by simp [List.getD, List.getElem?_append_left hj2]
          rw [e1, e2]; exact h1 i j hij hj2
        · have hj3 : j = (chL rows n).length := by simp at hj; omega
          subst hj3
          have e1 : (chL rows n ++ [(n : Int)]).getD i 0 = (chL rows n).getD i 0 := by simp [List.getD, List.getElem?_append_left hij]
          have e2 : (chL rows n ++ [(n : Int)]).getD (chL rows n).length 0 = n := by simp [List.getD]
          rw [e1, e2]; exact h2 _ (getD_mem hij)
      · rcases List.mem_append.1 hx with hx | hx
        · have := h2 x hx; omega
        · rw [List.mem_singleton] at hx; omega
theorem choice_srt (p : Pg) : srt (choiceL p) := (chL_srt p.rows _).1
theorem srt_lt {l : List Int} (h : srt l) {i j : Nat} (hi : i < l.length) (hj : j < l.length) : l.getD i 0 < l.getD j 0 ↔ i < j := by
  constructor
  · intro hl
    rcases Nat.lt_or_ge i j with h1 | h1
    · exact h1
    · have := srt_le h h1 hi; omega
  · exact fun hl => h i j hl hj
/-- Among the first n of a, those that r keeps. -/
def cntK (r : Rw) (a : List Int) (n : Nat) : List Int := (a.take n).filter fun s => keptB r s
theorem cntK_t {r : Rw} {a : List Int} {n : Nat} (hn : n < a.length) (h : keptB r (a.getD n 0) = true) : cntK r a (n + 1) = cntK r a n ++ [a.getD n 0] := by
  have e : a[n] = a.getD n 0 := by simp [List.getD, hn]
  unfold cntK
  rw [List.take_add_one, List.getElem?_eq_getElem hn, List.filter_append]
  simp only [Option.toList_some, List.filter_cons, List.filter_nil, e, h, if_true]
theorem cntK_f {r : Rw} {a : List Int} {n : Nat} (hn : n < a.length) (h : keptB r (a.getD n 0) = false) : cntK r a (n + 1) = cntK r a n := by
  have e : a[n] = a.getD n 0 := by simp [List.getD, hn]
  unfold cntK
  rw [List.take_add_one, List.getElem?_eq_getElem hn, List.filter_append]
  simp [List.filter_cons, e]
  exact h
theorem cntK_all (r : Rw) (a : List Int) : cntK r a a.length = a.filter fun s => keptB r s := by unfold cntK; rw [List.take_length]
theorem cntK_pre (r : Rw) (a : List Int) {n : Nat} (hn : n < a.length) (h : keptB r (a.getD n 0) = true) : (cntK r a n).length < (a.filter fun s => keptB r s).length ∧ (a.filter fun s => keptB r s).getD (cntK r a n).length 0 = a.getD n 0 := by
  have e : a.filter (fun s => keptB r s) = cntK r a (n + 1) ++ (a.drop (n + 1)).filter fun s => keptB r s := by
    unfold cntK; rw [← List.filter_append, List.take_append_drop]
  rw [e, cntK_t hn h]
  constructor
  · simp
  · simp [List.getD]
theorem chL_more (rows : List Rw) (r : Rw) : ∀ n, chL (rows ++ [r]) n = (chL rows n).filter fun s => keptB r s
  | 0 => rfl
  | n + 1 => by
    have e : allKept (rows ++ [r]) n = (allKept rows n && keptB r n) := by simp [allKept]
    simp only [chL, e, chL_more rows r n]
    cases h1 : allKept rows n <;> cases h2 : keptB r (n : Int) <;> simp [h1, h2]
/-! #### a further row -/
def moreP (p : Pg) (r : Rw) : Pg := ⟨p.vars, p.rows ++ [r], p.gain⟩
theorem more_choices (p : Pg) (r : Rw) : choiceL (moreP p r) = (choiceL p).filter fun s => keptB r s := chL_more p.rows r _
theorem more_valid {p : Pg} (hv : validB p = true) {r : Rw} (hr : rightB r p.vars = true) (hl : p.rows.length < 300) : validB (moreP p r) = true := by
  obtain ⟨h0, h1, h2, h3, h4, h5⟩ := validB_all hv
  have hh : ∀ q ∈ p.rows ++ [r], rightB q p.vars = true := fun q hq => by
    rcases List.mem_append.1 hq with hq | hq
    · obtain ⟨k1, k2, k3⟩ := h5 q hq
      simp only [rightB, Bool.and_eq_true, decide_eq_true_eq, isInB_spec]; exact ⟨k1, k2, k3⟩
    · rw [List.mem_singleton] at hq; subst hq; exact hr
  simp only [validB, moreP, Bool.and_eq_true, decide_eq_true_eq, isInB_spec, List.all_eq_true]
  exact ⟨⟨h0, h1⟩, decide_eq_true (show ((p.rows ++ [r]).length : Int) ≤ 300 by simp; omega), hh, decide_eq_true h3, h4⟩
theorem more_solve {p : Pg} (hv : validB p = true) {r : Rw} : (solveW (moreP p r)).found = true → (solveW p).found = true ∧ (solveW (moreP p r)).gain ≤ (solveW p).gain := by
  intro hf
  have s1 := bestW_spec p.gain (choiceL (moreP p r))
  have s2 := bestW_spec p.gain (choiceL p)
  have e1 : bestW p.gain (choiceL (moreP p r)) = solveB (moreP p r) := rfl
  have e2 : bestW p.gain (choiceL p) = solveB p := rfl
  rw [e1] at s1
  rw [e2] at s2
  have hf' : (solveB (moreP p r)).1 = true := hf
  obtain ⟨k1, k2, k3⟩ := s1.2 hf'
  rw [more_choices, List.mem_filter] at k1
  have hfp : (solveB p).1 = true := by
    cases h : (solveB p).1 with
    | true => rfl
    | false => rw [(s2.1 h).1] at k1; cases k1.1
  refine ⟨hfp, ?_⟩
  show (solveB (moreP p r)).2.2 ≤ (solveB p).2.2
  rw [k2]; exact (s2.2 hfp).2.2 _ k1.1
/-! #### without some -/
def bitL (b : Int) : Nat → List Int
  | 0 => []
  | n + 1 => if decide ((shrW .i64 b n).tmod 2 = 1) = true then bitL b n ++ [(n : Int)] else bitL b n
theorem bitL_t {b : Int} {n : Nat} (h : (shrW .i64 b n).tmod 2 = 1) : bitL b (n + 1) = bitL b n ++ [(n : Int)] := by simp only [bitL, h, decide_true, if_true]
theorem bitL_f {b : Int} {n : Nat} (h : ¬ (shrW .i64 b n).tmod 2 = 1) : bitL b (n + 1) = bitL b n := by simp only [bitL, h, decide_false, Bool.false_eq_true, if_false]
theorem bitL_length (b : Int) : ∀ n, (bitL b n).length ≤ n
  | 0 => Nat.le_refl _
  | n + 1 => by have := bitL_length b n; simp only [bitL]; split <;> (try simp) <;> omega
theorem bitL_lt (b : Int) : ∀ n, srt (bitL b n) ∧ ∀ x ∈ bitL b n, 0 ≤ x ∧ x < (n : Int)
  | 0 => ⟨fun i j _ h => by simp [bitL] at h, by simp [bitL]⟩
  | n + 1 => by
    obtain ⟨h1, h2⟩ := bitL_lt b n
    by_cases h : (shrW .i64 b n).tmod 2 = 1
    · rw [bitL_t h]
      refine ⟨fun i j hij hj => ?_, fun x hx => ?_⟩
      · by_cases hj2 : j < (bitL b n).length
        · have e1 : (bitL b n ++ [(n : Int)]).getD i 0 = (bitL b n).getD i 0 := by simp [List.getD, List.getElem?_append_left (show i < (bitL b n).length by omega)]
          have e2 : (bitL b n ++ [(n : Int)]).getD j 0 = (bitL b n).getD j 0 := by simp [List.getD, List.getElem?_append_left hj2]
          rw [e1, e2]; exact h1 i j hij hj2
        · have hj3 : j = (bitL b n).length := by simp at hj; omega
          subst hj3
          have e1 : (bitL b n ++ [(n : Int)]).getD i 0 = (bitL b n).getD i 0 := by simp [List.getD, List.getElem?_append_left hij]
          have e2 : (bitL b n ++ [(n : Int)]).getD (bitL b n).length 0 = n := by simp [List.getD]
          rw [e1, e2]; exact (h2 _ (getD_mem hij)).2
      · rcases List.mem_append.1 hx with hx | hx
        · have := h2 x hx; omega
        · rw [List.mem_singleton] at hx; omega
    · rw [bitL_f h]; exact ⟨h1, fun x hx => by have := h2 x hx; omega⟩
theorem okRows_of {p : Pg} (hv : validB p = true) {l : List Int} (hs : srt l) (hr : ∀ x ∈ l, 0 ≤ x ∧ x < (p.rows.length : Int)) : okRows p l = true := by
  obtain ⟨h0, h1, h2, h3, h4, h5⟩ := validB_all hv
  refine okTo_iff.2 fun i hi => idxOk_iff.2 ?_
  have := hr _ (getD_mem (d := 0) hi)
  rw [w64 (by omega)]
  refine ⟨this.1, by omega, fun h => hs (i - 1) i (by omega) hi⟩
theorem keepTo_mem {p : Pg} {l : List Int} {r : Rw} : ∀ {n : Nat}, r ∈ keepTo p l n → ∃ i : Nat, i < n ∧ r = p.rows.getD i rw0 ∧ ¬ (i : Int) ∈ l
  | 0, h => by simp [keepTo] at h
  | n + 1, h => by
    by_cases hm : (n : Int) ∈ l
    · rw [keepTo_t hm] at h
      obtain ⟨i, h1, h2⟩ := keepTo_mem h
      exact ⟨i, by omega, h2⟩
    · rw [keepTo_f hm] at h
      rcases List.mem_append.1 h with h | h
      · obtain ⟨i, h1, h2⟩ := keepTo_mem h
        exact ⟨i, by omega, h2⟩
      · rw [List.mem_singleton] at h; exact ⟨n, by omega, h, hm⟩
theorem without_valid {p : Pg} (hv : validB p = true) (l : List Int) : validB (withoutW p l) = true := by
  obtain ⟨h0, h1, h2, h3, h4, h5⟩ := validB_all hv
  have hh : ∀ q ∈ keepTo p l p.rows.length, rightB q p.vars = true := fun q hq => by
    obtain ⟨i, hi, rfl, -⟩ := keepTo_mem hq
    obtain ⟨k1, k2, k3⟩ := h5 _ (getD_mem (d := rw0) hi)
    simp only [rightB, Bool.and_eq_true, decide_eq_true_eq, isInB_spec]; exact ⟨k1, k2, k3⟩
  have hl := keepTo_length p l p.rows.length
  simp only [validB, withoutW, Bool.and_eq_true, decide_eq_true_eq, isInB_spec, List.all_eq_true]
  exact ⟨⟨h0, h1⟩, decide_eq_true (show ((keepTo p l p.rows.length).length : Int) ≤ 300 by omega), hh, decide_eq_true h3, h4⟩
theorem without_more {p : Pg} (l : List Int) {x : Int} (h : x ∈ choiceL p) : x ∈ choiceL (withoutW p l) := by
  obtain ⟨s, h1, h2, h3⟩ := mem_choiceL.1 h
  refine mem_choiceL.2 ⟨s, h1, h2, ?_⟩
  simp only [allKept, List.all_eq_true] at h3 ⊢
  intro r hr
  obtain ⟨i, hi, rfl, -⟩ := keepTo_mem hr
  exact h3 _ (getD_mem hi)
/-- How many rows are left. -/
theorem keepTo_count {p : Pg} {b : Int} {m : Nat} : ∀ {n : Nat}, n ≤ m → (keepTo p (bitL b m) n).length + (bitL b n).length = n
  | 0, _ => by simp [keepTo, bitL]
  | n + 1, h => by
    have ih := keepTo_count (p := p) (b := b) (m := m) (n := n) (by omega)
    have hmem : ∀ m, n < m → ((n : Int) ∈ bitL b m ↔ (shrW .i64 b n).tmod 2 = 1) := by
      intro m
      induction m with
      | zero => intro h; omega
      | succ m ihm =>
        intro h
        by_cases e : n = m
        · subst e
          by_cases h2 : (shrW .i64 b n).tmod 2 = 1
          · rw [bitL_t h2]; simp [h2]
          · rw [bitL_f h2]
            have := (bitL_lt b n).2
            constructor
            · intro h3; have := this _ h3; omega
            · exact fun h3 => (h2 h3).elim
        · have ih2 := ihm (by omega)
          by_cases h2 : (shrW .i64 b m).tmod 2 = 1
          · rw [bitL_t h2, List.mem_append, ih2, List.mem_singleton]
            constructor
            · rintro (h3 | h3)
              · exact h3
              · omega
            · exact fun h3 => .inl h3
          · rw [bitL_f h2]; exact ih2
    have hm := hmem m (by omega)
    by_cases h2 : (shrW .i64 b n).tmod 2 = 1
    · rw [keepTo_t (hm.2 h2), bitL_t h2]; simp; omega
    · rw [keepTo_f (fun h3 => h2 (hm.1 h3)), bitL_f h2]; simp; omega
theorem merge_at {c : List Int} (hc : srt c) {w : Nat} {x : Int} (h : ∀ j, j < w → c.getD j 0 < x) (hx : x ∈ c) (hn : ¬ ((w : Int) < c.length ∧ c.getD w 0 < x)) : w < c.length ∧ c.getD w 0 = x := by
  obtain ⟨i, hi, e⟩ : ∃ i, i < c.length ∧ c.getD i 0 = x := by
    obtain ⟨i, hi, rfl⟩ := List.getElem_of_mem hx
    exact ⟨i, hi, by simp [List.getD, hi]⟩
  have hwi : w ≤ i := by
    rcases Nat.lt_or_ge i w with h1 | h1
    · have := h i h1; omega
    · exact h1
  have := srt_le hc hwi hi
  refine ⟨by omega, ?_⟩
  rcases Int.lt_or_le (c.getD w 0) x with h1 | h1
  · exact (hn ⟨by omega, h1⟩).elim
  · omega
theorem more_at {p : Pg} (hv : validB p = true) {v : Nat} (e : p.vars = v) {r : Rw} (hr : rightB r p.vars = true) (hl : p.rows.length < 300) {k : Nat} (hk : k < (choiceL p).length) :
    (¬ r.most < sumW r ((choiceL p).getD k 0) → (cntK r (choiceL p) k).length < (choiceL (moreP p r)).length ∧ (choiceL (moreP p r)).getD (cntK r (choiceL p) k).length 0 = (choiceL p).getD k 0 ∧ (cntK r (choiceL p) (k + 1)).length = (cntK r (choiceL p) k).length + 1) ∧
    (r.most < sumW r ((choiceL p).getD k 0) → cntK r (choiceL p) (k + 1) = cntK r (choiceL p) k) := by
  obtain ⟨s, h1, h2, -⟩ := mem_choiceL.1 (getD_mem (d := 0) hk)
  have hq := more_valid hv hr hl
  have hs : s < 2 ^ v := by rw [e] at h2; simpa using h2
  have hm := sum_in hq (v := v) e (r := r) (by simp [moreP]) hs
  have hkb : keptB r ((choiceL p).getD k 0) = decide (sumW r ((choiceL p).getD k 0) ≤ r.most) := by
    rw [h1]; unfold keptB; rw [hm.1, hm.2.1]
  rw [more_choices]
  constructor
  · intro h
    have hkt : keptB r ((choiceL p).getD k 0) = true := by rw [hkb, decide_eq_true_eq]; omega
    obtain ⟨k1, k2⟩ := cntK_pre r _ hk hkt
    exact ⟨k1, k2, by rw [cntK_t hk hkt]; simp⟩
  · intro h
    exact cntK_f hk (by rw [hkb, decide_eq_false_iff_not]; omega)
theorem more_end (p : Pg) (r : Rw) : (cntK r (choiceL p) (choiceL p).length).length = (choiceL (moreP p r)).length := by rw [cntK_all, more_choices]
theorem made_one {v : Int} {t : T3} {g : List Int} : (madeW v [t] g).rows.length = 1 ∧ (madeW v [t] g).vars = pickW v 9 := by
  constructor
  · simp [madeW, rowsM_length]
  · rfl
end Go.Proofs.YtgmgifmfhpoglaaDoor

namespace Go.Proofs.YtgmgifmfhpoglaaDoor
open Go.RowKit
set_option linter.unusedVariables false
set_option linter.unusedSimpArgs false
def cellsB (xs : List Bool) : List V := xs.map V.bool
theorem cellsB_length (xs : List Bool) : (cellsB xs).length = xs.length := by simp [cellsB]
theorem cellsB_sc (xs : List Bool) : (cellsB xs).all V.sc = true := by simp [cellsB, V.sc]
theorem cellsB_cl : ∀ (xs : List Bool), V.clL (cellsB xs) = true
  | [] => rfl
  | x :: xs => by simpa [cellsB, V.clL, V.cl] using cellsB_cl xs
theorem cellsB_getD (xs : List Bool) (k : Nat) (h : k < xs.length) : (cellsB xs).getD k .any = V.bool (xs.getD k false) := by simp [cellsB, List.getD, h]
theorem cellsB_dropD (xs : List Bool) (k : Nat) (h : k < xs.length) : (List.drop k (cellsB xs)).getD 0 .any = V.bool (xs.getD k false) := by simp [cellsB, List.getD, h]
theorem cellsB_spl (xs : List Bool) (k : Nat) (b : Bool) (h : k < xs.length) : List.take k (cellsB xs) ++ V.bool b :: List.drop (k + 1) (cellsB xs) = cellsB (xs.set k b) := by
  simp only [cellsB, ← List.map_take, ← List.map_drop]
  rw [← List.map_cons, ← List.map_append, List.set_eq_take_append_cons_drop, if_pos h]
theorem set4 {α : Type} (z a b c d : α) : ((((List.replicate 4 z).set 0 a).set 1 b).set 2 c).set 3 d = [a, b, c, d] := rfl
def isTo (l : List Int) : Nat → List Bool
  | 0 => List.replicate 4 false
  | j + 1 => (isTo l j).set (l.getD j 0).toNat true
theorem isTo_length (l : List Int) : ∀ j, (isTo l j).length = 4
  | 0 => rfl
  | j + 1 => by simp [isTo, isTo_length l j]
theorem isTo_getD {l : List Int} (hl : ∀ j, j < l.length → 0 ≤ l.getD j 0 ∧ l.getD j 0 ≤ 3) {k : Nat} (hk : k < 4) : ∀ j, j ≤ l.length → ((isTo l j).getD k false = true ↔ ∃ i, i < j ∧ l.getD i 0 = k)
  | 0, _ => by
    have : (isTo l 0).getD k false = false := by
      simp only [isTo, List.getD, List.getElem?_replicate]; split <;> rfl
    rw [this]; simp
  | j + 1, hj => by
    have ih := isTo_getD hl hk j (by omega)
    have hr := hl j (by omega)
    have hlen := isTo_length l j
    by_cases e : (l.getD j 0).toNat = k
    · have : (isTo l (j + 1)).getD k false = true := by simp only [isTo, ← e]; exact getD_set_self (by rw [hlen]; omega)
      rw [this]
      simp only [true_iff]
      exact ⟨j, by omega, by omega⟩
    · have : (isTo l (j + 1)).getD k false = (isTo l j).getD k false := by
        show (((isTo l j).set (l.getD j 0).toNat true)[k]?).getD false = ((isTo l j)[k]?).getD false
        rw [List.getElem?_set_ne e]
      rw [this, ih]
      constructor
      · rintro ⟨i, h1, h2⟩; exact ⟨i, by omega, h2⟩
      · rintro ⟨i, h1, h2⟩
        by_cases e2 : i = j
        · subst e2; omega
        · exact ⟨i, by omega, h2⟩
theorem mem_brk {p : Pg} {s x : Int} : ∀ {n : Nat}, x ∈ brkTo p s n ↔ ∃ k : Nat, x = k ∧ k < n ∧ keptB (p.rows.getD k rw0) s = false
  | 0 => by simp [brkTo]
  | n + 1 => by
    have ih := mem_brk (p := p) (s := s) (x := x) (n := n)
    cases h : keptB (p.rows.getD n rw0) s with
    | true =>
      rw [brkTo_t h, ih]
      constructor
      · rintro ⟨k, h1, h2, h3⟩; exact ⟨k, h1, by omega, h3⟩
      · rintro ⟨k, h1, h2, h3⟩
        by_cases e : k = n
        · subst e; rw [h] at h3; cases h3
        · exact ⟨k, h1, by omega, h3⟩
    | false =>
      rw [brkTo_f h, List.mem_append, ih, List.mem_singleton]
      constructor
      · rintro (⟨k, h1, h2, h3⟩ | h1)
        · exact ⟨k, h1, by omega, h3⟩
        · exact ⟨n, h1, by omega, h⟩
      · rintro ⟨k, h1, h2, h3⟩
        by_cases e : k = n
        · subst e; exact .inr h1
        · exact .inl ⟨k, h1, by omega, h3⟩
theorem mem_getD {l : List Int} {x : Int} : x ∈ l ↔ ∃ i, i < l.length ∧ l.getD i 0 = x := by
  constructor
  · intro h
    obtain ⟨i, hi, rfl⟩ := List.getElem_of_mem h
    exact ⟨i, hi, by simp [List.getD, hi]⟩
  · rintro ⟨i, hi, rfl⟩; exact getD_mem hi
/-! #### the rows -/
def addL (m n : Int) (a b : List Int) (v : Nat) : List Int := (List.range v).map fun i => IntKind.i64.wrap (IntKind.i64.wrap (m * a.getD i 0) + IntKind.i64.wrap (n * b.getD i 0))
theorem addL_succ (m n : Int) (a b : List Int) (v : Nat) : addL m n a b (v + 1) = addL m n a b v ++ [IntKind.i64.wrap (IntKind.i64.wrap (m * a.getD v 0) + IntKind.i64.wrap (n * b.getD v 0))] := by simp [addL, List.range_succ]
theorem addL_length (m n : Int) (a b : List Int) (v : Nat) : (addL m n a b v).length = v := by simp [addL]
def mulL (m : Int) (a : List Int) (v : Nat) : List Int := (List.range v).map fun i => IntKind.i64.wrap (IntKind.i64.wrap (m + 1) * a.getD i 0)
theorem mulL_succ (m : Int) (a : List Int) (v : Nat) : mulL m a (v + 1) = mulL m a v ++ [IntKind.i64.wrap (IntKind.i64.wrap (m + 1) * a.getD v 0)] := by simp [mulL, List.range_succ]
theorem mulL_length (m : Int) (a : List Int) (v : Nat) : (mulL m a v).length = v := by simp [mulL]
def addR (m n : Int) (r s : Rw) (v : Nat) : Rw := ⟨0, 0, 0, 0, addL m n r.coef s.coef v, IntKind.i64.wrap (IntKind.i64.wrap (m * r.most) + IntKind.i64.wrap (n * s.most))⟩
def mulR (m : Int) (r : Rw) (v : Nat) : Rw := ⟨0, 0, 0, 0, mulL m r.coef v, IntKind.i64.wrap (IntKind.i64.wrap (m + 1) * r.most)⟩
def smallR (r : Rw) : Prop := (∀ c ∈ r.coef, -4 ≤ c ∧ c ≤ 11) ∧ -4 ≤ r.most ∧ r.most ≤ 25
theorem small_getD {r : Rw} (h : smallR r) (i : Nat) : -4 ≤ r.coef.getD i 0 ∧ r.coef.getD i 0 ≤ 11 := by
  by_cases hi : i < r.coef.length
  · exact h.1 _ (getD_mem hi)
  · rw [show r.coef.getD i 0 = 0 by simp [List.getD, List.getElem?_eq_none (Nat.le_of_not_lt hi)]]; omega
theorem mul_small {m c : Int} (h0 : 0 ≤ m) (h1 : m ≤ 51) (h2 : -4 ≤ c) (h3 : c ≤ 25) : -204 ≤ m * c ∧ m * c ≤ 1275 := by
  have h4 : 0 ≤ m * (c + 4) := Int.mul_nonneg h0 (by omega)
  have h5 : m * (c + 4) ≤ 51 * 29 := Int.mul_le_mul h1 (by omega) (by omega) (by omega)
  have h6 : 0 ≤ m * (25 - c) := Int.mul_nonneg h0 (by omega)
  rw [Int.mul_add] at h4 h5
  rw [Int.mul_sub] at h6
  omega
theorem addL_getD {m n : Int} (hm : 0 ≤ m ∧ m ≤ 50) (hn : 0 ≤ n ∧ n ≤ 50) {r s : Rw} (hr : smallR r) (hs : smallR s) {v i : Nat} (hi : i < v) : (addL m n r.coef s.coef v).getD i 0 = m * r.coef.getD i 0 + n * s.coef.getD i 0 := by
  have h1 := small_getD hr i
  have h2 := small_getD hs i
  have h3 := mul_small hm.1 (by omega) h1.1 (show _ ≤ (25 : Int) by omega)
  have h4 := mul_small hn.1 (by omega) h2.1 (show _ ≤ (25 : Int) by omega)
  simp only [addL, List.getD, List.getElem?_map, List.getElem?_range hi, Option.map_some, Option.getD_some]
  have e1 : r.coef[i]?.getD 0 = r.coef.getD i 0 := rfl
  have e2 : s.coef[i]?.getD 0 = s.coef.getD i 0 := rfl
  rw [e1, e2, w64 (x := m * _) (by omega), w64 (x := n * _) (by omega), w64 (by omega)]
theorem mulL_getD {m : Int} (hm : 0 ≤ m ∧ m ≤ 50) {r : Rw} (hr : smallR r) {v i : Nat} (hi : i < v) : (mulL m r.coef v).getD i 0 = (m + 1) * r.coef.getD i 0 := by
  have h1 := small_getD hr i
  have h3 := mul_small (m := m + 1) (by omega) (by omega) h1.1 (show _ ≤ (25 : Int) by omega)
  simp only [mulL, List.getD, List.getElem?_map, List.getElem?_range hi, Option.map_some, Option.getD_some]
  have e1 : r.coef[i]?.getD 0 = r.coef.getD i 0 := rfl
  rw [e1, w64 (x := m + 1) (by omega), w64 (by omega)]
theorem addR_most {m n : Int} (hm : 0 ≤ m ∧ m ≤ 50) (hn : 0 ≤ n ∧ n ≤ 50) {r s : Rw} (hr : smallR r) (hs : smallR s) (v : Nat) : (addR m n r s v).most = m * r.most + n * s.most ∧ -408 ≤ m * r.most + n * s.most ∧ m * r.most + n * s.most ≤ 2550 := by
  have h3 := mul_small hm.1 (by omega) hr.2.1 hr.2.2
  have h4 := mul_small hn.1 (by omega) hs.2.1 hs.2.2
  simp only [addR]
  rw [w64 (x := m * _) (by omega), w64 (x := n * _) (by omega), w64 (by omega)]
  exact ⟨rfl, by omega, by omega⟩
theorem mulR_most {m : Int} (hm : 0 ≤ m ∧ m ≤ 50) {r : Rw} (hr : smallR r) (v : Nat) : (mulR m r v).most = (m + 1) * r.most ∧ -204 ≤ (m + 1) * r.most ∧ (m + 1) * r.most ≤ 1275 := by
  have h3 := mul_small (m := m + 1) (by omega) (by omega) hr.2.1 hr.2.2
  simp only [mulR]
  rw [w64 (x := m + 1) (by omega), w64 (by omega)]
  exact ⟨rfl, h3⟩
theorem addL_sum {m n : Int} (hm : 0 ≤ m ∧ m ≤ 50) (hn : 0 ≤ n ∧ n ≤ 50) {r s : Rw} (hr : smallR r) (hs : smallR s) {v : Nat} (t : Nat) : ∀ k, k ≤ v → sumG (addL m n r.coef s.coef v) t k = m * sumG r.coef t k + n * sumG s.coef t k
  | 0, _ => by simp [sumG]
  | k + 1, hk => by
    have ih := addL_sum hm hn hr hs (v := v) t k (by omega)
    have hk2 := addL_getD hm hn hr hs (v := v) (i := k) (by omega)
    simp only [sumG, ih, hk2]
    split
    · rw [Int.mul_add, Int.mul_add]; omega
    · simp
theorem mulL_sum {m : Int} (hm : 0 ≤ m ∧ m ≤ 50) {r : Rw} (hr : smallR r) {v : Nat} (t : Nat) : ∀ k, k ≤ v → sumG (mulL m r.coef v) t k = (m + 1) * sumG r.coef t k
  | 0, _ => by simp [sumG]
  | k + 1, hk => by
    have ih := mulL_sum hm hr (v := v) t k (by omega)
    have hk2 := mulL_getD hm hr (v := v) (i := k) (by omega)
    simp only [sumG, ih, hk2]
    split
    · rw [Int.mul_add (m + 1)]
    · simp
def addQ (p : Pg) (m n : Int) (r s : Rw) (v : Nat) : Pg := ⟨p.vars, [r, s, addR m n r s v, mulR m r v], p.gain⟩
theorem addQ_valid {p : Pg} (hv : validB p = true) {v : Nat} (e : p.vars = v) {m n : Int} (hm : 0 ≤ m ∧ m ≤ 50) (hn : 0 ≤ n ∧ n ≤ 50) {r s : Rw} (hr : r ∈ p.rows) (hs : s ∈ p.rows) (hr' : smallR r) (hs' : smallR s) : validB (addQ p m n r s v) = true := by
  obtain ⟨h0, h1, h2, h3, h4, h5⟩ := validB_all hv
  have hh : ∀ q ∈ [r, s, addR m n r s v, mulR m r v], rightB q p.vars = true := by
    intro q hq
    simp only [List.mem_cons, List.not_mem_nil, or_false] at hq
    have old : ∀ q ∈ p.rows, rightB q p.vars = true := fun q hq => by
      obtain ⟨k1, k2, k3⟩ := h5 q hq
      simp only [rightB, Bool.and_eq_true, decide_eq_true_eq, isInB_spec]; exact ⟨k1, k2, k3⟩
    rcases hq with rfl | rfl | rfl | rfl
    · exact old _ hr
    · exact old _ hs
    · have hmo := addR_most hm hn hr' hs' v
      simp only [rightB, Bool.and_eq_true, decide_eq_true_eq, isInB_spec]
      refine ⟨by simp only [addR, addL_length]; omega, coefB_iff.2 fun c hc => ?_, by omega, by omega⟩
      obtain ⟨i, hi, rfl⟩ := mem_getD.1 hc
      simp only [addR, addL_length] at hi
      have := addL_getD hm hn hr' hs' hi
      simp only [addR]
      rw [this]
      have h1 := small_getD hr' i
      have h2 := small_getD hs' i
      have h3 := mul_small hm.1 (by omega) h1.1 (show _ ≤ (25 : Int) by omega)
      have h4 := mul_small hn.1 (by omega) h2.1 (show _ ≤ (25 : Int) by omega)
      omega
    · have hmo := mulR_most hm hr' v
      simp only [rightB, Bool.and_eq_true, decide_eq_true_eq, isInB_spec]
      refine ⟨by simp only [mulR, mulL_length]; omega, coefB_iff.2 fun c hc => ?_, by omega, by omega⟩
      obtain ⟨i, hi, rfl⟩ := mem_getD.1 hc
      simp only [mulR, mulL_length] at hi
      have := mulL_getD hm hr' hi
      simp only [mulR]
      rw [this]
      have h1 := small_getD hr' i
      have h3 := mul_small (m := m + 1) (by omega) (by omega) h1.1 (show _ ≤ (25 : Int) by omega)
      omega
  simp only [validB, addQ, Bool.and_eq_true, decide_eq_true_eq, isInB_spec, List.all_eq_true]
  exact ⟨⟨h0, h1⟩, by simp, hh, decide_eq_true h3, h4⟩
/-- What is broken of the four. -/
theorem adds_end {p : Pg} (hv : validB p = true) {v : Nat} (e : p.vars = v) {m n : Int} (hm : 0 ≤ m ∧ m ≤ 50) (hn : 0 ≤ n ∧ n ≤ 50) {r s : Rw} (hr : r ∈ p.rows) (hs : s ∈ p.rows) (hr' : smallR r) (hs' : smallR s) {t : Nat} (ht : t < 2 ^ v) :
    (∀ j, j < (brokenW (addQ p m n r s v) t).length → 0 ≤ (brokenW (addQ p m n r s v) t).getD j 0 ∧ (brokenW (addQ p m n r s v) t).getD j 0 ≤ 3) ∧
    ∃ b0 b1 b2 : Bool, isTo (brokenW (addQ p m n r s v) t) (brokenW (addQ p m n r s v) t).length = [b0, b1, b2, b0] ∧ ¬ (b0 = false ∧ b1 = false ∧ b2 = true) := by
  have hq := addQ_valid hv e hm hn hr hs hr' hs'
  have eb := broken_in hq e ht
  have hrange : ∀ j, j < (brokenW (addQ p m n r s v) t).length → 0 ≤ (brokenW (addQ p m n r s v) t).getD j 0 ∧ (brokenW (addQ p m n r s v) t).getD j 0 ≤ 3 := by
    intro j hj
    have h1 : (brokenW (addQ p m n r s v) t).getD j 0 ∈ brkTo (addQ p m n r s v) t (addQ p m n r s v).rows.length := by rw [← eb]; exact getD_mem hj
    obtain ⟨k, h2, h3, -⟩ := mem_brk.1 h1
    have : (addQ p m n r s v).rows.length = 4 := rfl
    omega
  refine ⟨hrange, ?_⟩
  generalize hl : brokenW (addQ p m n r s v) t = l at hrange eb ⊢
  have hlen := isTo_length l l.length
  have hmem : ∀ k : Nat, k < 4 → ((isTo l l.length).getD k false = true ↔ keptB ((addQ p m n r s v).rows.getD k rw0) t = false) := fun k hk => by
    rw [isTo_getD hrange hk l.length (Nat.le_refl _), ← mem_getD, eb, mem_brk]
    constructor
    · rintro ⟨k', h1, h2, h3⟩
      have : k' = k := by omega
      subst this; exact h3
    · exact fun h => ⟨k, rfl, hk, h⟩
  have hsum : ∀ k : Nat, k < 4 → (keptB ((addQ p m n r s v).rows.getD k rw0) t = false ↔ ((addQ p m n r s v).rows.getD k rw0).most < sumG ((addQ p m n r s v).rows.getD k rw0).coef t v) := fun k hk => by
    rw [keptB_in hq e (getD_mem (show k < (addQ p m n r s v).rows.length from hk)) ht, decide_eq_false_iff_not]; omega
  have g0 := (hmem 0 (by omega)).trans (hsum 0 (by omega))
  have g1 := (hmem 1 (by omega)).trans (hsum 1 (by omega))
  have g2 := (hmem 2 (by omega)).trans (hsum 2 (by omega))
  have g3 := (hmem 3 (by omega)).trans (hsum 3 (by omega))
  have r0 : (addQ p m n r s v).rows.getD 0 rw0 = r := rfl
  have r1 : (addQ p m n r s v).rows.getD 1 rw0 = s := rfl
  have r2 : (addQ p m n r s v).rows.getD 2 rw0 = addR m n r s v := rfl
  have r3 : (addQ p m n r s v).rows.getD 3 rw0 = mulR m r v := rfl
  rw [r0] at g0; rw [r1] at g1; rw [r2] at g2; rw [r3] at g3
  have e2 : sumG (addR m n r s v).coef t v = m * sumG r.coef t v + n * sumG s.coef t v := addL_sum hm hn hr' hs' t v (Nat.le_refl _)
  have e3 : sumG (mulR m r v).coef t v = (m + 1) * sumG r.coef t v := mulL_sum hm hr' t v (Nat.le_refl _)
  rw [e2, (addR_most hm hn hr' hs' v).1] at g2
  rw [e3, (mulR_most hm hr' v).1] at g3
  generalize isTo l l.length = bs at hlen g0 g1 g2 g3
  match bs, hlen with
  | [b0, b1, b2, b3], _ =>
    simp only [List.getD_cons_zero, List.getD_cons_succ] at g0 g1 g2 g3
    have h03 : b3 = b0 := by
      rw [Bool.eq_iff_iff, g3, g0]
      constructor
      · intro h
        have : 0 < (m + 1) * (sumG r.coef t v - r.most) := by rw [Int.mul_sub]; omega
        have := Int.pos_of_mul_pos_right this (by omega)
        omega
      · intro h
        have : 0 < (m + 1) * (sumG r.coef t v - r.most) := Int.mul_pos (by omega) (by omega)
        rw [Int.mul_sub] at this; omega
    refine ⟨b0, b1, b2, by rw [h03], ?_⟩
    rintro ⟨rfl, rfl, rfl⟩
    have k0 : ¬ r.most < sumG r.coef t v := fun h => by have := g0.2 h; cases this
    have k1 : ¬ s.most < sumG s.coef t v := fun h => by have := g1.2 h; cases this
    have k2 := g2.1 rfl
    have a1 : 0 ≤ m * (r.most - sumG r.coef t v) := Int.mul_nonneg hm.1 (by omega)
    have a2 : 0 ≤ n * (s.most - sumG s.coef t v) := Int.mul_nonneg hn.1 (by omega)
    rw [Int.mul_sub] at a1 a2
    omega
theorem brk4 (p : Pg) (m n : Int) (r s : Rw) (v : Nat) (t : Int) : (brokenW (addQ p m n r s v) t).length ≤ 4 := by
  unfold brokenW
  split
  · exact brkTo_length _ _ 4
  · simp
end Go.Proofs.YtgmgifmfhpoglaaDoor

namespace Go.Proofs.YtgmgifmfhpoglaaDoor
open Go.RowKit
set_option linter.unusedVariables false
set_option linter.unusedSimpArgs false
/-- What is asked of all numbers below n, by looking. -/
theorem all_lt {n : Nat} {p : Nat → Bool} (h : (List.range n).all p = true) {k : Nat} (hk : k < n) : p k = true := List.all_eq_true.1 h k (List.mem_range.2 hk)

theorem gtab_len : (gtab 1).length = 64 := rfl
theorem gtab_drop (k : Nat) (h : k < 64) : (List.drop k (gtab 1)).getD 0 .any = V.int .u8 (tab64.getD k 0) := by
  rw [gtab_1]
  have : k < tab64.length := h
  simp [List.getD, this]
theorem of_all {n : Nat} {p : Nat → Prop} [DecidablePred p] (h : ((List.range n).all fun s => decide (p s)) = true) : ∀ s, s < n → p s := fun s hs => by simpa using all_lt h hs
/-- The lowest bit of a set. -/
def tzN (s : Nat) : Nat := ((List.range 12).find? fun i => s.testBit i).getD 64
def tzI (s : Int) : Int := shrW .u64 (IntKind.u64.wrap (bitsV .and .u64 s (IntKind.u64.wrap (0 - s)) * 285870213051353865)) 58
theorem tz_all : ((List.range 4096).all fun s => s == 0 || (decide (0 ≤ tzI s) && decide (tzI s < 64) && decide (tab64.getD (tzI s).toNat 0 = (tzN s : Int)) && decide (tzN s < 12))) = true := by decide +kernel
theorem tz_spec {s : Nat} (h : s < 4096) (h0 : 0 < s) : (0 ≤ tzI s ∧ tzI s < 64) ∧ tab64.getD (tzI s).toNat 0 = (tzN s : Int) ∧ tzN s < 12 := by
  have := all_lt tz_all h
  simp only [Bool.or_eq_true, Bool.and_eq_true, decide_eq_true_eq, beq_iff_eq] at this
  rcases this with h1 | h1
  · omega
  · exact ⟨⟨h1.1.1.1, h1.1.1.2⟩, h1.1.2, h1.2⟩
/-- How many rows a set has. -/
def popN (s : Nat) : Nat := ((List.range 12).filter fun i => s.testBit i).length
def pc1 (s : Int) : Int := IntKind.u64.wrap (bitsV .and .u64 (shrW .u64 s 1) 6148914691236517205 + bitsV .and .u64 s 6148914691236517205)
def pc2 (s : Int) : Int := IntKind.u64.wrap (bitsV .and .u64 (shrW .u64 s 2) 3689348814741910323 + bitsV .and .u64 s 3689348814741910323)
def pc3 (s : Int) : Int := bitsV .and .u64 (IntKind.u64.wrap (shrW .u64 s 4 + s)) 1085102592571150095
def pc4 (k : Int) (s : Int) : Int := IntKind.u64.wrap (s + shrW .u64 s k)
def pcI (s : Int) : Int := bitsV .and .i64 (IntKind.i64.wrap (pc4 32 (pc4 16 (pc4 8 (pc3 (pc2 (pc1 s))))))) 127
theorem pc_all : ((List.range 4096).all fun s => decide (pcI s = (popN s : Int))) = true := by decide +kernel
theorem pc_spec {s : Nat} (h : s < 4096) : pcI s = (popN s : Int) := by simpa using all_lt pc_all h
/-- The rows of a set. -/
def rowsN (s : Nat) : List Int := List.map (fun i : Nat => ((i : Nat) : Int)) ((List.range 12).filter fun i => s.testBit i)
/-- A set of rows, turned around: the first row is the greatest part. -/
def rvN (s : Nat) : Nat := (List.range 16).foldl (fun a i => if s.testBit i then a + 2 ^ (15 - i) else a) 0
theorem b16_all : ((List.range 4096).all fun s => decide (0 ≤ shrW .u16 (s : Nat) 8) && decide (shrW .u16 (s : Nat) 8 < 256) && decide (0 ≤ bitsV .and .u16 (s : Nat) 255) && decide (bitsV .and .u16 (s : Nat) 255 < 256)) = true := by decide +kernel
theorem b16 {s : Nat} (h : s < 4096) : (0 ≤ shrW .u16 (s : Nat) 8 ∧ shrW .u16 (s : Nat) 8 < 256) ∧ 0 ≤ bitsV .and .u16 (s : Nat) 255 ∧ bitsV .and .u16 (s : Nat) 255 < 256 := by
  have := all_lt b16_all h
  simp only [Bool.and_eq_true, decide_eq_true_eq] at this
  exact ⟨⟨this.1.1.1, this.1.1.2⟩, this.1.2, this.2⟩
def revB (n : Nat) : Nat := (List.range 8).foldl (fun a i => if n.testBit i then a + 2 ^ (7 - i) else a) 0
theorem rev_get (L : ByteArray) (n : Nat) (hL : ((List.range 256).all fun n => decide ((L.get! n).toNat = revB n)) = true) (h : n < 256) : (L.get! n).toNat = revB n := by simpa using all_lt hL h
theorem rev_all : ((List.range 4096).all fun s => decide (bitsV .or .u16 (IntKind.u16.wrap (revB (shrW .u16 (s : Nat) 8).toNat : Nat)) (shlW .u16 (IntKind.u16.wrap (revB (bitsV .and .u16 (s : Nat) 255).toNat : Nat)) 8) = (rvN s : Int))) = true := by decide +kernel
theorem rev_spec {s : Nat} (h : s < 4096) : bitsV .or .u16 (IntKind.u16.wrap (revB (shrW .u16 (s : Nat) 8).toNat : Nat)) (shlW .u16 (IntKind.u16.wrap (revB (bitsV .and .u16 (s : Nat) 255).toNat : Nat)) 8) = (rvN s : Int) := by simpa using all_lt rev_all h
theorem rowsN_length (s : Nat) : (rowsN s).length = popN s := by simp [rowsN, popN]
theorem step_all : ((List.range 4096).all fun s => s == 0 || (decide (rowsN s = (tzN s : Int) :: rowsN (s &&& (s - 1))) && decide (s &&& (s - 1) < s))) = true := by decide +kernel
theorem rows_step {s : Nat} (h : s < 4096) (h0 : 0 < s) : rowsN s = (tzN s : Int) :: rowsN (s &&& (s - 1)) ∧ s &&& (s - 1) < s := by
  have := all_lt step_all h
  simp only [Bool.or_eq_true, Bool.and_eq_true, decide_eq_true_eq, beq_iff_eq] at this
  rcases this with h1 | h1
  · omega
  · exact h1
theorem rowsN_le (s : Nat) : (rowsN s).length ≤ 12 := by
  rw [rowsN_length]; unfold popN
  exact Nat.le_trans (List.length_filter_le _ _) (by simp)
theorem u64_small {s : Nat} (h : s < 4096) : IntKind.u64.wrap (s : Int) = s := by
  simp only [IntKind.wrap, IntKind.signed, IntKind.bits]
  simp
  omega
theorem dec_and {k : Nat} (h : k < 4096) (h0 : 0 < k) : bitsV .and .i64 (k : Int) (IntKind.i64.wrap ((k : Int) - 1)) = ((k &&& (k - 1) : Nat) : Int) := by
  rw [w64 (x := (k : Int) - 1) (by omega), show (k : Int) - 1 = ((k - 1 : Nat) : Int) by omega, andN (by omega) (by omega)]
theorem rowsN_0 : rowsN 0 = [] := by decide
end Go.Proofs.YtgmgifmfhpoglaaDoor

namespace Go.Proofs.YtgmgifmfhpoglaaDoor
open Go.RowKit
set_option linter.unusedVariables false
set_option linter.unusedSimpArgs false
set_option maxRecDepth 100000
attribute [local go_sem] Nat.zero_add Nat.add_zero Nat.mul_one eq_self ne_eq not_true_eq_false not_false_eq_true decide_true decide_false decide_not Bool.false_eq_true List.filter_cons List.filter_nil true_and and_true beq_false beq_true Bool.not_true Bool.not_false Bool.and_true Bool.true_and Option.getD_some Option.getD_none imp_self implies_true Int.toNat_natCast List.cons_append List.nil_append List.map_cons List.map_nil List.length_cons List.length_nil List.getD_cons_zero List.getD_cons_succ List.drop_zero List.drop_succ_cons List.take_succ_cons List.take_zero
attribute [local go_sem] isE isO stpO notIn St.bare evO evDO isEff stp St.get St.slot St.put List.lookup un unL ofVal gof nth pickV pkB_false pkB_true binV unV loadV idxV fldV partV buildV fillV lenV sliV appV appR rowsV winV V.parts V.okp V.sc Mem.look_cons Mem.look_nil V.cl V.clL AObj.clo fzAll exps St.fz Mem.fz V.fz V.fzL AObj.fz Option.isSome_some Option.isSome_none Bool.or_true Bool.true_or Bool.or_false Bool.false_or false_and and_false false_or or_false arT_102 arT_103 arT_22 arT_23 arT_26 arT_27 arT_31 arT_38 arT_45 arT_55 arT_85 arT_86 arT_9 boolT_100 boolT_23 boolT_3 boolT_32 boolT_4 boolT_98 flatT_100 flatT_23 flatT_3 flatT_32 flatT_4 flatT_98 intT_100 intT_3 intT_5 intT_81 intT_83 intT_98 lay_22 lay_23 lay_25 lay_27 lay_3 lay_37 lay_4 lay_45 lay_47 lay_5 lay_54 lay_61 lay_66 lay_82 lay_88 okF_10 okF_11 okF_12 okF_13 okF_14 okF_15 okF_16 okF_17 okF_18 okF_19 okF_20 okF_21 okF_22 okF_23 okF_24 okF_25 okF_26 okF_27 okF_28 okF_29 okF_3 okF_30 okF_31 okF_32 okF_33 okF_34 okF_35 okF_36 okF_37 okF_38 okF_39 okF_4 okF_40 okF_41 okF_42 okF_43 okF_44 okF_45 okF_46 okF_47 okF_48 okF_49 okF_5 okF_50 okF_51 okF_52 okF_53 okF_54 okF_55 okF_56 okF_57 okF_58 okF_59 okF_6 okF_60 okF_61 okF_62 okF_63 okF_64 okF_65 okF_66 okF_67 okF_68 okF_69 okF_7 okF_70 okF_71 okF_72 okF_73 okF_74 okF_75 okF_76 okF_77 okF_78 okF_79 okF_8 okF_80 okF_81 okF_82 okF_83 okF_84 okF_85 okF_86 okF_87 okF_88 okF_89 okF_9 plT_25 plT_47 plT_54 plT_93 plT_96 slT_102 slT_103 slT_22 slT_23 slT_26 slT_27 slT_31 slT_38 slT_45 slT_55 slT_85 slT_86 slT_94 stT_25_0 stT_25_1 stT_25_2 stT_47_0 stT_47_2 stT_47_3 stT_54_4 stT_54_5 stT_96_1 stT_96_2 strT_9 zeroT_23 zeroT_25 zeroT_3 zeroT_37 zeroT_4 zeroT_45 zeroT_47 zeroT_54 zeroT_55 zeroT_66 zeroT_82 zeroT_85 zeroT_86 zeroT_93 zeroT_96
attribute [local go_sem] List.getElem?_cons_zero List.getElem?_cons_succ List.zip_cons_cons List.zip_nil_left List.zip_nil_right Bool.false_and Bool.and_false List.length_append List.length_set List.length_replicate List.all_cons List.all_nil encI_length encI_getD encR_length encR_getD encRw encPg spl shp AObj.shp rowM isSt isRpS isRd csh AObj.csh forall_const imp_self
attribute [local simp] encI_length encR_length cellsI_length
section
attribute [local go_sem] gtab_len gtab_drop List.length_drop
theorem k81 (s : Nat) (hs : s < 4096) (h0 : 0 < s) : CallsA Tryd.prog 81 [.int .u64 (s : Nat)] (.int .i64 (tzN s : Nat)) := by
  obtain ⟨ht0, ht1, ht2⟩ := tz_spec hs h0
  unfold tzI at ht0 ht1
  have hs0 : (s : Int) ≠ 0 := by omega
  have hq := And.intro ht0 (ht1)
  refine callsA_of_tr Tryd.func81 rfl (Nat.le_of_ble_eq_true rfl) ?_
  simp only [Tryd.results81, envOf, Nat.reduceAdd]
  refine tr_seq fun K1 hK1 => ?_
  refine tr_region [0] rfl rfl fun K hK => ?_
  refine evR_p ?_
  refine evR_e hK ?_; clear hK K
  refine hK1 _ ?_
  refine tr_seq fun K2 hK2 => ?_
  refine tr_seq fun K3 hK3 => ?_
  refine tr_region [0, 4] rfl rfl fun K hK => ?_
  iterate 2 refine evR_p ?_
  refine evR_e hK ?_; clear hK K
  refine hK3 _ ?_
  refine tr_condB (fun ht1 => ?_) (fun ht1 => ?_)
  · skip
    refine tr_seq fun K4 hK4 => ?_
    refine tr_region [2] rfl rfl fun K hK => ?_
    refine evR_p ?_
    refine evR_e hK ?_; clear hK K
    refine hK4 _ ?_
    refine tr_ret ?_
    (try simp only [thenE, inBlkE])
    simp (maxSteps := 4000000) (disch := first | assumption | omega | (simp only [go_sem, *]; done) | (simp only [go_sem, *]; omega)) only [postA, postO, resV1, fzAll, go_sem, hq, Int.reduceToNat, Nat.reduceBEq, Nat.reduceEqDiff, Nat.reduceAdd, Nat.reduceMul, Nat.reduceLeDiff, Nat.reduceLT, Nat.reduceSub, ↓reduceIte, reduceCtorEq]
    all_goals (first | (exfalso; omega) | (rw [w64 (x := (tzN s : Int)) (by omega)]))
  · skip
    refine tr_skip ?_
    (try simp only [thenE, inBlkE])
    refine hK2 _ ?_
    refine tr_seq fun K5 hK5 => ?_
    refine tr_region [2] rfl rfl fun K hK => ?_
    iterate 10 refine evR_p ?_
    refine evR_e hK ?_; clear hK K
    refine hK5 _ ?_
    refine tr_ret ?_
    (try simp only [thenE, inBlkE])
    simp (maxSteps := 4000000) (disch := first | assumption | omega | (simp only [go_sem, *]; done) | (simp only [go_sem, *]; omega)) only [postA, postO, resV1, fzAll, go_sem, hq, Int.reduceToNat, Nat.reduceBEq, Nat.reduceEqDiff, Nat.reduceAdd, Nat.reduceMul, Nat.reduceLeDiff, Nat.reduceLT, Nat.reduceSub, ↓reduceIte, reduceCtorEq]
    all_goals (first | (exfalso; omega) | (rw [w64 (x := (tzN s : Int)) (by omega)]))
end

theorem k62 (s : Nat) (hs : s < 4096) (h0 : 0 < s) : CallsA Tryd.prog 62 [.int .u64 (s : Nat)] (.int .i64 (tzN s : Nat)) := by
  have hq : True := trivial
  refine callsA_of_tr Tryd.func62 rfl (Nat.le_of_ble_eq_true rfl) ?_
  simp only [Tryd.results62, envOf, Nat.reduceAdd]
  refine tr_seq fun K1 hK1 => ?_
  refine tr_region [0] rfl rfl fun K hK => ?_
  refine evR_p ?_
  refine evR_e hK ?_; clear hK K
  refine hK1 _ ?_
  refine tr_seq fun K2 hK2 => ?_
  refine tr_cond rfl (fun h => by cases h) (fun _ => ?_)
  refine tr_skip ?_
  (try simp only [thenE, inBlkE])
  refine hK2 _ ?_
  refine tr_seq fun K3 hK3 => ?_
  refine tr_region [2] rfl rfl fun K hK => ?_
  refine evR_p ?_
  refine evR_c (hc := (k81 s hs h0)) (k := ?_)
  refine evR_p ?_
  refine evR_e hK ?_; clear hK K
  refine hK3 _ ?_
  refine tr_ret ?_
  (try simp only [thenE, inBlkE])
  simp (maxSteps := 4000000) (disch := first | assumption | omega | (simp only [go_sem, *]; done) | (simp only [go_sem, *]; omega)) only [postA, postO, resV1, fzAll, go_sem, hq, Int.reduceToNat, Nat.reduceBEq, Nat.reduceEqDiff, Nat.reduceAdd, Nat.reduceMul, Nat.reduceLeDiff, Nat.reduceLT, Nat.reduceSub, ↓reduceIte, reduceCtorEq]
  all_goals (exact ⟨trivial, rfl⟩)

theorem k76 (s : Nat) (hs : s < 4096) : CallsA Tryd.prog 76 [.int .u64 (s : Nat)] (.int .i64 (popN s : Nat)) := by
  have hq : True := trivial
  refine callsA_of_tr Tryd.func76 rfl (Nat.le_of_ble_eq_true rfl) ?_
  simp only [Tryd.results76, envOf, Nat.reduceAdd]
  refine tr_seq fun K1 hK1 => ?_
  refine tr_region [0] rfl rfl fun K hK => ?_
  refine evR_p ?_
  refine evR_e hK ?_; clear hK K
  refine hK1 _ ?_
  refine tr_seq fun K2 hK2 => ?_
  refine tr_region [0] rfl rfl fun K hK => ?_
  iterate 7 refine evR_p ?_
  refine evR_e hK ?_; clear hK K
  refine hK2 _ ?_
  refine tr_seq fun K3 hK3 => ?_
  refine tr_region [0] rfl rfl fun K hK => ?_
  iterate 7 refine evR_p ?_
  refine evR_e hK ?_; clear hK K
  refine hK3 _ ?_
  refine tr_seq fun K4 hK4 => ?_
  refine tr_region [0] rfl rfl fun K hK => ?_
  iterate 6 refine evR_p ?_
  refine evR_e hK ?_; clear hK K
  refine hK4 _ ?_
  refine tr_seq fun K5 hK5 => ?_
  refine tr_region [0] rfl rfl fun K hK => ?_
  iterate 5 refine evR_p ?_
  refine evR_e hK ?_; clear hK K
  refine hK5 _ ?_
  refine tr_seq fun K6 hK6 => ?_
  refine tr_region [0] rfl rfl fun K hK => ?_
  iterate 5 refine evR_p ?_
  refine evR_e hK ?_; clear hK K
  refine hK6 _ ?_
  refine tr_seq fun K7 hK7 => ?_
  refine tr_region [0] rfl rfl fun K hK => ?_
  iterate 5 refine evR_p ?_
  refine evR_e hK ?_; clear hK K
  refine hK7 _ ?_
  refine tr_seq fun K8 hK8 => ?_
  refine tr_region [2] rfl rfl fun K hK => ?_
  iterate 4 refine evR_p ?_
  refine evR_e hK ?_; clear hK K
  refine hK8 _ ?_
  refine tr_ret ?_
  (try simp only [thenE, inBlkE])
  simp (maxSteps := 4000000) (disch := first | assumption | omega | (simp only [go_sem, *]; done) | (simp only [go_sem, *]; omega)) only [postA, postO, resV1, fzAll, go_sem, hq, Int.reduceToNat, Nat.reduceBEq, Nat.reduceEqDiff, Nat.reduceAdd, Nat.reduceMul, Nat.reduceLeDiff, Nat.reduceLT, Nat.reduceSub, ↓reduceIte, reduceCtorEq]
  all_goals (rw [← pc_spec hs]; rfl)

theorem k56 (s : Nat) (hs : s < 4096) : CallsA Tryd.prog 56 [.int .u64 (s : Nat)] (.int .i64 (popN s : Nat)) := by
  have hq : True := trivial
  refine callsA_of_tr Tryd.func56 rfl (Nat.le_of_ble_eq_true rfl) ?_
  simp only [Tryd.results56, envOf, Nat.reduceAdd]
  refine tr_seq fun K1 hK1 => ?_
  refine tr_region [0] rfl rfl fun K hK => ?_
  refine evR_p ?_
  refine evR_e hK ?_; clear hK K
  refine hK1 _ ?_
  refine tr_seq fun K2 hK2 => ?_
  refine tr_cond rfl (fun h => by cases h) (fun _ => ?_)
  refine tr_skip ?_
  (try simp only [thenE, inBlkE])
  refine hK2 _ ?_
  refine tr_seq fun K3 hK3 => ?_
  refine tr_region [2] rfl rfl fun K hK => ?_
  refine evR_p ?_
  refine evR_c (hc := (k76 s hs)) (k := ?_)
  refine evR_p ?_
  refine evR_e hK ?_; clear hK K
  refine hK3 _ ?_
  refine tr_ret ?_
  (try simp only [thenE, inBlkE])
  simp (maxSteps := 4000000) (disch := first | assumption | omega | (simp only [go_sem, *]; done) | (simp only [go_sem, *]; omega)) only [postA, postO, resV1, fzAll, go_sem, hq, Int.reduceToNat, Nat.reduceBEq, Nat.reduceEqDiff, Nat.reduceAdd, Nat.reduceMul, Nat.reduceLeDiff, Nat.reduceLT, Nat.reduceSub, ↓reduceIte, reduceCtorEq]
  all_goals (exact ⟨trivial, rfl⟩)

theorem k55 (s : Nat) (hs : s < 4096) : CallsA Tryd.prog 55 [.int .i64 (s : Nat)] (.int .i64 (popN s : Nat)) := by
  have hw := u64_small hs
  have hq := hw
  refine callsA_of_tr Tryd.func55 rfl (Nat.le_of_ble_eq_true rfl) ?_
  simp only [Tryd.results55, envOf, Nat.reduceAdd]
  refine tr_seq fun K1 hK1 => ?_
  refine tr_region [0] rfl rfl fun K hK => ?_
  refine evR_p ?_
  refine evR_e hK ?_; clear hK K
  refine hK1 _ ?_
  refine tr_seq fun K2 hK2 => ?_
  refine tr_region [2] rfl rfl fun K hK => ?_
  iterate 2 refine evR_p ?_
  refine evR_c (hc := (k56 s hs)) (k := ?_)
  refine evR_p ?_
  refine evR_e hK ?_; clear hK K
  refine hK2 _ ?_
  refine tr_ret ?_
  (try simp only [thenE, inBlkE])
  simp (maxSteps := 4000000) (disch := first | assumption | omega | (simp only [go_sem, *]; done) | (simp only [go_sem, *]; omega)) only [postA, postO, resV1, fzAll, go_sem, hq, Int.reduceToNat, Nat.reduceBEq, Nat.reduceEqDiff, Nat.reduceAdd, Nat.reduceMul, Nat.reduceLeDiff, Nat.reduceLT, Nat.reduceSub, ↓reduceIte, reduceCtorEq]
  all_goals (exact ⟨trivial, rfl⟩)

theorem k43 (s : Nat) (hs : s < 4096) : CallsA Tryd.prog 43 [.int .i64 (s : Nat)] (.sl 1 (encI (rowsN s))) := by
  have hq : True := trivial
  refine callsA_of_trL Tryd.func43 rfl (Nat.le_of_ble_eq_true rfl) ?_
  simp only [Tryd.results43, envOf, Nat.reduceAdd]
  refine tr_seq fun K1 hK1 => ?_
  refine tr_region [0, 2] rfl rfl fun K hK => ?_
  refine evR_p ?_
  refine evR_e hK ?_; clear hK K
  refine hK1 _ ?_
  refine tr_seq fun K2 hK2 => ?_
  refine tr_block ?_
  -- loop 1: live [0, 2]
  refine tr_loopW (fun m σ => ∃ (a : List Int) (k : Nat), k = m ∧ k < 4096 ∧ rowsN s = a ++ rowsN k ∧ σ = ⟨[(0, .int .i64 (k : Nat)), (2, .own 0)], [(0, .row 3 1 (encI a))], 1⟩) (s) ?_ ?_
  · exact ⟨_, Wk.nilslot 3 1 2 rfl, [], s, rfl, hs, by simp, rfl⟩
  · rintro m σ ⟨a, k, hk, hkl, hr, rfl⟩ KL1 hKL1
    refine tr_seq fun K3 hK3 => ?_
    refine tr_seq fun K4 hK4 => ?_
    refine tr_region [0, 2, 4] rfl rfl fun K hK => ?_
    iterate 2 refine evR_p ?_
    refine evR_e hK ?_; clear hK K
    refine hK4 _ ?_
    refine tr_condB (fun ht1 => ?_) (fun ht1 => ?_)
    · skip
      have hk0 : 0 < k := by omega
      obtain ⟨hs1, hs2⟩ := rows_step hkl hk0
      have hw := u64_small hkl
      have hw1 := dec_and hkl hk0
      have hal : a.length ≤ 12 := by have h1 := rowsN_le s; rw [hr] at h1; simp at h1; omega
      replace hq := And.intro hq (And.intro hw (hw1))
      refine tr_skip ?_
      (try simp only [thenE, inBlkE])
      refine hK3 _ ?_
      refine tr_seq fun K5 hK5 => ?_
      refine tr_block ?_
      refine tr_region [0, 2] rfl rfl fun K hK => ?_
      iterate 3 refine evR_p ?_
      refine evR_c (hc := (k62 k hkl hk0)) (k := ?_)
      refine evR_bs ?_
      iterate 2 refine evR_p ?_
      refine evR_e hK ?_; clear hK K
      refine hK5 _ ?_
      refine tr_region [0, 2] rfl rfl fun K hK => ?_
      iterate 5 refine evR_p ?_
      refine evR_e hK ?_; clear hK K
      refine hKL1 _ ?_
      exact ⟨k &&& (k - 1), _, by omega, (Wk.trans (Wk.ren 1 0 (Nat.le_of_ble_eq_true rfl) (Nat.le_of_ble_eq_true rfl) rfl) (Wk.cut 1 rfl)), a ++ [(tzN k : Int)], _, rfl, by omega, by rw [hr, hs1]; simp, by simp [encI]; rfl⟩
    · skip
      have hk0 : k = 0 := by omega
      subst hk0
      rw [rowsN_0, List.append_nil] at hr
      subst hr
      refine tr_exit ?_
      simp only [thenE, inBlkE, Nat.reduceEqDiff, ↓reduceIte]
      refine hK2 _ ?_
      refine tr_seq fun K6 hK6 => ?_
      refine tr_region [2] rfl rfl fun K hK => ?_
      iterate 2 refine evR_p ?_
      refine evR_e hK ?_; clear hK K
      refine hK6 _ ?_
      refine tr_ret ?_
      (try simp only [thenE, inBlkE])
      simp (maxSteps := 4000000) (disch := first | assumption | omega | (simp only [go_sem, *]; done) | (simp only [go_sem, *]; omega)) only [postA, postO, resV1, fzAll, go_sem, hq, Int.reduceToNat, Nat.reduceBEq, Nat.reduceEqDiff, Nat.reduceAdd, Nat.reduceMul, Nat.reduceLeDiff, Nat.reduceLT, Nat.reduceSub, ↓reduceIte, reduceCtorEq]
      all_goals (exact .refl _)

end Go.Proofs.YtgmgifmfhpoglaaDoor


namespace Go.Proofs.YtgmgifmfhpoglaaDoor
open Go.RowKit
set_option linter.unusedVariables false
set_option linter.unusedSimpArgs false
set_option maxRecDepth 100000
attribute [local go_sem] Nat.zero_add Nat.add_zero Nat.mul_one eq_self ne_eq not_true_eq_false not_false_eq_true decide_true decide_false decide_not Bool.false_eq_true List.filter_cons List.filter_nil true_and and_true beq_false beq_true Bool.not_true Bool.not_false Bool.and_true Bool.true_and Option.getD_some Option.getD_none imp_self implies_true Int.toNat_natCast List.cons_append List.nil_append List.map_cons List.map_nil List.length_cons List.length_nil List.getD_cons_zero List.getD_cons_succ List.drop_zero List.drop_succ_cons List.take_succ_cons List.take_zero
attribute [local go_sem] isE isO stpO notIn St.bare evO evDO isEff stp St.get St.slot St.put List.lookup un unL ofVal gof nth pickV pkB_false pkB_true binV unV loadV idxV fldV partV buildV fillV lenV sliV appV appR rowsV winV V.parts V.okp V.sc Mem.look_cons Mem.look_nil V.cl V.clL AObj.clo fzAll exps St.fz Mem.fz V.fz V.fzL AObj.fz Option.isSome_some Option.isSome_none Bool.or_true Bool.true_or Bool.or_false Bool.false_or false_and and_false false_or or_false arT_102 arT_103 arT_22 arT_23 arT_26 arT_27 arT_31 arT_38 arT_45 arT_55 arT_85 arT_86 arT_9 boolT_100 boolT_23 boolT_3 boolT_32 boolT_4 boolT_98 flatT_100 flatT_23 flatT_3 flatT_32 flatT_4 flatT_98 intT_100 intT_3 intT_5 intT_81 intT_83 intT_98 lay_22 lay_23 lay_25 lay_27 lay_3 lay_37 lay_4 lay_45 lay_47 lay_5 lay_54 lay_61 lay_66 lay_82 lay_88 okF_10 okF_11 okF_12 okF_13 okF_14 okF_15 okF_16 okF_17 okF_18 okF_19 okF_20 okF_21 okF_22 okF_23 okF_24 okF_25 okF_26 okF_27 okF_28 okF_29 okF_3 okF_30 okF_31 okF_32 okF_33 okF_34 okF_35 okF_36 okF_37 okF_38 okF_39 okF_4 okF_40 okF_41 okF_42 okF_43 okF_44 okF_45 okF_46 okF_47 okF_48 okF_49 okF_5 okF_50 okF_51 okF_52 okF_53 okF_54 okF_55 okF_56 okF_57 okF_58 okF_59 okF_6 okF_60 okF_61 okF_62 okF_63 okF_64 okF_65 okF_66 okF_67 okF_68 okF_69 okF_7 okF_70 okF_71 okF_72 okF_73 okF_74 okF_75 okF_76 okF_77 okF_78 okF_79 okF_8 okF_80 okF_81 okF_82 okF_83 okF_84 okF_85 okF_86 okF_87 okF_88 okF_89 okF_9 plT_25 plT_47 plT_54 plT_93 plT_96 slT_102 slT_103 slT_22 slT_23 slT_26 slT_27 slT_31 slT_38 slT_45 slT_55 slT_85 slT_86 slT_94 stT_25_0 stT_25_1 stT_25_2 stT_47_0 stT_47_2 stT_47_3 stT_54_4 stT_54_5 stT_96_1 stT_96_2 strT_9 zeroT_23 zeroT_25 zeroT_3 zeroT_37 zeroT_4 zeroT_45 zeroT_47 zeroT_54 zeroT_55 zeroT_66 zeroT_82 zeroT_85 zeroT_86 zeroT_93 zeroT_96
attribute [local go_sem] List.getElem?_cons_zero List.getElem?_cons_succ List.zip_cons_cons List.zip_nil_left List.zip_nil_right Bool.false_and Bool.and_false List.length_append List.length_set List.length_replicate List.all_cons List.all_nil encI_length encI_getD encR_length encR_getD encRw encPg spl shp AObj.shp rowM isSt isRpS isRd csh AObj.csh forall_const imp_self
attribute [local simp] encI_length encR_length cellsI_length
theorem k57 (s : Nat) (hs : s < 4096) : CallsA Tryd.prog 57 [.int .u16 (s : Nat)] (.int .u16 (rvN s : Nat)) := by
  obtain ⟨⟨h1, h2⟩, h3, h4⟩ := b16 hs
  have hq := And.intro h1 (And.intro h2 (And.intro h3 (h4)))
  refine callsA_of_tr Tryd.func57 rfl (Nat.le_of_ble_eq_true rfl) ?_
  simp only [Tryd.results57, envOf, Nat.reduceAdd]
  refine tr_seq fun K1 hK1 => ?_
  refine tr_region [0] rfl rfl fun K hK => ?_
  refine evR_p ?_
  refine evR_e hK ?_; clear hK K
  refine hK1 _ ?_
  refine tr_seq fun K2 hK2 => ?_
  refine tr_draw [] [2] mixed rfl (by kernel_rfl) rfl fun K hK => ?_
  iterate 11 refine evD_p ?_
  refine evD_e hK ?_; clear hK K
  refine hK2 _ ?_
  refine tr_ret ?_
  (try simp only [thenE, inBlkE])
  simp (maxSteps := 4000000) (disch := first | assumption | omega | (simp only [go_sem, *]; done) | (simp only [go_sem, *]; omega)) only [postA, postO, resV1, fzAll, go_sem, hq, Int.reduceToNat, Nat.reduceBEq, Nat.reduceEqDiff, Nat.reduceAdd, Nat.reduceMul, Nat.reduceLeDiff, Nat.reduceLT, Nat.reduceSub, ↓reduceIte, reduceCtorEq]
  all_goals ((refine congrArg (V.int .u16) ?_; rw [rev_get, rev_get]; exact rev_spec hs; all_goals first | omega | (clear hK1 K1 hK2 K2 hq h1 h2 h3 h4; decide +kernel)))

end Go.Proofs.YtgmgifmfhpoglaaDoor


namespace Go.Proofs.YtgmgifmfhpoglaaDoor
open Go.RowKit
set_option linter.unusedVariables false
set_option linter.unusedSimpArgs false
theorem encI_rep (n : Nat) (x : Int) : List.replicate n [V.int .i64 x] = encI (List.replicate n x) := by simp [encI]
theorem encI_set (l : List Int) (k : Nat) (x : Int) : (encI l).set k [V.int .i64 x] = encI (l.set k x) := by simp [encI, List.map_set]
/-- The least sum, exactly. -/
def lstG (c : List Int) (d s : Nat) : Nat → Int
  | 0 => 0
  | k + 1 => lstG c d s k + (if k < d then (if s.testBit k then c.getD k 0 else 0) else if c.getD k 0 < 0 then c.getD k 0 else 0)
theorem lstG_range {c : List Int} (hb : coefB c = true) (d s : Nat) : ∀ k : Nat, -((k : Int) * 1000000000) ≤ lstG c d s k ∧ lstG c d s k ≤ (k : Int) * 1000000000
  | 0 => by simp [lstG]
  | k + 1 => by
    have ih := lstG_range hb d s k
    have hc := coef_getD hb k
    simp only [lstG]
    split
    · split <;> omega
    · split <;> omega
theorem lstG_low (c : List Int) {d s : Nat} : ∀ k, k ≤ d → lstG c d s k = sumG c s k
  | 0, _ => rfl
  | k + 1, h => by
    have ih := lstG_low c (d := d) (s := s) k (by omega)
    simp only [lstG, sumG, ih, if_pos (show k < d by omega)]
theorem sumG_take (c : List Int) (s d : Nat) : ∀ k, k ≤ d → sumG (c.take d) s k = sumG c s k
  | 0, _ => rfl
  | k + 1, h => by
    have : (c.take d).getD k 0 = c.getD k 0 := by simp [List.getD, List.getElem?_take, show k < d by omega]
    simp only [sumG, sumG_take c s d k (by omega), this]
theorem coefB_take {c : List Int} (h : coefB c = true) (d : Nat) : coefB (c.take d) = true := coefB_iff.2 fun x hx => coefB_iff.1 h x (List.mem_of_mem_take hx)
theorem leastW_lst {r : Rw} {v : Nat} (hb : coefB r.coef = true) (hl : r.coef.length = v) (hv : v ≤ 12) {d s : Nat} (hd : d ≤ v) (hs : s < 2 ^ d) : leastW r d s = lstG r.coef d s v := by
  have hp : 2 ^ d ≤ 2 ^ 12 := Nat.pow_le_pow_right (by omega) (by omega)
  have h0 : chosenW (r.coef.take d) s = lstG r.coef d s d := by
    rw [chosenW_sum (coefB_take hb d) (by omega) (by simp; omega), lstG_low _ _ (Nat.le_refl _)]
    unfold sumS
    rw [show (r.coef.take d).length = d by simp; omega, sumG_take _ _ _ _ (Nat.le_refl _)]
  unfold leastW
  rw [h0]
  have key : ∀ k, d + k ≤ v → leastT (r.coef.drop d) (lstG r.coef d s d) k = lstG r.coef d s (d + k) := by
    intro k
    induction k with
    | zero => intro _; rfl
    | succ k ih =>
      intro hk
      have hr := lstG_range hb d s (d + k)
      have hc := coef_getD hb (d + k)
      have e : (r.coef.drop d).getD k 0 = r.coef.getD (d + k) 0 := by simp [List.getD]
      have e2 : d + (k + 1) = (d + k) + 1 := by omega
      rw [e2]
      simp only [leastT, lstG, ih (by omega), e, if_neg (show ¬ d + k < d by omega)]
      have e3 : minV 0 (r.coef.getD (d + k) 0) = if r.coef.getD (d + k) 0 < 0 then r.coef.getD (d + k) 0 else 0 := rfl
      rw [e3]
      have : ((d + k : Nat) : Int) * 1000000000 ≤ 12 * 1000000000 := by omega
      split <;> rw [w64 (by omega)]
  rw [key (r.coef.drop d).length (by simp; omega)]
  congr 1; simp; omega
theorem lstG_le (c : List Int) {d s t : Nat} (ht : t % 2 ^ d = s) : ∀ k, lstG c d s k ≤ sumG c t k
  | 0 => Int.le_refl _
  | k + 1 => by
    have ih := lstG_le c ht k
    simp only [lstG, sumG]
    by_cases h : k < d
    · rw [if_pos h]
      have : s.testBit k = t.testBit k := by rw [← ht, Nat.testBit_mod_two_pow]; simp [h]
      rw [this]; split <;> omega
    · rw [if_neg h]; split <;> split <;> omega
/-! #### what is decided -/
def decL (v d s : Nat) : List Int := (List.range v).map fun k => if k < d then (if s.testBit k then 1 else 0) else -1
theorem decL_length (v d s : Nat) : (decL v d s).length = v := by simp [decL]
theorem decL_getD {v d s k : Nat} (h : k < v) : (decL v d s).getD k 0 = if k < d then (if s.testBit k then 1 else 0) else -1 := by simp [decL, List.getD, List.getElem?_range h]
theorem decL_0 (v : Nat) : decL v 0 0 = List.replicate v (-1) := by
  apply List.ext_getElem (by simp [decL])
  intro i h1 h2
  simp [decL]
theorem decL_set0 {v d s : Nat} (h : d < v) (hs : s < 2 ^ d) : (decL v d s).set d 0 = decL v (d + 1) s := by
  apply List.ext_getElem (by simp [decL])
  intro i h1 h2
  simp only [decL, List.getElem_set, List.getElem_map, List.getElem_range]
  by_cases e : d = i
  · subst e
    have : s.testBit d = false := Nat.testBit_lt_two_pow hs
    simp [this]
  · rw [if_neg e]
    by_cases h3 : i < d
    · simp [h3, show i < d + 1 by omega]
    · simp [h3, show ¬ i < d + 1 by omega]
theorem decL_set1 {v d s : Nat} (h : d < v) (hs : s < 2 ^ d) : (decL v d s).set d 1 = decL v (d + 1) (s + 2 ^ d) := by
  apply List.ext_getElem (by simp [decL])
  intro i h1 h2
  simp only [decL, List.getElem_set, List.getElem_map, List.getElem_range]
  have ho : s + 2 ^ d = 2 ^ d ||| s := by rw [Nat.add_comm]; simpa using Nat.two_pow_add_eq_or_of_lt hs 1
  rw [ho, Nat.testBit_or, Nat.testBit_two_pow]
  by_cases e : d = i
  · subst e; simp
  · rw [if_neg e]
    by_cases h3 : i < d
    · simp [h3, show i < d + 1 by omega, e]
    · simp [h3, show ¬ i < d + 1 by omega]
/-- The sum of a leaf. -/
def lfG (c dec : List Int) : Nat → Int
  | 0 => 0
  | k + 1 => if (decide (dec.getD k 0 = 1) || (decide (dec.getD k 0 < 0) && decide (c.getD k 0 < 0))) = true then IntKind.i64.wrap (lfG c dec k + c.getD k 0) else lfG c dec k
theorem lfG_t {c dec : List Int} {k : Nat} (h : dec.getD k 0 = 1 ∨ dec.getD k 0 < 0 ∧ c.getD k 0 < 0) : lfG c dec (k + 1) = IntKind.i64.wrap (lfG c dec k + c.getD k 0) := by simp only [lfG]; rw [if_pos]; simpa using h
theorem lfG_f {c dec : List Int} {k : Nat} (h : ¬ dec.getD k 0 = 1 ∧ (¬ dec.getD k 0 < 0 ∨ ¬ c.getD k 0 < 0)) : lfG c dec (k + 1) = lfG c dec k := by
  simp only [lfG]; rw [if_neg]
  simp only [Bool.or_eq_true, Bool.and_eq_true, decide_eq_true_eq]; omega
theorem lfG_lst {c : List Int} (hb : coefB c = true) {v d s : Nat} (hv : v ≤ 12) : ∀ k, k ≤ v → lfG c (decL v d s) k = lstG c d s k
  | 0, _ => rfl
  | k + 1, hk => by
    have ih := lfG_lst hb (d := d) (s := s) hv k (by omega)
    have hr := lstG_range hb d s k
    have hc := coef_getD hb k
    have hd := decL_getD (d := d) (s := s) (show k < v by omega)
    have hw : IntKind.i64.wrap (lstG c d s k + c.getD k 0) = lstG c d s k + c.getD k 0 := w64 (by omega)
    simp only [lstG]
    by_cases h : k < d
    · rw [if_pos h] at hd ⊢
      by_cases hb2 : s.testBit k = true
      · rw [if_pos hb2] at hd ⊢
        rw [lfG_t (.inl hd), ih, hw]
      · rw [if_neg hb2] at hd ⊢
        rw [lfG_f (by omega), ih]; omega
    · rw [if_neg h] at hd ⊢
      by_cases hn : c.getD k 0 < 0
      · rw [if_pos hn, lfG_t (.inr (by omega)), ih, hw]
      · rw [if_neg hn, lfG_f (by omega), ih]; omega
/-! #### the tree -/
def atLeaf (rows : List Rw) (l : List Stp) (d s p : Nat) : Prop := p < l.length ∧ l.getD p stp0 = ⟨-1, 0, 0, some (idxOf (overB d s) rows)⟩
def layT (rows : List Rw) (l : List Stp) : Nat → Nat → Nat → Nat → Prop
  | 0, d, s, p => atLeaf rows l d s p
  | n + 1, d, s, p => (0 ≤ idxOf (overB d s) rows ∧ atLeaf rows l d s p) ∨ (¬ 0 ≤ idxOf (overB d s) rows ∧ ∃ no yes : Nat, p < no ∧ p < yes ∧ p < l.length ∧ l.getD p stp0 = ⟨d, no, yes, none⟩ ∧ layT rows l n (d + 1) s no ∧ layT rows l n (d + 1) (s + 2 ^ d) yes)
theorem layT_mono {rows : List Rw} {l l' : List Stp} : ∀ {n d s p : Nat}, (∀ i, p ≤ i → i < l.length → i < l'.length ∧ l'.getD i stp0 = l.getD i stp0) → layT rows l n d s p → layT rows l' n d s p
  | 0, d, s, p, h, ⟨h1, h2⟩ => ⟨(h p (Nat.le_refl _) h1).1, (h p (Nat.le_refl _) h1).2.trans h2⟩
  | n + 1, d, s, p, h, .inl ⟨h0, h1, h2⟩ => .inl ⟨h0, (h p (Nat.le_refl _) h1).1, (h p (Nat.le_refl _) h1).2.trans h2⟩
  | n + 1, d, s, p, h, .inr ⟨h0, no, yes, a1, a2, a3, a4, a5, a6⟩ => .inr ⟨h0, no, yes, a1, a2, (h p (Nat.le_refl _) a3).1, (h p (Nat.le_refl _) a3).2.trans a4,
      layT_mono (fun i hi hl => h i (by omega) hl) a5, layT_mono (fun i hi hl => h i (by omega) hl) a6⟩
theorem layT_grow (rows : List Rw) : ∀ (n d s : Nat) (out : List Stp), d + n ≤ 12 → s < 2 ^ d → layT rows (growN rows n d s out) n d s out.length
  | 0, d, s, out, _, _ => ⟨by simp [growN], by simp [growN, List.getD]⟩
  | n + 1, d, s, out, hd, hs => by
    by_cases h0 : 0 ≤ idxOf (overB d s) rows
    · refine .inl ⟨h0, ?_⟩
      rw [growN_leaf h0]
      exact ⟨by simp, by simp [List.getD]⟩
    · have hsb := setBit_nat hs (show d ≤ 12 by omega)
      have l1 := layT_grow rows n (d + 1) s (out ++ [⟨d, 0, 0, none⟩]) (by omega) (by rw [Nat.pow_succ]; omega)
      have g1 := growN_length rows n (d + 1) s (out ++ [⟨d, 0, 0, none⟩])
      generalize ho1 : growN rows n (d + 1) s (out ++ [⟨d, 0, 0, none⟩]) = o1 at l1 g1
      have l2 := layT_grow rows n (d + 1) (s + 2 ^ d) o1 (by omega) (by rw [Nat.pow_succ]; omega)
      have g2 := growN_length rows n (d + 1) ((s + 2 ^ d : Nat) : Int) o1
      simp only [List.length_append, List.length_cons, List.length_nil] at l1 g1
      have e : growN rows (n + 1) d s out = (growN rows n (d + 1) ((s + 2 ^ d : Nat) : Int) o1).set out.length ⟨d, out.length + 1, o1.length, none⟩ := by
        simp only [growN, if_neg h0, hsb, ho1]
      rw [e]
      have hset : ∀ (l : List Stp) (x : Stp) (i : Nat), out.length < i → (l.set out.length x).getD i stp0 = l.getD i stp0 := fun l x i hi => by
        simp only [List.getD, List.getElem?_set_ne (show out.length ≠ i by omega)]
      refine .inr ⟨h0, out.length + 1, o1.length, by omega, by omega, by rw [List.length_set]; omega, getD_set_self (by omega), ?_, ?_⟩
      · refine layT_mono (fun i hi hl => ⟨by rw [List.length_set]; omega, ?_⟩) l1
        rw [hset _ _ _ (by omega), growN_pre rows n _ _ _ i hl]
      · refine layT_mono (fun i hi hl => ⟨by rw [List.length_set]; exact hl, ?_⟩) l2
        exact hset _ _ _ (by omega)
def leafB (rows2 : List Rw) (v : Nat) (i : Int) (d s : Nat) : Bool := decide ((rows2.getD i.toNat rw0).most < lfG (rows2.getD i.toNat rw0).coef (decL v d s) v)
def treeB (rows2 rows : List Rw) (v : Nat) : Nat → Nat → Nat → Bool
  | 0, d, s => leafB rows2 v (idxOf (overB d s) rows) d s
  | n + 1, d, s => if 0 ≤ idxOf (overB d s) rows then leafB rows2 v (idxOf (overB d s) rows) d s else treeB rows2 rows v n (d + 1) s && treeB rows2 rows v n (d + 1) (s + 2 ^ d)
theorem idx_at {α : Type} (dflt : α) {p : α → Bool} : ∀ {xs : List α}, 0 ≤ idxOf p xs → (idxOf p xs).toNat < xs.length ∧ p (xs.getD (idxOf p xs).toNat dflt) = true
  | [], h => by simp [idxOf] at h
  | x :: xs, h => by
    by_cases hp : p x = true
    · simp only [idxOf, hp, if_true]; simp [hp]
    · have hf : p x = false := by simpa using hp
      by_cases hr : idxOf p xs < 0
      · simp [idxOf, hf, hr] at h
      · have e : idxOf p (x :: xs) = idxOf p xs + 1 := by simp [idxOf, hf, hr]
        obtain ⟨h1, h2⟩ := idx_at dflt (p := p) (xs := xs) (by omega)
        rw [e, show (idxOf p xs + 1).toNat = (idxOf p xs).toNat + 1 by omega]
        exact ⟨by simpa using h1, by simpa using h2⟩
def okRws (rows : List Rw) (v : Nat) : Prop := ∀ r ∈ rows, r.coef.length = v ∧ coefB r.coef = true
theorem tree_true {rows : List Rw} {v : Nat} (hv : v ≤ 12) (hr : okRws rows v) : ∀ (n d s : Nat), d + n = v → s < 2 ^ d → infN rows n d s → treeB rows rows v n d s = true := by
  have leaf : ∀ d s : Nat, d ≤ v → s < 2 ^ d → 0 ≤ idxOf (overB d s) rows → leafB rows v (idxOf (overB d s) rows) d s = true := fun d s hd hs h => by
    obtain ⟨h1, h2⟩ := idx_at rw0 h
    obtain ⟨k1, k2⟩ := hr _ (getD_mem (d := rw0) h1)
    simp only [overB, decide_eq_true_eq] at h2
    rw [leastW_lst k2 k1 hv hd hs] at h2
    simp only [leafB, decide_eq_true_eq]
    rw [lfG_lst k2 hv v (Nat.le_refl _)]; exact h2
  intro n
  induction n with
  | zero => intro d s hd hs h; exact leaf d s (by omega) hs h
  | succ n ih =>
    intro d s hd hs h
    simp only [treeB]
    split
    · rename_i h0; exact leaf d s (by omega) hs h0
    · rename_i h0
      rcases h with h | ⟨h1, h2⟩
      · exact (h0 h).elim
      · rw [setBit_nat hs (by omega)] at h2
        rw [ih (d + 1) s (by omega) (by rw [Nat.pow_succ]; omega) h1, ih (d + 1) (s + 2 ^ d) (by omega) (by rw [Nat.pow_succ]; omega) h2]
        rfl
/-- A choice t that is not refuted: the leaf that holds it does not. -/
theorem tree_false {rows2 rows : List Rw} {v : Nat} (hv : v ≤ 12) (hr : okRws rows v) (hr2 : okRws rows2 v) (hlen : rows2.length = rows.length) {t : Nat} (ht : t < 2 ^ v)
    (hno : ∀ i, i < rows.length → (rows.getD i rw0).most < sumG (rows.getD i rw0).coef t v → sumG (rows2.getD i rw0).coef t v ≤ (rows2.getD i rw0).most) :
    ∀ (n d s : Nat), d + n = v → s < 2 ^ d → t % 2 ^ d = s → infN rows n d s → treeB rows2 rows v n d s = false := by
  have leaf : ∀ d s : Nat, d ≤ v → s < 2 ^ d → t % 2 ^ d = s → 0 ≤ idxOf (overB d s) rows → leafB rows2 v (idxOf (overB d s) rows) d s = false := fun d s hd hs he h => by
    obtain ⟨h1, h2⟩ := idx_at rw0 h
    obtain ⟨k1, k2⟩ := hr _ (getD_mem (d := rw0) h1)
    obtain ⟨j1, j2⟩ := hr2 _ (getD_mem (d := rw0) (show (idxOf (overB d s) rows).toNat < rows2.length by omega))
    simp only [overB, decide_eq_true_eq] at h2
    rw [leastW_lst k2 k1 hv hd hs] at h2
    have h3 := lstG_le (rows.getD (idxOf (overB d s) rows).toNat rw0).coef he v
    have h4 := hno _ h1 (by omega)
    have h5 := lstG_le (rows2.getD (idxOf (overB d s) rows).toNat rw0).coef he v
    simp only [leafB, decide_eq_false_iff_not]
    rw [lfG_lst j2 hv v (Nat.le_refl _)]; omega
  intro n
  induction n with
  | zero => intro d s hd hs he h; exact leaf d s (by omega) hs he h
  | succ n ih =>
    intro d s hd hs he h
    simp only [treeB]
    split
    · rename_i h0; exact leaf d s (by omega) hs he h0
    · rename_i h0
      rcases h with h | ⟨h1, h2⟩
      · exact (h0 h).elim
      · rw [setBit_nat hs (by omega)] at h2
        have hm : t % 2 ^ (d + 1) = s ∨ t % 2 ^ (d + 1) = s + 2 ^ d := by
          have h6 : t % 2 ^ (d + 1) = t % 2 ^ d + 2 ^ d * (t / 2 ^ d % 2) := by rw [Nat.pow_succ, Nat.mod_mul]
          rw [h6, he]
          rcases Nat.mod_two_eq_zero_or_one (t / 2 ^ d) with h7 | h7 <;> rw [h7]
          · left; omega
          · right; omega
        rcases hm with hm | hm
        · rw [ih (d + 1) s (by omega) (by rw [Nat.pow_succ]; omega) hm h1]; rfl
        · rw [ih (d + 1) (s + 2 ^ d) (by omega) (by rw [Nat.pow_succ]; omega) hm h2, Bool.and_false]
/-! #### for Solve -/
def negP (g : List Int) (i : Nat) : List Int := negG g i ++ List.replicate (g.length - i) 0
theorem negP_length {g : List Int} {i : Nat} (h : i ≤ g.length) : (negP g i).length = g.length := by simp [negP, negG_length]; omega
theorem negP_set {g : List Int} {i : Nat} (h : i < g.length) : (negP g i).set i (IntKind.i64.wrap (0 - g.getD i 0)) = negP g (i + 1) := by
  unfold negP
  rw [negG_succ h]
  obtain ⟨k, hk⟩ : ∃ k, g.length - i = k + 1 := ⟨g.length - i - 1, by omega⟩
  have hl : (negG g i).length = i := by rw [negG_length]; omega
  rw [hk, List.replicate_succ, List.set_append, if_neg (by omega), hl, Nat.sub_self, List.set_cons_zero, show g.length - (i + 1) = k by omega]
  simp
theorem negP_0 (g : List Int) : negP g 0 = List.replicate g.length 0 := by simp [negP, negG]
theorem negP_end (g : List Int) : negP g g.length = negG g g.length := by simp [negP]
/-- The one row of a leaf, so far. -/
def sumP (c : List Int) (v i : Nat) : List Int := ((List.range i).map fun k => c.getD k 0) ++ List.replicate (v - i) 0
theorem sumP_length {c : List Int} {v i : Nat} (h : i ≤ v) : (sumP c v i).length = v := by simp [sumP]; omega
theorem sumP_at {c : List Int} {v i : Nat} (h : i < v) : (sumP c v i).getD i 0 = 0 := by
  obtain ⟨k, hk⟩ : ∃ k, v - i = k + 1 := ⟨v - i - 1, by omega⟩
  simp [sumP, List.getD, List.getElem?_append_right, hk]
theorem sumP_set {c : List Int} {v i : Nat} (h : i < v) : (sumP c v i).set i (c.getD i 0) = sumP c v (i + 1) := by
  unfold sumP
  obtain ⟨k, hk⟩ : ∃ k, v - i = k + 1 := ⟨v - i - 1, by omega⟩
  rw [hk, List.replicate_succ, List.set_append, if_neg (by simp), List.length_map, List.length_range, Nat.sub_self, List.set_cons_zero, List.range_succ, List.map_append, show v - (i + 1) = k by omega]
  simp
theorem sumP_0 (c : List Int) (v : Nat) : sumP c v 0 = List.replicate v 0 := by simp [sumP]
theorem sumP_end {c : List Int} {v : Nat} (h : c.length = v) : sumP c v v = c := by
  unfold sumP
  rw [Nat.sub_self, List.replicate_zero, List.append_nil]
  apply List.ext_getElem (by simp [h])
  intro i h1 h2
  simp [List.getD, h2]
/-- The reference's goal. -/
def goalR (p : Pg) (g : Int) : Rw := ⟨0, 0, 0, 0, negG p.gain p.gain.length, IntKind.i64.wrap (IntKind.i64.wrap (0 - g) - 1)⟩
theorem goalR_eq {p : Pg} {g : Int} (h : -100000000000 ≤ g ∧ g ≤ 100000000000) : goalR p g = goalW p g := by
  unfold goalR goalW
  rw [w64 (x := 0 - g) (by omega), w64 (x := g + 1) (by omega), w64 (x := (0 - g) - 1) (by omega), w64 (by omega), show 0 - g - 1 = 0 - (g + 1) by omega]
theorem okRws_goal {p : Pg} (hv : validB p = true) (g : Int) : okRws (p.rows ++ [goalW p g]) p.vars.toNat := by
  obtain ⟨h0, h1, h2, h3, h4, h5⟩ := validB_all hv
  intro r hr
  rcases List.mem_append.1 hr with hr | hr
  · obtain ⟨k1, k2, -⟩ := h5 r hr; exact ⟨by omega, k2⟩
  · rw [List.mem_singleton] at hr; subst hr
    exact ⟨by simp only [goalW, negG_length]; omega, by simp only [goalW]; rw [negG_neg h4]; exact coefB_neg h4⟩
theorem okRws_rows {p : Pg} (hv : validB p = true) : okRws p.rows p.vars.toNat := fun r hr => okRws_goal hv 0 r (List.mem_append_left _ hr)
theorem proof_refutes {p : Pg} (hv : validB p = true) {v : Nat} (e : p.vars = v) : treeB (solRows p (solveB p)) (solRows p (solveB p)) v v 0 0 = true := by
  obtain ⟨h0, h1, h2, h3, h4, h5⟩ := validB_all hv
  have hi := solve_inf hv
  rw [e] at hi
  simp only [Int.toNat_natCast] at hi
  refine tree_true (by omega) (fun r hr => ?_) v 0 0 (by omega) (by simp) hi
  unfold solRows at hr
  split at hr
  · have := okRws_goal hv _ r hr; rw [e] at this; simpa using this
  · have := okRws_rows hv r hr; rw [e] at this; simpa using this
theorem proof_less {p : Pg} (hv : validB p = true) {v : Nat} (e : p.vars = v) (hf : (solveB p).1 = true) : treeB (p.rows ++ [goalW p ((solveB p).2.2 - 1)]) (solRows p (solveB p)) v v 0 0 = false := by
  obtain ⟨h0, h1, h2, h3, h4, h5⟩ := validB_all hv
  have hi := solve_inf hv
  rw [e] at hi
  simp only [Int.toNat_natCast] at hi
  obtain ⟨s, hs1, hs2, hs3⟩ := solveB_mem hf
  obtain ⟨s', hs1', -, hs4, hs5, hs6⟩ := solveB_gain hv hf
  have : s' = s := by omega
  subst this
  rw [e] at hs2
  simp only [Int.toNat_natCast] at hs2
  have hp : 2 ^ v ≤ 2 ^ 12 := Nat.pow_le_pow_right (by omega) (by omega)
  have ev : p.vars.toNat = v := by omega
  have esol := solRows_t (p := p) hf
  have hgs : ∀ g, sumG (goalW p g).coef s' v = - sumS p.gain s' := fun g => by
    have h6 := goal_sum hv (show s' < 65536 by omega)
    have hb : coefB (negG p.gain p.gain.length) = true := by rw [negG_neg h4]; exact coefB_neg h4
    rw [chosenW_sum hb (by omega) (by rw [negG_length]; omega)] at h6
    rw [← h6]
    show sumG (negG p.gain p.gain.length) s' v = sumG (negG p.gain p.gain.length) s' (negG p.gain p.gain.length).length
    rw [negG_length]; congr 1; omega
  rw [esol] at hi ⊢
  refine tree_false (by omega) (ev ▸ okRws_goal hv _) (ev ▸ okRws_goal hv _) (by simp) hs2 (fun i hi2 hb => ?_) v 0 0 (by omega) (by simp) (by simp; exact Nat.mod_one _) hi
  by_cases hil : i < p.rows.length
  · exfalso
    have e1 : (p.rows ++ [goalW p (solveB p).2.2]).getD i rw0 = p.rows.getD i rw0 := by simp [List.getD, List.getElem?_append_left hil]
    rw [e1] at hb
    have hr := getD_mem (d := rw0) hil
    have hk := (List.all_eq_true.1 hs3) _ hr
    rw [keptB_in hv e hr hs2, decide_eq_true_eq] at hk
    omega
  · have hie : i = p.rows.length := by simp at hi2; omega
    subst hie
    have e1 : (p.rows ++ [goalW p ((solveB p).2.2 - 1)]).getD p.rows.length rw0 = goalW p ((solveB p).2.2 - 1) := by simp [List.getD]
    rw [e1, hgs, goal_most (by omega), ← hs4]; omega
end Go.Proofs.YtgmgifmfhpoglaaDoor

namespace Go.Proofs.YtgmgifmfhpoglaaDoor
open Go.RowKit
set_option linter.unusedVariables false
set_option linter.unusedSimpArgs false
theorem coefB_no {l : List Int} {i : Nat} (hi : i < l.length) (h : l.getD i 0 < -1000000000 ∨ 1000000000 < l.getD i 0) : coefB l = false := by
  rw [Bool.eq_false_iff]; intro hc
  have := coefB_iff.1 hc _ (getD_mem (d := 0) hi); omega
theorem coefB_yes {l : List Int} (h : ∀ j, j < l.length → -1000000000 ≤ l.getD j 0 ∧ l.getD j 0 ≤ 1000000000) : coefB l = true := by
  refine coefB_iff.2 fun x hx => ?_
  obtain ⟨i, hi, rfl⟩ := List.getElem_of_mem hx
  have := h i hi
  rwa [show l.getD i 0 = l[i] by simp [List.getD, hi]] at this
theorem valid_no {p : Pg} (h : (((p.vars < 0 ∨ 12 < p.vars) ∨ 300 < (p.rows.length : Int)) ∨ ¬ (p.gain.length : Int) = p.vars) ∨ coefB p.gain = false) : validB p = false := by
  rw [Bool.eq_false_iff]; intro hv
  obtain ⟨h0, h1, h2, h3, h4, h5⟩ := validB_all hv
  rcases h with (((h | h) | h) | h) | h
  · omega
  · omega
  · omega
  · exact h h3
  · rw [h4] at h; cases h
theorem valid_row_no {p : Pg} {i : Nat} (hi : i < p.rows.length) (h : rightB (p.rows.getD i rw0) p.vars = false) : validB p = false := by
  rw [Bool.eq_false_iff]; intro hv
  obtain ⟨h0, h1, h2, h3, h4, h5⟩ := validB_all hv
  obtain ⟨k1, k2, k3⟩ := h5 _ (getD_mem (d := rw0) hi)
  have : rightB (p.rows.getD i rw0) p.vars = true := by simp only [rightB, Bool.and_eq_true, decide_eq_true_eq, isInB_spec]; exact ⟨k1, k2, k3⟩
  rw [this] at h; cases h
theorem valid_yes {p : Pg} (h : (((¬ p.vars < 0 ∧ ¬ 12 < p.vars) ∧ ¬ 300 < (p.rows.length : Int)) ∧ (p.gain.length : Int) = p.vars) ∧ coefB p.gain = true) (hr : ∀ j, j < p.rows.length → rightB (p.rows.getD j rw0) p.vars = true) : validB p = true := by
  obtain ⟨⟨⟨⟨a1, a2⟩, a3⟩, a4⟩, a5⟩ := h
  simp only [validB, Bool.and_eq_true, decide_eq_true_eq, isInB_spec]
  exact ⟨⟨by omega, by omega⟩, by omega, (all_getD rw0 _ _).2 hr, a4, a5⟩
theorem choice_shl {p : Pg} (hv : validB p = true) {s : Int} : choiceB p s = true ↔ 0 ≤ s ∧ s < shlW .i64 1 p.vars := by
  obtain ⟨v, hv1, hv2, hv3, hv4⟩ := vars_pow hv
  rw [choice_iff hv hv1, hv1, hv3]
  constructor
  · rintro ⟨n, rfl, hn⟩; omega
  · rintro ⟨h1, h2⟩
    obtain ⟨n, rfl⟩ := Int.eq_ofNat_of_zero_le h1
    exact ⟨n, rfl, by omega⟩
theorem choice_no {p : Pg} {s : Int} (h : (validB p = false ∨ s < 0) ∨ shlW .i64 1 p.vars ≤ s) : choiceB p s = false := by
  cases hv : validB p with
  | false => unfold choiceB; rw [hv]; rfl
  | true =>
    rw [Bool.eq_false_iff]; intro hc
    have := (choice_shl hv).1 hc
    rcases h with (h | h) | h
    · rw [hv] at h; cases h
    · omega
    · omega
theorem choice_yes {p : Pg} {s : Int} (h : (validB p = true ∧ ¬ s < 0) ∧ ¬ shlW .i64 1 p.vars ≤ s) : choiceB p s = true := (choice_shl h.1.1).2 ⟨by omega, by omega⟩
theorem tot_all {l : List Int} (hb : coefB l = true) (hl : l.length ≤ 12) {s : Nat} (hs : s < 65536) : totG l s l.length = chosenW l s := by
  rw [totG_sum hb hs _ hl, chosenW_sum hb hs hl]; rfl
theorem choice_nat {p : Pg} {s : Int} (h : choiceB p s = true) : ∃ n : Nat, s = n ∧ n < 65536 := by
  have hv : validB p = true := by unfold choiceB at h; rw [Bool.and_eq_true] at h; exact h.1
  obtain ⟨v, hv1, hv2, hv3, hv4⟩ := vars_pow hv
  obtain ⟨n, h1, h2⟩ := (choice_iff hv hv1).1 h
  exact ⟨n, h1, by omega⟩
theorem choice_valid {p : Pg} {s : Int} (h : choiceB p s = true) : validB p = true := by unfold choiceB at h; rw [Bool.and_eq_true] at h; exact h.1
theorem tot_gain {p : Pg} {s : Int} (h : choiceB p s = true) : totG p.gain s p.gain.length = gainW p s := by
  obtain ⟨n, rfl, hn⟩ := choice_nat h
  obtain ⟨h0, h1, h2, h3, h4, h5⟩ := validB_all (choice_valid h)
  unfold gainW
  rw [if_pos h, tot_all h4 (by omega) hn]
theorem tot_row {p : Pg} {s : Int} (h : choiceB p s = true) {i : Nat} (hi : i < p.rows.length) : totG (p.rows.getD i rw0).coef s (p.rows.getD i rw0).coef.length = chosenW (p.rows.getD i rw0).coef s := by
  obtain ⟨n, rfl, hn⟩ := choice_nat h
  obtain ⟨h0, h1, h2, h3, h4, h5⟩ := validB_all (choice_valid h)
  obtain ⟨k1, k2, -⟩ := h5 _ (getD_mem (d := rw0) hi)
  exact tot_all k2 (by omega) hn
theorem row_kept {p : Pg} {s : Int} (h : choiceB p s = true) {i : Nat} (hi : i < p.rows.length) : keptB (p.rows.getD i rw0) s = !decide ((p.rows.getD i rw0).most < totG (p.rows.getD i rw0).coef s (p.rows.getD i rw0).coef.length) := by
  rw [tot_row h hi]; unfold keptB
  rw [← decide_not, decide_eq_decide]; omega
theorem keepsB_brk {p : Pg} {s : Int} : keepsB p s = (choiceB p s && decide (((brokenW p s).length : Int) = 0)) := by
  cases h : choiceB p s with
  | false => unfold keepsB; rw [h]; rfl
  | true =>
    obtain ⟨v, hv1, hv2, hv3, hv4⟩ := vars_pow (choice_valid h)
    obtain ⟨n, rfl, hn⟩ := (choice_iff (choice_valid h) hv1).1 h
    rw [broken_in (choice_valid h) hv1 hn, broken_keeps (choice_valid h) hv1 hn, Bool.true_and]
theorem sumW_no {r : Rw} {s : Int} (h : ((12 < (r.coef.length : Int) ∨ rightB r r.coef.length = false) ∨ s < 0) ∨ shlW .i64 1 r.coef.length ≤ s) : sumW r s = 0 := by
  unfold sumW
  cases hr : rightB r r.coef.length with
  | false => simp
  | true =>
    by_cases hl : 12 < (r.coef.length : Int)
    · simp [hl]
    · have hs := (shl_small (k := (r.coef.length : Nat)) (by omega)).1
      have : isInB s 0 (IntKind.i64.wrap (shlW .i64 1 r.coef.length - 1)) = false := by
        rw [hs, Bool.eq_false_iff]; intro h2
        have := isInB_spec.1 h2
        rw [hr] at h
        simp only [Bool.true_eq_false, or_false] at h
        omega
      rw [this]; simp
theorem sumW_yes {r : Rw} {s : Int} (h : ((¬ 12 < (r.coef.length : Int) ∧ rightB r r.coef.length = true) ∧ ¬ s < 0) ∧ ¬ shlW .i64 1 r.coef.length ≤ s) : sumW r s = totG r.coef s r.coef.length := by
  obtain ⟨⟨⟨h1, h2⟩, h3⟩, h4⟩ := h
  have hs := (shl_small (k := (r.coef.length : Nat)) (by omega))
  obtain ⟨n, rfl⟩ := Int.eq_ofNat_of_zero_le (show 0 ≤ s by omega)
  have hc : coefB r.coef = true := by simp only [rightB, Bool.and_eq_true] at h2; exact h2.2.1
  unfold sumW
  rw [h2, decide_eq_false h1, isInB_spec.2 (show 0 ≤ (n : Int) ∧ (n : Int) ≤ _ by rw [hs.1]; omega), tot_all hc (by omega) (by omega)]
  rfl
theorem allKept_no {rows : List Rw} {s : Int} {i : Nat} (hi : i < rows.length) (h : keptB (rows.getD i rw0) s = false) : allKept rows s = false := by
  rw [Bool.eq_false_iff]; intro h2
  have h3 : keptB (rows.getD i rw0) s = true := (all_getD rw0 rows (fun r => keptB r s)).1 h2 i hi
  rw [h] at h3; cases h3
theorem allKept_yes {rows : List Rw} {s : Int} (h : ∀ i, i < rows.length → keptB (rows.getD i rw0) s = true) : allKept rows s = true := (all_getD rw0 rows (fun r => keptB r s)).2 h
/-! #### the least sum, and the plain proof -/
def lrG (c : List Int) (d set : Int) : Nat → Int
  | 0 => 0
  | k + 1 => if (k : Int) < d then IntKind.i64.wrap (lrG c d set k + IntKind.i64.wrap (c.getD k 0 * (shrW .i64 set k).tmod 2)) else if c.getD k 0 < 0 then IntKind.i64.wrap (lrG c d set k + c.getD k 0) else lrG c d set k
theorem lrG_1 {c : List Int} {d set : Int} {k : Nat} (h : (k : Int) < d) : lrG c d set (k + 1) = IntKind.i64.wrap (lrG c d set k + IntKind.i64.wrap (c.getD k 0 * (shrW .i64 set k).tmod 2)) := by simp only [lrG, if_pos h]
theorem lrG_2 {c : List Int} {d set : Int} {k : Nat} (h : ¬ (k : Int) < d) (h2 : c.getD k 0 < 0) : lrG c d set (k + 1) = IntKind.i64.wrap (lrG c d set k + c.getD k 0) := by simp only [lrG, if_neg h, if_pos h2]
theorem lrG_3 {c : List Int} {d set : Int} {k : Nat} (h : ¬ (k : Int) < d) (h2 : ¬ c.getD k 0 < 0) : lrG c d set (k + 1) = lrG c d set k := by simp only [lrG, if_neg h, if_neg h2]
theorem lrG_lst {c : List Int} (hb : coefB c = true) {d s : Nat} (hs : s < 65536) : ∀ k, k ≤ 12 → lrG c d s k = lstG c d s k
  | 0, _ => rfl
  | k + 1, hk => by
    have ih := lrG_lst hb (d := d) hs k (by omega)
    have hr := lstG_range hb d s k
    have hc := coef_getD hb k
    simp only [lstG]
    by_cases h : k < d
    · rw [lrG_1 (by omega), ih, rem_bit (by omega), if_pos h]
      split
      · rw [Int.mul_one, w64 (x := c.getD k 0) (by omega), w64 (by omega)]
      · rw [Int.mul_zero, w64 (x := (0 : Int)) (by omega), w64 (by omega)]
    · rw [if_neg h]
      by_cases hn : c.getD k 0 < 0
      · rw [lrG_2 (by omega) hn, ih, if_pos hn, w64 (by omega)]
      · rw [lrG_3 (by omega) hn, ih, if_neg hn]; omega
theorem lrG_over {rows : List Rw} {v : Nat} (hv : v ≤ 12) (hr : okRws rows v) {d s : Nat} (hd : d ≤ v) (hs : s < 2 ^ d) : ∀ r ∈ rows, decide (r.most < lrG r.coef d s r.coef.length) = overB d s r := fun r hr' => by
  obtain ⟨k1, k2⟩ := hr r hr'
  have hp : 2 ^ d ≤ 2 ^ 12 := Nat.pow_le_pow_right (by omega) (by omega)
  unfold overB
  rw [lrG_lst k2 (by omega) _ (by omega), leastW_lst k2 k1 hv hd hs, k1]
/-! #### the best, from behind -/
def cmb (s t : Bool × Int × Int) : Bool × Int × Int := if t.1 = true then (if (!s.1 || decide (s.2.2 < t.2.2)) = true then t else s) else s
def one (g : List Int) (x : Int) : Bool × Int × Int := (true, x, chosenW g x)
theorem bestS_cmb (g : List Int) (s : Bool × Int × Int) (x : Int) : bestS g s x = cmb s (one g x) := by unfold cmb; rw [if_pos (show (one g x).1 = true from rfl)]; rfl
theorem cmb_assoc (a b c : Bool × Int × Int) : cmb (cmb a b) c = cmb a (cmb b c) := by
  obtain ⟨a1, a2, a3⟩ := a
  obtain ⟨b1, b2, b3⟩ := b
  obtain ⟨c1, c2, c3⟩ := c
  by_cases h1 : a3 < b3 <;> by_cases h2 : b3 < c3 <;> by_cases h3 : a3 < c3 <;> cases a1 <;> cases b1 <;> cases c1 <;> first | (simp [cmb, h1, h2, h3]; done) | (exfalso; omega)
def e0 : Bool × Int × Int := (false, 0, 0)
theorem fold_cmb (g : List Int) : ∀ (xs : List Int) (a b : Bool × Int × Int), xs.foldl (bestS g) (cmb a b) = cmb a (xs.foldl (bestS g) b)
  | [], a, b => rfl
  | x :: xs, a, b => by
    simp only [List.foldl_cons]
    rw [bestS_cmb, cmb_assoc, ← bestS_cmb, fold_cmb g xs a]
def bestR (g xs : List Int) : Bool × Int × Int := xs.foldr (fun x s => cmb (one g x) s) e0
theorem bestR_eq (g : List Int) : ∀ xs, bestR g xs = bestW g xs
  | [] => rfl
  | x :: xs => by
    have ih := bestR_eq g xs
    have e1 : bestW g (x :: xs) = xs.foldl (bestS g) (cmb (one g x) e0) := by
      unfold bestW
      rw [List.foldl_cons]
      congr 1
    rw [e1, fold_cmb]
    unfold bestR at ih ⊢
    rw [List.foldr_cons, ih]; rfl
theorem bestR_drop {g xs : List Int} {i : Nat} (hi : i < xs.length) : bestR g (xs.drop i) = cmb (one g (xs.getD i 0)) (bestR g (xs.drop (i + 1))) := by
  rw [drop_cons (d := 0) hi]; rfl
theorem cmb_t {g : List Int} {x : Int} {s : Bool × Int × Int} (h : s.1 = false ∨ s.2.2 ≤ chosenW g x) : cmb (one g x) s = (true, x, chosenW g x) := by
  obtain ⟨s1, s2, s3⟩ := s
  simp only at h
  cases s1
  · simp [cmb, one]
  · simp only [Bool.true_eq_false, false_or] at h
    have : ¬ chosenW g x < s3 := by omega
    simp [cmb, one, this]
theorem cmb_f {g : List Int} {x : Int} {s : Bool × Int × Int} (h : s.1 = true ∧ ¬ s.2.2 ≤ chosenW g x) : cmb (one g x) s = s := by
  obtain ⟨s1, s2, s3⟩ := s
  obtain ⟨h1, h2⟩ := h
  simp only at h1 h2
  subst h1
  have : chosenW g x < s3 := by omega
  simp [cmb, one, this]
theorem bestR_end {g xs : List Int} {i : Nat} (h : xs.length ≤ i) : bestR g (xs.drop i) = e0 := by rw [List.drop_eq_nil_of_le h]; rfl
end Go.Proofs.YtgmgifmfhpoglaaDoor

namespace Go.Proofs.YtgmgifmfhpoglaaDoor
open Go.RowKit
set_option linter.unusedVariables false
set_option linter.unusedSimpArgs false
theorem encS_two (a : List Stp) (v no : Int) : encS a ++ (List.replicate 1 [V.int .i64 0, V.int .i64 0, V.int .i64 0, V.nsl]).set 0 [V.int .i64 v, V.int .i64 no, V.int .i64 0, V.nsl] = encS (a ++ [⟨v, no, 0, none⟩]) := by rw [encS_snoc]; rfl
theorem encS_two0 (v no : Int) : (List.replicate 1 [V.int .i64 0, V.int .i64 0, V.int .i64 0, V.nsl]).set 0 [V.int .i64 v, V.int .i64 no, V.int .i64 0, V.nsl] = encS [⟨v, no, 0, none⟩] := rfl
theorem encS_leaf0 (v i : Int) : (List.replicate 1 [V.int .i64 0, V.int .i64 0, V.int .i64 0, V.nsl]).set 0 [V.int .i64 v, V.int .i64 0, V.int .i64 0, V.sl 2 ((List.replicate 1 [V.int .i64 0, V.int .i64 0]).set 0 [V.int .i64 i, V.int .i64 1])] = encS [⟨v, 0, 0, some i⟩] := rfl
theorem encS_set3 (l : List Stp) (k : Nat) (a b c : Int) : (encS l).set k [V.int .i64 a, V.int .i64 b, V.int .i64 c, V.nsl] = encS (l.set k ⟨a, b, c, none⟩) := by rw [encS_set]; rfl
theorem growN_set (rows : List Rw) : ∀ (n d : Nat) (s : Int) (out : List Stp) (i : Nat) (x : Stp), i < out.length → growN rows n d s (out.set i x) = (growN rows n d s out).set i x
  | 0, d, s, out, i, x, h => by simp only [growN]; rw [List.set_append_left _ _ h]
  | n + 1, d, s, out, i, x, h => by
    have h1 := growN_length rows n (d + 1) s (out ++ [⟨d, 0, 0, none⟩])
    simp only [growN]
    split
    · rw [List.set_append_left _ _ h]
    · rw [← List.set_append_left _ _ h, growN_set rows n _ _ _ i x (by simp; omega), growN_set rows n _ _ _ i x (by simp only [List.length_append] at h1; omega)]
      rw [List.length_set, List.length_set, List.set_comm _ _ (show i ≠ out.length by omega)]
def plO (rows : List Rw) (m d : Nat) (s : Int) (out : List Stp) : List Stp := growN rows m (d + 1) s (out ++ [⟨d, (out.length + 1 : Nat), 0, none⟩])
theorem plO_eq (rows : List Rw) (m d : Nat) (s : Int) (out : List Stp) : plO rows m d s out = (growN rows m (d + 1) s (out ++ [⟨d, 0, 0, none⟩])).set out.length ⟨d, (out.length + 1 : Nat), 0, none⟩ := by
  rw [← growN_set rows m _ _ _ _ _ (by simp)]
  unfold plO
  congr 1
  rw [List.set_append_right _ _ (Nat.le_refl _)]
  simp
theorem plO_length (rows : List Rw) (m d : Nat) (s : Int) (out : List Stp) : (plO rows m d s out).length = (growN rows m (d + 1) s (out ++ [⟨d, 0, 0, none⟩])).length := by rw [plO_eq, List.length_set]
theorem plO_at (rows : List Rw) (m d : Nat) (s : Int) (out : List Stp) : (plO rows m d s out).getD out.length stp0 = ⟨d, (out.length + 1 : Nat), 0, none⟩ := by
  have h := growN_length rows m (d + 1) s (out ++ [⟨d, 0, 0, none⟩])
  simp only [List.length_append, List.length_cons, List.length_nil] at h
  rw [plO_eq]; exact getD_set_self (by omega)
theorem plO_fin {rows : List Rw} {m d : Nat} {s : Nat} {out : List Stp} (hs : s < 2 ^ d) (hd : d ≤ 12) (hneg : ¬ 0 ≤ idxOf (overB d s) rows) :
    growN rows m (d + 1) ((s + 2 ^ d : Nat) : Int) ((plO rows m d s out).set out.length ⟨d, (out.length + 1 : Nat), (plO rows m d s out).length, none⟩) = growN rows (m + 1) d s out := by
  have h := growN_length rows m (d + 1) s (out ++ [⟨d, 0, 0, none⟩])
  simp only [List.length_append, List.length_cons, List.length_nil] at h
  rw [plO_length, plO_eq, List.set_set, growN_set rows m _ _ _ _ _ (by omega)]
  simp only [growN, if_neg hneg, setBit_nat hs hd]
  rfl
theorem idx_neg {rows : List Rw} {p : Rw → Bool} (h : ∀ j, j < rows.length → p (rows.getD j rw0) = false) : ¬ 0 ≤ idxOf p rows := by
  rw [idxOf_none p rows (all_false rw0 h (Nat.le_refl _))]; omega
theorem choice_tot {p : Pg} (hv : validB p = true) {k : Nat} (hk : k < (choiceL p).length) : totG p.gain ((choiceL p).getD k 0) p.gain.length = chosenW p.gain ((choiceL p).getD k 0) := by
  obtain ⟨s, h1, h2, -⟩ := mem_choiceL.1 (getD_mem (d := 0) hk)
  obtain ⟨v, hv1, hv2, hv3, hv4⟩ := vars_pow hv
  obtain ⟨h0, h1', h2', h3, h4, h5⟩ := validB_all hv
  rw [hv1] at h2
  simp only [Int.toNat_natCast] at h2
  rw [h1, tot_all h4 (by omega) (by omega)]
theorem best_back {g xs : List Int} {k : Nat} (hk : k < xs.length) (h : (bestR g (xs.drop (k + 1))).1 = false ∨ (bestR g (xs.drop (k + 1))).2.2 ≤ chosenW g (xs.getD k 0)) : bestR g (xs.drop k) = (true, xs.getD k 0, chosenW g (xs.getD k 0)) := by rw [bestR_drop hk, cmb_t h]
theorem best_keep {g xs : List Int} {k : Nat} (hk : k < xs.length) (h : (bestR g (xs.drop (k + 1))).1 = true ∧ ¬ (bestR g (xs.drop (k + 1))).2.2 ≤ chosenW g (xs.getD k 0)) : bestR g (xs.drop k) = bestR g (xs.drop (k + 1)) := by rw [bestR_drop hk, cmb_f h]
theorem best_all (p : Pg) : bestR p.gain ((choiceL p).drop 0) = solveB p := by rw [List.drop_zero, bestR_eq]; rfl
end Go.Proofs.YtgmgifmfhpoglaaDoor

namespace Go.Proofs.YtgmgifmfhpoglaaDoor
open Go.RowKit
set_option linter.unusedVariables false
set_option linter.unusedSimpArgs false
def atW (rows : List Int) : Nat → Nat
  | 0 => 0
  | n + 1 => if atW rows n < rows.length ∧ rows.getD (atW rows n) 0 = n then atW rows n + 1 else atW rows n
def kpW (p : Pg) (rows : List Int) : Nat → List Rw
  | 0 => []
  | n + 1 => if atW rows n < rows.length ∧ rows.getD (atW rows n) 0 = n then kpW p rows n else kpW p rows n ++ [p.rows.getD n rw0]
theorem atW_t {rows : List Int} {n : Nat} (h : atW rows n < rows.length ∧ rows.getD (atW rows n) 0 = n) (p : Pg) : atW rows (n + 1) = atW rows n + 1 ∧ kpW p rows (n + 1) = kpW p rows n := by
  constructor
  · simp only [atW, if_pos h]
  · simp only [kpW, if_pos h]
theorem atW_f {rows : List Int} {n : Nat} (h : ¬ (atW rows n < rows.length ∧ rows.getD (atW rows n) 0 = n)) (p : Pg) : atW rows (n + 1) = atW rows n ∧ kpW p rows (n + 1) = kpW p rows n ++ [p.rows.getD n rw0] := by
  constructor
  · simp only [atW, if_neg h]
  · simp only [kpW, if_neg h]
theorem atW_le (rows : List Int) : ∀ n, atW rows n ≤ n ∧ atW rows n ≤ rows.length
  | 0 => ⟨Nat.le_refl _, Nat.zero_le _⟩
  | n + 1 => by
    have := atW_le rows n
    simp only [atW]; split <;> omega
theorem kpW_length (p : Pg) (rows : List Int) : ∀ n, (kpW p rows n).length ≤ n
  | 0 => Nat.le_refl _
  | n + 1 => by have := kpW_length p rows n; simp only [kpW]; split <;> (try simp) <;> omega
theorem atW_inv (rows : List Int) : ∀ n j, j < atW rows n → 0 ≤ rows.getD j 0 ∧ rows.getD j 0 < n ∧ (0 < j → rows.getD (j - 1) 0 < rows.getD j 0)
  | 0, j, h => by simp [atW] at h
  | n + 1, j, h => by
    by_cases hc : atW rows n < rows.length ∧ rows.getD (atW rows n) 0 = n
    · rw [(atW_t hc ⟨0, [], []⟩).1] at h
      by_cases hj : j < atW rows n
      · have := atW_inv rows n j hj; omega
      · have e : j = atW rows n := by omega
        rw [e, hc.2]
        refine ⟨by omega, by omega, fun h0 => ?_⟩
        have := atW_inv rows n (atW rows n - 1) (by omega)
        omega
    · rw [(atW_f hc ⟨0, [], []⟩).1] at h
      have := atW_inv rows n j h; omega
theorem atW_ok {p : Pg} (hv : validB p = true) {rows : List Int} (h : atW rows p.rows.length = rows.length) : okRows p rows = true := by
  obtain ⟨h0, h1, h2, h3, h4, h5⟩ := validB_all hv
  refine okTo_iff.2 fun i hi => idxOk_iff.2 ?_
  have := atW_inv rows p.rows.length i (by omega)
  rw [w64 (by omega)]
  exact ⟨this.1, by omega, this.2.2⟩
theorem atW_keep {p : Pg} (hv : validB p = true) {rows : List Int} (h : okRows p rows = true) : ∀ n, n ≤ p.rows.length → (∀ j, j < atW rows n → rows.getD j 0 < n) ∧ (∀ j, atW rows n ≤ j → j < rows.length → (n : Int) ≤ rows.getD j 0) ∧ kpW p rows n = keepTo p rows n
  | 0, _ => ⟨fun j hj => by simp [atW] at hj, fun j _ hj => by have := (idxOk_iff.1 (okTo_iff.1 h j hj)).1; simpa using this, rfl⟩
  | n + 1, hn => by
    obtain ⟨a1, a2, a3⟩ := atW_keep hv h n (by omega)
    have hs := okRows_srt h
    by_cases hc : atW rows n < rows.length ∧ rows.getD (atW rows n) 0 = n
    · obtain ⟨e1, e2⟩ := atW_t hc p
      have hm : (n : Int) ∈ rows := by rw [← hc.2]; exact getD_mem hc.1
      refine ⟨fun j hj => ?_, fun j h1 h2 => ?_, by rw [e2, a3, keepTo_t hm]⟩
      · rw [e1] at hj
        by_cases hj2 : j < atW rows n
        · have := a1 j hj2; omega
        · rw [show j = atW rows n by omega, hc.2]; omega
      · rw [e1] at h1
        have := hs (atW rows n) j (by omega) h2
        omega
    · obtain ⟨e1, e2⟩ := atW_f hc p
      have hm : ¬ (n : Int) ∈ rows := fun hm => by
        obtain ⟨j, hj, hje⟩ : ∃ j, j < rows.length ∧ rows.getD j 0 = (n : Int) := by
          obtain ⟨j, hj, e⟩ := List.getElem_of_mem hm
          exact ⟨j, hj, by rw [← e]; simp [List.getD, hj]⟩
        rcases Nat.lt_or_ge j (atW rows n) with h6 | h6
        · have := a1 j h6; omega
        · rcases Nat.lt_or_ge (atW rows n) j with h7 | h7
          · have h8 := hs (atW rows n) j h7 hj
            have h9 := a2 (atW rows n) (Nat.le_refl _) (by omega)
            omega
          · have : j = atW rows n := by omega
            subst this; exact hc ⟨hj, hje⟩
      refine ⟨fun j hj => by rw [e1] at hj; have := a1 j hj; omega, fun j h1 h2 => ?_, by rw [e2, a3, keepTo_f hm]⟩
      rw [e1] at h1
      have h3 := a2 j h1 h2
      rcases Int.lt_or_eq_of_le h3 with h4 | h4
      · omega
      · exact (hm (h4 ▸ getD_mem h2)).elim
theorem atW_end {p : Pg} (hv : validB p = true) {rows : List Int} (h : okRows p rows = true) : atW rows p.rows.length = rows.length ∧ kpW p rows p.rows.length = keepTo p rows p.rows.length := by
  obtain ⟨h0, h1, h2, h3, h4, h5⟩ := validB_all hv
  obtain ⟨a1, a2, a3⟩ := atW_keep hv h p.rows.length (Nat.le_refl _)
  refine ⟨?_, a3⟩
  have := (atW_le rows p.rows.length).2
  rcases Nat.lt_or_ge (atW rows p.rows.length) rows.length with h6 | h6
  · have h7 := a2 _ (Nat.le_refl _) h6
    have h8 := (idxOk_iff.1 (okTo_iff.1 h _ h6)).2.1
    rw [w64 (by omega)] at h8; omega
  · omega
theorem wth_at {p : Pg} (hv : validB p = true) {rows : List Int} (h : atW rows p.rows.length = rows.length) : wthV p rows = [.agg (encPg ⟨p.vars, kpW p rows p.rows.length, p.gain⟩), .int .i64 0] := by
  have hok := atW_ok hv h
  rw [wthV_t hok hv, (atW_end hv hok).2]; rfl
theorem wth_no {p : Pg} (hv : validB p = true) {rows : List Int} (h : ¬ atW rows p.rows.length = rows.length) : wthV p rows = [.agg [.int .i64 0, .nsl, .nsl], .int .i64 230] := by
  refine wthV_f1 ?_
  rw [Bool.eq_false_iff]; intro hok
  exact h (atW_end hv hok).1
theorem wth_bad {p : Pg} {rows : List Int} (h : validB p = false ∨ (p.rows.length : Int) < rows.length) : wthV p rows = [.agg [.int .i64 0, .nsl, .nsl], .int .i64 230] := by
  cases hv : validB p with
  | false => exact wthV_f2 hv
  | true =>
    refine wthV_f1 ?_
    rw [Bool.eq_false_iff]; intro hok
    have := okRows_len hok hv
    rcases h with h | h
    · rw [hv] at h; cases h
    · omega
/-! #### cut short -/
def cutR (n : Nat) (r : Rw) : Rw := ⟨r.kind, r.a, r.b, r.pl, r.coef.take n, r.most⟩
def fewP (p : Pg) : Pg := ⟨p.vars, (p.rows.take 20).map (cutR 13), p.gain.take 13⟩
theorem take_min {α : Type} (l : List α) (n : Nat) : l.take (minV (l.length : Int) (n : Int)).toNat = l.take n := by
  unfold minV
  split
  · rw [Int.toNat_natCast]
  · rw [Int.toNat_natCast, List.take_length, List.take_of_length_le (by omega)]
theorem cut_succ {l : List Rw} {i : Nat} (n : Nat) (h : i < l.length) : (l.take (i + 1)).map (cutR n) = (l.take i).map (cutR n) ++ [cutR n (l.getD i rw0)] := take_snoc _ _ h
theorem minV_range (l : Nat) (n : Int) (h : 0 ≤ n) : 0 ≤ minV (l : Int) n ∧ minV (l : Int) n ≤ l := by unfold minV; split <;> omega
theorem agEq_self (cs : List V) : agEq cs cs = true := by unfold agEq; simp
theorem few_min (p : Pg) : (p.rows.take (min p.rows.length 20)).map (cutR 13) = (p.rows.take 20).map (cutR 13) := by
  congr 1
  rcases Nat.le_total p.rows.length 20 with h | h
  · rw [Nat.min_eq_left h, List.take_length, List.take_of_length_le h]
  · rw [Nat.min_eq_right h]
end Go.Proofs.YtgmgifmfhpoglaaDoor

namespace Go.Proofs.YtgmgifmfhpoglaaDoor
open Go.RowKit
set_option linter.unusedVariables false
set_option linter.unusedSimpArgs false
def pg0 : Pg := ⟨0, [], []⟩
def encPs (l : List Pg) : List (List V) := l.map encPg
theorem encPs_length (l : List Pg) : (encPs l).length = l.length := by simp [encPs]
theorem encPs_getD (l : List Pg) (k : Nat) (h : k < l.length) : (encPs l).getD k [] = encPg (l.getD k pg0) := by simp [encPs, List.getD, h]
def encL (l : List (List Int)) : List (List V) := l.map fun x => [V.sl 1 (encI x)]
theorem encL_length (l : List (List Int)) : (encL l).length = l.length := by simp [encL]
theorem encL_getD (l : List (List Int)) (k : Nat) (h : k < l.length) : (encL l).getD k [] = [V.sl 1 (encI (l.getD k []))] := by simp [encL, List.getD, h]
def okPg (p : Pg) : Prop := p.rows.length ≤ 20 ∧ p.gain.length ≤ 13 ∧ ∀ r ∈ p.rows, r.coef.length ≤ 13
theorem okPg_max {p : Pg} (h : okPg p) : p.rows.length ≤ maxLen ∧ p.gain.length ≤ maxLen ∧ ∀ r ∈ p.rows, r.coef.length ≤ maxLen := by
  unfold maxLen
  exact ⟨by have := h.1; omega, by have := h.2.1; omega, fun r hr => by have := h.2.2 r hr; omega⟩
theorem okPg_few (p : Pg) : okPg (fewP p) := by
  refine ⟨by simp [fewP]; omega, by simp [fewP]; omega, fun r hr => ?_⟩
  obtain ⟨s, -, rfl⟩ := List.mem_map.1 hr
  simp [cutR]; omega
theorem okPg_made {p : Pg} (hv : validB p = true) (h8 : p.rows.length ≤ 8) : okPg p := by
  obtain ⟨h0, h1, h2, h3, h4, h5⟩ := validB_all hv
  exact ⟨by omega, by omega, fun r hr => by have := (h5 r hr).1; omega⟩
theorem okPg_bent {p : Pg} (h : okPg p) (k : Nat) (r : Rw) : okPg ⟨p.vars, p.rows.set k (cutR 13 r), p.gain⟩ := by
  refine ⟨by simpa using h.1, h.2.1, fun s hs => ?_⟩
  rcases List.mem_or_eq_of_mem_set hs with h1 | rfl
  · exact h.2.2 s h1
  · simp [cutR]; omega
theorem okPg_without {p : Pg} (h : okPg p) (l : List Int) : okPg (withoutW p l) := by
  refine ⟨Nat.le_trans (keepTo_length p l _) h.1, h.2.1, fun r hr => ?_⟩
  obtain ⟨i, hi, rfl, -⟩ := keepTo_mem hr
  exact h.2.2 _ (getD_mem hi)
theorem okPg_0 : okPg pg0 := ⟨by simp [pg0], by simp [pg0], by simp [pg0]⟩
theorem proof_max {p : Pg} (hv : validB p = true) : (solveW p).proof.length ≤ maxLen := by
  obtain ⟨h0, h1, -⟩ := validB_all hv
  have hn := growN_length (solRows p (solveB p)) p.vars.toNat 0 0 []
  have hp : 2 ^ (p.vars.toNat + 1) ≤ 2 ^ 13 := Nat.pow_le_pow_right (by omega) (by omega)
  show (growN _ _ _ _ _).length ≤ _
  simp only [List.length_nil] at hn
  unfold maxLen; omega
theorem sameTo_self (l : List Rw) : ∀ n, sameTo l l n = true
  | 0 => rfl
  | n + 1 => by simp [sameTo, sameTo_self l n, sameRw]
theorem sameB_self (p : Pg) : sameB p p = true := by simp [sameB, sameTo_self]
theorem wth_or (p : Pg) (l : List Int) : wthV p l = [.agg (encPg (withoutW p l)), .int .i64 0] ∨ wthV p l = [.agg [.int .i64 0, .nsl, .nsl], .int .i64 230] := by
  unfold wthV; split
  · exact .inl rfl
  · exact .inr rfl
theorem bool_or (b : Bool) : b = true ∨ b = false := by cases b <;> simp
theorem brk_max (p : Pg) (h : okPg p) (s : Int) : (brokenW p s).length ≤ maxLen := by
  unfold brokenW maxLen
  have := brkTo_length p s p.rows.length
  have := h.1
  split
  · omega
  · simp
theorem cellsI_mapL (g : Nat → Nat) : ∀ xs : List Int, V.mapL g (cellsI xs) = cellsI xs
  | [] => rfl
  | x :: xs => by simpa [cellsI, V.mapL, V.map] using cellsI_mapL g xs
theorem cellsI_domL (p q : Nat → Bool) : ∀ xs : List Int, V.domL p q (cellsI xs) = true
  | [] => rfl
  | x :: xs => by simpa [cellsI, V.domL, V.dom] using cellsI_domL p q xs
end Go.Proofs.YtgmgifmfhpoglaaDoor

namespace Go.Proofs.YtgmgifmfhpoglaaDoor
open Go.RowKit
set_option linter.unusedVariables false
set_option linter.unusedSimpArgs false
def smallB (p : Pg) : Bool := decide ((p.rows.length : Int) ≤ 12) && validB p
/-- What the first k rows of a list leave: the set, and the last row; none: the list is no set. -/
def tbG (n : Nat) (l : List Int) : Nat → Option (Int × Int)
  | 0 => some (0, -1)
  | k + 1 => (tbG n l k).bind fun s => if l.getD k 0 ≤ s.2 ∨ (n : Int) ≤ l.getD k 0 then none else some (bitsV .or .i64 s.1 (shlW .i64 1 (l.getD k 0)), l.getD k 0)
def tbW (n : Nat) (l : List Int) : Option Int := (tbG n l l.length).map (·.1)
theorem tbG_last {n : Nat} {l : List Int} : ∀ {k : Nat} {s : Int × Int}, tbG n l k = some s → -1 ≤ s.2 ∧ (s.2 < n ∨ s.2 = -1)
  | 0, s, h => by
    simp only [tbG, Option.some.injEq] at h
    subst h
    exact ⟨by omega, .inr rfl⟩
  | k + 1, s, h => by
    simp only [tbG] at h
    obtain ⟨t, ht, h⟩ := Option.bind_eq_some_iff.1 h
    obtain ⟨h1, h2⟩ := tbG_last ht
    split at h
    · cases h
    · rename_i hc
      simp only [not_or, Int.not_le] at hc
      simp only [Option.some.injEq] at h
      subst h
      exact ⟨by simp only; omega, .inl hc.2⟩
theorem tbG_yes {n : Nat} {l : List Int} {k : Nat} {o t : Int} (h : tbG n l k = some (o, t)) (h1 : t < l.getD k 0) (h2 : l.getD k 0 < n) : tbG n l (k + 1) = some (bitsV .or .i64 o (shlW .i64 1 (l.getD k 0)), l.getD k 0) := by
  simp only [tbG, h, Option.bind_some]
  rw [if_neg (by omega)]
theorem tbG_no {n : Nat} {l : List Int} {k : Nat} {o t : Int} (h : tbG n l k = some (o, t)) (h1 : l.getD k 0 ≤ t ∨ (n : Int) ≤ l.getD k 0) : tbG n l (k + 1) = none := by
  simp only [tbG, h, Option.bind_some]
  rw [if_pos h1]
def tbS (o : Option Int) : Int := o.getD 0
def tbI (o : Option Int) : Bool := o.isSome
theorem tbG_none {n : Nat} {l : List Int} {k : Nat} (h : tbG n l k = none) : ∀ j, tbG n l (k + j) = none
  | 0 => h
  | j + 1 => by
    have := tbG_none h j
    rw [← Nat.add_assoc]
    simp only [tbG, this, Option.bind_none]
theorem tbW_none {n : Nat} {l : List Int} {k : Nat} (hk : k ≤ l.length) (h : tbG n l k = none) : tbW n l = none := by
  have := tbG_none h (l.length - k)
  rw [show k + (l.length - k) = l.length by omega] at this
  simp [tbW, this]
end Go.Proofs.YtgmgifmfhpoglaaDoor
