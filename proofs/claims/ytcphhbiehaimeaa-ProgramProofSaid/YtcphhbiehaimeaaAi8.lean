/- One operation of a region, as a statement over what its slots stand for. -/
import Derived.Test.YtcphhbiehaimeaaAi7
namespace Go.Proofs.Ytcphhbiehaimeaa
open Go.RowKit
set_option linter.unusedVariables false
set_option linter.unusedSimpArgs false

def St.fz (σ : St) (id : Nat) (o : AObj) : St := ⟨σ.env.map fun p => (p.1, p.2.fz id o), σ.mem.fz id o, σ.nx⟩

/-- What a call is handed is written no more. -/
def fzAll (σ : St) : List V → St
  | [] => σ
  | .own id :: vs =>
    match σ.mem.look id with
    | some (.row e z rows) => fzAll (σ.fz id (.row e z rows)) vs
    | _ => fzAll σ vs
  | .ptr id _ :: vs =>
    match σ.mem.look id with
    | some (.cells cs) =>
      match V.clL cs with
      | true => fzAll (σ.fz id (.cells cs)) vs
      | false => fzAll σ vs
    | _ => fzAll σ vs
  | _ :: vs => fzAll σ vs

/-- What a call is handed, and what the functions among it have caught. -/
def exps : List V → List V
  | [] => []
  | .fn _ caps :: vs =>
    match V.clL caps with
    | true => exps vs
    | false => caps ++ exps vs
  | v :: vs => v :: exps vs

/-- What stands in a slot; above all slots: what the call keeps in mind (ghosts). -/
def tv (cx : Cx) (a : Act) (t : Nat) : Value := if t < 1000000 then a.tmps.getD t undef else cx.G t

structure SR (cx : Cx) (σ : St) (ι : Nat → Nat) (ρ : Nat → Value) (a : Act) (w : World) : Prop where
  ml : ML cx σ.mem σ.nx ι ρ w
  env : ∀ t, MR cx σ.mem σ.nx ι ρ w (σ.slot t) (tv cx a t)

/-- Called with what 'args' stands for, function f returns what 'r' stands for, and turns nothing that was there. -/
def CallsA (P : Program) (f : FuncId) (args : List V) (r : V) : Prop :=
  ∀ (w : World) (X : Nat → Prop) (vs : Array Value), (∀ b, X b → b < w.heap.size) → vs.size = args.length →
    (∀ i, i < args.length → Rel w X (fun _ => 0) (fun _ => undef) 0 true (args.getD i .any) (vs.getD i undef)) →
    Calls P f vs w fun e w' => ∃ x, e = .returned x ∧ Below w.heap.size w w' ∧ Rel w' X (fun _ => 0) (fun _ => undef) 0 true r x

def okF (P : Program) (f : FuncId) : Bool :=
  match P.funcs[f]? with
  | some fn => fn.name != "runtime.NumGoroutine" && fn.body.isSome
  | none => false

def minV (a b : Int) : Int := if b < a then b else a
def maxV (a b : Int) : Int := if b > a then b else a

def lenV (s : Option (TypeId × Nat × Nat)) (ar : Option (Nat × TypeId × Nat)) (mem : Mem) (x : V) (K : V → Prop) : Prop :=
  match s, ar, x with
  | some _, _, .sl _ rows => K (.int .i64 rows.length)
  | some _, _, .nsl => K (.int .i64 0)
  | some _, _, .own id =>
    match mem.look id with
    | some (.row _ _ rows) => K (.int .i64 rows.length)
    | _ => False
  | _, _, _ => False

def sliV (s : Option (TypeId × Nat × Nat)) (x : V) (lo hi : Option V) (K : V → Prop) : Prop :=
  match s, x, lo, hi with
  | some (_, c, _), .sl esz rows, none, none => c = esz ∧ K (.sl esz rows)
  | some (_, c, _), .sl esz rows, some (.int _ l), none => c = esz ∧ 0 ≤ l ∧ l ≤ rows.length ∧ K (.sl esz (rows.drop l.toNat))
  | some (_, c, _), .sl esz rows, none, some (.int _ h) => c = esz ∧ 0 ≤ h ∧ h ≤ rows.length ∧ K (.sl esz (rows.take h.toNat))
  | some (_, c, _), .sl esz rows, some (.int _ l), some (.int _ h) => c = esz ∧ 0 ≤ l ∧ l ≤ h ∧ h ≤ rows.length ∧ K (.sl esz ((rows.take h.toNat).drop l.toNat))
  | _, _, _, _ => False

theorem lenV_shp {s : Option (TypeId × Nat × Nat)} {ar : Option (Nat × TypeId × Nat)} {mem : Mem} {x : V} {K : V → Prop} (h : lenV s ar (shp mem) x K) : lenV s ar mem x K := by
  unfold lenV at h ⊢
  split at h
  · exact h
  · exact h
  · rw [shp_look] at h
    rename_i id
    cases hl : Mem.look mem id with
    | none => simp [hl] at h
    | some o =>
      cases o with
      | cells cs => simp [hl, AObj.shp] at h
      | row e z rows => simpa [hl, AObj.shp] using h
  · exact h.elim

/-- The rows of what is appended. -/
def appR (mem : Mem) (x : V) (z : Nat) : Option (List (List V)) :=
  match x with
  | .sl esz rows => if esz = z then some rows else none
  | .nsl => some []
  | .own id =>
    match mem.look id with
    | some (.row _ esz rows) => if esz = z then some rows else none
    | _ => none
  | _ => none

def appV (P : Program) (t : TypeId) (σ : St) (s x : V) (K : V → St → Prop) : Prop :=
  match slT P t with
  | some (e, z, bytes) =>
    0 < z ∧ 0 < bytes ∧ (zeroT P e).map List.length = some z ∧
    match appR σ.mem x z with
    | some rows' =>
      match s with
      | .nsl => rows'.length * bytes ≤ 140737488355328 ∧ K (.own (σ.nx + 1)) ⟨σ.env, (σ.nx + 1, .row e z rows') :: σ.mem, σ.nx + 2⟩
      | .own id =>
        match σ.mem.look id with
        | some (.row e' z' rows) => e' = e ∧ z' = z ∧ (rows.length + rows'.length) * bytes ≤ 140737488355328 ∧
          K (.own σ.nx) ⟨σ.env, (σ.nx, .row e z (rows ++ rows')) :: σ.mem.filter (·.1 ≠ id), σ.nx + 1⟩
        | _ => False
      | .slc z' rows => z' = z ∧ 0 < rows'.length ∧ (rows.length + rows'.length) * bytes ≤ 140737488355328 ∧ K (.own (σ.nx + 1)) ⟨σ.env, (σ.nx + 1, .row e z (rows ++ rows')) :: σ.mem, σ.nx + 2⟩
      | _ => False
    | none => False
  | none => False

def stp (P : Program) (σ : St) (g : Option Bool) (op : Op) (K : V → St → Prop) : Prop :=
  match op with
  | .move x => un g (σ.get x) fun v => K v σ
  | .assign x => un g (σ.get x) fun v => K v σ
  | .pick c a b => un g (σ.get c) fun c =>
      match c with
      | .bool t => un (some (g.getD true && t)) (σ.get a) fun a => un (some (g.getD true && !t)) (σ.get b) fun b => pickV t a b fun v => K v σ
      | _ => False
  | .alloc T => g = none ∧
      match zeroT P T with
      | some cs => cs.all V.sc = true ∧ K (.ptr σ.nx 0) ⟨σ.env, (σ.nx, .cells cs) :: σ.mem, σ.nx + 1⟩
      | none => False
  | .box _ x => g = none ∧ un g (σ.get x) fun v => v.okp = true ∧ K (.ptr σ.nx 0) ⟨σ.env, (σ.nx, .cells v.parts) :: σ.mem, σ.nx + 1⟩
  | .build T ps => unL g (ps.toList.map fun p => σ.get p.2) fun vs => buildV (zeroT P T) (plT P T) ((ps.toList.map (·.1)).zip vs) fun v => K v σ
  | .buildSlice T len ps =>
      match slT P T with
      | some (e, z, _) =>
        match zeroT P e with
        | some zs => zs.all V.sc = true ∧ V.clL zs = true ∧ zs.length = z ∧ 0 < z ∧ len * z ≤ 16777216 ∧ unL g (ps.toList.map fun p => σ.get p.2) fun vs =>
            rowsV z (List.replicate len zs) ((ps.toList.map (·.1)).zip vs) fun rows => (g = none ∧ K (.own σ.nx) ⟨σ.env, (σ.nx, .row e z rows) :: σ.mem, σ.nx + 1⟩) ∨ K (.sl z rows) σ ∨ K (.slc z rows) σ
        | none => False
      | none => False
  | .makeSlice T l c => g = none ∧ l = c ∧ un g (σ.get l) fun n =>
      match slT P T, n with
      | some (e, z, bytes), .int _ n =>
        match zeroT P e with
        | some zs => zs.all V.sc = true ∧ V.clL zs = true ∧ zs.length = z ∧ 0 < z ∧ 0 < bytes ∧ 0 ≤ n ∧ n * bytes ≤ 140737488355328 ∧ K (.own σ.nx) ⟨σ.env, (σ.nx, .row e z (List.replicate n.toNat zs)) :: σ.mem, σ.nx + 1⟩
        | none => False
      | _, _ => False
  | .load T a => un g (σ.get a) fun a => loadV (lay P T) σ.mem a fun v => K v σ
  | .store T a x => g = none ∧ un g (σ.get a) fun a => un g (σ.get x) fun v =>
      match lay P T, a with
      | some (n, _), .ptr id off =>
        match σ.mem.look id with
        | some (.cells cs) => v.okp = true ∧ v.parts.length = n ∧ off + n ≤ cs.length ∧
          K .any ⟨σ.env, σ.mem.map fun p => if p.1 = id then (id, .cells (spl cs off v.parts)) else p, σ.nx⟩
        | _ => False
      | some (n, _), .rp id z i j =>
        match σ.mem.look id with
        | some (.row e z' rows) => z' = z ∧ i < rows.length ∧ v.okp = true ∧ v.cl = true ∧ v.parts.length = n ∧ j + n ≤ z ∧
          K .any ⟨σ.env, σ.mem.map fun p => if p.1 = id then (id, .row e z (rows.set i (spl (rows.getD i []) j v.parts))) else p, σ.nx⟩
        | _ => False
      | _, _ => False
  | .binOp op T x y _ => un g (σ.get x) fun x => un g (σ.get y) fun y => binV op (boolT P T) (flatT P T) (slT P T).isSome x y fun v => K v σ
  | .unOp op _ x => un g (σ.get x) fun x => unV op x fun v => K v σ
  | .convert src dst x => un g (σ.get x) fun x =>
      match intT P src, intT P dst, x with
      | some _, some k, .int _ n => K (.int k (k.wrap n)) σ
      | _, _, _ => False
  | .makeFunc (.func f) first caps => first = #[] ∧ unL g (caps.toList.map σ.get) fun vs => K (.fn f vs) σ
  | .slice T x none (some hi) (some mx) => un g (σ.get x) fun x => un g (σ.get hi) fun h => un g (σ.get mx) fun m =>
      match slT P T, x, h, m with
      | some (_, c, _), .sl esz rows, .int _ h, .int _ m => c = esz ∧ h = m ∧ 0 ≤ h ∧ h ≤ rows.length ∧ K (.slc esz (rows.take h.toNat)) σ
      | _, _, _, _ => False
  | .slice T x lo hi none => un g (σ.get x) fun x =>
      match x, arT P T with
      | .ptr id 0, some (n, _, c) =>
        match σ.mem.look id with
        | some (.cells cs) => g = none ∧ lo.isNone = true ∧ hi.isNone = true ∧ c = 1 ∧ cs.length = n ∧ V.clL cs = true ∧ n ≤ maxLen ∧ K (.sl 1 (cs.map fun v => [v])) (σ.fz id (.cells cs))
        | _ => False
      | .ep es, some (n, _, c) => lo.isNone = true ∧ hi.isNone = true ∧ c = 1 ∧ es.length = n ∧ n ≤ maxLen ∧ K (.sl 1 (es.map fun v => [v])) σ
      | x, _ => sliV (slT P T) x (lo.map σ.get) (hi.map σ.get) fun v => K v σ
  | .fieldAddr S x f => un g (σ.get x) fun x => fldV (stT P S f) x fun v => K v σ
  | .field S x f => un g (σ.get x) fun x =>
      match stT P S f with
      | some (off, c, ag) => partV (some (c, ag)) off x fun v => K v σ
      | none => False
  | .indexAddr T x i => un g (σ.get x) fun x => un g (σ.get i) fun i => idxV (slT P T) (arT P T) (shp σ.mem) x i fun v => K v σ
  | .index T x i => un g (σ.get x) fun x => un g (σ.get i) fun i =>
      match arT P T, i with
      | some (len, e, c), .int _ n => 0 ≤ n ∧ n < len ∧ partV (lay P e) (n.toNat * c) x fun v => K v σ
      | _, _ => False
  | .extract t i => un g (σ.get t) fun t =>
      match t with
      | .tup vs => i < vs.length ∧ K (vs.getD i .any) σ
      | _ => False
  | .call { callee := .builtin .len, args, argTypes } =>
      match args.toList, argTypes.toList with
      | [x], [t] => un g (σ.get x) fun x => lenV (slT P t) (arT P t) (shp σ.mem) x fun v => K v σ
      | _, _ => False
  | .call { callee := .builtin .min, args, argTypes } =>
      match args.toList with
      | [x, y] => un g (σ.get x) fun x => un g (σ.get y) fun y =>
        match x, y with
        | .int k a, .int _ b => K (.int k (minV a b)) σ
        | _, _ => False
      | _ => False
  | .call { callee := .builtin .max, args, argTypes } =>
      match args.toList with
      | [x, y] => un g (σ.get x) fun x => un g (σ.get y) fun y =>
        match x, y with
        | .int k a, .int _ b => K (.int k (maxV a b)) σ
        | _, _ => False
      | _ => False
  | .call { callee := .builtin .append, args, argTypes } =>
      match args.toList, argTypes.toList with
      | [s, x], [t, t'] => g = none ∧ t = t' ∧ un g (σ.get s) fun s => un g (σ.get x) fun x => appV P t σ s x K
      | _, _ => False
  | .call { callee := .value f, args, argTypes } =>
      let σ' := match g with | none => fzAll σ (exps (σ.get f :: args.toList.map σ.get)) | some _ => σ
      un g (σ'.get f) fun vf =>
      match vf with
      | .fn f caps => unL g (args.toList.map σ'.get) fun vs => okF P f = true ∧ V.clL (vs ++ caps) = true ∧ ∃ r, CallsA P f (vs ++ caps) r ∧ K r σ'
      | _ => False
  | _ => False

end Go.Proofs.Ytcphhbiehaimeaa
