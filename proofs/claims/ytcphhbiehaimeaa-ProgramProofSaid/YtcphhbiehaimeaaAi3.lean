/- The steps of a walk, one operation each. -/
import Derived.Laws.StructEq
import Derived.Test.YtcphhbiehaimeaaAi2
namespace Go.Proofs.Ytcphhbiehaimeaa
open Go.RowKit
set_option linter.unusedVariables false
set_option linter.unusedSimpArgs false

def lay (P : Program) (t : TypeId) : Option (Nat × Bool) :=
  match P.info? t, P.underlying t with
  | some i, some (.struct _) => some (i.size, true)
  | some i, some (.array _ _) => some (i.size, true)
  | some i, some _ => if i.size = 1 then some (1, false) else none
  | _, _ => none
def slT (P : Program) (t : TypeId) : Option (TypeId × Nat × Nat) :=
  match P.underlying t with
  | some (.slice e) => (P.info? e).map fun i => (e, i.size, i.bytes)
  | _ => none
def arT (P : Program) (t : TypeId) : Option (Nat × TypeId × Nat) :=
  match P.underlying t with
  | some (.array n e) => (P.info? e).map fun i => (n, e, i.size)
  | _ => none
def stT (P : Program) (t : TypeId) (f : Nat) : Option (Nat × Nat × Bool) :=
  match P.underlying t with
  | some (.struct fs) => (fs[f]?).bind fun f => (lay P f.type).map fun l => (f.offset, l.1, l.2)
  | _ => none
def zeroT (P : Program) (t : TypeId) : Option (List V) :=
  ((P.info? t).bind (·.zero)).map fun z => z.cells.toList.map ofVal
def intT (P : Program) (t : TypeId) : Option IntKind :=
  match P.underlying t with
  | some (.int k) => some k
  | _ => none
def boolT (P : Program) (t : TypeId) : Bool :=
  match P.underlying t with
  | some .bool => true
  | _ => false

structure St where
  env : List (Nat × V)
  mem : Mem
  nx : Nat

def St.slot (σ : St) (t : Nat) : V := (σ.env.lookup t).getD .any
def St.get (σ : St) : Operand → V
  | .tmp t => if t < 1000000 then σ.slot t else .any
  | .const v => ofVal v
  | .func f => .fn f []
  | .global _ => .any

/-- Under a guard that held: what is held back under a guard. -/
def un (g : Option Bool) (v : V) (K : V → Prop) : Prop :=
  match v with
  | .gd g' v' => (g.getD true = true → g' = true) ∧ K v'
  | .eq _ v' => K v'
  | v => K v
def unL (g : Option Bool) : List V → (List V → Prop) → Prop
  | [], K => K []
  | v :: vs, K => un g v fun v' => unL g vs fun vs' => K (v' :: vs')

def V.parts : V → List V
  | .agg cs => cs
  | v => [v]
def allSc (cs : List V) : Prop := ∀ i, i < cs.length → (cs.getD i .any).sc = true

def pkB (t a b : Bool) : Bool := if t then a else b
theorem pkB_false (t a : Bool) : pkB t a false = (t && a) := by cases t <;> rfl
theorem pkB_true (t b : Bool) : pkB t true b = (t || b) := by cases t <;> rfl
def pickV (t : Bool) (a b : V) (K : V → Prop) : Prop :=
  match a, b with
  | .bool a, .bool b => K (.bool (pkB t a b))
  | .int k a, .int k' b => k = k' ∧ K (.int k (if t then a else b))
  | _, _ => False

def bitsV (op : BinOp) (k : IntKind) (x y : Int) : Int :=
  let a := BitVec.ofInt k.bits x
  let b := BitVec.ofInt k.bits y
  match op with
  | .and => k.wrap (a &&& b).toNat
  | .or => k.wrap (a ||| b).toNat
  | .xor => k.wrap (a ^^^ b).toNat
  | _ => k.wrap (a &&& ~~~b).toNat

/-- An array of numbers: how many, and of which kind. -/
def flatT (P : Program) (t : TypeId) : Option (Nat × IntKind) :=
  match P.underlying t with
  | some (.array n e) =>
    match intT P e, (P.info? e).map (·.size), P.eqGuardType P.depth t with
    | some k, some 1, false => some (n, k)
    | _, _, _ => none
  | _ => none
def V.isI (k : IntKind) : V → Bool
  | .int k' _ => decide (k' = k)
  | _ => false
open Classical in
noncomputable def agEq (cs ds : List V) : Bool := decide (cs = ds)

def shlW (k : IntKind) (a b : Int) : Int := k.wrap (a * 2 ^ (min b.toNat k.bits))
def shrW (k : IntKind) (a b : Int) : Int := a.fdiv (2 ^ (min b.toNat k.bits))
def binV (op : BinOp) (isBool : Bool) (fl : Option (Nat × IntKind)) (isSl : Bool) (x y : V) (K : V → Prop) : Prop :=
  match op, x, y with
  | .shl, .int k a, .int _ b => 0 ≤ b ∧ K (.int k (shlW k a b))
  | .shr, .int k a, .int _ b => 0 ≤ b ∧ K (.int k (shrW k a b))
  | .add, .int k a, .int k' b => k = k' ∧ K (.int k (k.wrap (a + b)))
  | .sub, .int k a, .int k' b => k = k' ∧ K (.int k (k.wrap (a - b)))
  | .mul, .int k a, .int k' b => k = k' ∧ K (.int k (k.wrap (a * b)))
  | .quo, .int k a, .int k' b => k = k' ∧ b ≠ 0 ∧ K (.int k (k.wrap (a.tdiv b)))
  | .rem, .int k a, .int k' b => k = k' ∧ b ≠ 0 ∧ K (.int k (a.tmod b))
  | .and, .int k a, .int k' b => k = k' ∧ K (.int k (bitsV .and k a b))
  | .or, .int k a, .int k' b => k = k' ∧ K (.int k (bitsV .or k a b))
  | .xor, .int k a, .int k' b => k = k' ∧ K (.int k (bitsV .xor k a b))
  | .andNot, .int k a, .int k' b => k = k' ∧ K (.int k (bitsV .andNot k a b))
  | .eql, .int k a, .int k' b => k = k' ∧ K (.bool (decide (a = b)))
  | .neq, .int k a, .int k' b => k = k' ∧ K (.bool (decide (a ≠ b)))
  | .lss, .int k a, .int k' b => k = k' ∧ K (.bool (decide (a < b)))
  | .leq, .int k a, .int k' b => k = k' ∧ K (.bool (decide (a ≤ b)))
  | .gtr, .int k a, .int k' b => k = k' ∧ K (.bool (decide (b < a)))
  | .geq, .int k a, .int k' b => k = k' ∧ K (.bool (decide (b ≤ a)))
  | .eql, .bool a, .bool b => isBool = true ∧ K (.bool (a == b))
  | .neq, .bool a, .bool b => isBool = true ∧ K (.bool (a != b))
  | .eql, .sl _ [], .nsl => isSl = true ∧ K .ub
  | .eql, .sl _ (_ :: _), .nsl => isSl = true ∧ K (.bool false)
  | .eql, .agg cs, .agg ds =>
    match fl with
    | some (n, k) => cs.length = n ∧ ds.length = n ∧ cs.all (V.isI k) = true ∧ ds.all (V.isI k) = true ∧ K (.bool (agEq cs ds))
    | none => False
  | .neq, .agg cs, .agg ds =>
    match fl with
    | some (n, k) => cs.length = n ∧ ds.length = n ∧ cs.all (V.isI k) = true ∧ ds.all (V.isI k) = true ∧ K (.bool (!agEq cs ds))
    | none => False
  | _, _, _ => False

def unV (op : UnOp) (x : V) (K : V → Prop) : Prop :=
  match op, x with
  | .neg, .int k n => K (.int k (k.wrap (0 - n)))
  | .not, .bool b => K (.bool !b)
  | _, _ => False

section
variable {w : World} {O : Nat → Prop} {ι : Nat → Nat} {ρ : Nat → Value} {nx : Nat}

theorem un_sound {c : Bool} {g : Option Bool} {v : V} {x : Value} {K : V → Prop} (hg : g.getD true = true) (h : un g v K) (hr : Rel w O ι ρ nx c v x) : ∃ v', Rel w O ι ρ nx c v' x ∧ K v' := by
  unfold un at h
  split at h
  · rename_i g' v'
    cases hr with
    | gd _ _ _ _ hr _ => exact ⟨v', hr (h.1 hg), h.2⟩
  · cases hr with
    | eq _ _ _ hr => exact ⟨_, hr, h⟩
  · exact ⟨v, hr, h⟩

theorem unL_sound {c : Bool} {g : Option Bool} (hg : g.getD true = true) : ∀ {vs : List V} {xs : List Value} {K : List V → Prop}, unL g vs K → xs.length = vs.length →
    (∀ i, i < vs.length → Rel w O ι ρ nx c (vs.getD i .any) (xs.getD i undef)) → ∃ vs', vs'.length = vs.length ∧ (∀ i, i < vs.length → Rel w O ι ρ nx c (vs'.getD i .any) (xs.getD i undef)) ∧ K vs'
  | [], xs, K, h, hl, hr => ⟨[], rfl, hr, h⟩
  | v :: vs, [], K, h, hl, hr => by simp at hl
  | v :: vs, x :: xs, K, h, hl, hr => by
    obtain ⟨v', h1, h2⟩ := un_sound hg h (hr 0 (by simp))
    obtain ⟨vs', h3, h4, h5⟩ := unL_sound hg h2 (by simpa using hl) fun i hi => by simpa using hr (i + 1) (by simpa using hi)
    refine ⟨v' :: vs', by simp [h3], fun i hi => ?_, h5⟩
    cases i with
    | zero => simpa using h1
    | succ i => simpa using h4 i (by simpa using hi)

theorem Rel.bool_inv {c b : Bool} {x : Value} (h : Rel w O ι ρ nx c (.bool b) x) : x = .bool b := by cases h; rfl
theorem Rel.int_inv {c : Bool} {k : IntKind} {n : Int} {x : Value} (h : Rel w O ι ρ nx c (.int k n) x) : x = .int k n := by cases h; rfl

theorem pickV_sound {c : Bool} {t : Bool} {a b : V} {x y : Value} {K : V → Prop} (h : pickV t a b K)
    (ha : t = true → Rel w O ι ρ nx c a x) (hb : t = false → Rel w O ι ρ nx c b y) : ∃ v, Rel w O ι ρ nx c v (if t then x else y) ∧ K v := by
  unfold pickV at h
  split at h
  · refine ⟨_, ?_, h⟩
    cases t
    · rw [(hb rfl).bool_inv]; exact .bool ..
    · rw [(ha rfl).bool_inv]; exact .bool ..
  · obtain ⟨rfl, h⟩ := h
    refine ⟨_, ?_, h⟩
    cases t
    · rw [(hb rfl).int_inv]; exact .int ..
    · rw [(ha rfl).int_inv]; exact .int ..
  · exact h.elim

theorem boolT_under {P : Program} {t : TypeId} (h : boolT P t = true) : P.underlying t = some .bool := by
  unfold boolT at h; split at h <;> simp_all

theorem run_equalIn_bool {P : Program} (w : World) (d : Nat) {t : TypeId} (a b : Bool) (h : P.underlying t = some .bool) : (Op.equalIn (d + 1) t (.bool a) (.bool b)).run P w = .ok (a == b) w := by
  unfold Op.equalIn; simp [run_underlying h]
theorem run_equal_bool {P : Program} (w : World) {t : TypeId} (a b : Bool) (h : P.underlying t = some .bool) : (Op.equal t (.bool a) (.bool b)).run P w = .ok (a == b) w :=
  run_equalIn_bool w 9999 a b h
theorem eqGuard_bool {P : Program} (w : World) (op : BinOp) (t : TypeId) (ox oy : Operand) (a b : Bool) : (eqGuard op t ox oy (.bool a) (.bool b)).run P w = .ok () w := by
  unfold eqGuard; cases op <;> simp

theorem run_equalIn_slice {P : Program} (w : World) (d : Nat) {t e : TypeId} (ad : Option Addr) (n m : Nat) (h : P.underlying t = some (.slice e)) : (Op.equalIn (d + 1) t (.slice ad n m) (.slice none 0 0)).run P w = .ok ad.isNone w := by
  unfold Op.equalIn
  rw [Sem.run_bind, run_underlying h, Result.andThen_ok]
  cases ad <;> rfl
theorem run_equal_slice {P : Program} (w : World) {t e : TypeId} (ad : Option Addr) (n m : Nat) (h : P.underlying t = some (.slice e)) : (Op.equal t (.slice ad n m) (.slice none 0 0)).run P w = .ok ad.isNone w :=
  run_equalIn_slice w _ ad n m h
theorem eqGuard_slice {P : Program} (w : World) (op : BinOp) (t : TypeId) (ox oy : Operand) (ad : Option Addr) (n m : Nat) : (eqGuard op t ox oy (.slice ad n m) (.slice none 0 0)).run P w = .ok () w := by
  cases op <;> rfl

theorem run_forIn_all {P : Program} {α : Type} (w : World) (body : α → Sem (ForInStep (Option Bool × Unit))) (q : α → Bool) : ∀ (l : List α), (∀ x ∈ l, (body x).run P w = .ok (if q x then .yield (none, ()) else .done (some false, ())) w) →
    (forIn (m := Sem) l ((none : Option Bool), ()) fun x _ => body x).run P w = .ok (if l.all q then (none, ()) else (some false, ())) w
  | [], _ => by simp
  | x :: l, h => by
    have h1 := h x (by simp)
    have ih := run_forIn_all w body q l fun y hy => h y (by simp [hy])
    cases hq : q x with
    | true =>
      rw [hq] at h1
      simp only [List.forIn_cons, Sem.run_bind, h1, Result.andThen_ok, if_true, ih, List.all_cons, hq, Bool.true_and]
    | false =>
      rw [hq] at h1
      simp [h1, hq]

theorem flatT_spec {P : Program} {t : TypeId} {n : Nat} {k : IntKind} (h : flatT P t = some (n, k)) :
    ∃ e i, P.underlying t = some (.array n e) ∧ P.underlying e = some (.int k) ∧ P.info? e = some i ∧ i.size = 1 ∧ P.eqGuardType P.depth t = false := by
  unfold flatT at h
  split at h
  · rename_i n' e hu
    split at h
    · rename_i k' h1 h2 h3
      simp at h
      obtain ⟨rfl, rfl⟩ := h
      cases hi : P.info? e with
      | none => simp [hi] at h2
      | some i =>
        simp [hi] at h2
        refine ⟨e, i, hu, ?_, hi, h2, h3⟩
        unfold intT at h1; split at h1 <;> simp_all
    · cases h
  · cases h

theorem isI_spec {k : IntKind} {v : V} (h : v.isI k = true) : ∃ n, v = .int k n := by
  cases v <;> simp [V.isI] at h
  subst h; exact ⟨_, rfl⟩

open Classical in
theorem run_equal_flat {P : Program} {c : Bool} {t : TypeId} {n : Nat} {k : IntKind} (hT : flatT P t = some (n, k)) {cs ds : List V} {x y : Value} (ha : Rel w O ι ρ nx c (.agg cs) x) (hb : Rel w O ι ρ nx c (.agg ds) y)
    (h1 : cs.length = n) (h2 : ds.length = n) (h3 : cs.all (V.isI k) = true) (h4 : ds.all (V.isI k) = true) (op : BinOp) (ox oy : Operand) :
    (eqGuard op t ox oy x y).run P w = .ok () w ∧ (Op.equal t x y).run P w = .ok (agEq cs ds) w ∧ ∃ xs ys, x = .agg xs ∧ y = .agg ys := by
  obtain ⟨e, i, hu, hue, hi, hsz, hg⟩ := flatT_spec hT
  cases ha with
  | agg _ _ xs hlx hsx hrx =>
    cases hb with
    | agg _ _ ys hly hsy hry =>
      refine ⟨?_, ?_, xs, ys, rfl, rfl⟩
      · exact run_eqGuard_agg w op t ox oy xs ys hg
      · have cell : ∀ (cs : List V) (xs : Array Value), xs.size = cs.length → cs.all (V.isI k) = true → (∀ i, i < cs.length → Rel w O ι ρ nx c (cs.getD i .any) (xs.getD i undef)) → ∀ j, j < cs.length →
            ∃ m, cs[j]? = some (.int k m) ∧ xs[j]? = some (.int k m) := by
          intro cs xs hl hall hr j hj
          obtain ⟨m, hm⟩ := isI_spec (List.all_eq_true.1 hall cs[j] (List.getElem_mem hj))
          have := hr j hj
          simp only [List.getD, List.getElem?_eq_getElem hj, Option.getD_some, hm] at this
          have hx := this.int_inv
          refine ⟨m, by rw [List.getElem?_eq_getElem hj, hm], ?_⟩
          have hj' : j < xs.size := by omega
          simp only [Array.getD, dif_pos hj'] at hx
          rw [Array.getElem?_eq_getElem hj']
          exact congrArg some hx
        have hagg : (isAgg e).run P w = .ok false w := by simp [isAgg, run_underlying hue]
        have hall : (Op.equalIn 10000 t (.agg xs) (.agg ys)).run P w = .ok ((List.range' 0 n).all fun j => decide (cs[j]? = ds[j]?)) w := by
          rw [show (10000 : Nat) = 9999 + 1 from rfl]
          unfold Op.equalIn
          simp only [Sem.run_bind, run_underlying hu, Result.andThen_ok, sizeOf, typeInfo, run_program, hi, Sem.run_pure, hsz, Nat.mul_one, Std.Legacy.Range.forIn_eq_forIn_range', Std.Legacy.Range.size, Nat.sub_zero, Nat.add_sub_cancel, Nat.div_one]
          rw [run_forIn_all w _ (fun j => decide (cs[j]? = ds[j]?)) (List.range' 0 n) (fun j hj => ?_)]
          · simp only [Result.andThen_ok]
            split <;> rename_i he
            · split at he
              · cases he
              · rename_i hf; cases he; simp only [Sem.run_pure]; rw [Bool.eq_false_iff.2 hf]
            · split at he
              · rename_i ht; simp only [Sem.run_pure]; rw [ht]
              · cases he
          · have hj' : j < n := by simpa using hj
            obtain ⟨m, e1, e2⟩ := cell cs xs hlx h3 hrx j (by omega)
            obtain ⟨m', e3, e4⟩ := cell ds ys hly h4 hry j (by omega)
            simp only [Sem.run_bind, part, hagg, Result.andThen_ok, e2, e4, Bool.false_eq_true, if_false, Sem.run_pure]
            have he : (Op.equalIn 9999 e (.int k m) (.int k m')).run P w = .ok (m == m') w := by
              rw [show (9999 : Nat) = 9998 + 1 from rfl]; unfold Op.equalIn; simp [run_underlying hue]
            rw [he]
            simp only [Result.andThen_ok, e1, e3]
            by_cases hmm : m = m'
            · subst hmm; simp
            · simp [hmm]
        unfold Op.equal
        rw [show Op.maxDepth = 10000 from rfl, hall]
        congr 1
        unfold agEq
        rw [Bool.eq_iff_iff, List.all_eq_true]
        simp only [List.mem_range'_1, decide_eq_true_eq]
        constructor
        · intro h
          apply List.ext_getElem?
          intro j
          by_cases hj : j < n
          · exact h j ⟨by omega, by omega⟩
          · rw [List.getElem?_eq_none (by omega), List.getElem?_eq_none (by omega)]
        · rintro rfl j _; rfl

theorem binV_sound {P : Program} {c : Bool} {op : BinOp} {t : TypeId} {ox oy : Operand} {a b : V} {x y : Value} {K : V → Prop} (h : binV op (boolT P t) (flatT P t) (slT P t).isSome a b K)
    (ha : Rel w O ι ρ nx c a x) (hb : Rel w O ι ρ nx c b y) :
    ∃ v z, (do eqGuard op t ox oy x y; binOp op t x y : Sem Value).run P w = .ok z w ∧ Rel w O ι ρ nx c v z ∧ K v := by
  unfold binV at h
  split at h
  case h_1 => obtain ⟨hb0, h⟩ := h; rw [ha.int_inv, hb.int_inv]; exact ⟨_, _, by simp [eqGuard, binOp, Op.shift, Int.not_lt.2 hb0, shlW, shrW], .int .., h⟩
  case h_2 => obtain ⟨hb0, h⟩ := h; rw [ha.int_inv, hb.int_inv]; exact ⟨_, _, by simp [eqGuard, binOp, Op.shift, Int.not_lt.2 hb0, shlW, shrW], .int .., h⟩
  case h_6 => obtain ⟨rfl, hb0, h⟩ := h; rw [ha.int_inv, hb.int_inv]; exact ⟨_, _, by simp [eqGuard, binOp, Op.intDiv, hb0], .int .., h⟩
  case h_7 => obtain ⟨rfl, hb0, h⟩ := h; rw [ha.int_inv, hb.int_inv]; exact ⟨_, _, by simp [eqGuard, binOp, Op.intDiv, hb0], .int .., h⟩
  case h_18 => obtain ⟨hT, h⟩ := h; rw [ha.bool_inv, hb.bool_inv]; exact ⟨_, _, by rw [Sem.run_bind, eqGuard_bool, Result.andThen_ok]; simp only [binOp]; rw [Sem.run_bind, run_equal_bool w _ _ (boolT_under hT)]; rfl, .bool .., h⟩
  case h_19 => obtain ⟨hT, h⟩ := h; rw [ha.bool_inv, hb.bool_inv]; exact ⟨_, _, by rw [Sem.run_bind, eqGuard_bool, Result.andThen_ok]; simp only [binOp]; rw [Sem.run_bind, run_equal_bool w _ _ (boolT_under hT)]; rfl, .bool .., h⟩
  case h_20 =>
    obtain ⟨hT, h⟩ := h
    obtain ⟨e, he⟩ : ∃ e, P.underlying t = some (.slice e) := by
      unfold slT at hT
      split at hT
      · rename_i e hu; exact ⟨e, hu⟩
      · cases hT
    have hy : y = .slice none 0 0 := by cases hb; rfl
    have hx : ∃ ad n m, x = .slice ad n m := by cases ha <;> exact ⟨_, _, _, rfl⟩
    obtain ⟨ad, n, m, rfl⟩ := hx
    subst hy
    exact ⟨.ub, .bool ad.isNone, by rw [Sem.run_bind, eqGuard_slice, Result.andThen_ok]; simp only [binOp]; rw [Sem.run_bind, run_equal_slice w _ _ _ he]; rfl, .ub .., h⟩
  case h_21 =>
    obtain ⟨hT, h⟩ := h
    obtain ⟨e, he⟩ : ∃ e, P.underlying t = some (.slice e) := by
      unfold slT at hT
      split at hT
      · rename_i e hu; exact ⟨e, hu⟩
      · cases hT
    have hy : y = .slice none 0 0 := by cases hb; rfl
    have hx : ∃ ad n m, x = .slice (some ad) n m := by cases ha <;> exact ⟨_, _, _, rfl⟩
    obtain ⟨ad, n, m, rfl⟩ := hx
    subst hy
    exact ⟨.bool false, .bool false, by rw [Sem.run_bind, eqGuard_slice, Result.andThen_ok]; simp only [binOp]; rw [Sem.run_bind, run_equal_slice w _ _ _ he]; rfl, .bool .., h⟩
  case h_22 =>
    split at h
    · rename_i n k hT
      obtain ⟨h1, h2, h3, h4, h⟩ := h
      obtain ⟨r1, r2, xs, ys, rfl, rfl⟩ := run_equal_flat hT ha hb h1 h2 h3 h4 .eql ox oy
      exact ⟨_, _, by rw [Sem.run_bind, r1, Result.andThen_ok]; simp only [binOp]; rw [Sem.run_bind, r2]; rfl, .bool .., h⟩
    · exact h.elim
  case h_23 =>
    split at h
    · rename_i n k hT
      obtain ⟨h1, h2, h3, h4, h⟩ := h
      obtain ⟨r1, r2, xs, ys, rfl, rfl⟩ := run_equal_flat hT ha hb h1 h2 h3 h4 .neq ox oy
      exact ⟨_, _, by rw [Sem.run_bind, r1, Result.andThen_ok]; simp only [binOp]; rw [Sem.run_bind, r2]; rfl, .bool .., h⟩
    · exact h.elim
  case h_24 => exact h.elim
  all_goals
    obtain ⟨rfl, h⟩ := h
    rw [ha.int_inv, hb.int_inv]
    refine ⟨_, _, ?_, by first | exact .int .. | exact .bool .., h⟩
    first
      | simp [eqGuard, binOp, Op.intArith]; done
      | simp [eqGuard, binOp, Op.intBits, bitsV]; done
      | simp [eqGuard, binOp, Op.intCmp]; done
      | (simp [eqGuard, binOp, Op.intCmp]; rfl)
      | skip

end
end Go.Proofs.Ytcphhbiehaimeaa
