/- The moves of a walk over code. -/
import Derived.Test.YtcphhbiehaimeaaAi19
namespace Go.Proofs.Ytcphhbiehaimeaa
open Go.RowKit
set_option linter.unusedVariables false
set_option linter.unusedSimpArgs false

section
variable {P : Program} {N : Nat} {C : Ctl P N}

theorem tr_region {id : Nat} {l : List Oper} {ds : List (Option Tmp)} {σ : St} {Ψ : Exit → St → Prop} (kp : List Nat) (hd : dstsIn N l = true) (hds : l.map (·.dst) = ds)
    (h : ∀ K : St → Prop, (∀ σ', Ψ .normal (σ'.norm kp) → K σ') → evR C ds l σ K) : Tr C (.region id l.toArray false) σ Ψ := evC_sound (keep := kp) _ _ _ (evC_region hd hds h)
theorem tr_draw (fz : List Nat) {id : Nat} {l : List Oper} {ds : List (Option Tmp)} {σ : St} {Ψ : Exit → St → Prop} (kp : List Nat) (hm : P.follows .mixedOrders = true) (hd : dstsIn N l = true) (hok : drawOK fz l = true) (hds : l.map (·.dst) = ds)
    (h : ∀ K : St → Prop, (∀ σ', Ψ .normal (σ'.norm kp) → K σ') → evD fz P ds l σ K) : Tr C (.region id l.toArray true) σ Ψ := evC_sound (keep := kp) _ _ _ (evC_draw hm hd hok hds h)
theorem tr_seq {x y : Code} {σ : St} {Ψ : Exit → St → Prop} (h : ∀ K : St → Prop, (∀ σ', Tr C y σ' Ψ → K σ') → Tr C x σ (thenE K Ψ)) : Tr C (.seq x y) σ Ψ := fun cx ι ρ a w hR hf => by
  refine wpIn_seq (Code.wpIn_mono (fun e a' w' hq => ?_) (h (fun σ' => Tr C y σ' Ψ) (fun _ h => h) cx ι ρ a w hR hf))
  obtain ⟨cx', σ', ι', ρ', hL, h1, h2⟩ := hq
  cases e with
  | normal =>
    have e := C.hr hL
    rw [← e]
    exact Code.wpIn_mono (fun e a' w' ⟨cx2, σ2, ι2, ρ2, hL2, k⟩ => ⟨cx2, σ2, ι2, ρ2, C.trans hL hL2, k⟩) (h1 cx' ι' ρ' a' w' (C.pres hL hR) h2)
  | _ => exact ⟨cx', σ', ι', ρ', hL, h1, h2⟩
theorem tr_block {id : Nat} {c : Code} {σ : St} {Ψ : Exit → St → Prop} (h : Tr C c σ (inBlkE id Ψ)) : Tr C (.block id c) σ Ψ := fun cx ι ρ a w hR hf => by
  refine wpIn_block (Code.wpIn_mono (fun e a' w' hq => ?_) (h cx ι ρ a w hR hf))
  obtain ⟨cx', σ', ι', ρ', hL, h1, h2⟩ := hq
  cases e with
  | exit id' =>
    simp only [inBlkE] at h1
    simp only [Exit.inBlock]
    split
    · rename_i he; rw [if_pos he] at h1; exact ⟨cx', σ', ι', ρ', hL, h1, h2⟩
    · rename_i he; rw [if_neg he] at h1; exact ⟨cx', σ', ι', ρ', hL, h1, h2⟩
  | _ => exact ⟨cx', σ', ι', ρ', hL, h1, h2⟩
theorem tr_cond {c : Operand} {x y : Code} {σ : St} {Ψ : Exit → St → Prop} {b : Bool} (hb : σ.get c = .bool b) (ht : b = true → Tr C x σ Ψ) (hf : b = false → Tr C y σ Ψ) : Tr C (.cond c x y) σ Ψ :=
  fun cx ι ρ a w hR h => by
    have hr := h.sr.get c
    rw [hb] at hr
    exact wpIn_cond_split hr.bool_inv (fun e => ht e cx ι ρ a w hR h) (fun e => hf e cx ι ρ a w hR h)
theorem Rel.ub_inv {w : World} {O : Nat → Prop} {ι : Nat → Nat} {ρ : Nat → Value} {nx : Nat} {c : Bool} {x : Value} (h : Rel w O ι ρ nx c .ub x) : ∃ b, x = .bool b := by cases h; exact ⟨_, rfl⟩
/-- A test of which nothing is known. -/
theorem tr_cond_ub {c : Operand} {x y : Code} {σ : St} {Ψ : Exit → St → Prop} (hb : σ.get c = .ub) (ht : Tr C x σ Ψ) (hf : Tr C y σ Ψ) : Tr C (.cond c x y) σ Ψ :=
  fun cx ι ρ a w hR h => by
    have hr := h.sr.get c
    rw [hb] at hr
    obtain ⟨b, hb⟩ := hr.ub_inv
    exact wpIn_cond_split hb (fun _ => ht cx ι ρ a w hR h) (fun _ => hf cx ι ρ a w hR h)
theorem tr_skip {σ : St} {Ψ : Exit → St → Prop} (h : Ψ .normal σ) : Tr C .skip σ Ψ := fun cx ι ρ a w hR hf => wpIn_skip ⟨cx, σ, ι, ρ, C.refl hR, h, hf⟩
theorem tr_ret {σ : St} {Ψ : Exit → St → Prop} (h : Ψ .ret σ) : Tr C .ret σ Ψ := fun cx ι ρ a w hR hf => wpIn_ret ⟨cx, σ, ι, ρ, C.refl hR, h, hf⟩
theorem tr_exit {id : Nat} {σ : St} {Ψ : Exit → St → Prop} (h : Ψ (.exit id) σ) : Tr C (.exit id) σ Ψ := fun cx ι ρ a w hR hf => wpIn_exit ⟨cx, σ, ι, ρ, C.refl hR, h, hf⟩
theorem tr_wk {c : Code} {σ σ' : St} {Ψ : Exit → St → Prop} (hw : Wk N σ σ') (h : Tr C c σ' Ψ) : Tr C c σ Ψ := evC_wk hw h

theorem tr_loopW {c : Code} {σ : St} {Ψ : Exit → St → Prop} (Inv : Nat → St → Prop) (n0 : Nat) (h0 : ∃ σ', Wk N σ σ' ∧ Inv n0 σ')
    (round : ∀ n σ, Inv n σ → ∀ K : St → Prop, (∀ σ', (∃ m σ'', m < n ∧ Wk N σ' σ'' ∧ Inv m σ'') → K σ') → Tr C c σ (thenE K Ψ)) : Tr C (.loop c) σ Ψ := by
  obtain ⟨σ', hw, h0⟩ := h0
  refine evC_wk hw (tr_loop Inv n0 h0 fun n σ h => ?_)
  intro cx ι ρ a w hR hf
  refine Code.wpIn_mono (fun e a' w' hq => ?_) (round n σ h _ (fun _ h => h) cx ι ρ a w hR hf)
  obtain ⟨cx1, σ1, ι1, ρ1, hL, hk, hs⟩ := hq
  cases e with
  | normal =>
    obtain ⟨m, σ2, hm, hw2, hi⟩ := hk
    obtain ⟨ι2, ρ2, hs2⟩ := hw2 cx1 ι1 ρ1 a' w' hs
    exact ⟨cx1, σ2, ι2, ρ2, hL, ⟨m, hm, hi⟩, hs2⟩
  | _ => exact ⟨cx1, σ1, ι1, ρ1, hL, hk, hs⟩

/-- What follows is proved for one σ' alone, that both ways come to. -/
theorem tr_cut {c : Code} {σ : St} {Ψ : Exit → St → Prop} {K : St → Prop} (I : St → Prop) (h : ∀ K' : St → Prop, (∀ σ', I σ' → K' σ') → Tr C c σ (thenE K' Ψ)) (hI : ∀ σ', I σ' → K σ') : Tr C c σ (thenE K Ψ) :=
  Tr.mono (h I fun _ h => h) fun e σ' he => by
    cases e with
    | normal => exact hI σ' he
    | _ => exact he

end

theorem Mem.look_cons (id k : Nat) (o : AObj) (m : Mem) : Mem.look ((k, o) :: m) id = if k = id then some o else Mem.look m id := by
  unfold Mem.look
  by_cases e : k = id <;> simp [e]
theorem Mem.look_nil (id : Nat) : Mem.look [] id = none := rfl

theorem spl_nil0 (cs : List V) : spl cs 0 [] = cs := by simp [spl]
theorem spl_cons0 (c n : V) (cs ns : List V) : spl (c :: cs) 0 (n :: ns) = n :: spl cs 0 ns := by simp [spl]
theorem spl_succ (c : V) (cs ns : List V) (k : Nat) : spl (c :: cs) (k + 1) ns = c :: spl cs k ns := by simp [spl, Nat.add_right_comm]
/-! #### how lists are laid -/
def encI (xs : List Int) : List (List V) := xs.map fun x => [V.int .i64 x]
theorem encI_length (xs : List Int) : (encI xs).length = xs.length := by simp [encI]
theorem encI_getD (xs : List Int) (k : Nat) (h : k < xs.length) : (encI xs).getD k [] = [V.int .i64 (xs.getD k 0)] := by simp [encI, List.getD, h]
def cellsI (xs : List Int) : List V := xs.map (V.int .i64)
theorem cellsI_length (xs : List Int) : (cellsI xs).length = xs.length := by simp [cellsI]
theorem cellsI_getD (xs : List Int) (k : Nat) (h : k < xs.length) : (cellsI xs).getD k .any = V.int .i64 (xs.getD k 0) := by simp [cellsI, List.getD, h]
theorem cellsI_sc (xs : List Int) : (cellsI xs).all V.sc = true := by simp [cellsI, V.sc]
theorem cellsI_cl : ∀ (xs : List Int), V.clL (cellsI xs) = true
  | [] => rfl
  | x :: xs => by simpa [cellsI, V.clL, V.cl] using cellsI_cl xs
theorem cellsI_rows (xs : List Int) : ((cellsI xs).map fun v => [v]) = encI xs := by simp [cellsI, encI]
theorem cellsI_winT (xs : List Int) (n : Nat) (h : xs.length = n) : winV true n (cellsI xs) = .agg (cellsI xs) := by
  simp only [winV, if_true]; rw [List.take_of_length_le (by simp [cellsI, h])]
theorem cellsI_take (xs : List Int) (n : Nat) (h : xs.length = n) : List.take n (cellsI xs) = cellsI xs := List.take_of_length_le (by simp [cellsI, h])
theorem cellsI_dropD (xs : List Int) (k : Nat) (h : k < xs.length) : (List.drop k (cellsI xs)).getD 0 .any = V.int .i64 (xs.getD k 0) := by simp [cellsI, List.getD, h]
theorem cellsI_win (xs : List Int) (k : Nat) (h : k < xs.length) : winV false 1 ((cellsI xs).drop k) = V.int .i64 (xs.getD k 0) := by simp [winV, cellsI, List.getD, h]
theorem cellsI_set (xs : List Int) (k : Nat) (x : Int) (h : k < xs.length) : spl (cellsI xs) k [V.int .i64 x] = cellsI (xs.set k x) := by
  apply List.ext_getElem?
  intro i
  simp only [spl, cellsI, List.getElem?_append, List.length_take, List.length_map, List.getElem?_take, List.getElem?_map, List.getElem?_set]
  have hm : min k xs.length = k := by omega
  rw [hm]
  by_cases h1 : i < k
  · simp [h1, show ¬ k = i by omega]
  · by_cases h2 : i = k
    · subst h2; simp [h]
    · have h3 : i - k ≠ 0 := by omega
      simp [h1, show ¬ k = i by omega]
      obtain ⟨d, hd⟩ : ∃ d, i - k = d + 1 := ⟨i - k - 1, by omega⟩
      rw [hd]; simp
      congr 2; omega
theorem cellsI_full (xs : List Int) (old : List V) (h : old.length = xs.length) : spl old 0 (cellsI xs) = cellsI xs := by
  simp [spl, cellsI, h]

theorem cellsI_fzL (id : Nat) (o : AObj) : ∀ (xs : List Int), V.fzL id o (cellsI xs) = cellsI xs
  | [] => rfl
  | x :: xs => by
    have := cellsI_fzL id o xs
    simpa [cellsI, V.fzL, V.fz] using this
theorem cellsI_uptoL (n : Nat) : ∀ (xs : List Int), V.uptoL n (cellsI xs) = true
  | [] => rfl
  | x :: xs => by
    have := cellsI_uptoL n xs
    simpa [cellsI, V.uptoL, V.upto] using this

section
variable {P : Program} {N : Nat} {C : Ctl P N}
/-- What lies in the call's own memory may be written no more from here on. -/
theorem tr_fzAll (vs : List V) {c : Code} {σ : St} {Ψ : Exit → St → Prop} (h : Tr C c (fzAll σ vs) Ψ) : Tr C c σ Ψ :=
  fun cx ι ρ a w hR hf => h cx ι ρ a w hR ⟨hf.sr.fzAll vs, hf.size, hf.defers⟩

theorem tr_fz (vs : List V) {c : Code} {σ σ' : St} {Ψ : Exit → St → Prop} (he : fzAll σ vs = σ') (h : Tr C c σ' Ψ) : Tr C c σ Ψ := tr_fzAll vs (he ▸ h)

/-- The one result is a slice of the call's own. -/
def postO (P : Program) (rs : List ResultVar) (e z : Nat) (rows : List (List V)) (ex : Exit) (σ : St) : Prop :=
  (match ex with | .normal => True | .ret => True | _ => False) ∧
  match rs with
  | [r] => resV1 P σ r fun v => ∃ id, v = .own id ∧ σ.mem.look id = some (.row e z rows)
  | _ => False

theorem callsO_of_tr {f : FuncId} {fn : Func} {c : Code} (hf : P.funcs[f]? = some fn) (hb : fn.body = some c) {args : List V} {e z : Nat} {rows : List (List V)} (hn : args.length ≤ fn.ntmps)
    (h : Tr (C0 P fn.ntmps) c ⟨envOf 0 args, [], 0⟩ (postO P fn.results.toList e z rows)) : CallsO P f args e z rows := by
  intro w X vs hX hl hr
  let cx : Cx := ⟨w, fun _ => False, X, none, [], fun t => vs.getD t undef⟩
  have hsf : SF fn.ntmps cx ⟨envOf 0 args, [], 0⟩ (fun _ => 0) (fun _ => undef) { tmps := vs ++ Array.replicate (fn.ntmps - vs.size) undef, defers := [] } w := by
    refine ⟨⟨⟨rfl, rfl, rfl, Nat.le_refl _, fun _ _ _ => rfl, by simp, by simp, by simp, by simp, hX, by simp⟩, fun t => ?_⟩, by simp; omega, rfl⟩
    simp only [St.slot, lookup_envOf]
    simp only [Nat.zero_le, if_true, Nat.sub_zero]
    by_cases ht : t < args.length
    · have h1 := hr t ht
      have e1 : args[t]?.getD .any = args.getD t .any := rfl
      have e2 : tv cx { tmps := vs ++ Array.replicate (fn.ntmps - vs.size) undef, defers := [] } t = vs.getD t undef := by
        unfold tv
        split
        · simp [Array.getD_eq_getD_getElem?, Array.getElem?_append_left (show t < vs.size by omega)]
        · rfl
      rw [e1, e2]
      refine Rel.mono (fun a x hc hno => ⟨hc, fun h => ?_⟩) (fun _ _ => ⟨rfl, rfl⟩) (Nat.le_refl _) (h1.free rfl false)
      rcases h with h | ⟨p, hp, _⟩
      · exact hno h
      · cases hp
    · rw [List.getElem?_eq_none (by omega)]; exact .any ..
  refine calls_of_tr hf hb rfl rfl hsf h (fun e σ hp => (by unfold postO at hp; cases e <;> simp_all)) fun ex σ' ι' ρ' a' w' hp hs => ?_
  obtain ⟨hex, hp⟩ := hp
  have hm := hs.sr.ml
  have hbel : Below w.heap.size w w' := ⟨hm.os, hm.tape, hm.output, hm.size, fun b hb => hm.old b hb (fun h => h)⟩
  split at hp
  · rename_i r hrs
    obtain ⟨x, v, h1, h2, id, rfl, hlk⟩ := resV1_sound hs.sr hp
    have hmem := Mem.look_mem hlk
    have hx : x = ρ' id := by unfold MR at h2; cases h2; rfl
    obtain ⟨xs, ho, hrow⟩ := OR_row.1 (hm.obj _ hmem)
    have hown := hm.own _ hmem
    have hres : ∃ y xs, Ending.returned x = .returned y ∧ Below w.heap.size w w' ∧ w'.ownsRow w.heap.size e z y rows.length xs ∧ RowsR w' (fun b => X b ∨ y.ownBlock = some b) (fun _ => 0) (fun _ => undef) 0 z rows xs := by
      refine ⟨x, xs, rfl, hbel, ⟨ho.1, ?_⟩, hrow.1, hrow.2.1, hrow.2.2.1, fun i j hi hj => ?_⟩
      · rw [hx]
        rcases ho.2 with hn | ⟨g, cap, cur, k1, k2, k3⟩
        · exact .inl hn
        · refine .inr ⟨g, cap, cur, k1, ?_, k3⟩
          have := hown g (by simp [blk, k1, Value.ownBlock])
          rcases this.2.1 with hle | hd
          · exact hle
          · exact hd.elim
      · refine ((hrow.2.2.2 i j hi hj).free rfl true).mono (fun ad u hc hno => ⟨hc, fun hn => hno ?_⟩) (fun _ _ => ⟨rfl, rfl⟩) (Nat.le_refl _)
        rcases hn with hn | hn
        · exact .inl hn
        · exact .inr ⟨_, hmem, by simp only [blk]; rw [← hx]; exact hn⟩
    exact ⟨x, results1 hrs h1, hres⟩
  · exact hp.elim
end

end Go.Proofs.Ytcphhbiehaimeaa
