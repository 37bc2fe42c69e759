/- A step hangs on its operands alone, and (some) on the call's own memory. -/
import Derived.Test.YtpaielaniekdbaaAi15
namespace Go.Proofs.Ytpaielaniekdbaa
open Go.RowKit
set_option linter.unusedVariables false
set_option linter.unusedSimpArgs false

/-- F comes to one value. -/
def Pt {α : Type} (F : (α → Prop) → Prop) : Prop := ∀ K, F K → ∃ v, (∀ K' : α → Prop, K' v → F K') ∧ K v

theorem Pt.bind {α β : Type} {F : (α → Prop) → Prop} {G : α → (β → Prop) → Prop} (hF : Pt F) (hG : ∀ v, Pt (G v)) : Pt fun K => F fun v => G v K := fun K h => by
  obtain ⟨v, h1, h2⟩ := hF _ h
  obtain ⟨u, h3, h4⟩ := hG v K h2
  exact ⟨u, fun K' hk => h1 _ (h3 K' hk), h4⟩
theorem Pt.ret {α : Type} (v : α) : Pt fun K : α → Prop => K v := fun K h => ⟨v, fun _ h => h, h⟩
theorem Pt.no {α : Type} : Pt fun _ : α → Prop => False := fun _ h => h.elim
theorem Pt.and {α : Type} {p : Prop} {F : (α → Prop) → Prop} (hF : Pt F) : Pt fun K => p ∧ F K := fun K h => by
  obtain ⟨v, h1, h2⟩ := hF K h.2
  exact ⟨v, fun K' hk => ⟨h.1, h1 K' hk⟩, h2⟩

theorem Pt.un (g : Option Bool) (v : V) : Pt (un g v) := fun K h => by
  unfold Proofs.Ytpaielaniekdbaa.un at h ⊢
  split at h
  · exact ⟨_, fun K' hk => ⟨h.1, hk⟩, h.2⟩
  · exact ⟨_, fun K' hk => hk, h⟩
theorem Pt.unL (g : Option Bool) : ∀ vs : List V, Pt (unL g vs)
  | [] => Pt.ret []
  | v :: vs => Pt.bind (F := Proofs.Ytpaielaniekdbaa.un g v) (G := fun v' K => Proofs.Ytpaielaniekdbaa.unL g vs fun vs' => K (v' :: vs')) (Pt.un g v) fun v' => Pt.bind (G := fun vs' K => K (v' :: vs')) (Pt.unL g vs) fun vs' => Pt.ret _
theorem Pt.pickV (t : Bool) (a b : V) : Pt (pickV t a b) := by
  unfold Proofs.Ytpaielaniekdbaa.pickV
  split
  · exact Pt.ret _
  · exact Pt.and (Pt.ret _)
  · exact Pt.no
theorem Pt.binV (op : BinOp) (t : Bool) (fl : Option (Nat × IntKind)) (a b : V) : Pt (binV op t fl a b) := by
  unfold Proofs.Ytpaielaniekdbaa.binV
  split <;> first | exact Pt.no | exact Pt.and (Pt.ret _) | exact Pt.and (Pt.and (Pt.ret _)) | (split <;> first | exact Pt.no | exact Pt.and (Pt.and (Pt.and (Pt.and (Pt.ret _)))))
theorem Pt.unV (op : UnOp) (a : V) : Pt (unV op a) := by
  unfold Proofs.Ytpaielaniekdbaa.unV
  split <;> first | exact Pt.ret _ | exact Pt.no
theorem Pt.loadV (l : Option (Nat × Bool)) (m : Mem) (a : V) : Pt (loadV l m a) := by
  unfold Proofs.Ytpaielaniekdbaa.loadV
  split
  · exact Pt.and (Pt.ret _)
  · split
    · exact Pt.and (Pt.ret _)
    · exact Pt.no
  · exact Pt.no
theorem Pt.idxV (s : Option (TypeId × Nat × Nat)) (ar : Option (Nat × TypeId × Nat)) (x i : V) : Pt (idxV s ar x i) := by
  unfold Proofs.Ytpaielaniekdbaa.idxV
  repeat' split
  all_goals first | exact Pt.no | exact Pt.and (Pt.and (Pt.and (Pt.ret _))) | exact Pt.and (Pt.and (Pt.ret _))
theorem Pt.fldV (f : Option (Nat × Nat × Bool)) (x : V) : Pt (fldV f x) := by
  unfold Proofs.Ytpaielaniekdbaa.fldV
  split <;> first | exact Pt.no | exact Pt.and (Pt.ret _)
theorem Pt.partV (l : Option (Nat × Bool)) (n : Nat) (x : V) : Pt (partV l n x) := by
  unfold Proofs.Ytpaielaniekdbaa.partV
  split <;> first | exact Pt.no | exact Pt.and (Pt.ret _)
theorem Pt.fillV (pl : List (Nat × Nat)) : ∀ (ps : List (Nat × V)) (cs : List V), Pt (fillV pl cs ps)
  | [], cs => Pt.ret _
  | (i, v) :: ps, cs => by
    show Pt fun K => Proofs.Ytpaielaniekdbaa.fillV pl cs ((i, v) :: ps) K
    simp only [Proofs.Ytpaielaniekdbaa.fillV]
    split
    · exact Pt.and (Pt.and (Pt.and (Pt.fillV pl ps _)))
    · exact Pt.no
theorem Pt.buildV (z : Option (List V)) (pl : Option (List (Nat × Nat))) (ps : List (Nat × V)) : Pt (buildV z pl ps) := by
  unfold Proofs.Ytpaielaniekdbaa.buildV
  split
  · exact Pt.and (Pt.bind (Pt.fillV _ _ _) fun v => Pt.ret _)
  · exact Pt.no
theorem Pt.rowsV (size : Nat) : ∀ (ps : List (Nat × V)) (rows : List (List V)), Pt (rowsV size rows ps)
  | [], rows => Pt.ret _
  | (i, v) :: ps, rows => by
    show Pt fun K => Proofs.Ytpaielaniekdbaa.rowsV size rows ((i, v) :: ps) K
    simp only [Proofs.Ytpaielaniekdbaa.rowsV]
    exact Pt.and (Pt.and (Pt.and (Pt.and (Pt.rowsV size ps _))))
theorem Pt.sliV (s : Option (TypeId × Nat × Nat)) (x : V) (lo hi : Option V) : Pt (sliV s x lo hi) := by
  unfold Proofs.Ytpaielaniekdbaa.sliV
  split <;> first | exact Pt.no | exact Pt.and (Pt.and (Pt.and (Pt.and (Pt.ret _)))) | exact Pt.and (Pt.and (Pt.and (Pt.ret _))) | exact Pt.and (Pt.ret _)
theorem Pt.lenV (s : Option (TypeId × Nat × Nat)) (ar : Option (Nat × TypeId × Nat)) (m : Mem) (x : V) : Pt (lenV s ar m x) := by
  unfold Proofs.Ytpaielaniekdbaa.lenV
  split
  · exact Pt.ret _
  · exact Pt.ret _
  · split
    · exact Pt.ret _
    · exact Pt.no
  · exact Pt.no

/-- Effects on the call's own memory. -/
def isEff : Op → Bool
  | .alloc _ | .box .. | .buildSlice .. | .store .. => true
  | .call { callee := .builtin .append, .. } => true
  | _ => false
/-- What is read of the call's own memory. -/
def isRd : Op → Bool
  | .load .. => true
  | .call { callee := .builtin .len, .. } => true
  | _ => false

def sameOn (σ σ' : St) (op : Op) : Prop := ∀ x ∈ op.operands.toList, σ'.get x = σ.get x

section
variable {P : Program} {σ : St} {K : V → St → Prop}

theorem map_same {σ σ' : St} {xs : List Operand} (h : ∀ x ∈ xs, σ'.get x = σ.get x) : xs.map σ'.get = xs.map σ.get := List.map_congr_left h

theorem pt_stp {gb : Bool} {op : Op} (h : stp P σ (some gb) op K) :
    ∃ v, K v σ ∧ ∀ (σ' : St) (K' : V → St → Prop), sameOn σ σ' op → (isRd op = true → σ'.mem = σ.mem) → K' v σ' → stp P σ' (some gb) op K' := by
  -- from F at the operands
  have fin : ∀ {F : (V → Prop) → Prop}, Pt F → F (fun v => K v σ) → (∀ (σ' : St) (K' : V → St → Prop), sameOn σ σ' op → (isRd op = true → σ'.mem = σ.mem) → F (fun v => K' v σ') → stp P σ' (some gb) op K') →
      ∃ v, K v σ ∧ ∀ (σ' : St) (K' : V → St → Prop), sameOn σ σ' op → (isRd op = true → σ'.mem = σ.mem) → K' v σ' → stp P σ' (some gb) op K' := by
    intro F hF hs hb
    obtain ⟨v, h1, h2⟩ := hF _ hs
    exact ⟨v, h2, fun σ' K' hl hm hk => hb σ' K' hl hm (h1 _ hk)⟩
  cases op
  case move x => exact fin (Pt.un _ _) h fun σ' K' hl hm hk => by simp only [stp]; rw [hl x (by simp [Op.operands])]; exact hk
  case assign x => exact fin (Pt.un _ _) h fun σ' K' hl hm hk => by simp only [stp]; rw [hl x (by simp [Op.operands])]; exact hk
  case pick c a b =>
    refine fin (F := fun K => un (some gb) (σ.get c) fun c => match c with
      | .bool t => un (some ((some gb).getD true && t)) (σ.get a) fun a => un (some ((some gb).getD true && !t)) (σ.get b) fun b => pickV t a b K
      | _ => False) (Pt.bind (Pt.un _ _) fun c => ?_) h fun σ' K' hl hm hk => ?_
    · split
      · exact Pt.bind (Pt.un _ _) fun _ => Pt.bind (Pt.un _ _) fun _ => Pt.pickV _ _ _
      · exact Pt.no
    · simp only [stp]; rw [hl c (by simp [Op.operands]), hl a (by simp [Op.operands]), hl b (by simp [Op.operands])]; exact hk
  case build T ps =>
    refine fin (F := fun K => unL (some gb) (ps.toList.map fun (p : Nat × Operand) => σ.get p.2) fun vs => buildV (zeroT P T) (plT P T) ((ps.toList.map fun (p : Nat × Operand) => p.1).zip vs) K) (Pt.bind (Pt.unL _ _) fun _ => Pt.buildV _ _ _) h fun σ' K' hl hm hk => ?_
    simp only [stp]
    rw [show (ps.toList.map fun p => σ'.get p.2) = ps.toList.map fun p => σ.get p.2 from List.map_congr_left fun p hp => hl p.2 (by simp only [Op.operands, List.mem_map]; exact ⟨p, hp, rfl⟩)]
    exact hk
  case load T x =>
    refine fin (F := fun K => un (some gb) (σ.get x) fun a => loadV (lay P T) σ.mem a K) (Pt.bind (Pt.un _ _) fun _ => Pt.loadV _ _ _) h fun σ' K' hl hm hk => ?_
    simp only [stp]; rw [hl x (by simp [Op.operands]), hm rfl]; exact hk
  case binOp op T x y u =>
    refine fin (F := fun K => un (some gb) (σ.get x) fun x => un (some gb) (σ.get y) fun y => binV op (boolT P T) (flatT P T) x y K) (Pt.bind (Pt.un _ _) fun _ => Pt.bind (Pt.un _ _) fun _ => Pt.binV _ _ _ _ _) h fun σ' K' hl hm hk => ?_
    simp only [stp]; rw [hl x (by simp [Op.operands]), hl y (by simp [Op.operands])]; exact hk
  case unOp op T x =>
    refine fin (F := fun K => un (some gb) (σ.get x) fun x => unV op x K) (Pt.bind (Pt.un _ _) fun _ => Pt.unV _ _) h fun σ' K' hl hm hk => ?_
    simp only [stp]; rw [hl x (by simp [Op.operands])]; exact hk
  case convert T U x =>
    refine fin (F := fun K => un (some gb) (σ.get x) fun x => match intT P T, intT P U, x with
      | some _, some k, .int _ n => K (.int k (k.wrap n))
      | _, _, _ => False) (Pt.bind (Pt.un _ _) fun _ => ?_) h fun σ' K' hl hm hk => ?_
    · split
      · exact Pt.ret _
      · exact Pt.no
    · simp only [stp]; rw [hl x (by simp [Op.operands])]; exact hk
  case makeFunc fn first caps =>
    cases fn <;> try exact h.elim
    case func f =>
      refine fin (F := fun K => first = #[] ∧ unL (some gb) (caps.toList.map σ.get) fun vs => K (.fn f vs)) (Pt.and (Pt.bind (Pt.unL _ _) fun _ => Pt.ret _)) h fun σ' K' hl hm hk => ?_
      simp only [stp]
      rw [map_same (σ := σ) (σ' := σ') fun x hx => hl x (by simp only [Op.operands, Array.toList_append, List.mem_append]; exact .inr hx)]
      exact hk
  case slice T x lo hi mx =>
    have e : ∀ (σ' : St), sameOn σ σ' (.slice T x lo hi mx) → lo.map σ'.get = lo.map σ.get ∧ hi.map σ'.get = hi.map σ.get := fun σ' hl => by
      refine ⟨?_, ?_⟩
      · cases lo with
        | none => rfl
        | some y => simp only [Option.map_some]; rw [hl y (by simp [Op.operands])]
      · cases hi with
        | none => rfl
        | some y => simp only [Option.map_some]; rw [hl y (by simp [Op.operands])]
    simp only [stp] at h
    obtain ⟨hmx, h⟩ := h
    obtain ⟨vx, hv, h⟩ := Pt.un _ _ _ h
    split at h
    · split at h
      · obtain ⟨h, -⟩ := h; cases h
      · exact h.elim
    · rename_i es n e' c har
      obtain ⟨h1, h2, h3, h4, h5, hk⟩ := h
      refine ⟨_, hk, fun σ' K' hl hm hk' => ?_⟩
      simp only [stp]
      refine ⟨hmx, ?_⟩
      rw [hl x (by simp [Op.operands])]
      refine hv _ ?_
      simp only [har]
      exact ⟨h1, h2, h3, h4, h5, hk'⟩
    · rename_i hn1 hn2
      obtain ⟨v, h1, h2⟩ := Pt.sliV _ _ _ _ _ h
      refine ⟨v, h2, fun σ' K' hl hm hk' => ?_⟩
      simp only [stp]
      refine ⟨hmx, ?_⟩
      rw [hl x (by simp [Op.operands]), (e σ' hl).1, (e σ' hl).2]
      refine hv _ ?_
      split
      · rename_i id n e' c har; exact (hn1 _ _ _ _ rfl har).elim
      · rename_i es n e' c har; exact (hn2 _ _ _ _ rfl har).elim
      · exact h1 _ hk'
  case fieldAddr S x f =>
    refine fin (F := fun K => un (some gb) (σ.get x) fun x => fldV (stT P S f) x K) (Pt.bind (Pt.un _ _) fun _ => Pt.fldV _ _) h fun σ' K' hl hm hk => ?_
    simp only [stp]; rw [hl x (by simp [Op.operands])]; exact hk
  case field S x f =>
    refine fin (F := fun K => un (some gb) (σ.get x) fun x => match stT P S f with
      | some (off, c, ag) => partV (some (c, ag)) off x K
      | none => False) (Pt.bind (Pt.un _ _) fun _ => ?_) h fun σ' K' hl hm hk => ?_
    · split
      · exact Pt.partV _ _ _
      · exact Pt.no
    · simp only [stp]; rw [hl x (by simp [Op.operands])]; exact hk
  case indexAddr T x i =>
    refine fin (F := fun K => un (some gb) (σ.get x) fun x => un (some gb) (σ.get i) fun i => idxV (slT P T) (arT P T) x i K) (Pt.bind (Pt.un _ _) fun _ => Pt.bind (Pt.un _ _) fun _ => Pt.idxV _ _ _ _) h fun σ' K' hl hm hk => ?_
    simp only [stp]; rw [hl x (by simp [Op.operands]), hl i (by simp [Op.operands])]; exact hk
  case index T x i =>
    refine fin (F := fun K => un (some gb) (σ.get x) fun x => un (some gb) (σ.get i) fun i => match arT P T, i with
      | some (len, e, c), .int _ n => 0 ≤ n ∧ n < len ∧ partV (lay P e) (n.toNat * c) x K
      | _, _ => False) (Pt.bind (Pt.un _ _) fun _ => Pt.bind (Pt.un _ _) fun _ => ?_) h fun σ' K' hl hm hk => ?_
    · split
      · exact Pt.and (Pt.and (Pt.partV _ _ _))
      · exact Pt.no
    · simp only [stp]; rw [hl x (by simp [Op.operands]), hl i (by simp [Op.operands])]; exact hk
  case extract x i =>
    refine fin (F := fun K => un (some gb) (σ.get x) fun t => match t with
      | .tup vs => i < vs.length ∧ K (vs.getD i .any)
      | _ => False) (Pt.bind (Pt.un _ _) fun _ => ?_) h fun σ' K' hl hm hk => ?_
    · split
      · exact Pt.and (Pt.ret _)
      · exact Pt.no
    · simp only [stp]; rw [hl x (by simp [Op.operands])]; exact hk
  case alloc => simp only [stp] at h; cases h.1
  case box => simp only [stp] at h; cases h.1
  case buildSlice T len ps =>
    simp only [stp] at h
    split at h
    · rename_i e z by' hT
      split at h
      · rename_i zs hz
        obtain ⟨h1, h2, h3, h4, h5, h⟩ := h
        obtain ⟨vs, hvs, h⟩ := Pt.unL _ _ _ h
        obtain ⟨rows, hrows, h⟩ := Pt.rowsV _ _ _ _ h
        rcases h with ⟨h, -⟩ | h
        · cases h
        · refine ⟨_, h, fun σ' K' hl hm hk => ?_⟩
          simp only [stp, hT, hz]
          rw [show (ps.toList.map fun p => σ'.get p.2) = ps.toList.map fun p => σ.get p.2 from List.map_congr_left fun p hp => hl p.2 (by simp only [Op.operands, List.mem_map]; exact ⟨p, hp, rfl⟩)]
          exact ⟨h1, h2, h3, h4, h5, hvs _ (hrows _ (.inr hk))⟩
      · exact h.elim
    · exact h.elim
  case store => simp only [stp] at h; cases h.1
  case call c =>
    obtain ⟨callee, args, ts⟩ := c
    cases callee with
    | value f =>
      simp only [stp] at h
      obtain ⟨vf, hv, h⟩ := Pt.un _ _ _ h
      split at h
      · rename_i fid caps
        obtain ⟨vs, hvs, h1, h2, r, h3, h4⟩ := Pt.unL _ _ _ h
        refine ⟨r, h4, fun σ' K' hl hm hk => ?_⟩
        simp only [stp]
        rw [hl f (by simp [Op.operands, Call.operands]), map_same (σ := σ) (σ' := σ') fun x hx => hl x (by simp only [Op.operands, Call.operands, Array.toList_append, List.mem_append]; exact .inr hx)]
        exact hv _ (hvs _ ⟨h1, h2, r, h3, hk⟩)
      · exact h.elim
    | invoke r m => exact h.elim
    | builtin b =>
      cases b <;> try exact h.elim
      case append =>
        simp only [stp] at h
        split at h
        · cases h.1
        · exact h.elim
      case len =>
        have h0 := h
        simp only [stp] at h
        split at h
        · rename_i x t hx ht
          obtain ⟨v, hv, h⟩ := Pt.un _ _ _ h
          obtain ⟨u, hu, h⟩ := Pt.lenV _ _ _ _ _ h
          refine ⟨u, h, fun σ' K' hl hm hk => ?_⟩
          simp only [stp, hx, ht]
          rw [hl x (by simp [Op.operands, Call.operands, hx]), hm rfl]
          exact hv _ (hu _ hk)
        · exact h.elim
      all_goals
        simp only [stp] at h
        split at h
        · rename_i x y hx
          obtain ⟨v, hv, h⟩ := Pt.un _ _ _ h
          obtain ⟨u, hu, h⟩ := Pt.un _ _ _ h
          split at h
          · refine ⟨_, h, fun σ' K' hl hm hk => ?_⟩
            simp only [stp, hx]
            rw [hl x (by simp [Op.operands, Call.operands, hx]), hl y (by simp [Op.operands, Call.operands, hx])]
            exact hv _ (hu _ hk)
          · exact h.elim
        · exact h.elim
  all_goals exact h.elim

theorem stp_free {gb : Bool} {op : Op} {e : List (Nat × V)} {m : Mem} {n : Nat} {K : V → Prop} (h : stp P ⟨e, [], n⟩ (some gb) op fun v _ => K v) : stp P ⟨e, m, n⟩ (some gb) op fun v _ => K v := by
  have hg : ∀ x, (⟨e, m, n⟩ : St).get x = (⟨e, [], n⟩ : St).get x := fun x => by cases x <;> rfl
  by_cases hr : isRd op = true
  · cases op <;> try (simp only [isRd] at hr; cases hr; done)
    case load T x =>
      simp only [stp] at h ⊢
      obtain ⟨v, hv, h⟩ := Pt.un _ _ _ h
      rw [hg x]
      refine hv _ ?_
      unfold loadV at h ⊢
      split at h
      · exact h
      · exact h.elim
      · exact h.elim
    case call c =>
      obtain ⟨callee, args, ts⟩ := c
      cases callee with
      | value f => simp only [isRd] at hr; cases hr
      | invoke r m => simp only [isRd] at hr; cases hr
      | builtin b =>
        cases b <;> try (simp only [isRd] at hr; cases hr; done)
        case len =>
          simp only [stp] at h ⊢
          split at h
          · rename_i x t hx ht
            obtain ⟨v, hv, h⟩ := Pt.un _ _ _ h
            rw [hg x]
            refine hv _ ?_
            unfold lenV at h ⊢
            split at h
            · exact h
            · exact h
            · exact h.elim
            · exact h.elim
          · exact h.elim
  · obtain ⟨v, hk, hb⟩ := pt_stp h
    exact hb _ _ (fun x _ => hg x) (fun e => (hr e).elim) hk

theorem pt_eff {op : Op} (he : isEff op = true) (h : stp P σ none op K) :
    ∃ v m n, K v ⟨σ.env, m, n⟩ ∧ ∀ (env' : List (Nat × V)) (K' : V → St → Prop), sameOn σ ⟨env', σ.mem, σ.nx⟩ op → K' v ⟨env', m, n⟩ → stp P ⟨env', σ.mem, σ.nx⟩ none op K' := by
  cases op <;> try (simp only [isEff] at he; cases he; done)
  case alloc T =>
    simp only [stp] at h
    obtain ⟨-, h⟩ := h
    split at h
    · rename_i cs hz
      refine ⟨_, _, _, h.2, fun env' K' hl hk => ?_⟩
      simp only [stp, hz]
      exact ⟨trivial, h.1, hk⟩
    · exact h.elim
  case box T x =>
    simp only [stp] at h
    obtain ⟨-, h⟩ := h
    obtain ⟨v, hv, h1, h2⟩ := Pt.un _ _ _ h
    refine ⟨_, _, _, h2, fun env' K' hl hk => ?_⟩
    simp only [stp]
    rw [hl x (by simp [Op.operands])]
    exact ⟨trivial, hv _ ⟨h1, hk⟩⟩
  case buildSlice T len ps =>
    simp only [stp] at h
    split at h
    · rename_i e z by' hT
      split at h
      · rename_i zs hz
        obtain ⟨h1, h2, h3, h4, h5, h⟩ := h
        obtain ⟨vs, hvs, h⟩ := Pt.unL _ _ _ h
        obtain ⟨rows, hrows, h⟩ := Pt.rowsV _ _ _ _ h
        rcases h with ⟨-, h⟩ | h
        · refine ⟨_, _, _, h, fun env' K' hl hk => ?_⟩
          simp only [stp, hT, hz]
          rw [show (ps.toList.map fun p => (⟨env', σ.mem, σ.nx⟩ : St).get p.2) = ps.toList.map fun p => σ.get p.2 from List.map_congr_left fun p hp => hl p.2 (by simp only [Op.operands, List.mem_map]; exact ⟨p, hp, rfl⟩)]
          exact ⟨h1, h2, h3, h4, h5, hvs _ (hrows _ (.inl ⟨trivial, hk⟩))⟩
        · refine ⟨_, _, _, h, fun env' K' hl hk => ?_⟩
          simp only [stp, hT, hz]
          rw [show (ps.toList.map fun p => (⟨env', σ.mem, σ.nx⟩ : St).get p.2) = ps.toList.map fun p => σ.get p.2 from List.map_congr_left fun p hp => hl p.2 (by simp only [Op.operands, List.mem_map]; exact ⟨p, hp, rfl⟩)]
          exact ⟨h1, h2, h3, h4, h5, hvs _ (hrows _ (.inr hk))⟩
      · exact h.elim
    · exact h.elim
  case store T x y =>
    simp only [stp] at h
    obtain ⟨-, h⟩ := h
    obtain ⟨v, hv, h⟩ := Pt.un _ _ _ h
    obtain ⟨u, hu, h⟩ := Pt.un _ _ _ h
    split at h
    · rename_i n ag id off hl0 hvx
      split at h
      · rename_i cs hcs
        obtain ⟨h1, h2, h3, h⟩ := h
        refine ⟨_, _, _, h, fun env' K' hl hk => ?_⟩
        simp only [stp]
        rw [hl x (by simp [Op.operands]), hl y (by simp [Op.operands])]
        refine ⟨trivial, hv _ (hu _ ?_)⟩
        simp only [hl0, hcs]
        exact ⟨h1, h2, h3, hk⟩
      · exact h.elim
    · exact h.elim
  case call c =>
    obtain ⟨callee, args, ts⟩ := c
    cases callee with
    | value f => simp only [isEff] at he; cases he
    | invoke r m => simp only [isEff] at he; cases he
    | builtin b =>
      cases b <;> try (simp only [isEff] at he; cases he; done)
      case append =>
        simp only [stp] at h
        split at h
        · rename_i s x t t' hx ht
          obtain ⟨-, h0, h⟩ := h
          obtain ⟨v, hv, h⟩ := Pt.un _ _ _ h
          obtain ⟨u, hu, h⟩ := Pt.un _ _ _ h
          have key : ∃ y m n, K y ⟨σ.env, m, n⟩ ∧ ∀ (env' : List (Nat × V)) (K' : V → St → Prop), K' y ⟨env', m, n⟩ → appV P t ⟨env', σ.mem, σ.nx⟩ v u K' := by
            unfold appV at h ⊢
            split at h
            · rename_i e z bytes hT
              obtain ⟨h1, h2, h3, h⟩ := h
              split at h
              · rename_i rows' hr
                split at h
                · obtain ⟨h4, h⟩ := h
                  exact ⟨_, _, _, h, fun env' K' hk => ⟨h1, h2, h3, by simp only [hr]; exact ⟨h4, hk⟩⟩⟩
                · rename_i id
                  split at h
                  · rename_i e' z' rows hl
                    obtain ⟨h4, h5, h6, h⟩ := h
                    exact ⟨_, _, _, h, fun env' K' hk => ⟨h1, h2, h3, by simp only [hr, hl]; exact ⟨h4, h5, h6, hk⟩⟩⟩
                  · exact h.elim
                · exact h.elim
              · exact h.elim
            · exact h.elim
          obtain ⟨y, m, n, hk, hb⟩ := key
          refine ⟨y, m, n, hk, fun env' K' hl hk' => ?_⟩
          simp only [stp, hx, ht]
          rw [hl s (by simp [Op.operands, Call.operands, hx]), hl x (by simp [Op.operands, Call.operands, hx])]
          exact ⟨trivial, h0, hv _ (hu _ (hb _ _ hk'))⟩
        · exact h.elim


end

/-! #### a call whose result the caller owns -/
/-- Called with what 'args' stands for, function f returns a slice of its own making: row (e, z, rows); and turns nothing that was there. -/
def CallsO (P : Program) (f : FuncId) (args : List V) (e z : Nat) (rows : List (List V)) : Prop :=
  ∀ (w : World) (X : Nat → Prop) (vs : Array Value), (∀ b, X b → b < w.heap.size) → vs.size = args.length →
    (∀ i, i < args.length → Rel w X (fun _ => 0) (fun _ => undef) 0 true (args.getD i .any) (vs.getD i undef)) →
    Calls P f vs w fun en w' => ∃ x xs, en = .returned x ∧ Below w.heap.size w w' ∧ w'.ownsRow w.heap.size e z x rows.length xs ∧
      RowsR w' (fun b => X b ∨ x.ownBlock = some b) (fun _ => 0) (fun _ => undef) 0 z rows xs

def stpO (P : Program) (σ : St) (op : Op) (K : V → St → Prop) : Prop :=
  match op with
  | .call { callee := .value f, args, argTypes } =>
    un none (σ.get f) fun vf =>
      match vf with
      | .fn f caps => unL none (args.toList.map σ.get) fun vs => okF P f = true ∧ V.clL (vs ++ caps) = true ∧ ∃ e z rows, CallsO P f (vs ++ caps) e z rows ∧ K (.own σ.nx) ⟨σ.env, (σ.nx, .row e z rows) :: σ.mem, σ.nx + 1⟩
      | _ => False
  | _ => False

def isO : Op → Bool
  | .call { callee := .value _, .. } => true
  | _ => false

section
variable {P : Program} {cx : Cx} {σ : St} {ι : Nat → Nat} {ρ : Nat → Value} {a : Act} {w : World} {K : V → St → Prop} {Q : Exit → Act → World → Prop} {o : Oper}

/-- A slice that a call has made comes into the call's own memory. -/
theorem ML.adopt {mem : Mem} {nx : Nat} {w' : World} (h : ML cx mem nx ι ρ w) (hb : Below w.heap.size w w') (x : Value) (e z : Nat) (rows : List (List V)) (xs : List Value)
    (hx : w'.ownsRow w.heap.size e z x rows.length xs) (hr : RowsR w' (fun b => OO cx.X mem ι ρ b ∨ x.ownBlock = some b) (fun _ => 0) (fun _ => undef) 0 z rows xs) :
    ML cx ((nx, .row e z rows) :: mem) (nx + 1) ι (fun id => if id = nx then x else ρ id) w' ∧ Kp cx mem nx ι ρ w ((nx, .row e z rows) :: mem) (nx + 1) ι (fun id => if id = nx then x else ρ id) w' := by
  have hlt := hx.lt
  have hblk' : ∀ p ∈ mem, blk ι (fun id => if id = nx then x else ρ id) p = blk ι ρ p := by
    rintro ⟨id, o'⟩ hp
    have := h.lt _ hp
    have e : id ≠ nx := by simp at this; omega
    cases o' <;> simp [blk, e]
  have hnew : blk ι (fun id => if id = nx then x else ρ id) (nx, .row e z rows) = x.ownBlock := by simp [blk]
  have hO : ∀ b, OO cx.X ((nx, .row e z rows) :: mem) ι (fun id => if id = nx then x else ρ id) b ↔ (OO cx.X mem ι ρ b ∨ x.ownBlock = some b) := by
    intro b
    constructor
    · rintro (hX | ⟨p, hp, hpb⟩)
      · exact .inl (.inl hX)
      · rcases List.mem_cons.1 hp with rfl | hp
        · exact .inr (by rw [← hnew]; exact hpb)
        · exact .inl (.inr ⟨p, hp, by rw [← hblk' p hp]; exact hpb⟩)
    · rintro ((hX | ⟨p, hp, hpb⟩) | hxb)
      · exact .inl hX
      · exact .inr ⟨p, List.mem_cons_of_mem _ hp, by rw [hblk' p hp]; exact hpb⟩
      · exact .inr ⟨_, List.mem_cons_self, by rw [hnew]; exact hxb⟩
  have hk : Kp cx mem nx ι ρ w ((nx, .row e z rows) :: mem) (nx + 1) ι (fun id => if id = nx then x else ρ id) w' := fun c v y hr => by
    refine hr.mono (fun ad u hc hno => ?_) (fun id hid => ⟨rfl, if_neg (by omega)⟩) (by omega)
    have hl := block_lt_of_cell hc
    refine ⟨cell_of_block hc (hb.block _ hl), fun hn => ?_⟩
    rcases (hO _).1 hn with hn | hn
    · exact hno hn
    · have := (hlt _ hn).1; omega
  refine ⟨⟨hb.os.trans h.os, hb.tape.trans h.tape, hb.output.trans h.output, Nat.le_trans h.size hb.size, fun b hb0 hd => ?_, ?_, ?_, ?_, ?_, h.xlt, ?_⟩, hk⟩
  · rw [hb.block _ (Nat.lt_of_lt_of_le hb0 h.size)]; exact h.old b hb0 hd
  · intro p hp q hq e
    rcases List.mem_cons.1 hp with rfl | hp <;> rcases List.mem_cons.1 hq with rfl | hq
    · rfl
    · have := h.lt q hq; simp at e; omega
    · have := h.lt p hp; simp at e; omega
    · exact h.keys p hp q hq e
  · intro p hp
    rcases List.mem_cons.1 hp with rfl | hp
    · simp
    · have := h.lt p hp; omega
  · intro p hp b hpb
    rcases List.mem_cons.1 hp with rfl | hp
    · rw [hnew] at hpb
      have := hlt _ hpb
      have h0 := h.size
      exact ⟨this.2, .inl (by omega), fun hX => by have := h.xlt _ hX; omega⟩
    · rw [hblk' p hp] at hpb
      have := h.own p hp b hpb
      exact ⟨Nat.lt_of_lt_of_le this.1 hb.size, this.2⟩
  · intro p hp q hq b hpb hqb
    rcases List.mem_cons.1 hp with rfl | hp <;> rcases List.mem_cons.1 hq with rfl | hq
    · rfl
    · rw [hnew] at hpb; rw [hblk' q hq] at hqb; have h1 := (hlt _ hpb).1; have := (h.own q hq b hqb).1; omega
    · rw [hnew] at hqb; rw [hblk' p hp] at hpb; have h1 := (hlt _ hqb).1; have := (h.own p hp b hpb).1; omega
    · rw [hblk' p hp] at hpb; rw [hblk' q hq] at hqb; exact h.inj p hp q hq b hpb hqb
  · intro p hp
    rcases List.mem_cons.1 hp with rfl | hp
    · refine OR_row.2 ⟨xs, ?_, ?_⟩
      · simp only [if_true]
        refine ⟨hx.1, ?_⟩
        rcases hx.2 with hn | ⟨g, cap, cur, h1, h2, h3⟩
        · exact .inl hn
        · exact .inr ⟨g, cap, cur, h1, Nat.zero_le _, h3⟩
      · refine ⟨hr.1, hr.2.1, hr.2.2.1, fun i j hi hj => ?_⟩
        exact ((hr.2.2.2 i j hi hj).free rfl true).mono (fun ad u hc hno => ⟨hc, fun hn => hno ((hO _).1 hn)⟩) (fun _ _ => ⟨rfl, rfl⟩) (Nat.le_refl _)
    · have hne : p.1 ≠ nx := by have := h.lt p hp; omega
      exact OR.mono hk rfl (if_neg hne) (fun b hpb => hb.block _ (h.own p hp b hpb).1) (h.obj p hp)

theorem stpO_sound (h : SR cx σ ι ρ a w) (hs : stpO P σ o.op K) : o.wp P a w (Nx cx o a K) Q := by
  generalize ho : o.op = op at hs
  unfold stpO at hs
  split at hs
  · rename_i f args ts
    obtain ⟨vf, hf', hs⟩ := un1 h rfl hs
    split at hs
    · rename_i fid caps
      obtain ⟨vs, hl, hr, hok, hcl, e, z, rows, hcall, hk⟩ := unL_run h rfl hs
      unfold MR at hf'
      generalize hfe : a.eval f = fv at hf'
      cases hf' with
      | fn _ _ _ cvs hcl' hcr =>
        have hrun : (execOp a.eval o).run P w = .ok (.enter fid (args.map a.eval ++ cvs)) w := by
          simp [execOp, ho, resolve, hfe, Deferred.ofValue, invoke, okF_spec hok]
        have hlen : args.size = vs.length := by simp at hl; omega
        have hall := appd (w := w) (O := OO cx.X σ.mem ι ρ) (ι := ι) (ρ := ρ) (nx := σ.nx) (c := false) (xs := args.map a.eval) (ys := cvs) (by simpa using hlen) hcl' (fun i hi => by
          have := hr i hi
          simpa [List.getD, Array.getD_eq_getD_getElem?, MR] using this) hcr
        have hc := hcall w (OO cx.X σ.mem ι ρ) (args.map a.eval ++ cvs) (fun b hb => by
            rcases hb with hb | ⟨p, hp, hb⟩
            · exact Nat.lt_of_lt_of_le (h.ml.xlt b hb) h.ml.size
            · exact (h.ml.own p hp b hb).1)
          (by simp [hcl', hlen]) (fun i hi => (((hall i hi).of_cl (V.clL_getD hcl i) true).free rfl true))
        unfold Oper.wp
        rw [hrun]
        refine hc.mono ?_
        rintro en w' ⟨x, xs, rfl, hb, hox, hrx⟩
        obtain ⟨m1, m2⟩ := h.ml.adopt hb x e z rows xs hox hrx
        refine ⟨.own σ.nx, ⟨σ.env, _, _⟩, ι, _, x, hk, rfl, h.step m1 m2, ?_⟩
        have hone : x.oneCell' = true := by
          rcases hox.2 with ⟨rfl, -⟩ | ⟨g, cap, cur, rfl, -⟩ <;> rfl
        have := Rel.own (w := w') (O := OO cx.X ((σ.nx, .row e z rows) :: σ.mem) ι (fun id => if id = σ.nx then x else ρ id)) (ι := ι) (ρ := fun id => if id = σ.nx then x else ρ id) (nx := σ.nx + 1) σ.nx (by omega) (by simpa using hone)
        simpa [MR] using this
    · exact hs.elim
  · exact hs.elim

theorem pt_O {op : Op} (h : stpO P σ op K) :
    ∃ v m n, K v ⟨σ.env, m, n⟩ ∧ ∀ (env' : List (Nat × V)) (K' : V → St → Prop), sameOn σ ⟨env', σ.mem, σ.nx⟩ op → K' v ⟨env', m, n⟩ → stpO P ⟨env', σ.mem, σ.nx⟩ op K' := by
  unfold stpO at h
  split at h
  · rename_i f args ts
    obtain ⟨vf, hv, h⟩ := Pt.un _ _ _ h
    split at h
    · rename_i fid caps
      obtain ⟨vs, hvs, h1, h2, e, z, rows, h3, h4⟩ := Pt.unL _ _ _ h
      refine ⟨_, _, _, h4, fun env' K' hl hk => ?_⟩
      simp only [stpO]
      rw [hl f (by simp [Op.operands, Call.operands]), map_same (σ := σ) (σ' := ⟨env', σ.mem, σ.nx⟩) fun x hx => hl x (by simp only [Op.operands, Call.operands, Array.toList_append, List.mem_append]; exact .inr hx)]
      exact hv _ (hvs _ ⟨h1, h2, e, z, rows, h3, hk⟩)
    · exact h.elim
  · exact h.elim
end
end Go.Proofs.Ytpaielaniekdbaa
