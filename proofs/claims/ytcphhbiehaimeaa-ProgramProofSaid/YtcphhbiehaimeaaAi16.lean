/- A step hangs on its operands alone, and (some) on the call's own memory. -/
import Derived.Test.YtcphhbiehaimeaaAi15
namespace Go.Proofs.Ytcphhbiehaimeaa
open Go.RowKit
set_option linter.unusedVariables false
set_option linter.unusedSimpArgs false

/-- F comes to one value. -/
def Pt {α : Type} (F : (α → Prop) → Prop) : Prop := ∀ K, F K → ∃ v, (∀ K' : α → Prop, K' v → F K') ∧ K v

theorem Pt.bind {α β : Type} {F : (α → Prop) → Prop} {G : α → (β → Prop) → Prop} (hF : Pt F) (hG : ∀ v, Pt (G v)) : Pt fun K => F fun v => G v K := fun K h => by
  obtain ⟨v, h1, h2⟩ := hF _ h
  obtain ⟨u, h3, h4⟩ := hG v K h2
  exact ⟨u, fun K' hk => h1 _ (h3 K' hk), h4⟩
theorem Pt.ret {α : Type} (v : α) : Pt fun K : α → Prop => K v := fun K h => ⟨v, fun _ h => h, h⟩
theorem Pt.no {α : Type} : Pt fun _ : α → Prop => False := fun _ h => h.elim
theorem Pt.and {α : Type} {p : Prop} {F : (α → Prop) → Prop} (hF : Pt F) : Pt fun K => p ∧ F K := fun K h => by
  obtain ⟨v, h1, h2⟩ := hF K h.2
  exact ⟨v, fun K' hk => ⟨h.1, h1 K' hk⟩, h2⟩

theorem Pt.un (g : Option Bool) (v : V) : Pt (un g v) := fun K h => by
  unfold Proofs.Ytcphhbiehaimeaa.un at h ⊢
  split at h
  · exact ⟨_, fun K' hk => ⟨h.1, hk⟩, h.2⟩
  · exact ⟨_, fun K' hk => hk, h⟩
  · exact ⟨_, fun K' hk => hk, h⟩
theorem Pt.unL (g : Option Bool) : ∀ vs : List V, Pt (unL g vs)
  | [] => Pt.ret []
  | v :: vs => Pt.bind (F := Proofs.Ytcphhbiehaimeaa.un g v) (G := fun v' K => Proofs.Ytcphhbiehaimeaa.unL g vs fun vs' => K (v' :: vs')) (Pt.un g v) fun v' => Pt.bind (G := fun vs' K => K (v' :: vs')) (Pt.unL g vs) fun vs' => Pt.ret _
theorem Pt.pickV (t : Bool) (a b : V) : Pt (pickV t a b) := by
  unfold Proofs.Ytcphhbiehaimeaa.pickV
  split
  · exact Pt.ret _
  · exact Pt.and (Pt.ret _)
  · exact Pt.no
theorem Pt.binV (op : BinOp) (t : Bool) (fl : Option (Nat × IntKind)) (s : Bool) (a b : V) : Pt (binV op t fl s a b) := by
  unfold Proofs.Ytcphhbiehaimeaa.binV
  split <;> first | exact Pt.no | exact Pt.and (Pt.ret _) | exact Pt.and (Pt.and (Pt.ret _)) | (split <;> first | exact Pt.no | exact Pt.and (Pt.and (Pt.and (Pt.and (Pt.ret _)))))
theorem Pt.unV (op : UnOp) (a : V) : Pt (unV op a) := by
  unfold Proofs.Ytcphhbiehaimeaa.unV
  split <;> first | exact Pt.ret _ | exact Pt.no
theorem Pt.loadV (l : Option (Nat × Bool)) (m : Mem) (a : V) : Pt (loadV l m a) := by
  unfold Proofs.Ytcphhbiehaimeaa.loadV
  split
  · exact Pt.and (Pt.ret _)
  · split
    · exact Pt.and (Pt.ret _)
    · exact Pt.no
  · split
    · exact Pt.and (Pt.and (Pt.and (Pt.ret _)))
    · exact Pt.no
  · exact Pt.no
theorem Pt.idxV (s : Option (TypeId × Nat × Nat)) (ar : Option (Nat × TypeId × Nat)) (m : Mem) (x i : V) : Pt (idxV s ar m x i) := by
  unfold Proofs.Ytcphhbiehaimeaa.idxV
  repeat' split
  all_goals first | exact Pt.no | exact Pt.and (Pt.and (Pt.and (Pt.ret _))) | exact Pt.and (Pt.and (Pt.ret _))
theorem Pt.fldV (f : Option (Nat × Nat × Bool)) (x : V) : Pt (fldV f x) := by
  unfold Proofs.Ytcphhbiehaimeaa.fldV
  split <;> first | exact Pt.no | exact Pt.and (Pt.ret _)
theorem Pt.partV (l : Option (Nat × Bool)) (n : Nat) (x : V) : Pt (partV l n x) := by
  unfold Proofs.Ytcphhbiehaimeaa.partV
  split <;> first | exact Pt.no | exact Pt.and (Pt.ret _)
theorem Pt.fillV (pl : List (Nat × Nat)) : ∀ (ps : List (Nat × V)) (cs : List V), Pt (fillV pl cs ps)
  | [], cs => Pt.ret _
  | (i, v) :: ps, cs => by
    show Pt fun K => Proofs.Ytcphhbiehaimeaa.fillV pl cs ((i, v) :: ps) K
    simp only [Proofs.Ytcphhbiehaimeaa.fillV]
    split
    · exact Pt.and (Pt.and (Pt.and (Pt.fillV pl ps _)))
    · exact Pt.no
theorem Pt.buildV (z : Option (List V)) (pl : Option (List (Nat × Nat))) (ps : List (Nat × V)) : Pt (buildV z pl ps) := by
  unfold Proofs.Ytcphhbiehaimeaa.buildV
  split
  · exact Pt.and (Pt.bind (Pt.fillV _ _ _) fun v => Pt.ret _)
  · exact Pt.no
theorem Pt.rowsV (size : Nat) : ∀ (ps : List (Nat × V)) (rows : List (List V)), Pt (rowsV size rows ps)
  | [], rows => Pt.ret _
  | (i, v) :: ps, rows => by
    show Pt fun K => Proofs.Ytcphhbiehaimeaa.rowsV size rows ((i, v) :: ps) K
    simp only [Proofs.Ytcphhbiehaimeaa.rowsV]
    exact Pt.and (Pt.and (Pt.and (Pt.and (Pt.rowsV size ps _))))
theorem Pt.sliV (s : Option (TypeId × Nat × Nat)) (x : V) (lo hi : Option V) : Pt (sliV s x lo hi) := by
  unfold Proofs.Ytcphhbiehaimeaa.sliV
  split <;> first | exact Pt.no | exact Pt.and (Pt.and (Pt.and (Pt.and (Pt.ret _)))) | exact Pt.and (Pt.and (Pt.and (Pt.ret _))) | exact Pt.and (Pt.ret _)
theorem Pt.lenV (s : Option (TypeId × Nat × Nat)) (ar : Option (Nat × TypeId × Nat)) (m : Mem) (x : V) : Pt (lenV s ar m x) := by
  unfold Proofs.Ytcphhbiehaimeaa.lenV
  split
  · exact Pt.ret _
  · exact Pt.ret _
  · split
    · exact Pt.ret _
    · exact Pt.no
  · exact Pt.no

/-- Effects on the call's own memory. -/
def isEff : Op → Bool
  | .alloc _ | .box .. | .buildSlice .. | .makeSlice .. | .store .. => true
  | .call { callee := .builtin .append, .. } => true
  | _ => false
/-- What is read of the call's own memory. -/
def isRd : Op → Bool
  | .load .. => true
  | _ => false
/-- What hangs on how long the call's own slices are. -/
def isSh : Op → Bool
  | .indexAddr .. => true
  | .call { callee := .builtin .len, .. } => true
  | _ => false
def isSt : Op → Bool
  | .store .. => true
  | _ => false

def sameOn (σ σ' : St) (op : Op) : Prop := ∀ x ∈ op.operands.toList, σ'.get x = σ.get x

section
variable {P : Program} {σ : St} {K : V → St → Prop}

theorem map_same {σ σ' : St} {xs : List Operand} (h : ∀ x ∈ xs, σ'.get x = σ.get x) : xs.map σ'.get = xs.map σ.get := List.map_congr_left h

theorem idxV_look {s : Option (TypeId × Nat × Nat)} {ar : Option (Nat × TypeId × Nat)} {m m' : Mem} {x i : V} {K : V → Prop} (h : ∀ id, m'.look id = m.look id) : idxV s ar m' x i K = idxV s ar m x i K := by
  unfold idxV
  split <;> first | rfl | (simp only [h])
theorem lenV_look {s : Option (TypeId × Nat × Nat)} {ar : Option (Nat × TypeId × Nat)} {m m' : Mem} {x : V} {K : V → Prop} (h : ∀ id, m'.look id = m.look id) : lenV s ar m' x K = lenV s ar m x K := by
  unfold lenV
  split <;> first | rfl | (simp only [h])
theorem pt_stp {gb : Bool} {op : Op} (h : stp P σ (some gb) op K) :
    ∃ v, K v σ ∧ ∀ (σ' : St) (K' : V → St → Prop), sameOn σ σ' op → ((isRd op = true → ∀ id, σ'.mem.look id = σ.mem.look id) ∧ (isSh op = true → ∀ id, (shp σ'.mem).look id = (shp σ.mem).look id)) → K' v σ' → stp P σ' (some gb) op K' := by
  -- from F at the operands
  have fin : ∀ {F : (V → Prop) → Prop}, Pt F → F (fun v => K v σ) → (∀ (σ' : St) (K' : V → St → Prop), sameOn σ σ' op → ((isRd op = true → ∀ id, σ'.mem.look id = σ.mem.look id) ∧ (isSh op = true → ∀ id, (shp σ'.mem).look id = (shp σ.mem).look id)) → F (fun v => K' v σ') → stp P σ' (some gb) op K') →
      ∃ v, K v σ ∧ ∀ (σ' : St) (K' : V → St → Prop), sameOn σ σ' op → ((isRd op = true → ∀ id, σ'.mem.look id = σ.mem.look id) ∧ (isSh op = true → ∀ id, (shp σ'.mem).look id = (shp σ.mem).look id)) → K' v σ' → stp P σ' (some gb) op K' := by
    intro F hF hs hb
    obtain ⟨v, h1, h2⟩ := hF _ hs
    exact ⟨v, h2, fun σ' K' hl hm hk => hb σ' K' hl hm (h1 _ hk)⟩
  cases op
  case move x => exact fin (Pt.un _ _) h fun σ' K' hl hm hk => by simp only [stp]; rw [hl x (by simp [Op.operands])]; exact hk
  case assign x => exact fin (Pt.un _ _) h fun σ' K' hl hm hk => by simp only [stp]; rw [hl x (by simp [Op.operands])]; exact hk
  case pick c a b =>
    refine fin (F := fun K => un (some gb) (σ.get c) fun c => match c with
      | .bool t => un (some ((some gb).getD true && t)) (σ.get a) fun a => un (some ((some gb).getD true && !t)) (σ.get b) fun b => pickV t a b K
      | _ => False) (Pt.bind (Pt.un _ _) fun c => ?_) h fun σ' K' hl hm hk => ?_
    · split
      · exact Pt.bind (Pt.un _ _) fun _ => Pt.bind (Pt.un _ _) fun _ => Pt.pickV _ _ _
      · exact Pt.no
    · simp only [stp]; rw [hl c (by simp [Op.operands]), hl a (by simp [Op.operands]), hl b (by simp [Op.operands])]; exact hk
  case build T ps =>
    refine fin (F := fun K => unL (some gb) (ps.toList.map fun (p : Nat × Operand) => σ.get p.2) fun vs => buildV (zeroT P T) (plT P T) ((ps.toList.map fun (p : Nat × Operand) => p.1).zip vs) K) (Pt.bind (Pt.unL _ _) fun _ => Pt.buildV _ _ _) h fun σ' K' hl hm hk => ?_
    simp only [stp]
    rw [show (ps.toList.map fun p => σ'.get p.2) = ps.toList.map fun p => σ.get p.2 from List.map_congr_left fun p hp => hl p.2 (by simp only [Op.operands, List.mem_map]; exact ⟨p, hp, rfl⟩)]
    exact hk
  case load T x =>
    refine fin (F := fun K => un (some gb) (σ.get x) fun a => loadV (lay P T) σ.mem a K) (Pt.bind (Pt.un _ _) fun _ => Pt.loadV _ _ _) h fun σ' K' hl hm hk => ?_
    simp only [stp]; rw [hl x (by simp [Op.operands])]; simp only [loadV_look (hm.1 rfl)]; exact hk
  case binOp op T x y u =>
    refine fin (F := fun K => un (some gb) (σ.get x) fun x => un (some gb) (σ.get y) fun y => binV op (boolT P T) (flatT P T) (slT P T).isSome x y K) (Pt.bind (Pt.un _ _) fun _ => Pt.bind (Pt.un _ _) fun _ => Pt.binV _ _ _ _ _ _) h fun σ' K' hl hm hk => ?_
    simp only [stp]; rw [hl x (by simp [Op.operands]), hl y (by simp [Op.operands])]; exact hk
  case unOp op T x =>
    refine fin (F := fun K => un (some gb) (σ.get x) fun x => unV op x K) (Pt.bind (Pt.un _ _) fun _ => Pt.unV _ _) h fun σ' K' hl hm hk => ?_
    simp only [stp]; rw [hl x (by simp [Op.operands])]; exact hk
  case convert T U x =>
    refine fin (F := fun K => un (some gb) (σ.get x) fun x => match intT P T, intT P U, x with
      | some _, some k, .int _ n => K (.int k (k.wrap n))
      | _, _, _ => False) (Pt.bind (Pt.un _ _) fun _ => ?_) h fun σ' K' hl hm hk => ?_
    · split
      · exact Pt.ret _
      · exact Pt.no
    · simp only [stp]; rw [hl x (by simp [Op.operands])]; exact hk
  case makeFunc fn first caps =>
    cases fn <;> try exact h.elim
    case func f =>
      refine fin (F := fun K => first = #[] ∧ unL (some gb) (caps.toList.map σ.get) fun vs => K (.fn f vs)) (Pt.and (Pt.bind (Pt.unL _ _) fun _ => Pt.ret _)) h fun σ' K' hl hm hk => ?_
      simp only [stp]
      rw [map_same (σ := σ) (σ' := σ') fun x hx => hl x (by simp only [Op.operands, Array.toList_append, List.mem_append]; exact .inr hx)]
      exact hk
  case slice T x lo hi mx =>
    cases mx with
    | some m =>
      cases lo with
      | some l => exact h.elim
      | none =>
        cases hi with
        | none => exact h.elim
        | some hh =>
          refine fin (F := fun K => un (some gb) (σ.get x) fun x => un (some gb) (σ.get hh) fun h => un (some gb) (σ.get m) fun m => match slT P T, x, h, m with
            | some (_, c, _), .sl esz rows, .int _ h, .int _ m => c = esz ∧ h = m ∧ 0 ≤ h ∧ h ≤ rows.length ∧ K (.slc esz (rows.take h.toNat))
            | _, _, _, _ => False) (Pt.bind (Pt.un _ _) fun _ => Pt.bind (Pt.un _ _) fun _ => Pt.bind (Pt.un _ _) fun _ => ?_) h fun σ' K' hl hm hk => ?_
          · split
            · exact Pt.and (Pt.and (Pt.and (Pt.and (Pt.ret _))))
            · exact Pt.no
          · simp only [stp]; rw [hl x (by simp [Op.operands]), hl hh (by simp [Op.operands]), hl m (by simp [Op.operands])]; exact hk
    | none =>
    have e : ∀ (σ' : St), sameOn σ σ' (.slice T x lo hi none) → lo.map σ'.get = lo.map σ.get ∧ hi.map σ'.get = hi.map σ.get := fun σ' hl => by
      refine ⟨?_, ?_⟩
      · cases lo with
        | none => rfl
        | some y => simp only [Option.map_some]; rw [hl y (by simp [Op.operands])]
      · cases hi with
        | none => rfl
        | some y => simp only [Option.map_some]; rw [hl y (by simp [Op.operands])]
    simp only [stp] at h
    obtain ⟨vx, hv, h⟩ := Pt.un _ _ _ h
    split at h
    · split at h
      · obtain ⟨h, -⟩ := h; cases h
      · exact h.elim
    · rename_i es n e' c har
      obtain ⟨h1, h2, h3, h4, h5, hk⟩ := h
      refine ⟨_, hk, fun σ' K' hl hm hk' => ?_⟩
      simp only [stp]
      rw [hl x (by simp [Op.operands])]
      refine hv _ ?_
      simp only [har]
      exact ⟨h1, h2, h3, h4, h5, hk'⟩
    · rename_i hn1 hn2
      obtain ⟨v, h1, h2⟩ := Pt.sliV _ _ _ _ _ h
      refine ⟨v, h2, fun σ' K' hl hm hk' => ?_⟩
      simp only [stp]
      rw [hl x (by simp [Op.operands]), (e σ' hl).1, (e σ' hl).2]
      refine hv _ ?_
      split
      · rename_i id n e' c har; exact (hn1 _ _ _ _ rfl har).elim
      · rename_i es n e' c har; exact (hn2 _ _ _ _ rfl har).elim
      · exact h1 _ hk'
  case fieldAddr S x f =>
    refine fin (F := fun K => un (some gb) (σ.get x) fun x => fldV (stT P S f) x K) (Pt.bind (Pt.un _ _) fun _ => Pt.fldV _ _) h fun σ' K' hl hm hk => ?_
    simp only [stp]; rw [hl x (by simp [Op.operands])]; exact hk
  case field S x f =>
    refine fin (F := fun K => un (some gb) (σ.get x) fun x => match stT P S f with
      | some (off, c, ag) => partV (some (c, ag)) off x K
      | none => False) (Pt.bind (Pt.un _ _) fun _ => ?_) h fun σ' K' hl hm hk => ?_
    · split
      · exact Pt.partV _ _ _
      · exact Pt.no
    · simp only [stp]; rw [hl x (by simp [Op.operands])]; exact hk
  case indexAddr T x i =>
    refine fin (F := fun K => un (some gb) (σ.get x) fun x => un (some gb) (σ.get i) fun i => idxV (slT P T) (arT P T) (shp σ.mem) x i K) (Pt.bind (Pt.un _ _) fun _ => Pt.bind (Pt.un _ _) fun _ => Pt.idxV _ _ _ _ _) h fun σ' K' hl hm hk => ?_
    simp only [stp]; rw [hl x (by simp [Op.operands]), hl i (by simp [Op.operands])]; simp only [idxV_look (hm.2 rfl)]; exact hk
  case index T x i =>
    refine fin (F := fun K => un (some gb) (σ.get x) fun x => un (some gb) (σ.get i) fun i => match arT P T, i with
      | some (len, e, c), .int _ n => 0 ≤ n ∧ n < len ∧ partV (lay P e) (n.toNat * c) x K
      | _, _ => False) (Pt.bind (Pt.un _ _) fun _ => Pt.bind (Pt.un _ _) fun _ => ?_) h fun σ' K' hl hm hk => ?_
    · split
      · exact Pt.and (Pt.and (Pt.partV _ _ _))
      · exact Pt.no
    · simp only [stp]; rw [hl x (by simp [Op.operands]), hl i (by simp [Op.operands])]; exact hk
  case extract x i =>
    refine fin (F := fun K => un (some gb) (σ.get x) fun t => match t with
      | .tup vs => i < vs.length ∧ K (vs.getD i .any)
      | _ => False) (Pt.bind (Pt.un _ _) fun _ => ?_) h fun σ' K' hl hm hk => ?_
    · split
      · exact Pt.and (Pt.ret _)
      · exact Pt.no
    · simp only [stp]; rw [hl x (by simp [Op.operands])]; exact hk
  case alloc => simp only [stp] at h; cases h.1
  case box => simp only [stp] at h; cases h.1
  case buildSlice T len ps =>
    simp only [stp] at h
    split at h
    · rename_i e z by' hT
      split at h
      · rename_i zs hz
        obtain ⟨h1, h2, h3, h4, h5, h⟩ := h
        obtain ⟨vs, hvs, h⟩ := Pt.unL _ _ _ h
        obtain ⟨rows, hrows, h⟩ := Pt.rowsV _ _ _ _ h
        rcases h with ⟨h, -⟩ | h | h
        · cases h
        · refine ⟨_, h, fun σ' K' hl hm hk => ?_⟩
          simp only [stp, hT, hz]
          rw [show (ps.toList.map fun p => σ'.get p.2) = ps.toList.map fun p => σ.get p.2 from List.map_congr_left fun p hp => hl p.2 (by simp only [Op.operands, List.mem_map]; exact ⟨p, hp, rfl⟩)]
          exact ⟨h1, h2, h3, h4, h5, hvs _ (hrows _ (.inr (.inl hk)))⟩
        · refine ⟨_, h, fun σ' K' hl hm hk => ?_⟩
          simp only [stp, hT, hz]
          rw [show (ps.toList.map fun p => σ'.get p.2) = ps.toList.map fun p => σ.get p.2 from List.map_congr_left fun p hp => hl p.2 (by simp only [Op.operands, List.mem_map]; exact ⟨p, hp, rfl⟩)]
          exact ⟨h1, h2, h3, h4, h5, hvs _ (hrows _ (.inr (.inr hk)))⟩
      · exact h.elim
    · exact h.elim
  case store => simp only [stp] at h; cases h.1
  case makeSlice => simp only [stp] at h; cases h.1
  case call c =>
    obtain ⟨callee, args, ts⟩ := c
    cases callee with
    | value f =>
      simp only [stp] at h
      obtain ⟨vf, hv, h⟩ := Pt.un _ _ _ h
      split at h
      · rename_i fid caps
        obtain ⟨vs, hvs, h1, h2, r, h3, h4⟩ := Pt.unL _ _ _ h
        refine ⟨r, h4, fun σ' K' hl hm hk => ?_⟩
        simp only [stp]
        rw [hl f (by simp [Op.operands, Call.operands]), map_same (σ := σ) (σ' := σ') fun x hx => hl x (by simp only [Op.operands, Call.operands, Array.toList_append, List.mem_append]; exact .inr hx)]
        exact hv _ (hvs _ ⟨h1, h2, r, h3, hk⟩)
      · exact h.elim
    | invoke r m => exact h.elim
    | builtin b =>
      cases b <;> try exact h.elim
      case append =>
        simp only [stp] at h
        split at h
        · cases h.1
        · exact h.elim
      case len =>
        have h0 := h
        simp only [stp] at h
        split at h
        · rename_i x t hx ht
          obtain ⟨v, hv, h⟩ := Pt.un _ _ _ h
          obtain ⟨u, hu, h⟩ := Pt.lenV _ _ _ _ _ h
          refine ⟨u, h, fun σ' K' hl hm hk => ?_⟩
          simp only [stp, hx, ht]
          rw [hl x (by simp [Op.operands, Call.operands, hx])]
          simp only [lenV_look (hm.2 rfl)]
          exact hv _ (hu _ hk)
        · exact h.elim
      all_goals
        simp only [stp] at h
        split at h
        · rename_i x y hx
          obtain ⟨v, hv, h⟩ := Pt.un _ _ _ h
          obtain ⟨u, hu, h⟩ := Pt.un _ _ _ h
          split at h
          · refine ⟨_, h, fun σ' K' hl hm hk => ?_⟩
            simp only [stp, hx]
            rw [hl x (by simp [Op.operands, Call.operands, hx]), hl y (by simp [Op.operands, Call.operands, hx])]
            exact hv _ (hu _ hk)
          · exact h.elim
        · exact h.elim
  all_goals exact h.elim

theorem stp_free {gb : Bool} {op : Op} {e : List (Nat × V)} {m : Mem} {n : Nat} {K : V → Prop} (h : stp P ⟨e, [], n⟩ (some gb) op fun v _ => K v) : stp P ⟨e, m, n⟩ (some gb) op fun v _ => K v := by
  have hg : ∀ x, (⟨e, m, n⟩ : St).get x = (⟨e, [], n⟩ : St).get x := fun x => by cases x <;> rfl
  by_cases hr : (isRd op || isSh op) = true
  · cases op <;> try (simp only [isRd, isSh] at hr; cases hr; done)
    case load T x =>
      simp only [stp] at h ⊢
      obtain ⟨v, hv, h⟩ := Pt.un _ _ _ h
      rw [hg x]
      refine hv _ ?_
      unfold loadV at h ⊢
      split at h
      · exact h
      · exact h.elim
      · exact h.elim
      · exact h.elim
    case indexAddr T x i =>
      simp only [stp] at h ⊢
      obtain ⟨v, hv, h⟩ := Pt.un _ _ _ h
      obtain ⟨u, hu, h⟩ := Pt.un _ _ _ h
      rw [hg x, hg i]
      refine hv _ (hu _ ?_)
      unfold idxV at h ⊢
      split at h
      · exact h
      · exact h
      · exact h
      · split at h
        · exact h.elim
        · exact h.elim
      · exact h.elim
    case call c =>
      obtain ⟨callee, args, ts⟩ := c
      cases callee with
      | value f => simp only [isRd, isSh] at hr; cases hr
      | invoke r m => simp only [isRd, isSh] at hr; cases hr
      | builtin b =>
        cases b <;> try (simp only [isRd, isSh] at hr; cases hr; done)
        case len =>
          simp only [stp] at h ⊢
          split at h
          · rename_i x t hx ht
            obtain ⟨v, hv, h⟩ := Pt.un _ _ _ h
            rw [hg x]
            refine hv _ ?_
            unfold lenV at h ⊢
            split at h
            · exact h
            · exact h
            · exact h.elim
            · exact h.elim
          · exact h.elim
  · obtain ⟨v, hk, hb⟩ := pt_stp h
    exact hb _ _ (fun x _ => hg x) ⟨fun e => (hr (by rw [e]; rfl)).elim, fun e => (hr (by rw [e, Bool.or_true])).elim⟩ hk

theorem stp_csh {gb : Bool} {op : Op} {e : List (Nat × V)} {m : Mem} {n : Nat} {K : V → Prop} (hr : isRd op = true) (h : stp P ⟨e, csh m, n⟩ (some gb) op fun v _ => K v) : stp P ⟨e, m, n⟩ (some gb) op fun v _ => K v := by
  have hg : ∀ x, (⟨e, m, n⟩ : St).get x = (⟨e, csh m, n⟩ : St).get x := fun x => by cases x <;> rfl
  cases op <;> try (simp only [isRd] at hr; cases hr; done)
  case load T x =>
    simp only [stp] at h ⊢
    obtain ⟨v, hv, h⟩ := Pt.un _ _ _ h
    rw [hg x]
    exact hv _ (loadV_csh h)
/-- A store into a slice of the call's own. -/
def isRpS (σ : St) : Op → Bool
  | .store _ a _ => match σ.get a with
    | .rp _ _ _ _ => true
    | _ => false
  | _ => false
theorem shp_store {mem : Mem} {id : Nat} {o o' : AObj} (hl : mem.look id = some o) (ho : o'.shp = o.shp) (k : Nat) : (shp (mem.map fun p => if p.1 = id then (id, o') else p)).look k = (shp mem).look k := by
  rw [shp_look, shp_look]
  by_cases hk : k = id
  · subst hk
    have : (Mem.look (mem.map fun p => if p.1 = k then (k, o') else p) k) = some o' := by
      induction mem with
      | nil => simp [Mem.look] at hl
      | cons p m ih =>
        obtain ⟨i, q⟩ := p
        by_cases e : i = k
        · subst e; simp [Mem.look]
        · have : Mem.look m k = some o := by simpa [Mem.look, e] using hl
          simpa [Mem.look, e] using ih this
    rw [this, hl]; simp [ho]
  · have : (Mem.look (mem.map fun p => if p.1 = id then (id, o') else p) k) = mem.look k := by
      clear hl
      induction mem with
      | nil => rfl
      | cons p m ih =>
        obtain ⟨i, q⟩ := p
        by_cases e : i = id
        · subst e; simpa [Mem.look, Ne.symm hk] using ih
        · by_cases e2 : i = k
          · subst e2; simp [Mem.look, e]
          · simpa [Mem.look, e, e2] using ih
    rw [this]

theorem pt_eff0 {op : Op} (he : isEff op = true) (h : stp P σ none op K) :
    ∃ v m n, K v ⟨σ.env, m, n⟩ ∧ ∀ (env' : List (Nat × V)) (K' : V → St → Prop), sameOn σ ⟨env', σ.mem, σ.nx⟩ op → K' v ⟨env', m, n⟩ → stp P ⟨env', σ.mem, σ.nx⟩ none op K' := by
  cases op <;> try (simp only [isEff] at he; cases he; done)
  case alloc T =>
    simp only [stp] at h
    obtain ⟨-, h⟩ := h
    split at h
    · rename_i cs hz
      refine ⟨_, _, _, h.2, fun env' K' hl hk => ?_⟩
      simp only [stp, hz]
      exact ⟨trivial, h.1, hk⟩
    · exact h.elim
  case box T x =>
    simp only [stp] at h
    obtain ⟨-, h⟩ := h
    obtain ⟨v, hv, h1, h2⟩ := Pt.un _ _ _ h
    refine ⟨_, _, _, h2, fun env' K' hl hk => ?_⟩
    simp only [stp]
    rw [hl x (by simp [Op.operands])]
    exact ⟨trivial, hv _ ⟨h1, hk⟩⟩
  case buildSlice T len ps =>
    simp only [stp] at h
    split at h
    · rename_i e z by' hT
      split at h
      · rename_i zs hz
        obtain ⟨h1, h2, h3, h4, h5, h⟩ := h
        obtain ⟨vs, hvs, h⟩ := Pt.unL _ _ _ h
        obtain ⟨rows, hrows, h⟩ := Pt.rowsV _ _ _ _ h
        rcases h with ⟨-, h⟩ | h | h
        · refine ⟨_, _, _, h, fun env' K' hl hk => ?_⟩
          simp only [stp, hT, hz]
          rw [show (ps.toList.map fun p => (⟨env', σ.mem, σ.nx⟩ : St).get p.2) = ps.toList.map fun p => σ.get p.2 from List.map_congr_left fun p hp => hl p.2 (by simp only [Op.operands, List.mem_map]; exact ⟨p, hp, rfl⟩)]
          exact ⟨h1, h2, h3, h4, h5, hvs _ (hrows _ (.inl ⟨trivial, hk⟩))⟩
        · refine ⟨_, _, _, h, fun env' K' hl hk => ?_⟩
          simp only [stp, hT, hz]
          rw [show (ps.toList.map fun p => (⟨env', σ.mem, σ.nx⟩ : St).get p.2) = ps.toList.map fun p => σ.get p.2 from List.map_congr_left fun p hp => hl p.2 (by simp only [Op.operands, List.mem_map]; exact ⟨p, hp, rfl⟩)]
          exact ⟨h1, h2, h3, h4, h5, hvs _ (hrows _ (.inr (.inl hk)))⟩
        · refine ⟨_, _, _, h, fun env' K' hl hk => ?_⟩
          simp only [stp, hT, hz]
          rw [show (ps.toList.map fun p => (⟨env', σ.mem, σ.nx⟩ : St).get p.2) = ps.toList.map fun p => σ.get p.2 from List.map_congr_left fun p hp => hl p.2 (by simp only [Op.operands, List.mem_map]; exact ⟨p, hp, rfl⟩)]
          exact ⟨h1, h2, h3, h4, h5, hvs _ (hrows _ (.inr (.inr hk)))⟩
      · exact h.elim
    · exact h.elim
  case makeSlice T l c =>
    simp only [stp] at h
    obtain ⟨-, rfl, h⟩ := h
    obtain ⟨vn, hv, h⟩ := Pt.un _ _ _ h
    split at h
    · rename_i e z by' k n hT
      split at h
      · rename_i zs hz
        obtain ⟨h1, h2, h3, h4, h5, h6, h7, h⟩ := h
        refine ⟨_, _, _, h, fun env' K' hl hk => ?_⟩
        simp only [stp, hT]
        rw [hl l (by simp [Op.operands])]
        refine ⟨trivial, trivial, hv _ ?_⟩
        simp only [hz]
        exact ⟨h1, h2, h3, h4, h5, h6, h7, hk⟩
      · exact h.elim
    · exact h.elim
  case store T x y =>
    simp only [stp] at h
    obtain ⟨-, h⟩ := h
    obtain ⟨v, hv, h⟩ := Pt.un _ _ _ h
    obtain ⟨u, hu, h⟩ := Pt.un _ _ _ h
    split at h
    · rename_i n ag id off hl0 hvx
      split at h
      · rename_i cs hcs
        obtain ⟨h1, h2, h3, h⟩ := h
        refine ⟨_, _, _, h, fun env' K' hl hk => ?_⟩
        simp only [stp]
        rw [hl x (by simp [Op.operands]), hl y (by simp [Op.operands])]
        refine ⟨trivial, hv _ (hu _ ?_)⟩
        simp only [hl0, hcs]
        exact ⟨h1, h2, h3, hk⟩
      · exact h.elim
    · rename_i n ag id z i j hl0 hvx
      split at h
      · rename_i e z' rows hcs
        obtain ⟨h1, h2, h3, h4, h5, h6, h⟩ := h
        refine ⟨_, _, _, h, fun env' K' hl hk => ?_⟩
        simp only [stp]
        rw [hl x (by simp [Op.operands]), hl y (by simp [Op.operands])]
        refine ⟨trivial, hv _ (hu _ ?_)⟩
        simp only [hl0, hcs]
        exact ⟨h1, h2, h3, h4, h5, h6, hk⟩
      · exact h.elim
    · exact h.elim
  case call c =>
    obtain ⟨callee, args, ts⟩ := c
    cases callee with
    | value f => simp only [isEff] at he; cases he
    | invoke r m => simp only [isEff] at he; cases he
    | builtin b =>
      cases b <;> try (simp only [isEff] at he; cases he; done)
      case append =>
        simp only [stp] at h
        split at h
        · rename_i s x t t' hx ht
          obtain ⟨-, h0, h⟩ := h
          obtain ⟨v, hv, h⟩ := Pt.un _ _ _ h
          obtain ⟨u, hu, h⟩ := Pt.un _ _ _ h
          have key : ∃ y m n, K y ⟨σ.env, m, n⟩ ∧ ∀ (env' : List (Nat × V)) (K' : V → St → Prop), K' y ⟨env', m, n⟩ → appV P t ⟨env', σ.mem, σ.nx⟩ v u K' := by
            unfold appV at h ⊢
            split at h
            · rename_i e z bytes hT
              obtain ⟨h1, h2, h3, h⟩ := h
              split at h
              · rename_i rows' hr
                split at h
                · obtain ⟨h4, h⟩ := h
                  exact ⟨_, _, _, h, fun env' K' hk => ⟨h1, h2, h3, by simp only [hr]; exact ⟨h4, hk⟩⟩⟩
                · rename_i id
                  split at h
                  · rename_i e' z' rows hl
                    obtain ⟨h4, h5, h6, h⟩ := h
                    exact ⟨_, _, _, h, fun env' K' hk => ⟨h1, h2, h3, by simp only [hr, hl]; exact ⟨h4, h5, h6, hk⟩⟩⟩
                  · exact h.elim
                · obtain ⟨h4, h5, h6, h⟩ := h
                  exact ⟨_, _, _, h, fun env' K' hk => ⟨h1, h2, h3, by simp only [hr]; exact ⟨h4, h5, h6, hk⟩⟩⟩
                · exact h.elim
              · exact h.elim
            · exact h.elim
          obtain ⟨y, m, n, hk, hb⟩ := key
          refine ⟨y, m, n, hk, fun env' K' hl hk' => ?_⟩
          simp only [stp, hx, ht]
          rw [hl s (by simp [Op.operands, Call.operands, hx]), hl x (by simp [Op.operands, Call.operands, hx])]
          exact ⟨trivial, h0, hv _ (hu _ (hb _ _ hk'))⟩
        · exact h.elim


end

section
variable {P : Program} {σ : St} {K : V → St → Prop}
theorem pt_eff {op : Op} (he : isEff op = true) (h : stp P σ none op K) :
    ∃ v m n, K v ⟨σ.env, m, n⟩ ∧ (∀ (env' : List (Nat × V)) (K' : V → St → Prop), sameOn σ ⟨env', σ.mem, σ.nx⟩ op → K' v ⟨env', m, n⟩ → stp P ⟨env', σ.mem, σ.nx⟩ none op K') ∧
      (isSt op = true → isRpS σ op = true → ∀ id, (shp m).look id = (shp σ.mem).look id) := by
  by_cases hs : isSt op = true
  · cases op <;> try (simp only [isSt] at hs; cases hs; done)
    case store T x y =>
      simp only [stp] at h
      obtain ⟨-, h⟩ := h
      obtain ⟨v, hv, h⟩ := Pt.un _ _ _ h
      obtain ⟨u, hu, h⟩ := Pt.un _ _ _ h
      split at h
      · rename_i n ag id off hl0 hvx
        split at h
        · rename_i cs hcs
          obtain ⟨h1, h2, h3, h⟩ := h
          refine ⟨_, _, _, h, fun env' K' hl hk => ?_, fun _ hrp k => ?_⟩
          rotate_left 1
          · exfalso
            have h0 := hv (fun u => u = V.ptr id off) rfl
            simp only [isRpS] at hrp
            split at hrp
            · rename_i hg; rw [hg] at h0; simp [un] at h0
            · cases hrp
          simp only [stp]
          rw [hl x (by simp [Op.operands]), hl y (by simp [Op.operands])]
          refine ⟨trivial, hv _ (hu _ ?_)⟩
          simp only [hl0, hcs]
          exact ⟨h1, h2, h3, hk⟩
        · exact h.elim
      · rename_i n ag id z i j hl0 hvx
        split at h
        · rename_i e z' rows hcs
          obtain ⟨h1, h2, h3, h4, h5, h6, h⟩ := h
          refine ⟨_, _, _, h, fun env' K' hl hk => ?_, fun _ _ k => shp_store (o' := .row e z (rows.set i (spl (rows.getD i []) j u.parts))) hcs (by subst h1; simp [AObj.shp]) k⟩
          simp only [stp]
          rw [hl x (by simp [Op.operands]), hl y (by simp [Op.operands])]
          refine ⟨trivial, hv _ (hu _ ?_)⟩
          simp only [hl0, hcs]
          exact ⟨h1, h2, h3, h4, h5, h6, hk⟩
        · exact h.elim
      · exact h.elim
  · obtain ⟨v, m, n, h1, h2⟩ := pt_eff0 he h
    exact ⟨v, m, n, h1, h2, fun e => (hs e).elim⟩
end
section
variable {P : Program} {cx : Cx} {σ : St} {ι : Nat → Nat} {ρ : Nat → Value} {a : Act} {w : World} {K : V → St → Prop} {Q : Exit → Act → World → Prop} {o : Oper}

theorem pt_O {op : Op} (h : stpO P σ op K) :
    ∃ v m n, K v ⟨σ.env, m, n⟩ ∧ ∀ (env' : List (Nat × V)) (K' : V → St → Prop), sameOn σ ⟨env', σ.mem, σ.nx⟩ op → K' v ⟨env', m, n⟩ → stpO P ⟨env', σ.mem, σ.nx⟩ op K' := by
  unfold stpO at h
  split at h
  · rename_i f args ts
    obtain ⟨vf, hv, h⟩ := Pt.un _ _ _ h
    split at h
    · rename_i fid caps
      obtain ⟨vs, hvs, h1, h2, e, z, rows, h3, h4⟩ := Pt.unL _ _ _ h
      refine ⟨_, _, _, h4, fun env' K' hl hk => ?_⟩
      simp only [stpO]
      rw [hl f (by simp [Op.operands, Call.operands]), map_same (σ := σ) (σ' := ⟨env', σ.mem, σ.nx⟩) fun x hx => hl x (by simp only [Op.operands, Call.operands, Array.toList_append, List.mem_append]; exact .inr hx)]
      exact hv _ (hvs _ ⟨h1, h2, e, z, rows, h3, hk⟩)
    · exact h.elim
  · exact h.elim
theorem pt_M {op : Op} (h : stpM P σ op K) :
    ∃ v m n, K v ⟨σ.env, m, n⟩ ∧ ∀ (env' : List (Nat × V)) (K' : V → St → Prop), sameOn σ ⟨env', σ.mem, σ.nx⟩ op → K' v ⟨env', m, n⟩ → stpM P ⟨env', σ.mem, σ.nx⟩ op K' := by
  unfold stpM at h
  split at h
  · rename_i f args ts
    obtain ⟨vf, hv, h⟩ := Pt.un _ _ _ h
    split at h
    · rename_i fid caps
      obtain ⟨vs, hvs, h1, js, r, mem', k', h3, h4, h5, h6, h7, h8, h9, h10⟩ := Pt.unL _ _ _ h
      refine ⟨_, _, _, h10, fun env' K' hl hk => ?_⟩
      simp only [stpM]
      rw [hl f (by simp [Op.operands, Call.operands]), map_same (σ := σ) (σ' := ⟨env', σ.mem, σ.nx⟩) fun x hx => hl x (by simp only [Op.operands, Call.operands, Array.toList_append, List.mem_append]; exact .inr hx)]
      exact hv _ (hvs _ ⟨h1, js, r, mem', k', h3, h4, h5, h6, h7, h8, h9, hk⟩)
    · exact h.elim
  · exact h.elim

theorem pt_X {op : Op} (h : stpX P σ op K) :
    ∃ v m n, K v ⟨σ.env, m, n⟩ ∧ ∀ (env' : List (Nat × V)) (K' : V → St → Prop), sameOn σ ⟨env', σ.mem, σ.nx⟩ op → K' v ⟨env', m, n⟩ → stpX P ⟨env', σ.mem, σ.nx⟩ op K' := by
  rcases h with h | h
  · obtain ⟨v, m, n, h1, h2⟩ := pt_O h
    exact ⟨v, m, n, h1, fun env' K' hl hk => .inl (h2 env' K' hl hk)⟩
  · obtain ⟨v, m, n, h1, h2⟩ := pt_M h
    exact ⟨v, m, n, h1, fun env' K' hl hk => .inr (h2 env' K' hl hk)⟩
end
end Go.Proofs.Ytcphhbiehaimeaa
