/- The steps of a walk: memory and calls. -/
import Derived.Test.YtcphhbiehaimeaaAi3
namespace Go.Proofs.Ytcphhbiehaimeaa
open Go.RowKit
set_option linter.unusedVariables false
set_option linter.unusedSimpArgs false

theorem addr_add (b off j : Nat) : (⟨b, off, none⟩ : Addr).add j = ⟨b, off + j, none⟩ := by unfold Addr.add; split <;> simp_all

section
variable {P : Program} {w : World} {O : Nat → Prop} {ι : Nat → Nat} {ρ : Nat → Value} {nx : Nat}

theorem lay_spec {t : TypeId} {n : Nat} {ag : Bool} (h : lay P t = some (n, ag)) :
    (isAgg t).run P w = .ok ag w ∧ (sizeOf t).run P w = .ok n w ∧ (ag = false → n = 1) := by
  unfold lay at h
  split at h
  · rename_i i fs hi hu; simp at h; obtain ⟨rfl, rfl⟩ := h; exact ⟨by simp [isAgg, run_underlying hu], by simp [sizeOf, typeInfo, hi], by simp⟩
  · rename_i i k e hi hu; simp at h; obtain ⟨rfl, rfl⟩ := h; exact ⟨by simp [isAgg, run_underlying hu], by simp [sizeOf, typeInfo, hi], by simp⟩
  · rename_i i d hd1 hd2 hi hu
    split at h
    · rename_i h1; simp at h; obtain ⟨rfl, rfl⟩ := h
      refine ⟨?_, by simp [sizeOf, typeInfo, hi, h1], by simp⟩
      simp only [isAgg, Sem.run_bind, run_underlying hu, Result.andThen_ok]
      cases d <;> first | rfl | exact absurd rfl (hd1 _) | exact absurd rfl (hd2 _ _)
    · cases h
  · cases h

theorem run_loadVar_win {t : TypeId} {n : Nat} {ag : Bool} (hl : lay P t = some (n, ag)) {b off : Nat} {xs : Nat → Value}
    (h : ∀ j, j < n → w.cell? ⟨b, off + j, none⟩ = some (xs j)) :
    (loadVar t ⟨b, off, none⟩).run P w = .ok (if ag then .agg ((List.range n).map xs).toArray else xs 0) w := by
  obtain ⟨h1, h2, h3⟩ := lay_spec (w := w) hl
  simp only [loadVar, Sem.run_bind, h1, Result.andThen_ok]
  cases ag with
  | true =>
    simp only [if_true, Sem.run_bind, h2, Result.andThen_ok]
    rw [run_loadCells w _ n xs (fun j hj => by rw [addr_add]; exact h j hj)]
    rfl
  | false =>
    have := h 0 (by rw [h3 rfl]; omega)
    simp only [Nat.add_zero] at this
    simp [this]

/-- What a load of n cells gives, out of a window of cells. -/
def winV (ag : Bool) (n : Nat) (es : List V) : V := if ag then .agg (es.take n) else es.getD 0 .any

theorem winV_sound {c : Bool} {t : TypeId} {n : Nat} {ag : Bool} (hl : lay P t = some (n, ag)) {b off : Nat} {es : List V} (hn : n ≤ es.length) {xs : Nat → Value}
    (hs : ∀ j, j < es.length → (es.getD j .any).sc = true) (hx : ∀ j, j < es.length → w.cell? ⟨b, off + j, none⟩ = some (xs j)) (h : ∀ j, j < es.length → Rel w O ι ρ nx c (es.getD j .any) (xs j)) :
    ∃ x, (loadVar t ⟨b, off, none⟩).run P w = .ok x w ∧ Rel w O ι ρ nx c (winV ag n es) x := by
  refine ⟨_, run_loadVar_win hl fun j hj => hx j (by omega), ?_⟩
  unfold winV
  cases ag with
  | true =>
    simp only [if_true]
    refine .agg _ _ _ (by simp; omega) (fun i hi => ?_) (fun i hi => ?_)
    · have hi' : i < n := by simp at hi; omega
      have := hs i (by omega)
      simpa [List.getD, List.getElem?_take, hi'] using this
    · have hi' : i < n := by simp at hi; omega
      have := h i (by omega)
      have e1 : (es.take n).getD i .any = es.getD i .any := by simp [List.getD, List.getElem?_take, hi']
      have e2 : ((List.range n).map xs).toArray.getD i undef = xs i := by simp [Array.getD, hi']
      rw [e1, e2]; exact this
  | false =>
    have h1 := (lay_spec (w := w) hl).2.2 rfl
    exact h 0 (by omega)

end

/-- The step came to x in w', and to what K asks. -/
def Good (cx : Cx) (mem : Mem) (nx : Nat) (ι : Nat → Nat) (ρ : Nat → Value) (w : World) (K : V → Mem → Nat → Prop) (x : Value) (w' : World) : Prop :=
  ∃ v mem' nx' ι' ρ', K v mem' nx' ∧ ML cx mem' nx' ι' ρ' w' ∧ Kp cx mem nx ι ρ w mem' nx' ι' ρ' w' ∧ MR cx mem' nx' ι' ρ' w' v x

section
variable {P : Program} {cx : Cx} {mem : Mem} {nx : Nat} {ι : Nat → Nat} {ρ : Nat → Value} {w : World} {K : V → Mem → Nat → Prop}

theorem Kp.refl : Kp cx mem nx ι ρ w mem nx ι ρ w := fun _ _ _ h => h
theorem Kp.trans {m1 m2 : Mem} {n1 n2 : Nat} {i1 i2 : Nat → Nat} {r1 r2 : Nat → Value} {w1 w2 : World} (h : Kp cx mem nx ι ρ w m1 n1 i1 r1 w1) (k : Kp cx m1 n1 i1 r1 w1 m2 n2 i2 r2 w2) :
    Kp cx mem nx ι ρ w m2 n2 i2 r2 w2 := fun c v x hr => k c v x (h c v x hr)

theorem Good.pure (h : ML cx mem nx ι ρ w) {v : V} {x : Value} (hk : K v mem nx) (hr : MR cx mem nx ι ρ w v x) : Good cx mem nx ι ρ w K x w :=
  ⟨v, mem, nx, ι, ρ, hk, h, .refl, hr⟩

def Mem.look (mem : Mem) (id : Nat) : Option AObj := (mem.find? (·.1 = id)).map (·.2)
theorem Mem.look_mem {mem : Mem} {id : Nat} {o : AObj} (h : mem.look id = some o) : (id, o) ∈ mem := by
  unfold Mem.look at h
  cases hf : mem.find? (·.1 = id) with
  | none => simp [hf] at h
  | some p =>
    simp [hf] at h
    have h1 := List.find?_some hf
    have h2 := List.mem_of_find?_eq_some hf
    simp at h1
    subst h1; subst h
    exact h2

/-! #### load -/
def loadV (l : Option (Nat × Bool)) (mem : Mem) (a : V) (K : V → Prop) : Prop :=
  match l, a with
  | some (n, ag), .ep es => n ≤ es.length ∧ K (winV ag n es)
  | some (n, ag), .ptr id off =>
    match mem.look id with
    | some (.cells cs) => off + n ≤ cs.length ∧ K (winV ag n (cs.drop off))
    | _ => False
  | some (n, ag), .rp id z i j =>
    match mem.look id with
    | some (.row _ z' rows) => z' = z ∧ i < rows.length ∧ j + n ≤ z ∧ K (winV ag n ((rows.getD i []).drop j))
    | _ => False
  | _, _ => False

theorem loadV_sound (hml : ML cx mem nx ι ρ w) {t : TypeId} {a : V} {x : Value} {K : V → Prop} (h : loadV (lay P t) mem a K) (ha : MR cx mem nx ι ρ w a x) :
    ∃ v y, (Instr.loadAt t x).run P w = .ok y w ∧ MR cx mem nx ι ρ w v y ∧ K v := by
  unfold loadV at h
  split at h
  · rename_i n ag es hl
    unfold MR at ha
    cases ha with
    | ep _ _ b off xs hs hx hr =>
      obtain ⟨y, h1, h2⟩ := winV_sound (c := false) hl h.1 hs (fun j hj => (hx j hj).1) (fun j hj => (hr j hj).free rfl false)
      exact ⟨_, y, by simp [Instr.loadAt, Instr.sureAddr, h1], h2, h.2⟩
  · rename_i n ag id off hl
    split at h
    · rename_i cs hlook
      unfold MR at ha
      cases ha with
      | ptr _ _ hid =>
        obtain ⟨vals, e, h1, h2, h3, h4⟩ := hml.obj _ (Mem.look_mem hlook)
        have e1 : ∀ j, (cs.drop off).getD j .any = cs.getD (off + j) .any := fun j => by simp [List.getD]
        obtain ⟨y, h5, h6⟩ := winV_sound (P := P) (w := w) (O := OO cx.X mem ι ρ) (ι := ι) (ρ := ρ) (nx := nx) (c := false) (t := t) (b := ι id) (off := off) (xs := fun j => vals.getD (off + j) undef) hl
          (es := cs.drop off) (by simp; omega) (fun j hj => by rw [e1]; exact h3 _ (by simp at hj; omega))
          (fun j hj => by rw [cell_of_row w _ _ _ _ _ h1]; simp at hj; simp [Array.getD, show off + j < vals.size by omega])
          (fun j hj => by rw [e1]; exact h4 _ (by simp at hj; omega))
        exact ⟨_, y, by simp [Instr.loadAt, Instr.sureAddr, h5], h6, h.2⟩
    · exact h.elim
  · rename_i n ag id z i j hl
    split at h
    · rename_i e z' rows hlook
      obtain ⟨rfl, hi, hj, hk⟩ := h
      unfold MR at ha
      cases ha with
      | rp _ _ _ _ b hid hb =>
        obtain ⟨xs, ho, hz, hsc, hrel⟩ := hml.obj _ (Mem.look_mem hlook)
        rcases ho.2 with ⟨h1, h2⟩ | ⟨g, cap, cur, h1, -, hg, hle, hcm, hcs, htk⟩
        · rw [h1] at hb; cases hb
        · rw [h1] at hb
          have : g = b := by simpa [Value.ownBlock] using hb
          subst this
          have hlen := hz i hi
          have e1 : ∀ k, ((rows.getD i []).drop j).getD k .any = (rows.getD i []).getD (j + k) .any := fun k => by simp [List.getD]
          have hcell : ∀ k, k < z' → w.cell? ⟨g, i * z' + k, none⟩ = some (xs.getD (i * z' + k) undef) := fun k hk => by
            have hlt : i * z' + k < rows.length * z' := by
              have : (i + 1) * z' ≤ rows.length * z' := Nat.mul_le_mul_right _ hi
              rw [Nat.succ_mul] at this; omega
            rw [cell_of_row w _ _ _ _ _ hg]
            have hx : xs[i * z' + k]? = cur.toList[i * z' + k]? := by rw [← htk, List.getElem?_take, if_pos hlt]
            have hx2 : i * z' + k < xs.length := by rw [ho.1]; exact hlt
            have hx' : cur[i * z' + k]? = xs[i * z' + k]? := by rw [hx]; simp
            rw [hx']; simp [List.getD, hx2]
          obtain ⟨y, h5, h6⟩ := winV_sound (P := P) (w := w) (O := OO cx.X mem ι ρ) (ι := ι) (ρ := ρ) (nx := nx) (c := false) (t := t) (b := g) (off := i * z' + j) (xs := fun k => xs.getD (i * z' + (j + k)) undef) hl
            (es := (rows.getD i []).drop j) (by simp only [List.length_drop]; omega) (fun k hk => by rw [e1]; exact hsc _ _ hi (by simp only [List.length_drop] at hk; omega))
            (fun k hk => by rw [Nat.add_assoc]; exact hcell _ (by simp only [List.length_drop] at hk; omega))
            (fun k hk => by rw [e1]; exact (hrel _ _ hi (by simp only [List.length_drop] at hk; omega)).free rfl false)
          exact ⟨_, y, by simp [Instr.loadAt, Instr.sureAddr, h5], h6, hk⟩
    · exact h.elim
  · exact h.elim

/-! #### addresses -/
def idxV (s : Option (TypeId × Nat × Nat)) (ar : Option (Nat × TypeId × Nat)) (mem : Mem) (x i : V) (K : V → Prop) : Prop :=
  match x, i with
  | .sl esz rows, .int _ n =>
    match s with
    | some (_, c, _) => c = esz ∧ 0 ≤ n ∧ n < rows.length ∧ K (.ep (rows.getD n.toNat []))
    | none => False
  | .ptr id off, .int _ n =>
    match ar with
    | some (len, _, c) => 0 ≤ n ∧ n < len ∧ K (.ptr id (off + n.toNat * c))
    | none => False
  | .ep es, .int _ n =>
    match ar with
    | some (len, _, c) => 0 ≤ n ∧ n < len ∧ K (.ep (es.drop (n.toNat * c)))
    | none => False
  | .own id, .int _ n =>
    match s with
    | some (_, c, _) =>
      match mem.look id with
      | some (.row _ z rows) => c = z ∧ 0 ≤ n ∧ n < rows.length ∧ K (.rp id z n.toNat 0)
      | _ => False
    | none => False
  | _, _ => False

theorem Rel.ep_drop {O : Nat → Prop} {c : Bool} {es : List V} {b off k : Nat} (h : Rel w O ι ρ nx c (.ep es) (.pointer (some ⟨b, off, none⟩))) :
    Rel w O ι ρ nx c (.ep (es.drop k)) (.pointer (some ⟨b, off + k, none⟩)) := by
  have e1 : ∀ j, (es.drop k).getD j .any = es.getD (k + j) .any := fun j => by simp [List.getD]
  cases h with
  | ep _ _ _ _ xs hs hx hr =>
    refine .ep _ _ _ _ (fun j => xs (k + j)) (fun j hj => ?_) (fun j hj => ?_) (fun j hj => ?_)
    · rw [e1]; exact hs _ (by simp at hj; omega)
    · have := hx (k + j) (by simp at hj; omega); rwa [Nat.add_assoc]
    · rw [e1]; exact hr _ (by simp at hj; omega)

theorem slT_spec {t : TypeId} {e : TypeId} {c bytes : Nat} (h : slT P t = some (e, c, bytes)) : P.underlying t = some (.slice e) ∧ ∃ i, P.info? e = some i ∧ i.size = c ∧ i.bytes = bytes := by
  unfold slT at h
  split at h
  · rename_i e' hu
    cases hi : P.info? e' with
    | none => simp [hi] at h
    | some i => simp [hi] at h; obtain ⟨rfl, rfl, rfl⟩ := h; exact ⟨hu, i, hi, rfl, rfl⟩
  · cases h
theorem arT_spec {t : TypeId} {n : Nat} {e : TypeId} {c : Nat} (h : arT P t = some (n, e, c)) : P.underlying t = some (.array n e) ∧ ∃ i, P.info? e = some i ∧ i.size = c := by
  unfold arT at h
  split at h
  · rename_i n' e' hu
    cases hi : P.info? e' with
    | none => simp [hi] at h
    | some i => simp [hi] at h; obtain ⟨rfl, rfl, rfl⟩ := h; exact ⟨hu, i, hi, rfl⟩
  · cases h

theorem Rel.ep_shape {O : Nat → Prop} {c : Bool} {es : List V} {x : Value} (h : Rel w O ι ρ nx c (.ep es) x) : ∃ b off, x = .pointer (some ⟨b, off, none⟩) := by cases h; exact ⟨_, _, rfl⟩

theorem idxV_sound (hml : ML cx mem nx ι ρ w) {t : TypeId} {a i : V} {x y : Value} {K : V → Prop} (h : idxV (slT P t) (arT P t) mem a i K) (ha : MR cx mem nx ι ρ w a x) (hi : MR cx mem nx ι ρ w i y) :
    ∃ v z, (Instr.indexAt t x y).run P w = .ok z w ∧ MR cx mem nx ι ρ w v z ∧ K v := by
  unfold MR at ha hi ⊢
  unfold idxV at h
  split at h
  · rename_i esz rows k n
    rw [hi.int_inv]
    split at h
    · rename_i e c by' hs
      obtain ⟨hu, inf, hinf, hsz, -⟩ := slT_spec hs
      obtain ⟨rfl, h0, h1, hk⟩ := h
      cases ha with
      | slnil => simp at h1; omega
      | sl _ _ _ b off len cap xs hl hc hm hz hss hx hr =>
        subst hl
        have hn : n.toNat < rows.length := by omega
        refine ⟨_, .pointer (some ⟨b, off + n.toNat * c, none⟩), ?_, ?_, hk⟩
        · simp [Instr.indexAt, asIntOf, run_underlying hu, h0, h1, sizeOf, typeInfo, hinf, hsz, addr_add]
        · refine .ep _ _ _ _ (fun j => xs n.toNat j) (fun j hj => hss _ _ hn (by rw [hz _ hn] at hj; exact hj)) (fun j hj => ?_) (fun j hj => hr _ _ hn (by rw [hz _ hn] at hj; exact hj))
          have := hx _ _ hn (by rw [hz _ hn] at hj; exact hj)
          rwa [← Nat.add_assoc] at this
    · exact h.elim
  · rename_i id off k n
    rw [hi.int_inv]
    split at h
    · rename_i len e c har
      obtain ⟨hu, inf, hinf, hsz⟩ := arT_spec har
      obtain ⟨h0, h1, hk⟩ := h
      cases ha with
      | ptr _ _ hid =>
        refine ⟨_, .pointer (some ⟨ι id, off + n.toNat * c, none⟩), ?_, .ptr _ _ hid, hk⟩
        simp [Instr.indexAt, Instr.sureAddr, asIntOf, run_underlying hu, h0, h1, sizeOf, typeInfo, hinf, hsz, addr_add]
    · exact h.elim
  · rename_i es k n
    rw [hi.int_inv]
    split at h
    · rename_i len e c har
      obtain ⟨hu, inf, hinf, hsz⟩ := arT_spec har
      obtain ⟨h0, h1, hk⟩ := h
      obtain ⟨b, off, rfl⟩ := ha.ep_shape
      refine ⟨_, .pointer (some ⟨b, off + n.toNat * c, none⟩), ?_, ha.ep_drop, hk⟩
      simp [Instr.indexAt, Instr.sureAddr, asIntOf, run_underlying hu, h0, h1, sizeOf, typeInfo, hinf, hsz, addr_add]
    · exact h.elim
  · rename_i id k n
    rw [hi.int_inv]
    split at h
    · rename_i e c by' hs
      obtain ⟨hu, inf, hinf, hsz, -⟩ := slT_spec hs
      split at h
      · rename_i e' z rows hlook
        obtain ⟨rfl, h0, h1, hk⟩ := h
        obtain ⟨xs, ho, -, -, -⟩ := hml.obj _ (Mem.look_mem hlook)
        generalize hxe : x = xv at ha
        have hx : xv = ρ id := by cases ha; rfl
        have hid : id < nx := by cases ha; assumption
        subst hxe
        rcases ho.2 with ⟨h2, h3⟩ | ⟨g, cap, cur, h2, -, hg, hle, hcm, hcs, htk⟩
        · omega
        · rw [hx, h2]
          refine ⟨_, .pointer (some ⟨g, n.toNat * c + 0, none⟩), ?_, .rp _ _ _ _ g hid (by rw [h2]; rfl), hk⟩
          simp [Instr.indexAt, asIntOf, run_underlying hu, h0, h1, sizeOf, typeInfo, hinf, hsz, addr_add]
      · exact h.elim
    · exact h.elim
  · exact h.elim

def fldV (f : Option (Nat × Nat × Bool)) (x : V) (K : V → Prop) : Prop :=
  match f, x with
  | some (off, c, _), .ep es => 0 < c ∧ K (.ep (es.drop off))
  | some (off, c, _), .ptr id o => 0 < c ∧ K (.ptr id (o + off))
  | some (off, c, _), .rp id z i o => 0 < c ∧ K (.rp id z i (o + off))
  | _, _ => False

theorem stT_spec {t : TypeId} {f off c : Nat} {ag : Bool} (h : stT P t f = some (off, c, ag)) : ∃ fs fd, P.underlying t = some (.struct fs) ∧ fs[f]? = some fd ∧ fd.offset = off ∧ lay P fd.type = some (c, ag) := by
  unfold stT at h
  split at h
  · rename_i fs hu
    cases hf : fs[f]? with
    | none => simp [hf] at h
    | some fd =>
      cases hl : lay P fd.type with
      | none => simp [hf, hl] at h
      | some l => simp [hf, hl] at h; obtain ⟨rfl, rfl, rfl⟩ := h; exact ⟨fs, fd, hu, hf, rfl, hl⟩
  · cases h

theorem fldV_sound {O : Nat → Prop} {t : TypeId} {f : Nat} {a : V} {x : Value} {K : V → Prop} (h : fldV (stT P t f) a K) (ha : Rel w O ι ρ nx false a x) :
    ∃ v z, (Instr.fieldAt t x f).run P w = .ok z w ∧ Rel w O ι ρ nx false v z ∧ K v := by
  unfold fldV at h
  split at h
  · rename_i off c ag es hs
    obtain ⟨fs, fd, hu, hf, ho, hl⟩ := stT_spec hs
    have h2 := (lay_spec (w := w) hl).2.1
    obtain ⟨b, o, rfl⟩ := ha.ep_shape
    refine ⟨_, .pointer (some ⟨b, o + off, none⟩), ?_, ha.ep_drop, h.2⟩
    simp [Instr.fieldAt, Instr.sureAddr, run_underlying hu, hf, fieldPlace, h2, show c ≠ 0 from by omega, addr_add, ho]
  · rename_i off c ag id o hs
    obtain ⟨fs, fd, hu, hf, ho, hl⟩ := stT_spec hs
    have h2 := (lay_spec (w := w) hl).2.1
    cases ha with
    | ptr _ _ hid =>
      refine ⟨_, .pointer (some ⟨ι id, o + off, none⟩), ?_, .ptr _ _ hid, h.2⟩
      simp [Instr.fieldAt, Instr.sureAddr, run_underlying hu, hf, fieldPlace, h2, show c ≠ 0 from by omega, addr_add, ho]
  · rename_i off c ag id z i o hs
    obtain ⟨fs, fd, hu, hf, ho, hl⟩ := stT_spec hs
    have h2 := (lay_spec (w := w) hl).2.1
    cases ha with
    | rp _ _ _ _ b hid hb =>
      refine ⟨_, .pointer (some ⟨b, i * z + (o + off), none⟩), ?_, .rp _ _ _ _ b hid hb, h.2⟩
      simp [Instr.fieldAt, Instr.sureAddr, run_underlying hu, hf, fieldPlace, h2, show c ≠ 0 from by omega, addr_add, ho, Nat.add_assoc]
  · exact h.elim

/-! #### parts of values -/
def partV (l : Option (Nat × Bool)) (off : Nat) (x : V) (K : V → Prop) : Prop :=
  match l, x with
  | some (n, ag), .agg cs => off + n ≤ cs.length ∧ K (winV ag n (cs.drop off))
  | _, _ => False

theorem run_part {t : TypeId} {n : Nat} {ag : Bool} (hl : lay P t = some (n, ag)) {O : Nat → Prop} {c : Bool} {cs : List V} {vs : Array Value} {off : Nat} (hoff : off + n ≤ cs.length)
    (h : Rel w O ι ρ nx c (.agg cs) (.agg vs)) : ∃ z, (part t vs off).run P w = .ok z w ∧ Rel w O ι ρ nx c (winV ag n (cs.drop off)) z := by
  obtain ⟨h1, h2, h3⟩ := lay_spec (w := w) hl
  have e1 : ∀ j, (cs.drop off).getD j .any = cs.getD (off + j) .any := fun j => by simp [List.getD]
  cases h with
  | agg _ _ _ hsz hs hr =>
    cases ag with
    | true =>
      refine ⟨.agg (vs.extract off (off + n)), by simp [part, h1, h2], ?_⟩
      simp only [winV, if_true]
      refine .agg _ _ _ (by simp; omega) (fun i hi => ?_) (fun i hi => ?_)
      · have hi' : i < n := by simp at hi; omega
        have := hs (off + i) (by omega)
        simpa [List.getD, List.getElem?_take, hi'] using this
      · have hi' : i < n := by simp at hi; omega
        have := hr (off + i) (by omega)
        have e2 : ((cs.drop off).take n).getD i .any = cs.getD (off + i) .any := by simp [List.getD, List.getElem?_take, hi']
        have e3 : (vs.extract off (off + n)).getD i undef = vs.getD (off + i) undef := by
          simp only [Array.getD_eq_getD_getElem?, Array.getElem?_extract]
          rw [if_pos (by omega)]
        rw [e2, e3]; exact this
    | false =>
      have hn := h3 rfl
      have hlt : off < vs.size := by omega
      refine ⟨vs[off], by simp [part, h1, hlt], ?_⟩
      have := hr off (by omega)
      have e2 : winV false n (cs.drop off) = cs.getD off .any := by simp [winV, List.getD]
      have e3 : vs.getD off undef = vs[off] := by simp [Array.getD, hlt]
      rw [e2, ← e3]; exact this


/-- What of memory an address hangs on: how long the slices are. -/
def AObj.shp : AObj → AObj
  | .cells cs => .cells cs
  | .row e z rows => .row e z (List.replicate rows.length [])
def shp : Mem → Mem
  | [] => []
  | (i, o) :: m => (i, o.shp) :: shp m
theorem shp_look : ∀ (mem : Mem) (id : Nat), (shp mem).look id = (mem.look id).map AObj.shp
  | [], id => rfl
  | (i, o) :: m, id => by
    have ih := shp_look m id
    simp only [Mem.look, shp, List.find?_cons] at ih ⊢
    cases h : decide (i = id)
    · simpa using ih
    · simp
/-- The variables alone. -/
def AObj.csh : AObj → AObj
  | .cells cs => .cells cs
  | .row e _ _ => .row e 0 []
def csh : Mem → Mem
  | [] => []
  | (i, o) :: m => (i, o.csh) :: csh m
theorem csh_look : ∀ (mem : Mem) (id : Nat), (csh mem).look id = (mem.look id).map AObj.csh
  | [], id => rfl
  | (i, o) :: m, id => by
    have ih := csh_look m id
    simp only [Mem.look, csh, List.find?_cons] at ih ⊢
    cases h : decide (i = id)
    · simpa using ih
    · simp
theorem csh_of_shp {m m' : Mem} (h : ∀ id, (shp m').look id = (shp m).look id) (id : Nat) : (csh m').look id = (csh m).look id := by
  have := h id
  rw [shp_look, shp_look] at this
  rw [csh_look, csh_look]
  cases h1 : m'.look id with
  | none => cases h2 : m.look id with
    | none => rfl
    | some o => simp [h1, h2] at this
  | some o => cases h2 : m.look id with
    | none => simp [h1, h2] at this
    | some o2 =>
      simp only [h1, h2, Option.map_some, Option.some.injEq] at this ⊢
      cases o <;> cases o2 <;> simp only [AObj.shp, AObj.csh, AObj.cells.injEq, AObj.row.injEq, reduceCtorEq] at this ⊢
      · exact this
      · exact ⟨this.1, trivial, trivial⟩
theorem loadV_csh {l : Option (Nat × Bool)} {mem : Mem} {a : V} {K : V → Prop} (h : loadV l (csh mem) a K) : loadV l mem a K := by
  unfold loadV at h ⊢
  split at h
  · exact h
  · rw [csh_look] at h
    rename_i id off
    cases hl : Mem.look mem id with
    | none => simp [hl] at h
    | some o =>
      cases o with
      | cells cs => simpa [hl, AObj.csh] using h
      | row e z rows => simp [hl, AObj.csh] at h
  · rw [csh_look] at h
    rename_i id z i j
    cases hl : Mem.look mem id with
    | none => simp [hl] at h
    | some o =>
      cases o with
      | cells cs => simp [hl, AObj.csh] at h
      | row e z rows => simp [hl, AObj.csh] at h
  · exact h.elim
theorem loadV_look {l : Option (Nat × Bool)} {m m' : Mem} {a : V} {K : V → Prop} (h : ∀ id, m'.look id = m.look id) : loadV l m' a K = loadV l m a K := by
  unfold loadV
  split <;> first | rfl | (simp only [h])
theorem idxV_shp {s : Option (TypeId × Nat × Nat)} {ar : Option (Nat × TypeId × Nat)} {mem : Mem} {x i : V} {K : V → Prop} (h : idxV s ar (shp mem) x i K) : idxV s ar mem x i K := by
  unfold idxV at h ⊢
  split at h
  · exact h
  · exact h
  · exact h
  · rw [shp_look] at h
    split at h
    · rename_i hs
      cases hl : Mem.look mem _ with
      | none => simp [hl] at h
      | some o =>
        cases o with
        | cells cs => simp [hl, AObj.shp] at h
        | row e z rows => simpa [hl, AObj.shp] using h
    · exact h.elim
  · exact h.elim

end
end Go.Proofs.Ytcphhbiehaimeaa
