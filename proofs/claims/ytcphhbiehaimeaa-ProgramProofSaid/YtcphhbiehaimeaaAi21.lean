/- What an argument that comes in stands for; and the law's last step. -/
import Derived.Test.YtcphhbiehaimeaaAi20
import Derived.ProofKit
import Derived.SizedLaws
import Derived.OpenShut
import Derived.Deep.Slices
namespace Go.Proofs.Ytcphhbiehaimeaa
open Go.ChangeShapes Go.WideShapes Go.ChangeAt Go.RowKit
set_option linter.unusedVariables false
set_option linter.unusedSimpArgs false

section
variable {H : Type} (enc : TypeId × Value → H) (P : Program) (w : World)

/-- The cells 'cs' are what 'vs' stands for. -/
def Rd (w : World) (cs : List Value) (vs : List V) : Prop :=
  vs.length = cs.length ∧ ∀ i, i < vs.length → (vs.getD i .any).sc = true ∧ Rel w (fun _ => False) (fun _ => 0) (fun _ => undef) 0 true (vs.getD i .any) (cs.getD i undef)

/-- Whatever reads at type t stands for some a. -/
def Dec {α : Type} (t : TypeId) (ec : α → List V) (Q : α → Prop) : Prop :=
  ∀ (fuel : Nat) (cs : List Value) (x : DataW H × List MemPlace), DataW.trod enc P w 0 (fun _ => true) true fuel t cs = some x → ∃ a, Q a ∧ Rd w cs (ec a)

variable {enc P w}

theorem Rd.one {v : V} {x : Value} (hs : v.sc = true) (h : Rel w (fun _ => False) (fun _ => 0) (fun _ => undef) 0 true v x) : Rd w [x] [v] := by
  refine ⟨rfl, fun i hi => ?_⟩
  have : i = 0 := by simpa using hi
  subst this; exact ⟨hs, h⟩
theorem Rd.append {cs cs' : List Value} {vs vs' : List V} (h : Rd w cs vs) (h' : Rd w cs' vs') : Rd w (cs ++ cs') (vs ++ vs') := by
  refine ⟨by simp [h.1, h'.1], fun i hi => ?_⟩
  have e := h.1
  simp only [List.getD, List.getElem?_append]
  by_cases hl : i < vs.length
  · have h2 : i < cs.length := by omega
    rw [if_pos hl, if_pos h2]
    exact h.2 i hl
  · have h2 : ¬ i < cs.length := by omega
    rw [if_neg hl, if_neg h2, e]
    rw [← e]
    have := h'.2 (i - vs.length) (by simp at hi; omega)
    exact this
theorem Rd.nil : Rd w [] [] := ⟨rfl, fun i hi => by simp at hi⟩

theorem dec_int {t : TypeId} {k : IntKind} (ht : P.underlying t = some (.int k)) : Dec enc P w t (fun n : Int => [.int k n]) fun n => (Lit.int k n).wf = true := by
  intro fuel cs x h
  obtain ⟨n, rfl, rfl, hw⟩ := DataW.trod_int ht h
  exact ⟨n, hw, Rd.one rfl (.int _ _ _)⟩
theorem dec_bool {t : TypeId} (ht : P.underlying t = some .bool) : Dec enc P w t (fun n : Bool => [.bool n]) fun n => True := by
  intro fuel cs x h
  obtain ⟨n, rfl, rfl⟩ := DataW.trod_bool ht h
  exact ⟨n, trivial, Rd.one rfl (.bool _ _)⟩
theorem dec_string {t : TypeId} (ht : P.underlying t = some .string) : Dec enc P w t (fun s : ByteArray => [.str s]) fun s => s.size ≤ maxLen := by
  intro fuel cs x h
  obtain ⟨n, rfl, rfl, hw⟩ := DataW.trod_string ht h
  exact ⟨n, hw, Rd.one rfl (.str _ _)⟩

theorem Dec.choose {α : Type} {t : TypeId} {ec : α → List V} {Q : α → Prop} (hd : Dec enc P w t ec Q) (g : Nat → List Value) (n : Nat)
    (h : ∀ i, i < n → ∃ fuel x, DataW.trod enc P w 0 (fun _ => true) true fuel t (g i) = some x) : ∃ as : List α, as.length = n ∧ (∀ a ∈ as, Q a) ∧ ∀ i (hi : i < as.length), Rd w (g i) (ec as[i]) := by
  induction n with
  | zero => exact ⟨[], rfl, fun a ha => by simp at ha, fun i hi => by simp at hi⟩
  | succ n ih =>
    obtain ⟨as, h1, h2, h3⟩ := ih fun i hi => h i (by omega)
    obtain ⟨fuel, x, hx⟩ := h n (by omega)
    obtain ⟨a, ha, hr⟩ := hd _ _ _ hx
    refine ⟨as ++ [a], by simp [h1], fun b hb => ?_, fun i hi => ?_⟩
    · rcases List.mem_append.1 hb with hb | hb
      · exact h2 b hb
      · simp at hb; subst hb; exact ha
    · by_cases hl : i < as.length
      · rw [List.getElem_append_left hl]; exact h3 i hl
      · have e : i = n := by simp at hi; omega
        subst e
        rw [List.getElem_append_right (by omega)]; simpa [h1] using hr

theorem rd_chunks {α : Type} {ec : α → List V} {sz : Nat} : ∀ (as : List α) (cs : List Value), cs.length = as.length * sz → (∀ i (hi : i < as.length), Rd w ((cs.drop (i * sz)).take sz) (ec as[i])) → Rd w cs (as.flatMap ec)
  | [], cs, hl, _ => by
    have : cs = [] := by simpa using hl
    subst this; exact Rd.nil
  | a :: as, cs, hl, h => by
    have h0 := h 0 (by simp)
    simp only [Nat.zero_mul, List.drop_zero, List.getElem_cons_zero] at h0
    have hr := rd_chunks (sz := sz) as (cs.drop sz) (by simp only [List.length_drop, hl, List.length_cons, Nat.succ_mul]; omega) fun i hi => by
      have := h (i + 1) (by simpa using hi)
      simpa [List.drop_drop, Nat.succ_mul, Nat.add_comm] using this
    have := h0.append hr
    simpa using this

theorem dec_array {α : Type} {t e : TypeId} {n sz : Nat} {ec : α → List V} {Q : α → Prop} (ht : P.underlying t = some (.array n e)) (hs : P.cellsOf e = sz) (hn : P.cellsOf t = n * sz) (hd : Dec enc P w e ec Q) :
    Dec enc P w t (fun as : List α => as.flatMap ec) fun as => as.length = n ∧ ∀ a ∈ as, Q a := by
  intro fuel cs x h
  obtain ⟨xs, m, rfl, rfl, hl, hx, hi⟩ := DataW.trod_array ht h
  rw [hn] at hl
  obtain ⟨as, h1, h2, h3⟩ := hd.choose (fun i => (cs.drop (i * sz)).take sz) n fun i hin => by
    have := hi i hin
    rw [hs] at this
    rw [List.getElem?_eq_getElem (by omega)] at this
    exact ⟨_, _, this⟩
  exact ⟨as, ⟨h1, h2⟩, rd_chunks as cs (by rw [h1]; exact hl) h3⟩

/-- A struct's fields, one by one. -/
def DecF {α : Type} (fs : List Field) (off : Nat) (ec : α → List V) (Q : α → Prop) : Prop :=
  ∀ (fuel : Nat) (cs : List Value) (xs : List (DataW H × List MemPlace)), (∀ (i : Nat) (f : Field), fs[i]? = some f → DataW.trod enc P w 0 (fun _ => true) true fuel f.type ((cs.drop f.offset).take (P.cellsOf f.type)) = xs[i]?) →
    xs.length = fs.length → ∃ a, Q a ∧ Rd w (cs.drop off) (ec a)

theorem dec_struct2 {α β : Type} {t : TypeId} {f g : Field} {m n : Nat} {ea : α → List V} {eb : β → List V} {Qa : α → Prop} {Qb : β → Prop} (ht : P.underlying t = some (.struct #[f, g]))
    (hf : f.offset = 0 ∧ P.cellsOf f.type = m) (hg : g.offset = m ∧ P.cellsOf g.type = n) (hn : P.cellsOf t = m + n) (hda : Dec enc P w f.type ea Qa) (hdb : Dec enc P w g.type eb Qb) :
    Dec enc P w t (fun p : α × β => ea p.1 ++ eb p.2) fun p => Qa p.1 ∧ Qb p.2 := by
  intro fuel cs x h
  obtain ⟨xs, k, rfl, rfl, hl, hx, hi⟩ := DataW.trod_struct ht h
  have h0 := hi 0 f rfl
  have h1 := hi 1 g rfl
  simp only [List.size_toArray, List.length_cons, List.length_nil, Nat.zero_add, Nat.reduceAdd] at hx
  rw [List.getElem?_eq_getElem (by omega), hf.1, hf.2] at h0
  rw [List.getElem?_eq_getElem (by omega), hg.1, hg.2] at h1
  obtain ⟨a, qa, ra⟩ := hda _ _ _ h0
  obtain ⟨b, qb, rb⟩ := hdb _ _ _ h1
  refine ⟨(a, b), ⟨qa, qb⟩, ?_⟩
  have := ra.append rb
  rw [List.drop_zero, List.take_of_length_le (l := cs.drop m) (by simp [hl, hn]), List.take_append_drop] at this
  exact this

theorem Dec.turn {α β : Type} {t : TypeId} {ec : α → List V} {ed : β → List V} {Q : α → Prop} {R : β → Prop} (hd : Dec enc P w t ec Q) (f : α → β) (hf : ∀ a, Q a → ed (f a) = ec a ∧ R (f a)) : Dec enc P w t ed R := by
  intro fuel cs x h
  obtain ⟨a, qa, ra⟩ := hd fuel cs x h
  exact ⟨f a, (hf a qa).2, by rw [(hf a qa).1]; exact ra⟩

theorem cells_get {a : Addr} {n : Nat} {cs : List Value} (h : w.cells? 0 a n = some cs) : cs.length = n ∧ ∀ j, j < n → w.cell? (a.add j) = some (cs.getD j undef) := by
  unfold World.cells? at h
  rw [if_pos (Nat.zero_le _)] at h
  have hl := mapM_some_length h
  simp at hl
  refine ⟨hl, fun j hj => ?_⟩
  have := mapM_some_get h j j (by simp [hj])
  rw [this, List.getElem?_eq_getElem (by omega)]
  simp [List.getD, show j < cs.length by omega]

/-- A slice, its address without a spot. -/
theorem open_sl {α : Type} {t e : TypeId} {sz : Nat} {ec : α → List V} {Q : α → Prop} {r : Go.Reach} {b0 : Nat} (ht : P.underlying t = some (.slice e)) (hs : P.cellsOf e = sz) (hd : Dec enc P w e ec Q) {v : Value} {d : DataW H} {p : List MemPlace}
    (hv : Value.okWide P w r b0 t v) (h : DataW.Trod enc P w 0 (fun _ => true) true t v d p) :
    ∃ as : List α, (∀ a ∈ as, Q a) ∧ Rel w (fun _ => False) (fun _ => 0) (fun _ => undef) 0 true (.sl sz (as.map ec)) v ∧ as.length ≤ maxLen ∧ (∀ (ts : List TypeId) (ds : List (DataW H)) (j : Nat), (DataW.weightsEach P ts ds).all (· ≤ reachBytes) = true → ts[j]? = some t → ds[j]? = some d → as.length * P.bytesOf e ≤ reachBytes) := by
  obtain ⟨fuel, hf⟩ := h
  obtain ⟨a0, len, cap, rfl⟩ := okWide_slice ht hv
  have hcs : (Value.slice a0 len cap).cells.toList = [.slice a0 len cap] := rfl
  rw [hcs] at hf
  rcases Deep.open_slice ht hf with ⟨h1, h2⟩ | ⟨a, len', cap', m, n, D, Pl, h1, _, hl, hm, hme, hx, hel⟩
  · simp only [List.cons.injEq, Value.slice.injEq, and_true] at h1
    obtain ⟨rfl, rfl, rfl⟩ := h1
    exact ⟨[], fun a ha => by simp at ha, .slnil _ _, by simp, fun ts ds j _ _ _ => by simp⟩
  · simp only [List.cons.injEq, Value.slice.injEq, and_true] at h1
    obtain ⟨rfl, rfl, rfl⟩ := h1
    have hsp : a.spot = none := by
      simp only [Value.okWide, ht, Cell.okWide, Cell.ok, World.has] at hv
      exact hv.2.2.2.1
    simp only [if_true] at hme
    obtain ⟨as, k1, k2, k3⟩ := hd.choose (fun i => ((w.cells? 0 (a.add (i * P.cellsOf e)) (P.cellsOf e)).getD [])) len fun i hi => by
      obtain ⟨cs', q1, q2⟩ := hel i (by omega)
      rw [q1]; exact ⟨_, _, q2⟩
    obtain ⟨b, off, spot⟩ := a
    simp only at hsp
    subst hsp
    refine ⟨as, k2, ?_, by omega, ?_⟩
    · have rows : ∀ i (hi : i < as.length), ((as.map ec).getD i []) = ec as[i] := fun i hi => by simp [List.getD, hi]
      have key : ∀ i (hi : i < as.length), ∃ cs', Rd w cs' (ec as[i]) ∧ cs'.length = sz ∧ ∀ j, j < sz → w.cell? ⟨b, off + (i * sz + j), none⟩ = some (cs'.getD j undef) := fun i hi => by
        obtain ⟨cs', q1, q2⟩ := hel i (by omega)
        have := k3 i hi
        simp only [q1, Option.getD_some] at this
        obtain ⟨hl', hc'⟩ := cells_get q1
        rw [hs] at hl' hc'
        refine ⟨cs', this, hl', fun j hj => ?_⟩
        rw [← hc' j hj]
        congr 1
        unfold Addr.add
        by_cases hi0 : i * sz = 0
        · by_cases hj0 : j = 0 <;> simp [hi0, hj0]
        · by_cases hj0 : j = 0 <;> simp [hi0, hj0, Nat.add_assoc]
      refine .sl true sz (as.map ec) b off len cap (fun i j => ((w.cell? ⟨b, off + (i * sz + j), none⟩).getD undef)) (by simp [k1]) hl hm ?_ ?_ ?_ ?_
      · intro i hi
        have hi' : i < as.length := by simpa using hi
        obtain ⟨cs', q1, q2, q3⟩ := key i hi'
        rw [rows i hi', q1.1, q2]
      · intro i j hi hj
        have hi' : i < as.length := by simpa using hi
        obtain ⟨cs', q1, q2, q3⟩ := key i hi'
        rw [rows i hi']
        exact (q1.2 j (by rw [q1.1]; omega)).1
      · intro i j hi hj
        have hi' : i < as.length := by simpa using hi
        obtain ⟨cs', q1, q2, q3⟩ := key i hi'
        simp only [q3 j hj, Option.getD_some]
        exact ⟨trivial, id⟩
      · intro i j hi hj
        have hi' : i < as.length := by simpa using hi
        obtain ⟨cs', q1, q2, q3⟩ := key i hi'
        rw [rows i hi']
        simp only [q3 j hj, Option.getD_some]
        exact (q1.2 j (by rw [q1.1]; omega)).2
    · intro ts ds j hz h1 h2
      have hd' : d = (DataW.slice ((List.range len).map D) ((List.range (m - len)).map fun j => D (len + j))) := congrArg Prod.fst hx
      subst hd'
      have := sized_slice hz h1 h2 ht
      simp only [List.length_map, List.length_range] at this
      have hle : as.length ≤ len + (m - len) := by omega
      exact Nat.le_trans (Nat.mul_le_mul_right _ hle) this

/-- An array or a struct by value. -/
theorem open_ag {α : Type} {t : TypeId} {ec : α → List V} {Q : α → Prop} {r : Go.Reach} {b0 : Nat} (hd : Dec enc P w t ec Q) {v : Value} {d : DataW H} {p : List MemPlace}
    (ht : (∃ fs, P.underlying t = some (.struct fs)) ∨ ∃ n e, P.underlying t = some (.array n e))
    (hv : Value.okWide P w r b0 t v) (h : DataW.Trod enc P w 0 (fun _ => true) true t v d p) :
    ∃ a : α, Q a ∧ Rel w (fun _ => False) (fun _ => 0) (fun _ => undef) 0 true (.agg (ec a)) v := by
  obtain ⟨fuel, hf⟩ := h
  have : ∃ cs, v = .agg cs := by
    rcases ht with ⟨fs, ht⟩ | ⟨n, e, ht⟩ <;> simp only [Value.okWide, ht] at hv <;> exact ⟨_, hv.choose_spec.1⟩
  obtain ⟨cs, rfl⟩ := this
  obtain ⟨a, qa, ra⟩ := hd _ _ _ hf
  have e : (Value.agg cs).cells.toList = cs.toList := rfl
  rw [e] at ra
  refine ⟨a, qa, .agg _ _ _ (by rw [ra.1]; simp) (fun i hi => (ra.2 i hi).1) fun i hi => ?_⟩
  have := (ra.2 i hi).2
  simpa [List.getD, Array.getD_eq_getD_getElem?] using this

/-- A value of one cell. -/
theorem open_one {α : Type} {t : TypeId} {ev : α → V} {Q : α → Prop} {r : Go.Reach} {b0 : Nat} (hd : Dec enc P w t (fun a => [ev a]) Q) {v : Value} {d : DataW H} {p : List MemPlace}
    (ht : (∃ k, P.underlying t = some (.int k)) ∨ P.underlying t = some .bool ∨ P.underlying t = some .string)
    (hv : Value.okWide P w r b0 t v) (h : DataW.Trod enc P w 0 (fun _ => true) true t v d p) :
    ∃ a : α, Q a ∧ Rel w (fun _ => False) (fun _ => 0) (fun _ => undef) 0 true (ev a) v := by
  obtain ⟨fuel, hf⟩ := h
  have e : v.cells.toList = [v] := by
    rcases ht with ⟨k, ht⟩ | ht | ht <;> simp only [Value.okWide, ht, Cell.okWide] at hv <;> cases v <;> first | rfl | simp_all [Cell.ok]
  rw [e] at hf
  obtain ⟨a, qa, ra⟩ := hd _ _ _ hf
  exact ⟨a, qa, (ra.2 0 (by simp)).2⟩

theorem trodAll_below (hl : laidOutB P = true) {W W' : World} (hb : Below W.heap.size W W') : ∀ {ts : List TypeId} {vs : List Value} {ds : List (DataW H)} {ps : List MemPlace},
    (ts.all fun t => P.readableRec t && decide (t < P.types.size)) = true → DataW.TrodAll enc P W 0 (fun _ => true) true ts vs ds ps → (∀ x ∈ ps, x.block < W.heap.size) → DataW.TrodAll enc P W' 0 (fun b => decide (b < W.heap.size)) true ts vs ds ps
  | [], _, _, _, _, h, _ => by
    obtain ⟨rfl, rfl, rfl⟩ := trodAll_nil h; exact rfl
  | t :: ts, _, _, _, ht, h, hlt => by
    obtain ⟨v, vs', d, ds', p, q, rfl, rfl, rfl, h1, h2⟩ := trodAll_cons h
    simp only [List.all_cons, Bool.and_eq_true, decide_eq_true_eq] at ht
    exact ⟨p, q, Below.trod hl ht.1.1 ht.1.2 h1 hb (fun x hx => hlt x (List.mem_append_left _ hx)), trodAll_below hl hb (by simpa using ht.2) h2 (fun x hx => hlt x (List.mem_append_right _ hx)), rfl⟩

/-- A law that returns true and turns nothing. -/
theorem post_law (hl : laidOutB P = true) {fn : Func} {s : ChangeSpec} {W : World} {args : Array Value} {f : FuncId} {ds gs : List (DataW H)} {before : List MemPlace} {tb : TypeId} {al : List V}
    (hts : (fn.params.toList.all fun t => P.readableRec t && decide (t < P.types.size)) = true) (hW : DataW.Whole enc P fn.params.toList s.vars false W args.toList ds gs before) (hvars : s.vars = [])
    (hres : fn.resultTypes.toList = [tb]) (hb : P.underlying tb = some .bool) (hfn : s.fn H (ds ++ gs) = { results := [.lit (.bool true)], args := ds })
    (hc : CallsA P f al (.bool true)) (hsz : args.size = al.length) (hr : ∀ i, i < al.length → Rel W (fun _ => False) (fun _ => 0) (fun _ => undef) 0 true (al.getD i .any) (args.getD i undef)) :
    Calls P f args W fun e W' => ∃ v, e = .returned v ∧ s.post enc P fn false true false false W args v W' := by
  refine (hc W (fun _ => False) args (fun b h => h.elim) hsz hr).mono fun e W' ⟨x, he, hbel, hx⟩ => ?_
  subst he
  cases hx
  refine ⟨_, rfl, ds, gs, before, [], ?_⟩
  obtain ⟨p, q, hA, hV, rfl, hfz, hnd⟩ := id hW
  rw [hvars] at hV
  have hg : gs = [] ∧ q = [] := by
    cases gs <;> simp [DataW.TrodVars] at hV
    exact ⟨rfl, hV⟩
  obtain ⟨rfl, rfl⟩ := hg
  have hsize : fn.resultTypes.size = 1 := by rw [← Array.length_toList, hres]; rfl
  refine ⟨p, [], hW, ?_, ?_, ?_, hbel.frame _, fun h => by cases h⟩
  · rw [hfn, hres, hsize]
    exact trodAll_mk1 (shut_bool hb _)
  · rw [hfn]
    exact trodAll_below hl hbel hts hA fun x hx => hW.lt x (List.mem_append_left _ hx)
  · rw [hfn, hvars]; exact rfl
end
theorem CallsA.nsl0 {P : Program} {f : FuncId} {e : Nat} {bs : List V} {r : V} (h : CallsA P f (.sl e [] :: bs) r) : CallsA P f (.nsl :: bs) r := fun w X vs hX hl hr => h w X vs hX hl fun i hi => by
  cases i with
  | zero =>
    have h0 := hr 0 (by simp)
    simp only [List.getD_cons_zero] at h0 ⊢
    generalize vs.getD 0 undef = v at h0 ⊢
    cases h0
    exact .slnil _ _
  | succ i => exact hr (i + 1) (by simpa using hi)
end Go.Proofs.Ytcphhbiehaimeaa
