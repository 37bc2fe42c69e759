/- A region whose order is open: in the text's order is in any. -/
import Derived.Orders
import Derived.Test.YtcphhbiehaimeaaAi16
namespace Go.Proofs.Ytcphhbiehaimeaa
open Go.RowKit
set_option linter.unusedVariables false
set_option linter.unusedSimpArgs false

def notIn : List Nat → Option Nat → Bool
  | [], _ => true
  | _ :: l, none => notIn l none
  | d :: l, some t => !(d == t) && notIn l (some t)
/-- An effect on the call's own memory: but a slice that is built, and frozen at once, is none. -/
def isE (fz : List Nat) (o : Oper) : Bool := if isO o.op then !notIn fz o.dst else isEff o.op && notIn fz o.dst

/-- In a region of this kind all stores go into slices, and what is loaded lies in variables. -/
def rowM (fz : List Nat) : Bool := !notIn fz (some 999999)
/-- Without the call's own memory, where what is read does not lie there. -/
def St.bare (σ : St) (fz : List Nat) (o : Oper) : St := match rowM fz && isRd o.op with
  | true => ⟨σ.env, csh σ.mem, σ.nx⟩
  | false => match notIn fz o.dst with
    | true => σ
    | false => ⟨σ.env, [], σ.nx⟩

def evDO (fz : List Nat) (P : Program) (ds : List (Option Tmp)) (o : Oper) (σ : St) (K : St → Prop) : Prop :=
  match o.guard with
  | none =>
    match isE fz o with
    | true => (if isO o.op then stpX P σ o.op fun v σ' => K (σ'.put o.dst v) else (rowM fz = true → isSt o.op = true → isRpS σ o.op = true) ∧ stp P σ none o.op fun v σ' => K (σ'.put o.dst v))
    | false => stp P (σ.bare fz o) (some true) o.op fun v _ => K (σ.put o.dst v)
  | some (j, want) => isE fz o = false ∧
    match nth ds j with
    | some d => gof (σ.get (.tmp d)) want fun gb => ∃ v0, (gb = true → stp P σ (some gb) o.op fun v σ' => v = v0 ∧ σ' = σ) ∧ K (σ.put o.dst (.gd gb v0))
    | none => False

def evD (fz : List Nat) (P : Program) (ds : List (Option Tmp)) : List Oper → St → (St → Prop) → Prop
  | [], σ, K => K σ
  | o :: rest, σ, K => evDO fz P ds o σ fun σ' => evD fz P ds rest σ' K

/-! #### what must stand before what -/
def depsOf (o : Oper) : List Nat := (o.after.toList.filter (Region.binds .any)).map (·.on)

def befs : List (List Nat) → List Nat → List Nat
  | [], acc => acc
  | d :: ds, acc => befs ds (acc ++ [d.foldl (fun s k => s ||| 2 ^ k ||| acc.getD k 0) 0])

/-- k stands before j. -/
inductive Reach (dep : Nat → List Nat) : Nat → Nat → Prop where
  | one {j k : Nat} (h : k ∈ dep j) : Reach dep j k
  | more {j i k : Nat} (h : i ∈ dep j) (h' : Reach dep i k) : Reach dep j k

theorem fold_bit (acc : List Nat) : ∀ (d : List Nat) (s k : Nat), (d.foldl (fun s k => s ||| 2 ^ k ||| acc.getD k 0) s).testBit k = true → s.testBit k = true ∨ ∃ i ∈ d, k = i ∨ (acc.getD i 0).testBit k = true
  | [], s, k, h => .inl h
  | i :: d, s, k, h => by
    rcases fold_bit acc d _ k h with h | ⟨i', hi, h⟩
    · simp only [Nat.testBit_or, Bool.or_eq_true, Nat.testBit_two_pow, decide_eq_true_eq] at h
      rcases h with (h | h) | h
      · exact .inl h
      · exact .inr ⟨i, by simp, .inl h.symm⟩
      · exact .inr ⟨i, by simp, .inr h⟩
    · exact .inr ⟨i', by simp [hi], h⟩

theorem befs_spec (dep : Nat → List Nat) : ∀ (ds : List (List Nat)) (acc : List Nat), (∀ i, i < ds.length → ds.getD i [] = dep (acc.length + i)) →
    (∀ j k, (acc.getD j 0).testBit k = true → Reach dep j k) → ∀ j k, ((befs ds acc).getD j 0).testBit k = true → Reach dep j k
  | [], acc, _, h, j, k, hb => h j k hb
  | d :: ds, acc, hd, h, j, k, hb => by
    refine befs_spec dep ds _ (fun i hi => ?_) (fun j k hb => ?_) j k hb
    · have := hd (i + 1) (by simpa using hi)
      simp only [List.getD_cons_succ] at this
      rw [this]; congr 1; simp; omega
    · by_cases hj : j < acc.length
      · refine h j k ?_
        simpa [List.getD, List.getElem?_append_left hj] using hb
      · by_cases hj2 : j = acc.length
        · subst hj2
          have h0 := hd 0 (by simp)
          simp at h0
          simp only [List.getD, List.getElem?_append_right (Nat.le_refl _), Nat.sub_self, List.getElem?_cons_zero, Option.getD_some] at hb
          rcases fold_bit acc d 0 k hb with hb | ⟨i, hi, rfl | hb⟩
          · simp at hb
          · exact .one (by rw [← h0]; exact hi)
          · exact .more (by rw [← h0]; exact hi) (h i k hb)
        · have : (acc ++ [d.foldl (fun s k => s ||| 2 ^ k ||| acc.getD k 0) 0])[j]? = none := List.getElem?_eq_none (by simp; omega)
          have hb0 : (acc ++ [d.foldl (fun s k => s ||| 2 ^ k ||| acc.getD k 0) 0]).getD j 0 = 0 := by
            show Option.getD ((acc ++ [d.foldl (fun s k => s ||| 2 ^ k ||| acc.getD k 0) 0])[j]?) 0 = 0
            rw [this]; rfl
          rw [hb0] at hb; simp at hb

/-- The slots that an operation looks at. -/
def looks (ds : List (Option Tmp)) (o : Oper) : List Tmp :=
  (o.op.operands.toList.filterMap fun x => match x with | .tmp t => some t | _ => none) ++
  (match o.guard with | some (j, _) => (nth ds j).toList | none => [])

/-- What hangs on how long the call's own slices are, and is not listed as hanging on none. -/
def shN (fz : List Nat) (o : Oper) : Bool := isSh o.op && (notIn fz o.dst || o.guard.isSome)
def touches (fz : List Nat) (o : Oper) : Bool := isE fz o || (isRd o.op && ((!rowM fz && notIn fz o.dst) || o.guard.isSome))

/-- Number i stands before number j, or j before i, as in the text. -/
def ordered (b : List Nat) (i j : Nat) : Bool := if i < j then (b.getD j 0).testBit i else (b.getD i 0).testBit j

def drawOK (fz : List Nat) (l : List Oper) : Bool :=
  let ds := l.map (·.dst)
  let b := befs (l.map depsOf) []
  (List.range l.length).all fun j =>
    match l[j]? with
    | none => true
    | some o =>
      (depsOf o).all (fun k => Nat.blt k j) &&
      (List.range l.length).all fun i =>
        i == j ||
        match l[i]? with
        | none => true
        | some o' =>
          (match o'.dst with
           | some d => (o.dst != some d) && (!(looks ds o).contains d || ordered b i j)
           | none => true) &&
          (!(isE fz o' && touches fz o) || ordered b i j) && (!(isE fz o' && (!(rowM fz && isSt o'.op) && (shN fz o || isRd o.op))) || (rowM fz == false && shN fz o == false) || ordered b i j)

section
variable {fz : List Nat} {P : Program} {N : Nat} {C : Ctl P N} {keep : List Nat}

/-- What the two states have in common, as far as the operation looks. -/
def agree (fz : List Nat) (ds : List (Option Tmp)) (σ σ' : St) (o : Oper) : Prop :=
  (∀ t ∈ looks ds o, σ'.slot t = σ.slot t) ∧ (touches fz o = true → σ'.mem = σ.mem ∧ σ'.nx = σ.nx) ∧ ((shN fz o = true ∨ (rowM fz && isRd o.op) = true) → ∀ id, (shp σ'.mem).look id = (shp σ.mem).look id)

theorem St.bare_get (σ : St) (fz : List Nat) (o : Oper) (x : Operand) : (σ.bare fz o).get x = σ.get x := by
  unfold St.bare
  split
  · cases x <;> rfl
  · split
    · rfl
    · cases x <;> rfl

theorem agree_op {ds : List (Option Tmp)} {σ σ' : St} {o : Oper} (h : agree fz ds σ σ' o) : sameOn σ σ' o.op := by
  intro x hx
  cases x with
  | tmp t =>
    simp only [St.get]
    rw [h.1 t ?_]
    unfold looks
    exact List.mem_append_left _ (List.mem_filterMap.2 ⟨.tmp t, hx, rfl⟩)
  | _ => rfl

/-- One step of the text's order: the value v that comes into the slot, the memory behind it. -/
def SP (fz : List Nat) (P : Program) (ds : List (Option Tmp)) (o : Oper) (σ : St) (v : V) (m : Mem) (n : Nat) : Prop :=
  (isE fz o = false → m = σ.mem ∧ n = σ.nx) ∧
  (∀ σ', agree fz ds σ σ' o → evDO fz P ds o σ' fun τ => τ = St.put ⟨σ'.env, if isE fz o then m else σ'.mem, if isE fz o then n else σ'.nx⟩ o.dst v) ∧
  (isE fz o = true → (rowM fz && isSt o.op) = true → ∀ id, (shp m).look id = (shp σ.mem).look id)

theorem sp_of {ds : List (Option Tmp)} {o : Oper} {σ : St} {K : St → Prop} (h : evDO fz P ds o σ K) : ∃ v m n, SP fz P ds o σ v m n ∧ K (St.put ⟨σ.env, m, n⟩ o.dst v) := by
  unfold evDO at h
  split at h
  · rename_i hg
    split at h
    · rename_i he
      split at h
      · rename_i hO
        obtain ⟨v, m, n, hk, hb⟩ := pt_X h
        refine ⟨v, m, n, ⟨(by rw [he]; intro e; cases e), fun σ' ha => ?_, fun _ hst => ?_⟩, hk⟩
        rotate_left 1
        · exfalso
          rw [Bool.and_eq_true] at hst
          replace hst := hst.2
          cases ho : o.op <;> rw [ho] at hst hO <;> first | (cases hst; done) | (cases hO; done)
        unfold evDO
        rw [hg]
        simp only [he, if_true, if_pos hO]
        have hm := ha.2.1 (by simp [touches, he])
        obtain ⟨env', m', n'⟩ := σ'
        simp only at hm
        obtain ⟨rfl, rfl⟩ := hm
        exact hb env' _ (agree_op ha) rfl
      · rename_i hO
        obtain ⟨hrp, h⟩ := h
        obtain ⟨v, m, n, hk, hb, hsh⟩ := pt_eff (by unfold isE at he; rw [if_neg hO] at he; exact (Bool.and_eq_true_iff.1 he).1) h
        refine ⟨v, m, n, ⟨(by rw [he]; intro e; cases e), fun σ' ha => ?_, fun _ hst => ?_⟩, hk⟩
        rotate_left 1
        · rw [Bool.and_eq_true] at hst; exact hsh hst.2 (hrp hst.1 hst.2)
        unfold evDO
        rw [hg]
        simp only [he, if_true, if_neg hO]
        have hm := ha.2.1 (by simp [touches, he])
        obtain ⟨env', m', n'⟩ := σ'
        simp only at hm
        obtain ⟨rfl, rfl⟩ := hm
        refine ⟨fun h1 h2 => ?_, hb env' _ (agree_op ha) rfl⟩
        have h3 := hrp h1 h2
        have h4 := agree_op ha
        cases ho : o.op <;> rw [ho] at h2 <;> try (cases h2; done)
        rename_i T ad x
        rw [ho] at h3 h4
        simp only [isRpS] at h3 ⊢
        rw [h4 ad (by simp [Op.operands])]
        exact h3
    · rename_i he
      obtain ⟨v, hk, hb⟩ := pt_stp h
      refine ⟨v, σ.mem, σ.nx, ⟨fun _ => ⟨rfl, rfl⟩, fun σ' ha => ?_, fun _ _ _ => rfl⟩, hk⟩
      unfold evDO
      rw [hg]
      simp only [he]
      refine hb (σ'.bare fz o) _ (fun x hx => ?_) ⟨fun hr => ?_, fun hr => ?_⟩ rfl
      · rw [St.bare_get, St.bare_get]; exact agree_op ha x hx
      · unfold St.bare
        cases hm : rowM fz && isRd o.op with
        | true => exact csh_of_shp (ha.2.2 (.inr hm))
        | false =>
          simp only
          have hm2 : rowM fz = false := by rw [hr, Bool.and_true] at hm; exact hm
          cases hn : notIn fz o.dst with
          | true => simp only; rw [(ha.2.1 (by simp [touches, hr, hn, hm2])).1]; exact fun _ => rfl
          | false => exact fun _ => rfl
      · unfold St.bare
        have hrd : isRd o.op = false := by cases ho : o.op <;> rw [ho] at hr <;> first | rfl | (cases hr; done)
        rw [hrd, Bool.and_false]
        cases hn : notIn fz o.dst with
        | true => exact ha.2.2 (.inl (by simp [shN, hr, hn]))
        | false => exact fun _ => rfl
  · rename_i j want hg
    obtain ⟨he, h⟩ := h
    split at h
    · rename_i d hd
      have hgo : ∃ gb, (∀ (σ' : St) (K' : Bool → Prop), σ'.slot d = σ.slot d → K' gb → gof (σ'.get (.tmp d)) want K') ∧ ∃ v0, (gb = true → stp P σ (some gb) o.op fun v σ' => v = v0 ∧ σ' = σ) ∧ K (σ.put o.dst (.gd gb v0)) := by
        unfold gof at h
        split at h
        · rename_i b hb; exact ⟨_, fun σ' K' e hk => by rw [show σ'.get (.tmp d) = σ.get (.tmp d) by simp only [St.get]; rw [e], hb]; exact hk, h⟩
        · rename_i g' b hb; exact ⟨_, fun σ' K' e hk => by rw [show σ'.get (.tmp d) = σ.get (.tmp d) by simp only [St.get]; rw [e], hb]; exact hk, h⟩
        · exact h.elim
      obtain ⟨gb, hgb, v, h, hk⟩ := hgo
      refine ⟨.gd gb v, σ.mem, σ.nx, ⟨fun _ => ⟨rfl, rfl⟩, fun σ' ha => ?_, fun _ _ _ => rfl⟩, hk⟩
      unfold evDO
      rw [hg]
      simp only [he, hd]
      refine ⟨trivial, hgb σ' _ (ha.1 d ?_) ?_⟩
      · unfold looks; rw [hg]; exact List.mem_append_right _ (by simp [hd])
      · refine ⟨v, fun hgt => ?_, rfl⟩
        obtain ⟨v', ⟨hv, -⟩, hb⟩ := pt_stp (h hgt)
        exact hb σ' _ (agree_op ha) ⟨fun hr => by rw [(ha.2.1 (by simp [touches, hr, hg])).1]; exact fun _ => rfl, fun hr => ha.2.2 (.inl (by simp [shN, hr, hg]))⟩ ⟨hv, rfl⟩
    · exact h.elim

theorem slot_put (σ : St) (d : Option Tmp) (v : V) (t : Nat) : (σ.put d v).slot t = if d = some t then v else σ.slot t := by
  cases d with
  | none => simp [St.put]
  | some d =>
    simp only [St.put, St.slot, List.lookup_cons, Option.some.injEq]
    by_cases e : t = d
    · subst e; simp
    · have e1 : (t == d) = false := by simpa using e
      rw [e1, if_neg (Ne.symm e)]
theorem put_mem (σ : St) (d : Option Tmp) (v : V) : (σ.put d v).mem = σ.mem ∧ (σ.put d v).nx = σ.nx := by cases d <;> exact ⟨rfl, rfl⟩

/-- The whole of the text's order. -/
theorem trace_of {ds : List (Option Tmp)} {K : St → Prop} : ∀ (l : List Oper) (σ : St), evD fz P ds l σ K → ∃ (s : Nat → St) (v : Nat → V), s 0 = σ ∧ K (s l.length) ∧
    ∀ j o, l[j]? = some o → SP fz P ds o (s j) (v j) (s (j + 1)).mem (s (j + 1)).nx ∧ s (j + 1) = St.put ⟨(s j).env, (s (j + 1)).mem, (s (j + 1)).nx⟩ o.dst (v j)
  | [], σ, h => ⟨fun _ => σ, fun _ => .any, rfl, h, fun j o hj => by simp at hj⟩
  | o :: l, σ, h => by
    obtain ⟨v, m, n, h1, h2⟩ := sp_of h
    obtain ⟨s, vs, h3, h4, h5⟩ := trace_of l _ h2
    have hm := put_mem ⟨σ.env, m, n⟩ o.dst v
    refine ⟨fun j => match j with | 0 => σ | j + 1 => s j, fun j => match j with | 0 => v | j + 1 => vs j, rfl, by simpa using h4, fun j o' hj => ?_⟩
    cases j with
    | zero =>
      simp at hj; subst hj
      simp only [h3, hm]
      exact ⟨h1, trivial⟩
    | succ j => exact h5 j o' (by simpa using hj)

/-- What has come up, and what it has left. -/
structure At (fz : List Nat) (cx : Cx) (N : Nat) (l : List Oper) (s : Nat → St) (v : Nat → V) (L : Nat → Bool) (a : Act) (w : World) : Prop where
  sf : ∃ σ ι ρ p, SF N cx σ ι ρ a w ∧ p ≤ l.length ∧ σ.mem = (s p).mem ∧ σ.nx = (s p).nx ∧
    (∀ i o, l[i]? = some o → isE fz o = true → (L i = true ↔ i < p)) ∧
    (∀ i o t, l[i]? = some o → L i = true → o.dst = some t → σ.slot t = v i) ∧
    (∀ t, (∀ i o, l[i]? = some o → L i = true → o.dst ≠ some t) → σ.slot t = (s 0).slot t)

/-- The facts of the check. -/
structure DrawFacts (fz : List Nat) (l : List Oper) : Prop where
  low : ∀ (j : Nat) (o : Oper), l[j]? = some o → ∀ k ∈ depsOf o, k < j
  uniq : ∀ (i j : Nat) (o o' : Oper) (t : Tmp), l[i]? = some o → l[j]? = some o' → i ≠ j → o.dst = some t → o'.dst ≠ some t
  look : ∀ (i j : Nat) (o' o : Oper) (t : Tmp), l[i]? = some o' → l[j]? = some o → i ≠ j → o'.dst = some t → t ∈ looks (l.map (·.dst)) o →
    (i < j → Reach (fun j => ((l[j]?).map depsOf).getD []) j i) ∧ (j < i → Reach (fun j => ((l[j]?).map depsOf).getD []) i j)
  sh : ∀ (i j : Nat) (o' o : Oper), l[i]? = some o' → l[j]? = some o → i ≠ j → isE fz o' = true → (rowM fz && isSt o'.op) = false → (shN fz o = true ∨ (rowM fz && isRd o.op) = true) →
    (i < j → Reach (fun j => ((l[j]?).map depsOf).getD []) j i) ∧ (j < i → Reach (fun j => ((l[j]?).map depsOf).getD []) i j)
  eff : ∀ (i j : Nat) (o' o : Oper), l[i]? = some o' → l[j]? = some o → i ≠ j → isE fz o' = true → touches fz o = true →
    (i < j → Reach (fun j => ((l[j]?).map depsOf).getD []) j i) ∧ (j < i → Reach (fun j => ((l[j]?).map depsOf).getD []) i j)

theorem ordered_reach {l : List Oper} {i j : Nat} (h : ordered (befs (l.map depsOf) []) i j = true) (hne : i ≠ j) :
    (i < j → Reach (fun j => ((l[j]?).map depsOf).getD []) j i) ∧ (j < i → Reach (fun j => ((l[j]?).map depsOf).getD []) i j) := by
  have hs := befs_spec (fun j => ((l[j]?).map depsOf).getD []) (l.map depsOf) [] (fun i hi => by simp [List.getD]) (fun j k hb => by simp at hb)
  unfold ordered at h
  split at h
  · rename_i hlt; exact ⟨fun _ => hs _ _ h, fun h' => by omega⟩
  · exact ⟨fun h' => by omega, fun _ => hs _ _ h⟩

theorem drawOK_facts {l : List Oper} (h : drawOK fz l = true) : DrawFacts fz l := by
  have h1 : ∀ (j : Nat) (o : Oper), l[j]? = some o → ((depsOf o).all (fun k => Nat.blt k j) = true) ∧ ∀ (i : Nat) (o' : Oper), l[i]? = some o' → i ≠ j →
      (∀ d, o'.dst = some d → o.dst ≠ some d ∧ (d ∈ looks (l.map (·.dst)) o → ordered (befs (l.map depsOf) []) i j = true)) ∧
      (isE fz o' = true → touches fz o = true → ordered (befs (l.map depsOf) []) i j = true) ∧
      (isE fz o' = true → (rowM fz && isSt o'.op) = false → (shN fz o = true ∨ (rowM fz && isRd o.op) = true) → ordered (befs (l.map depsOf) []) i j = true) := by
    intro j o hj
    have hlt : j < l.length := (List.getElem?_eq_some_iff.1 hj).1
    have h2 := List.all_eq_true.1 h j (List.mem_range.2 hlt)
    simp only [hj, Bool.and_eq_true] at h2
    refine ⟨h2.1, fun i o' hi hne => ?_⟩
    have hlt' : i < l.length := (List.getElem?_eq_some_iff.1 hi).1
    have h3 := List.all_eq_true.1 h2.2 i (List.mem_range.2 hlt')
    simp only [hi, Bool.or_eq_true, Bool.and_eq_true, beq_iff_eq] at h3
    rcases h3 with h3 | ⟨⟨h3, h4⟩, h6⟩
    · exact (hne h3).elim
    · refine ⟨fun d hd => ?_, fun he ht => ?_, fun he hst hsh => by
        rw [he, hst] at h6
        rcases hsh with hsh | hsh
        · rw [hsh] at h6; simpa using h6
        · rw [Bool.and_eq_true] at hsh; rw [hsh.1, hsh.2] at h6; simpa using h6⟩
      · rw [hd] at h3
        simp only [Bool.and_eq_true, bne_iff_ne, ne_eq, Bool.or_eq_true, Bool.not_eq_true', List.contains_eq_mem, decide_eq_false_iff_not] at h3
        exact ⟨h3.1, fun hm => by rcases h3.2 with h5 | h5; · exact (h5 hm).elim
                                  · exact h5⟩
      · rw [he, ht] at h4; simpa using h4
  refine ⟨fun j o hj k hk => ?_, fun i j o o' t hi hj hne hd => ?_, fun i j o' o t hi hj hne hd hm => ?_, fun i j o' o hi hj hne he hst hsh => ordered_reach (((h1 j o hj).2 i o' hi hne).2.2 he hst hsh) hne, fun i j o' o hi hj hne he ht => ?_⟩
  · have := List.all_eq_true.1 (h1 j o hj).1 k hk
    simpa using this
  · exact (((h1 j o' hj).2 i o hi hne).1 t hd).1
  · exact ordered_reach ((((h1 j o hj).2 i o' hi hne).1 t hd).2 hm) hne
  · exact ordered_reach (((h1 j o hj).2 i o' hi hne).2.1 he ht) hne

/-- What has come up is closed under what stands before. -/
def Closed (l : List Oper) (L : Nat → Bool) : Prop := ∀ j o, l[j]? = some o → L j = true → ∀ k ∈ depsOf o, L k = true

theorem closed_reach {l : List Oper} {L : Nat → Bool} (hc : Closed l L) {j k : Nat} (hr : Reach (fun j => ((l[j]?).map depsOf).getD []) j k) :
    (∀ i ∈ ((l[j]?).map depsOf).getD [], L i = true) → L k = true := by
  induction hr with
  | one h => exact fun hd => hd _ h
  | more h h' ih =>
    intro hd
    refine ih fun i' hi' => ?_
    rename_i j i k
    cases ho : l[i]? with
    | none => simp [ho] at hi'
    | some o => simp only [ho, Option.map_some, Option.getD_some] at hi'; exact hc i o ho (hd i h) i' hi'

theorem slot_final {l : List Oper} {s : Nat → St} {v : Nat → V} (huniq : ∀ (i j : Nat) (o o' : Oper) (t : Tmp), l[i]? = some o → l[j]? = some o' → i ≠ j → o.dst = some t → o'.dst ≠ some t)
    (hs : ∀ j o, l[j]? = some o → s (j + 1) = St.put ⟨(s j).env, (s (j + 1)).mem, (s (j + 1)).nx⟩ o.dst (v j)) : ∀ j, j ≤ l.length →
    (∀ i o t, l[i]? = some o → i < j → o.dst = some t → (s j).slot t = v i) ∧ (∀ t, (∀ i o, l[i]? = some o → i < j → o.dst ≠ some t) → (s j).slot t = (s 0).slot t)
  | 0, _ => ⟨fun i o t _ h => by omega, fun t _ => rfl⟩
  | j + 1, hj => by
    obtain ⟨h1, h2⟩ := slot_final huniq hs j (by omega)
    obtain ⟨o, ho⟩ : ∃ o, l[j]? = some o := ⟨l[j], List.getElem?_eq_getElem (by omega)⟩
    have e := hs j o ho
    have esl : ∀ t, (s (j + 1)).slot t = if o.dst = some t then v j else (s j).slot t := fun t => by
      have := slot_put ⟨(s j).env, (s (j + 1)).mem, (s (j + 1)).nx⟩ o.dst (v j) t
      rw [← e] at this; exact this
    refine ⟨fun i o' t hi hlt hd => ?_, fun t ht => ?_⟩
    · rw [esl]
      by_cases hij : i = j
      · subst hij; rw [ho] at hi; cases hi; rw [if_pos hd]
      · rw [if_neg (fun h => huniq i j o' o t hi ho hij hd h)]
        exact h1 i o' t hi (by omega) hd
    · rw [esl, if_neg (ht j o ho (by omega))]
      exact h2 t fun i o' hi hlt => ht i o' hi (by omega)

theorem mem_const {l : List Oper} {s : Nat → St} (hs : ∀ j o, l[j]? = some o → isE fz o = false → (s (j + 1)).mem = (s j).mem ∧ (s (j + 1)).nx = (s j).nx) (p : Nat) : ∀ q, p ≤ q → q ≤ l.length →
    (∀ i o, l[i]? = some o → p ≤ i → i < q → isE fz o = false) → (s q).mem = (s p).mem ∧ (s q).nx = (s p).nx
  | q, hpq, hq, h => by
    induction q with
    | zero => have : p = 0 := by omega
              subst this; exact ⟨rfl, rfl⟩
    | succ q ih =>
      by_cases e : p = q + 1
      · subst e; exact ⟨rfl, rfl⟩
      · obtain ⟨o, ho⟩ : ∃ o, l[q]? = some o := ⟨l[q], List.getElem?_eq_getElem (by omega)⟩
        have h1 := hs q o ho (h q o ho (by omega) (by omega))
        have h2 := ih (by omega) (by omega) fun i o hi h3 h4 => h i o hi h3 (by omega)
        exact ⟨h1.1.trans h2.1, h1.2.trans h2.2⟩

theorem shp_const {l : List Oper} {s : Nat → St} (hs : ∀ j o, l[j]? = some o → isE fz o = false → (s (j + 1)).mem = (s j).mem ∧ (s (j + 1)).nx = (s j).nx)
    (hst : ∀ j o, l[j]? = some o → isE fz o = true → (rowM fz && isSt o.op) = true → ∀ id, (shp (s (j + 1)).mem).look id = (shp (s j).mem).look id) (p : Nat) : ∀ q, p ≤ q → q ≤ l.length →
    (∀ i o, l[i]? = some o → p ≤ i → i < q → isE fz o = true → (rowM fz && isSt o.op) = true) → ∀ id, (shp (s q).mem).look id = (shp (s p).mem).look id
  | q, hpq, hq, h => by
    induction q with
    | zero => have : p = 0 := by omega
              subst this; exact fun _ => rfl
    | succ q ih =>
      by_cases e : p = q + 1
      · subst e; exact fun _ => rfl
      · obtain ⟨o, ho⟩ : ∃ o, l[q]? = some o := ⟨l[q], List.getElem?_eq_getElem (by omega)⟩
        have h2 := ih (by omega) (by omega) fun i o hi h3 h4 => h i o hi h3 (by omega)
        intro id
        rw [← h2 id]
        cases hE : isE fz o with
        | false => rw [(hs q o ho hE).1]
        | true => exact hst q o ho hE (h q o ho (by omega) (by omega) hE) id

end
end Go.Proofs.Ytcphhbiehaimeaa
