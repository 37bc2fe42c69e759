/- Loops; what is forgotten. -/
import Derived.Test.YtcphhbiehaimeaaAi14
namespace Go.Proofs.Ytcphhbiehaimeaa
open Go.RowKit
set_option linter.unusedVariables false
set_option linter.unusedSimpArgs false

section
variable {P : Program} {N : Nat} {C : Ctl P N} {keep : List Nat}

theorem exists_least {p : Nat → Prop} : ∀ n, p n → ∃ n, p n ∧ ∀ m, p m → n ≤ m := by
  intro n
  induction n using Nat.strongRecOn with
  | _ n ih =>
    intro h
    by_cases hm : ∃ m, m < n ∧ p m
    · obtain ⟨m, hlt, hp⟩ := hm; exact ih m hlt hp
    · exact ⟨n, h, fun m hp => Nat.le_of_not_lt fun hlt => hm ⟨m, hlt, hp⟩⟩

open Classical in
theorem tr_loop {c : Code} {σ : St} {Ψ : Exit → St → Prop} (Inv : Nat → St → Prop) (n0 : Nat) (h0 : Inv n0 σ)
    (round : ∀ n σ, Inv n σ → Tr C c σ (thenE (fun σ' => ∃ m, m < n ∧ Inv m σ') Ψ)) : Tr C (.loop c) σ Ψ := by
  intro cx ι ρ a w hR hf
  let Q : Act → World → Nat → Prop := fun a w n => ∃ cx' σ ι ρ, C.L cx cx' ∧ Inv n σ ∧ SF N cx' σ ι ρ a w
  let I : Act → World → Prop := fun a w => ∃ n, Q a w n
  let μ : Act → World → Nat := fun a w => if h : ∃ n, Q a w n ∧ ∀ m, Q a w m → n ≤ m then Classical.choose h else 0
  have hμ : ∀ a w (h : I a w), Q a w (μ a w) ∧ ∀ m, Q a w m → μ a w ≤ m := by
    intro a w h
    obtain ⟨n, hn⟩ := h
    have h' := exists_least n hn
    have e : μ a w = Classical.choose h' := dif_pos h'
    rw [e]
    exact Classical.choose_spec h'
  refine wpIn_loop I μ ⟨n0, cx, σ, ι, ρ, C.refl hR, h0, hf⟩ fun a w hI => ?_
  obtain ⟨⟨cx1, σ1, ι1, ρ1, hL1, h1, h2⟩, -⟩ := hμ a w hI
  have hwp := round _ σ1 h1 cx1 ι1 ρ1 a w (C.pres hL1 hR) h2
  rw [C.hr hL1] at hwp
  refine Code.wpIn_mono (fun e a' w' hq => ?_) hwp
  obtain ⟨cx', σ', ι', ρ', hL2, hk, hs⟩ := hq
  replace hL2 := C.trans hL1 hL2
  cases e with
  | normal =>
    obtain ⟨m, hm, hi⟩ := hk
    have hI' : I a' w' := ⟨m, cx', σ', ι', ρ', hL2, hi, hs⟩
    exact ⟨hI', Nat.lt_of_le_of_lt ((hμ a' w' hI').2 m ⟨cx', σ', ι', ρ', hL2, hi, hs⟩) hm⟩
  | _ => exact ⟨cx', σ', ι', ρ', hL2, hk, hs⟩

theorem evC_loop {c : Code} {σ : St} {Ψ : Exit → St → Prop} (Inv : Nat → St → Prop) (n0 : Nat) (h0 : Inv n0 σ)
    (round : ∀ n σ, Inv n σ → evC C keep c σ (thenE (fun σ' => ∃ m, m < n ∧ Inv m σ') Ψ)) : evC C keep (.loop c) σ Ψ :=
  tr_loop Inv n0 h0 fun n σ h => evC_sound c σ _ (round n σ h)

/-- σ' says no more than σ. -/
def Wk (N : Nat) (σ σ' : St) : Prop := ∀ (cx : Cx) (ι : Nat → Nat) (ρ : Nat → Value) (a : Act) (w : World), SF N cx σ ι ρ a w → ∃ ι' ρ', SF N cx σ' ι' ρ' a w

theorem Wk.refl (σ : St) : Wk N σ σ := fun _ ι ρ _ _ h => ⟨ι, ρ, h⟩
theorem Wk.trans {σ σ1 σ2 : St} (h : Wk N σ σ1) (k : Wk N σ1 σ2) : Wk N σ σ2 := fun cx ι ρ a w hf => by
  obtain ⟨ι', ρ', h1⟩ := h cx ι ρ a w hf
  exact k cx ι' ρ' a w h1

theorem evC_wk {c : Code} {σ σ' : St} {Ψ : Exit → St → Prop} (hw : Wk N σ σ') (h : Tr C c σ' Ψ) : Tr C c σ Ψ := fun cx ι ρ a w hR hf => by
  obtain ⟨ι', ρ', h1⟩ := hw cx ι ρ a w hf
  exact h cx ι' ρ' a w hR h1

/-- Slots may be forgotten. -/
theorem Wk.norm (σ : St) (keep : List Nat) : Wk N σ (σ.norm keep) := fun _ ι ρ _ _ h => ⟨ι, ρ, ⟨h.sr.norm keep, h.size, h.defers⟩⟩
/-- What is written no more. -/
theorem Wk.fz {σ : St} {id : Nat} {o : AObj} (hl : σ.mem.look id = some o) (hc : o.clo = true) : Wk N σ (σ.fz id o) := fun _ ι ρ _ _ h => ⟨ι, ρ, ⟨h.sr.fz hl hc, h.size, h.defers⟩⟩

/-- Objects may be forgotten. -/
theorem Wk.drop {σ : St} (ids : Nat → Bool) : Wk N σ ⟨σ.env, σ.mem.filter (fun p => ids p.1), σ.nx⟩ := fun cx ι ρ a w h => by
  have hm := h.sr.ml
  have hin : ∀ p, p ∈ σ.mem.filter (fun p => ids p.1) → p ∈ σ.mem := fun p hp => (List.mem_filter.1 hp).1
  have hO : ∀ b, OO cx.X (σ.mem.filter (fun p => ids p.1)) ι ρ b → OO cx.X σ.mem ι ρ b := by
    rintro b (hx | ⟨p, hp, hpb⟩)
    · exact .inl hx
    · exact .inr ⟨p, hin p hp, hpb⟩
  have hk : ∀ c v x, Rel w (OO cx.X σ.mem ι ρ) ι ρ σ.nx c v x → Rel w (OO cx.X (σ.mem.filter (fun p => ids p.1)) ι ρ) ι ρ σ.nx c v x := fun c v x hr =>
    hr.mono (fun a y hc hn => ⟨hc, fun h => hn (hO _ h)⟩) (fun _ _ => ⟨rfl, rfl⟩) (Nat.le_refl _)
  exact ⟨ι, ρ, ⟨⟨⟨hm.os, hm.tape, hm.output, hm.size, hm.old, fun p hp q hq => hm.keys p (hin p hp) q (hin q hq), fun p hp => hm.lt p (hin p hp), fun p hp => hm.own p (hin p hp),
    fun p hp q hq => hm.inj p (hin p hp) q (hin q hq), hm.xlt, fun p hp => OR.mono hk rfl rfl (fun _ _ => rfl) (hm.obj p (hin p hp))⟩, fun t => hk _ _ _ (h.sr.env t)⟩, h.size, h.defers⟩⟩

end
end Go.Proofs.Ytcphhbiehaimeaa
