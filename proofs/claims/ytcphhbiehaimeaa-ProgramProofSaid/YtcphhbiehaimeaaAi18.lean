/- A region whose order is open: the walk. -/
import Derived.Test.YtcphhbiehaimeaaAi17
namespace Go.Proofs.Ytcphhbiehaimeaa
open Go.RowKit
set_option linter.unusedVariables false
set_option linter.unusedSimpArgs false

section
variable {fz : List Nat} {P : Program} {N : Nat} {C : Ctl P N} {keep : List Nat} {cx : Cx}

theorem evDO_sound {ops : Array Oper} {i : Nat} {o : Oper} {σ : St} {ι : Nat → Nat} {ρ : Nat → Value} {a : Act} {w : World} {K : St → Prop} {Kc : Act → World → Prop} {Q : Exit → Act → World → Prop}
    (hs : evDO fz P (ops.toList.map (·.dst)) o σ K) (hi : ops[i]? = some o) (hd : dstIn N o.dst = true) (hN : ∀ (j d : Nat), (ops[j]?).bind (·.dst) = some d → d < N) (h : SF N cx σ ι ρ a w)
    (hrest : ∀ σ' ι' ρ' a' w', K σ' → SF N cx σ' ι' ρ' a' w' → Kc a' w') : wpOpIn (Fr cx.r) 0 P ops Q i Kc a w := by
  unfold wpOpIn
  simp only [hi]
  have plain : ∀ {g : Option Bool}, g.getD true = true → (stp P σ g o.op fun v σ' => K (σ'.put o.dst v)) → o.guard = none → (if Region.wanted o (yielded ops a.tmps) = true then o.wpIn (Fr cx.r) 0 P a w Kc Q else (∀ f, o.about P w a.eval = some f → (Fr cx.r).fn f) ∧ Kc (a.put o.dst undef) w) := by
    intro g hg hs hgd
    rw [if_pos (by simp [Region.wanted, hgd])]
    refine Oper.wpIn_of_wp (stp_nodefer hs) (Oper.wp_mono (fun a' w' ⟨v, σ', ι', ρ', x, hk, ha, hsr, hmr⟩ => ?_) (stp_sound (cx := cx) h.sr hg hs))
    subst ha
    exact hrest _ ι' ρ' _ _ hk (SF.put ⟨hsr, h.size, h.defers⟩ hd hmr)
  unfold evDO at hs
  split at hs
  · rename_i hg
    split at hs
    · split at hs
      · rw [if_pos (by simp [Region.wanted, hg])]
        refine Oper.wpIn_of_wp (stpX_nodefer hs) (Oper.wp_mono (fun a' w' ⟨v, σ', ι', ρ', x, hk, ha, hsr, hmr⟩ => ?_) (stpX_sound (cx := cx) h.sr hs))
        subst ha
        exact hrest _ ι' ρ' _ _ hk (SF.put ⟨hsr, h.size, h.defers⟩ hd hmr)
      · exact plain rfl hs.2 hg
    · refine plain (g := some true) rfl ?_ hg
      have h2 : stp P σ (some true) o.op fun v _ => K (σ.put o.dst v) := by
        unfold St.bare at hs
        split at hs
        · rename_i hm
          rw [Bool.and_eq_true] at hm
          obtain ⟨e, m, n⟩ := σ; exact stp_csh hm.2 hs
        · split at hs
          · exact hs
          · obtain ⟨e, m, n⟩ := σ; exact stp_free hs
      obtain ⟨v, hk, hb⟩ := pt_stp h2
      exact hb _ _ (fun _ _ => rfl) ⟨fun _ _ => rfl, fun _ _ => rfl⟩ hk
  · rename_i j want hg
    obtain ⟨-, hs⟩ := hs
    split at hs
    · rename_i d hj
      rw [nth_eq] at hj
      obtain ⟨gb, hs, hiff⟩ := gof_sound hj h.sr (by rw [h.size]; exact hN j d hj) hs
      by_cases hw : Region.wanted o (yielded ops a.tmps) = true
      · rw [if_pos hw]
        have hgb : gb = true := hiff.2 (by simpa [Region.wanted, hg] using hw)
        obtain ⟨v0, hs, hK⟩ := hs
        refine Oper.wpIn_of_wp (stp_nodefer (hs hgb)) (Oper.wp_mono (fun a' w' ⟨v, σ', ι', ρ', x, hk, ha, hsr, hmr⟩ => ?_) (stp_sound (cx := cx) h.sr (by simpa using hgb) (hs hgb)))
        subst ha
        obtain ⟨rfl, rfl⟩ := hk
        exact hrest _ ι' ρ' _ _ hK (SF.put ⟨hsr, h.size, h.defers⟩ hd (.gd _ _ _ _ (fun _ => hmr) (fun e => by rw [hgb] at e; cases e)))
      · rw [if_neg hw]
        refine ⟨fun _ _ => trivial, ?_⟩
        have hgb : gb = false := by
          cases gb with
          | false => rfl
          | true => exact (hw (by simpa [Region.wanted, hg] using hiff.1 rfl)).elim
        obtain ⟨v0, -, hK⟩ := hs
        exact hrest _ ι ρ _ _ hK (SF.put h hd (.gd _ _ _ _ (fun e => by rw [hgb] at e; cases e) (fun _ => rfl)))
    · exact hs.elim

theorem deps_mem {o : Oper} {L : Nat → Bool} (h : ∀ e ∈ o.after, Region.binds .any e = true → L e.on = true) : ∀ k ∈ depsOf o, L k = true := by
  intro k hk
  obtain ⟨e, he, rfl⟩ := List.mem_map.1 hk
  have := List.mem_filter.1 he
  exact h e (by simpa using this.1) this.2
theorem deps_of {o : Oper} {L : Nat → Bool} (h : ∀ k ∈ depsOf o, L k = true) : ∀ e ∈ o.after, Region.binds .any e = true → L e.on = true :=
  fun e he hb => h _ (List.mem_map.2 ⟨e, List.mem_filter.2 ⟨by simpa using he, hb⟩, rfl⟩)

theorem all_up {ops : Array Oper} (hf : DrawFacts fz ops.toList) {listed : Array Bool} (hsz : listed.size = ops.size) (hr : Region.ready .any ops listed = []) : ∀ i, i < ops.size → listed.getD i false = true := by
  intro i
  induction i using Nat.strongRecOn with
  | _ i ih =>
    intro hi
    cases hL : listed.getD i false with
    | true => rfl
    | false =>
      have : i ∈ Region.ready .any ops listed := by
        rw [mem_ready]
        refine ⟨by simpa [Array.getD, hsz, hi] using hL, ops[i], by simp [hi], deps_of (L := fun k => listed.getD k false) fun k hk => ?_⟩
        have hlow := hf.low i ops[i] (by simp [hi]) k hk
        exact ih k hlow (by omega)
      rw [hr] at this; cases this

theorem draw_main {ops : Array Oper} (hf : DrawFacts fz ops.toList) (hN : dstsIn N ops.toList = true) {s : Nat → St} {v : Nat → V} {K : St → Prop} {Q : Exit → Act → World → Prop} (hK : K (s ops.size))
    (hs : ∀ j o, ops.toList[j]? = some o → SP fz P (ops.toList.map (·.dst)) o (s j) (v j) (s (j + 1)).mem (s (j + 1)).nx ∧ s (j + 1) = St.put ⟨(s j).env, (s (j + 1)).mem, (s (j + 1)).nx⟩ o.dst (v j))
    (hq : ∀ σ' ι' ρ' a' w', K σ' → SF N cx σ' ι' ρ' a' w' → Q .normal a' w') :
    ∀ (fuel : Nat) (listed : Array Bool) (a : Act) (w : World), listed.size = ops.size → ((List.range ops.size).filter fun i => !listed.getD i false).length ≤ fuel → Closed ops.toList (fun i => listed.getD i false) →
      At fz cx N ops.toList s v (fun i => listed.getD i false) a w → wpAnyIn (Fr cx.r) 0 P .any ops Q fuel listed a w := by
  have hlen : ops.toList.length = ops.size := by simp
  have hmem : ∀ j o, ops.toList[j]? = some o → isE fz o = false → (s (j + 1)).mem = (s j).mem ∧ (s (j + 1)).nx = (s j).nx := fun j o hj he => (hs j o hj).1.1 he
  have hslot := slot_final hf.uniq (fun j o hj => (hs j o hj).2)
  -- all have come up
  have done : ∀ (listed : Array Bool) (a : Act) (w : World), (∀ i, i < ops.size → listed.getD i false = true) → At fz cx N ops.toList s v (fun i => listed.getD i false) a w → Q .normal a w := by
    rintro listed a w hall ⟨σ, ι, ρ, p, hsf, hp, hm, hn, he, h1, h2⟩
    refine hq _ ι ρ a w hK ?_
    have hc := mem_const hmem p ops.size (by omega) (by omega) fun i o hi hpi hin => by
      cases hE : isE fz o with
      | false => rfl
      | true => have := (he i o hi hE).1 (hall i hin); omega
    have hsl := hslot ops.size (by omega)
    have esl : ∀ t, (s ops.size).slot t = σ.slot t := fun t => by
      by_cases hw : ∃ (i : Nat) (o : Oper), ops.toList[i]? = some o ∧ o.dst = some t
      · obtain ⟨i, o, hi, hd⟩ := hw
        have hlt : i < ops.size := by rw [← hlen]; exact (List.getElem?_eq_some_iff.1 hi).1
        rw [hsl.1 i o t hi hlt hd, h1 i o t hi (hall i hlt) hd]
      · rw [hsl.2 t (fun i o hi _ hd => hw ⟨i, o, hi, hd⟩), h2 t (fun i o hi _ hd => hw ⟨i, o, hi, hd⟩)]
    have em : (s ops.size).mem = σ.mem := hc.1.trans hm.symm
    have en : (s ops.size).nx = σ.nx := hc.2.trans hn.symm
    exact ⟨⟨by rw [em, en]; exact hsf.sr.ml, fun t => by rw [em, en, esl]; exact hsf.sr.env t⟩, hsf.size, hsf.defers⟩
  intro fuel
  induction fuel with
  | zero =>
    intro listed a w hsz hcnt hcl hat
    have hall : ∀ i, i < ops.size → listed.getD i false = true := by
      intro i hi
      cases hL : listed.getD i false with
      | true => rfl
      | false =>
        have : i ∈ (List.range ops.size).filter fun i => !listed.getD i false := List.mem_filter.2 ⟨List.mem_range.2 hi, by rw [hL]; rfl⟩
        have := List.length_pos_of_mem this
        omega
    refine ⟨?_, done listed a w hall hat⟩
    cases hr : Region.ready .any ops listed with
    | nil => rfl
    | cons i r =>
      have : i ∈ Region.ready .any ops listed := by rw [hr]; simp
      rw [mem_ready] at this
      obtain ⟨h0, o, ho, -⟩ := this
      have hi : i < ops.size := (Array.getElem?_eq_some_iff.1 ho).1
      have := hall i hi
      simp [Array.getD, hsz, hi] at h0 this
      rw [h0] at this; cases this
  | succ fuel ih =>
    intro listed a w hsz hcnt hcl hat
    refine ⟨fun hr => done listed a w (all_up hf hsz hr) hat, fun i hi => ?_⟩
    rw [mem_ready] at hi
    obtain ⟨h0, o, ho, hdeps⟩ := hi
    have hil : i < ops.size := (Array.getElem?_eq_some_iff.1 ho).1
    have hoL : ops.toList[i]? = some o := by simpa using ho
    have hLi : listed.getD i false = false := by simpa [Array.getD, hsz, hil] using h0
    have hdep : ∀ k ∈ ((ops.toList[i]?).map depsOf).getD [], listed.getD k false = true := by
      rw [hoL]; simpa using deps_mem (L := fun k => listed.getD k false) hdeps
    obtain ⟨σ, ι, ρ, p, hsf, hp, hm, hn, he, h1, h2⟩ := hat
    -- what stands before i has come up; what stands behind has not
    have before : ∀ k, Reach (fun j => ((ops.toList[j]?).map depsOf).getD []) i k → listed.getD k false = true := fun k hr => closed_reach hcl hr hdep
    have behind : ∀ k o', ops.toList[k]? = some o' → Reach (fun j => ((ops.toList[j]?).map depsOf).getD []) k i → listed.getD k false = false := fun k o' hk hr => by
      cases hL : listed.getD k false with
      | false => rfl
      | true =>
        have := closed_reach hcl hr (by rw [hk]; simpa using hcl k o' hk hL)
        rw [hLi] at this; cases this
    have hslI := hslot i (by omega)
    have hag : agree fz (ops.toList.map (·.dst)) (s i) σ o := by
      refine ⟨fun t ht => ?_, fun htc => ?_, fun hsh => ?_⟩
      rotate_left 2
      · have heff : ∀ k o', ops.toList[k]? = some o' → isE fz o' = true → (rowM fz && isSt o'.op) = false → (k < p ↔ k < i) := fun k o' hk hE hst => by
          rw [← he k o' hk hE]
          by_cases hki : k = i
          · subst hki; rw [hLi]; simp
          · have hord := hf.sh k i o' o hk hoL hki hE hst hsh
            rcases Nat.lt_or_gt_of_ne hki with hlt | hgt
            · simp [before k (hord.1 hlt), hlt]
            · rw [behind k o' hk (hord.2 hgt)]; simp; omega
        intro id
        rw [hm]
        have hst : ∀ j o, ops.toList[j]? = some o → isE fz o = true → (rowM fz && isSt o.op) = true → ∀ id, (shp (s (j + 1)).mem).look id = (shp (s j).mem).look id := fun j o hj hE hs' => (hs j o hj).1.2.2 hE hs'
        rcases Nat.le_total p i with hpi | hpi
        · refine (shp_const hmem hst p i hpi (by omega) (fun k o' hk h3 h4 hE => ?_) id).symm
          cases hc : rowM fz && isSt o'.op with
          | true => rfl
          | false => have := (heff k o' hk hE hc).2 h4; omega
        · refine shp_const hmem hst i p hpi hp (fun k o' hk h3 h4 hE => ?_) id
          cases hc : rowM fz && isSt o'.op with
          | true => rfl
          | false => have := (heff k o' hk hE hc).1 h4; omega
      · by_cases hw : ∃ (k : Nat) (o' : Oper), ops.toList[k]? = some o' ∧ o'.dst = some t
        · obtain ⟨k, o', hk, hd⟩ := hw
          by_cases hki : k = i
          · subst hki
            rw [h2 t fun i' o'' hi' hL hd' => ?_, hslI.2 t fun i' o'' hi' hlt hd' => ?_]
            · by_cases e : i' = k
              · omega
              · exact hf.uniq i' k o'' o' t hi' hk e hd' hd
            · by_cases e : i' = k
              · subst e; rw [hLi] at hL; cases hL
              · exact hf.uniq i' k o'' o' t hi' hk e hd' hd
          · have hord := hf.look k i o' o t hk hoL hki hd ht
            rcases Nat.lt_or_gt_of_ne hki with hlt | hgt
            · rw [h1 k o' t hk (before k (hord.1 hlt)) hd, hslI.1 k o' t hk hlt hd]
            · have hLk := behind k o' hk (hord.2 hgt)
              rw [h2 t fun i' o'' hi' hL hd' => ?_, hslI.2 t fun i' o'' hi' hlt hd' => ?_]
              · by_cases e : i' = k
                · omega
                · exact hf.uniq i' k o'' o' t hi' hk e hd' hd
              · by_cases e : i' = k
                · subst e; rw [hLk] at hL; cases hL
                · exact hf.uniq i' k o'' o' t hi' hk e hd' hd
        · rw [h2 t (fun i o hi _ hd => hw ⟨i, o, hi, hd⟩), hslI.2 t (fun i o hi _ hd => hw ⟨i, o, hi, hd⟩)]
      · have heff : ∀ k o', ops.toList[k]? = some o' → isE fz o' = true → (k < p ↔ k < i) := fun k o' hk hE => by
          rw [← he k o' hk hE]
          by_cases hki : k = i
          · subst hki; rw [hLi]; simp
          · have hord := hf.eff k i o' o hk hoL hki hE htc
            rcases Nat.lt_or_gt_of_ne hki with hlt | hgt
            · simp [before k (hord.1 hlt), hlt]
            · rw [behind k o' hk (hord.2 hgt)]; simp; omega
        rw [hm, hn]
        rcases Nat.le_total p i with hpi | hpi
        · have := mem_const hmem p i hpi (by omega) fun k o' hk h3 h4 => by
            cases hE : isE fz o' with
            | false => rfl
            | true => have := (heff k o' hk hE).2 h4; omega
          exact ⟨this.1.symm, this.2.symm⟩
        · exact mem_const hmem i p hpi hp fun k o' hk h3 h4 => by
            cases hE : isE fz o' with
            | false => rfl
            | true => have := (heff k o' hk hE).1 h4; omega
    have hsp := (hs i o hoL).1.2.1 σ hag
    have hdo : dstIn N o.dst = true := List.all_eq_true.1 hN o (by simpa using Array.mem_of_getElem? ho)
    refine evDO_sound hsp ho hdo (dstsIn_spec hN) hsf fun τ ι' ρ' a' w' hτ hsf' => ?_
    have hget : ∀ k, (listed.setIfInBounds i true).getD k false = if k = i then true else listed.getD k false := fun k => by
      rw [Array.getD_eq_getD_getElem?, Array.getD_eq_getD_getElem?]
      by_cases e : k = i
      · subst e; simp [hsz, hil]
      · rw [if_neg e, Array.getElem?_setIfInBounds_ne (Ne.symm e)]
    refine ih _ a' w' (by simpa using hsz) ?_ ?_ ?_
    · have hsub : ((List.range ops.size).filter fun k => !(listed.setIfInBounds i true).getD k false) = ((List.range ops.size).filter fun k => !listed.getD k false).filter fun k => k ≠ i := by
        rw [List.filter_filter]
        refine List.filter_congr fun k _ => ?_
        rw [hget]
        by_cases e : k = i
        · subst e; simp
        · simp [e]
      rw [hsub]
      have hin : i ∈ (List.range ops.size).filter fun k => !listed.getD k false := List.mem_filter.2 ⟨List.mem_range.2 hil, by rw [hLi]; rfl⟩
      have := (List.length_filter_lt_length_iff_exists (p := fun k => decide (k ≠ i)) (l := (List.range ops.size).filter fun k => !listed.getD k false)).2 ⟨i, hin, by simp⟩
      omega
    · intro j o' hj hL k hk
      simp only [hget] at hL ⊢
      by_cases hki : k = i
      · rw [if_pos hki]
      · rw [if_neg hki]
        by_cases hji : j = i
        · subst hji; rw [hoL] at hj; cases hj
          exact hdep k (by rw [hoL]; simpa using hk)
        · rw [if_neg hji] at hL; exact hcl j o' hj hL k hk
    · have esl : ∀ t, τ.slot t = if o.dst = some t then v i else σ.slot t := fun t => by rw [hτ, slot_put]; rfl
      have emem : τ.mem = (if isE fz o then (s (i + 1)).mem else σ.mem) ∧ τ.nx = (if isE fz o then (s (i + 1)).nx else σ.nx) := by rw [hτ]; exact put_mem _ _ _
      refine ⟨τ, ι', ρ', if isE fz o then i + 1 else p, hsf', ?_, ?_, ?_, ?_, ?_, ?_⟩
      · split <;> omega
      · rw [emem.1]; cases hE : isE fz o <;> simp [hm]
      · rw [emem.2]; cases hE : isE fz o <;> simp [hn]
      · intro k o' hk hE'
        rw [hget]
        by_cases hki : k = i
        · subst hki; rw [hoL] at hk; cases hk; simp [hE']
        · rw [if_neg hki]
          cases hE : isE fz o with
          | false => simpa using he k o' hk hE'
          | true =>
            have hord := hf.eff k i o' o hk hoL hki hE' (by simp [touches, hE])
            simp only [if_true]
            rcases Nat.lt_or_gt_of_ne hki with hlt | hgt
            · simp [before k (hord.1 hlt)]; omega
            · rw [behind k o' hk (hord.2 hgt)]; simp; omega
      · intro k o' t hk hL hd
        rw [hget] at hL
        rw [esl]
        by_cases hki : k = i
        · subst hki; rw [hoL] at hk; cases hk; rw [if_pos hd]
        · rw [if_neg hki] at hL
          rw [if_neg (hf.uniq k i o' o t hk hoL hki hd)]
          exact h1 k o' t hk hL hd
      · intro t ht
        rw [esl, if_neg (ht i o hoL (by rw [hget, if_pos rfl]))]
        exact h2 t fun k o' hk hL => ht k o' hk (by rw [hget]; split <;> first | rfl | exact hL)

theorem SF.drew {σ : St} {ι : Nat → Nat} {ρ : Nat → Value} {a : Act} {w : World} (h : SF N cx σ ι ρ a w) : SF N cx σ ι ρ a { w with drawn := w.drawn + 1 } := by
  obtain ⟨m1, m2⟩ := h.sr.ml.grow (w' := { w with drawn := w.drawn + 1 }) rfl rfl rfl (Nat.le_refl _) (fun _ _ => rfl)
  exact ⟨⟨m1, fun t => m2 _ _ _ (h.sr.env t)⟩, h.size, h.defers⟩

/-- **A region whose order is open.** -/
theorem evC_draw {id : Nat} {l : List Oper} {ds : List (Option Tmp)} {σ : St} {Ψ : Exit → St → Prop} (hm : P.follows .mixedOrders = true) (hd : dstsIn N l = true) (hok : drawOK fz l = true) (hds : l.map (·.dst) = ds)
    (h : ∀ K : St → Prop, (∀ σ', Ψ .normal (σ'.norm keep) → K σ') → evD fz P ds l σ K) : evC C keep (.region id l.toArray true) σ Ψ := by
  show Tr C (.region id l.toArray true) σ Ψ
  intro cx ι ρ a w hR hf
  subst hds
  obtain ⟨s, v, h0, hK, hs⟩ := trace_of l σ (h (fun σ' => Ψ .normal (σ'.norm keep)) fun _ h => h)
  refine wpIn_region_any hm ?_
  refine draw_main (cx := cx) (ops := l.toArray) (drawOK_facts hok) hd (K := fun σ' => Ψ .normal (σ'.norm keep)) (by simpa using hK) (by simpa using hs)
    (fun σ' ι' ρ' a' w' hk hsf => ⟨cx, _, ι', ρ', C.refl hR, hk, ⟨hsf.sr.norm keep, hsf.size, hsf.defers⟩⟩) _ _ a _ (by simp) ?_ ?_ ?_
  · exact Nat.le_trans (List.length_filter_le _ _) (by simp)
  · intro j o hj hL; exfalso; simp [Array.getD] at hL
  · have hLf : ∀ i, (Array.replicate l.toArray.size false).getD i false = false := fun i => by simp [Array.getD]
    refine ⟨σ, ι, ρ, 0, hf.drew, Nat.zero_le _, by rw [h0], by rw [h0], fun i o hi he => by rw [hLf]; simp, (fun i o t hi hL => by rw [hLf] at hL; cases hL), fun t _ => by rw [h0]⟩

theorem evDO_guard {ds : List (Option Tmp)} {dst : Option Tmp} {op : Op} {ty : TypeId} {pos : String} {after : Array Edge} {j : Nat} {want : Bool} {d : Nat} {σ : St} {K : St → Prop} (he : isE fz ⟨dst, op, ty, pos, after, some (j, want)⟩ = false) (hj : nth ds j = some d) {gb : Bool}
    (hg : ∀ K' : Bool → Prop, K' gb → gof (σ.get (.tmp d)) want K') {v0 : V} (hs : gb = true → stp P σ (some gb) op fun v σ' => v = v0 ∧ σ' = σ) (hK : K (σ.put dst (.gd gb v0))) :
    evDO fz P ds ⟨dst, op, ty, pos, after, some (j, want)⟩ σ K := by
  unfold evDO; simp only [hj]; exact ⟨he, hg _ ⟨v0, hs, hK⟩⟩
theorem evD_nil {ds : List (Option Tmp)} {σ : St} {K : St → Prop} (h : K σ) : evD fz P ds [] σ K := h
theorem evD_step {ds : List (Option Tmp)} {o : Oper} {l : List Oper} {σ : St} {K : St → Prop} (h : ∀ K' : St → Prop, (∀ σ', evD fz P ds l σ' K → K' σ') → evDO fz P ds o σ K') : evD fz P ds (o :: l) σ K :=
  h _ fun _ h => h

end
end Go.Proofs.Ytcphhbiehaimeaa
