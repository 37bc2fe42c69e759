/- Slices that grow; parts laid into zero values. -/
import Derived.Test.YtcphhbiehaimeaaAi5
namespace Go.Proofs.Ytcphhbiehaimeaa
open Go.RowKit
set_option linter.unusedVariables false
set_option linter.unusedSimpArgs false

/-! #### an append, at a slice of the call's own -/
section
variable {P : Program} (w : World)

theorem run_append_blk (t ty e : TypeId) (i : TypeInfo) (z : Value) (size bytes : Nat) (ht : P.underlying t = some (.slice e)) (hi : P.info? e = some i) (hz : i.zero = some z)
    (hsize : i.size = size) (hby : i.bytes = bytes) (hzs : z.cells.size = size) (hsz : 0 < size)
    (v : Value) (n : Nat) (xs : List Value) (hown : w.ownsRow 0 e size v n xs)
    (a : Addr) (m c : Nat) (news : List Value) (hl : news.length = m * size) (hnews : ∀ j u, news[j]? = some u → w.cell? (a.add j) = some u) (h1 : ∀ u ∈ news, u.oneCell' = true)
    (h63 : n + m ≤ maxLen) (hbytes : (n + m) * bytes ≤ 140737488355328) :
    ∃ v' w', (Builtin.append_ #[t, t] ty #[v, .slice (some a) m c]).run P w = .ok v' w' ∧ w'.ownsRow 0 e size v' (n + m) (xs ++ news) ∧ w.grownBy w' v.ownBlock ∧
      (∀ b, v'.ownBlock = some b → v.ownBlock = some b ∨ w.heap.size ≤ b) := by
  rcases hown.2 with ⟨hv, hn⟩ | ⟨g, cap, cur, hv, hbg, hg, hnc, hcm, hcs, htake⟩
  · subst hv; subst hn
    have hown' : w.ownsRow w.heap.size e size (.slice none 0 0) 0 xs := ⟨hown.1, .inl ⟨rfl, rfl⟩⟩
    obtain ⟨v', w', h1, h2, h3, h4⟩ := run_append_own (P := P) w w.heap.size t ty e i z size bytes ht hi hz hsize hby hzs hsz _ 0 xs hown' a m c news hl hnews h1 h63 hbytes (Nat.le_refl _)
    refine ⟨v', w', h1, ⟨h2.1, ?_⟩, h3, fun b hb => .inr (h2.lt b hb).1⟩
    rcases h2.2 with h | ⟨g, cap, cur, hv, _, rest⟩
    · exact .inl h
    · exact .inr ⟨g, cap, cur, hv, by omega, rest⟩
  · subst hv
    by_cases hroom : n + m ≤ cap
    · obtain ⟨w', h1, h2, h3⟩ := run_append_fits (P := P) w 0 t ty e i size ht hi hsize g n cap xs hown a m c news hl hnews h1 hroom
      exact ⟨_, w', h1, h2, h3, fun b hb => .inl hb⟩
    · subst hsize; subst hby
      have hlen : (xs ++ news).length = (n + m) * i.size := by rw [List.length_append, hown.1, hl, Nat.add_mul]
      have hsmall : n + m ≤ 9223372036854775807 := by simp only [maxLen] at h63; omega
      have holds : ∀ j u, xs[j]? = some u → w.cell? ((⟨g, 0, none⟩ : Addr).add j) = some u := hown.cells (g := g) rfl
      have hr := run_append_grow (P := P) w t ty e i z ht hi hz ⟨g, 0, none⟩ n cap xs hown.1 holds a m c news hl hnews (by omega) (by omega) (growslice_fits (by omega) hbytes)
      have hge := grownCap_ge w (n + m) cap e
      have hcm2 : grownCap w (n + m) cap e ≤ maxLen := grownCap_le_maxLen w (n + m) cap e h63
      refine ⟨_, _, hr, ⟨hlen, .inr ⟨w.heap.size, _, _, rfl, by omega, heap_alloc_new w.drew _, hge, hcm2, ?_, ?_⟩⟩, ⟨rfl, rfl, rfl, by simp, fun k hk _ => heap_alloc_old w.drew _ hk⟩, fun b hb => .inr ?_⟩
      · simp only [Array.size_append, List.size_toArray, size_zeroCells, hzs, hown.1, hl, ← Nat.add_mul]
        congr 1
        omega
      · simp only [Array.toList_append, List.append_assoc]
        rw [← List.append_assoc, ← hlen]
        exact List.take_left
      · simp [Value.ownBlock] at hb; omega
end

section
variable {P : Program} (w : World)
theorem run_append_full (t ty e : TypeId) (i : TypeInfo) (z : Value) (size bytes : Nat) (ht : P.underlying t = some (.slice e)) (hi : P.info? e = some i) (hz : i.zero = some z)
    (hsize : i.size = size) (hby : i.bytes = bytes) (hzs : z.cells.size = size) (ad : Addr) (n : Nat) (xs : List Value) (hxl : xs.length = n * size) (hxs : ∀ j u, xs[j]? = some u → w.cell? (ad.add j) = some u)
    (a : Addr) (m c : Nat) (news : List Value) (hl : news.length = m * size) (hnews : ∀ j u, news[j]? = some u → w.cell? (a.add j) = some u) (h0 : 0 < m)
    (h63 : n + m ≤ maxLen) (hbytes : (n + m) * bytes ≤ 140737488355328) :
    ∃ v' w', (Builtin.append_ #[t, t] ty #[.slice (some ad) n n, .slice (some a) m c]).run P w = .ok v' w' ∧ w'.ownsRow 0 e size v' (n + m) (xs ++ news) ∧ w.grownBy w' none ∧
      (∀ b, v'.ownBlock = some b → w.heap.size ≤ b) := by
  subst hsize; subst hby
  have hlen : (xs ++ news).length = (n + m) * i.size := by rw [List.length_append, hxl, hl, Nat.add_mul]
  have hsmall : n + m ≤ 9223372036854775807 := by simp only [maxLen] at h63; omega
  have hr := run_append_grow (P := P) w t ty e i z ht hi hz ad n n xs hxl hxs a m c news hl hnews (by omega) (by omega) (growslice_fits (by omega) hbytes)
  have hge := grownCap_ge w (n + m) n e
  have hcm2 : grownCap w (n + m) n e ≤ maxLen := grownCap_le_maxLen w (n + m) n e h63
  refine ⟨_, _, hr, ⟨hlen, .inr ⟨w.heap.size, _, _, rfl, Nat.zero_le _, heap_alloc_new w.drew _, hge, hcm2, ?_, ?_⟩⟩, ⟨rfl, rfl, rfl, by simp, fun k hk _ => heap_alloc_old w.drew _ hk⟩, fun b hb => ?_⟩
  · simp only [Array.size_append, List.size_toArray, size_zeroCells, hzs, hxl, hl, ← Nat.add_mul]
    congr 1
    omega
  · simp only [Array.toList_append, List.append_assoc]
    rw [← List.append_assoc, ← hlen]
    exact List.take_left
  · simp [Value.ownBlock] at hb; omega
end

/-- The rows of a slice, laid one after the other. -/
def RowsR (w : World) (O : Nat → Prop) (ι : Nat → Nat) (ρ : Nat → Value) (nx : Nat) (esz : Nat) (rows : List (List V)) (xs : List Value) : Prop :=
  xs.length = rows.length * esz ∧ (∀ i, i < rows.length → (rows.getD i []).length = esz) ∧
  (∀ i j, i < rows.length → j < esz → ((rows.getD i []).getD j .any).sc = true) ∧
  ∀ i j, i < rows.length → j < esz → Rel w O ι ρ nx true ((rows.getD i []).getD j .any) (xs.getD (i * esz + j) undef)

theorem cellIdx {i j n z : Nat} (hi : i < n) (hj : j < z) : i * z + j < n * z := by
  have : (i + 1) * z ≤ n * z := Nat.mul_le_mul_right _ hi
  rw [Nat.succ_mul] at this; omega

section
variable {cx : Cx} {mem : Mem} {nx : Nat} {ι : Nat → Nat} {ρ : Nat → Value} {w : World}

theorem RowsR.append {O : Nat → Prop} {esz : Nat} {r r' : List (List V)} {xs xs' : List Value} (h : RowsR w O ι ρ nx esz r xs) (h' : RowsR w O ι ρ nx esz r' xs') :
    RowsR w O ι ρ nx esz (r ++ r') (xs ++ xs') := by
  have eL : ∀ i, i < r.length → (r ++ r').getD i [] = r.getD i [] := fun i hi => by simp [List.getD, List.getElem?_append_left hi]
  have eR : ∀ i, r.length ≤ i → (r ++ r').getD i [] = r'.getD (i - r.length) [] := fun i hi => by simp [List.getD, List.getElem?_append_right hi]
  refine ⟨by rw [List.length_append, List.length_append, h.1, h'.1, Nat.add_mul], fun i hi => ?_, fun i j hi hj => ?_, fun i j hi hj => ?_⟩ <;> rw [List.length_append] at hi <;> by_cases hlt : i < r.length
  · rw [eL i hlt]; exact h.2.1 i hlt
  · rw [eR i (by omega)]; exact h'.2.1 _ (by omega)
  · rw [eL i hlt]; exact h.2.2.1 i j hlt hj
  · rw [eR i (by omega)]; exact h'.2.2.1 _ j (by omega) hj
  · rw [eL i hlt]
    have := cellIdx hlt hj
    have e : (xs ++ xs').getD (i * esz + j) undef = xs.getD (i * esz + j) undef := by simp [List.getD, List.getElem?_append_left (show i * esz + j < xs.length by rw [h.1]; exact this)]
    rw [e]; exact h.2.2.2 i j hlt hj
  · rw [eR i (by omega)]
    have h1 : xs.length ≤ i * esz + j := by
      rw [h.1]; have := Nat.mul_le_mul_right esz (show r.length ≤ i by omega); omega
    have e : (xs ++ xs').getD (i * esz + j) undef = xs'.getD ((i - r.length) * esz + j) undef := by
      simp only [List.getD, List.getElem?_append_right h1]
      have : i * esz + j - xs.length = (i - r.length) * esz + j := by
        rw [h.1, Nat.sub_mul]; have := Nat.mul_le_mul_right esz (show r.length ≤ i by omega); omega
      rw [this]
    rw [e]; exact h'.2.2.2 _ j (by omega) hj

theorem RowsR.one {O : Nat → Prop} {esz : Nat} {r : List (List V)} {xs : List Value} (h : RowsR w O ι ρ nx esz r xs) : ∀ u ∈ xs, u.oneCell' = true := by
  intro u hu
  obtain ⟨k, hk, rfl⟩ := List.getElem_of_mem hu
  have hz : 0 < esz := by
    rcases Nat.eq_zero_or_pos esz with e | e
    · rw [h.1, e] at hk; omega
    · exact e
  rw [h.1] at hk
  have hi : k / esz < r.length := (Nat.div_lt_iff_lt_mul hz).2 hk
  have hj : k % esz < esz := Nat.mod_lt _ hz
  have hd : k / esz * esz + k % esz = k := by rw [Nat.mul_comm]; exact Nat.div_add_mod k esz
  have h1 := (h.2.2.2 _ _ hi hj).sc_one (h.2.2.1 _ _ hi hj)
  rw [hd] at h1
  simpa [List.getD, show k < xs.length by rw [h.1]; exact hk] using h1

/-- A slice whose rows stand at a value: its real cells. -/
theorem Rel.sl_rows {O : Nat → Prop} {c : Bool} {esz : Nat} {rows : List (List V)} {b off len cap : Nat} (h : Rel w O ι ρ nx c (.sl esz rows) (.slice (some ⟨b, off, none⟩) len cap)) :
    len = rows.length ∧ ∃ xs : List Value, RowsR w O ι ρ nx esz rows xs ∧ ∀ j u, xs[j]? = some u → w.cell? ⟨b, off + j, none⟩ = some u := by
  cases h with
  | sl _ _ _ _ _ _ _ xs hl hc hm hz hs hx hr =>
    refine ⟨hl, (List.range (rows.length * esz)).map fun k => xs (k / esz) (k % esz), ⟨by simp, hz, hs, fun i j hi hj => ?_⟩, fun k u hk => ?_⟩
    · have := cellIdx hi hj
      have e1 : (i * esz + j) / esz = i := by rw [Nat.mul_comm, Nat.mul_add_div (by omega), Nat.div_eq_of_lt hj]; omega
      have e2 : (i * esz + j) % esz = j := by rw [Nat.mul_comm, Nat.mul_add_mod, Nat.mod_eq_of_lt hj]
      have e : ((List.range (rows.length * esz)).map fun k => xs (k / esz) (k % esz)).getD (i * esz + j) undef = xs i j := by
        simp [List.getD, this, e1, e2]
      rw [e]; exact hr i j hi hj
    · have hlt : k < rows.length * esz := by
        have := (List.getElem?_eq_some_iff.1 hk).1; simpa using this
      have hz0 : 0 < esz := by rcases Nat.eq_zero_or_pos esz with e | e; · rw [e] at hlt; omega
                               · exact e
      have hi : k / esz < rows.length := (Nat.div_lt_iff_lt_mul hz0).2 hlt
      have hj : k % esz < esz := Nat.mod_lt _ hz0
      have hd : k / esz * esz + k % esz = k := by rw [Nat.mul_comm]; exact Nat.div_add_mod k esz
      have := (hx _ _ hi hj).1
      rw [hd] at this
      rw [this]
      simp [hlt] at hk
      rw [hk]

theorem OR_row {O : Nat → Prop} {id : Nat} {e esz : Nat} {rows : List (List V)} : OR w O ι ρ nx id (.row e esz rows) ↔ ∃ xs, w.ownsRow 0 e esz (ρ id) rows.length xs ∧ RowsR w O ι ρ nx esz rows xs :=
  ⟨fun ⟨xs, h1, h2, h3, h4⟩ => ⟨xs, h1, h1.1, h2, h3, h4⟩, fun ⟨xs, h1, _, h2, h3, h4⟩ => ⟨xs, h1, h2, h3, h4⟩⟩

theorem RowsR.mono {w' : World} {O O' : Nat → Prop} {ι' : Nat → Nat} {ρ' : Nat → Value} {nx' : Nat} {esz : Nat} {rows : List (List V)} {xs : List Value}
    (hk : ∀ c v x, Rel w O ι ρ nx c v x → Rel w' O' ι' ρ' nx' c v x) (h : RowsR w O ι ρ nx esz rows xs) : RowsR w' O' ι' ρ' nx' esz rows xs :=
  ⟨h.1, h.2.1, h.2.2.1, fun i j hi hj => hk _ _ _ (h.2.2.2 i j hi hj)⟩

/-- The slice 'id' has grown: its elder value is no more in hand; the new one stands under the next number. -/
theorem ML.regrow (h : ML cx mem nx ι ρ w) {id : Nat} {e z : Nat} {rows rows' : List (List V)} (hm : (id, .row e z rows) ∈ mem) {w' : World} {v' : Value} {xs' : List Value}
    (hg : w.grownBy w' (ρ id).ownBlock) (hown : w'.ownsRow 0 e z v' rows'.length xs') (hb : ∀ b, v'.ownBlock = some b → (ρ id).ownBlock = some b ∨ w.heap.size ≤ b)
    (hr : RowsR w (OO cx.X mem ι ρ) ι ρ nx z rows' xs') :
    ML cx ((nx, .row e z rows') :: mem.filter (·.1 ≠ id)) (nx + 1) ι (fun i => if i = nx then v' else ρ i) w' ∧
    Kp cx mem nx ι ρ w ((nx, .row e z rows') :: mem.filter (·.1 ≠ id)) (nx + 1) ι (fun i => if i = nx then v' else ρ i) w' ∧
    MR cx ((nx, .row e z rows') :: mem.filter (·.1 ≠ id)) (nx + 1) ι (fun i => if i = nx then v' else ρ i) w' (.own nx) v' := by
  have hρ : ∀ i, i < nx → (fun i => if i = nx then v' else ρ i) i = ρ i := fun i hi => if_neg (by omega)
  have hblk' : ∀ p ∈ mem, blk ι (fun i => if i = nx then v' else ρ i) p = blk ι ρ p := by
    rintro ⟨i, o⟩ hp
    have := hρ i (h.lt _ hp)
    cases o
    · rfl
    · simp only [blk] at this ⊢; rw [this]
  have hfil : ∀ p, p ∈ mem.filter (·.1 ≠ id) → p ∈ mem ∧ p.1 ≠ id := fun p hp => by simpa using List.mem_filter.1 hp
  have hnew : ∀ b, blk ι (fun i => if i = nx then v' else ρ i) (nx, .row e z rows') = some b → (ρ id).ownBlock = some b ∨ w.heap.size ≤ b := fun b hb' => hb b (by simpa [blk] using hb')
  have hO : ∀ b, b < w.heap.size → OO cx.X ((nx, .row e z rows') :: mem.filter (·.1 ≠ id)) ι (fun i => if i = nx then v' else ρ i) b → OO cx.X mem ι ρ b := by
    rintro b hlt (hx | ⟨p, hp, hpb⟩)
    · exact .inl hx
    · rcases List.mem_cons.1 hp with rfl | hp
      · rcases hnew b hpb with h1 | h1
        · exact .inr ⟨_, hm, h1⟩
        · omega
      · have := hfil p hp; exact .inr ⟨p, this.1, by rw [← hblk' p this.1]; exact hpb⟩
  have hstill : ∀ b, b < w.heap.size → (ρ id).ownBlock ≠ some b → w'.heap[b]? = w.heap[b]? := fun b hb hne => hg.block b hb (fun e => hne e.symm)
  have hk : Kp cx mem nx ι ρ w ((nx, .row e z rows') :: mem.filter (·.1 ≠ id)) (nx + 1) ι (fun i => if i = nx then v' else ρ i) w' := fun c v x hr => by
    refine hr.mono (fun a y hc hno => ?_) (fun i hi => ⟨rfl, hρ i hi⟩) (by omega)
    have hlt := block_lt_of_cell hc
    exact ⟨cell_of_block hc (hstill _ hlt fun e => hno (.inr ⟨_, hm, e⟩)), fun hn => hno (hO _ hlt hn)⟩
  have hsz := hg.size
  have hownb := h.own _ hm
  refine ⟨⟨hg.os.trans h.os, hg.tape.trans h.tape, hg.output.trans h.output, by have := h.size; omega, fun b hb hd => ?_, ?_, ?_, ?_, ?_, h.xlt, ?_⟩, hk, ?_⟩
  · rw [hstill b (Nat.lt_of_lt_of_le hb h.size)]; exact h.old b hb hd
    intro hbb
    rcases (hownb b hbb).2.1 with h1 | h1
    · omega
    · exact hd h1
  · intro p hp q hq e'
    rcases List.mem_cons.1 hp with rfl | hp <;> rcases List.mem_cons.1 hq with rfl | hq
    · rfl
    · have := h.lt q (hfil q hq).1; simp at e'; omega
    · have := h.lt p (hfil p hp).1; simp at e'; omega
    · exact h.keys p (hfil p hp).1 q (hfil q hq).1 e'
  · intro p hp
    rcases List.mem_cons.1 hp with rfl | hp
    · simp
    · have := h.lt p (hfil p hp).1; omega
  · intro p hp b hpb
    rcases List.mem_cons.1 hp with rfl | hp
    · have hlt : b < w'.heap.size := (hown.lt b (by simpa [blk] using hpb)).2
      rcases hnew b hpb with h1 | h1
      · exact ⟨hlt, (hownb b h1).2⟩
      · exact ⟨hlt, .inl (by have := h.size; omega), fun hx => by have := h.xlt _ hx; have := h.size; omega⟩
    · rw [hblk' p (hfil p hp).1] at hpb
      have := h.own p (hfil p hp).1 b hpb
      exact ⟨by omega, this.2⟩
  · have key : ∀ q ∈ mem.filter (·.1 ≠ id), ∀ b, blk ι (fun i => if i = nx then v' else ρ i) (nx, .row e z rows') = some b → blk ι (fun i => if i = nx then v' else ρ i) q = some b → False := by
      intro q hq b h1 h2
      have hq' := hfil q hq
      rw [hblk' q hq'.1] at h2
      rcases hnew b h1 with h3 | h3
      · have := h.inj q hq'.1 _ hm b h2 h3; exact hq'.2 (by rw [this])
      · have := (h.own q hq'.1 b h2).1; omega
    intro p hp q hq b hpb hqb
    rcases List.mem_cons.1 hp with rfl | hp <;> rcases List.mem_cons.1 hq with rfl | hq
    · rfl
    · exact (key q hq b hpb hqb).elim
    · exact (key p hp b hqb hpb).elim
    · rw [hblk' p (hfil p hp).1] at hpb; rw [hblk' q (hfil q hq).1] at hqb; exact h.inj p (hfil p hp).1 q (hfil q hq).1 b hpb hqb
  · intro p hp
    rcases List.mem_cons.1 hp with rfl | hp
    · exact OR_row.2 ⟨xs', by simpa using hown, hr.mono hk⟩
    · have hp' := hfil p hp
      refine OR.mono hk rfl (hρ _ (h.lt p hp'.1)) (fun b hb => hstill b (h.own p hp'.1 b hb).1 fun e => ?_) (h.obj p hp'.1)
      have := h.inj p hp'.1 _ hm b hb e
      exact hp'.2 (by rw [this])
  · have h1 : v'.oneCell' = true := by
      rcases hown.2 with h | ⟨g, cap, cur, h, _⟩
      · rw [h.1]; rfl
      · rw [h]; rfl
    have := Rel.own (w := w') (O := OO cx.X ((nx, .row e z rows') :: mem.filter (·.1 ≠ id)) ι (fun i => if i = nx then v' else ρ i)) (ι := ι) (ρ := fun i => if i = nx then v' else ρ i) (nx := nx + 1) nx (by omega) (by simpa using h1)
    simpa [MR] using this

/-- The nil slice, as one of the call's own that has not grown yet. -/
theorem ML.addNil (h : ML cx mem nx ι ρ w) (e z : Nat) :
    ML cx ((nx, .row e z []) :: mem) (nx + 1) ι (fun i => if i = nx then .slice none 0 0 else ρ i) w ∧
    Kp cx mem nx ι ρ w ((nx, .row e z []) :: mem) (nx + 1) ι (fun i => if i = nx then .slice none 0 0 else ρ i) w := by
  have hρ : ∀ i, i < nx → (fun i => if i = nx then (.slice none 0 0 : Value) else ρ i) i = ρ i := fun i hi => if_neg (by omega)
  have hblk' : ∀ p ∈ mem, blk ι (fun i => if i = nx then .slice none 0 0 else ρ i) p = blk ι ρ p := by
    rintro ⟨i, o⟩ hp
    have := hρ i (h.lt _ hp)
    cases o
    · rfl
    · simp only [blk] at this ⊢; rw [this]
  have hn : ∀ b, blk ι (fun i => if i = nx then (.slice none 0 0 : Value) else ρ i) (nx, .row e z []) ≠ some b := fun b => by simp [blk, Value.ownBlock]
  have hO : ∀ b, OO cx.X ((nx, .row e z []) :: mem) ι (fun i => if i = nx then .slice none 0 0 else ρ i) b → OO cx.X mem ι ρ b := by
    rintro b (hx | ⟨p, hp, hpb⟩)
    · exact .inl hx
    · rcases List.mem_cons.1 hp with rfl | hp
      · exact (hn b hpb).elim
      · exact .inr ⟨p, hp, by rw [← hblk' p hp]; exact hpb⟩
  have hk : Kp cx mem nx ι ρ w ((nx, .row e z []) :: mem) (nx + 1) ι (fun i => if i = nx then .slice none 0 0 else ρ i) w := fun c v x hr =>
    hr.mono (fun a y hc hno => ⟨hc, fun hn => hno (hO _ hn)⟩) (fun i hi => ⟨rfl, hρ i hi⟩) (by omega)
  refine ⟨⟨h.os, h.tape, h.output, h.size, h.old, ?_, ?_, ?_, ?_, h.xlt, ?_⟩, hk⟩
  · intro p hp q hq e'
    rcases List.mem_cons.1 hp with rfl | hp <;> rcases List.mem_cons.1 hq with rfl | hq
    · rfl
    · have := h.lt q hq; simp at e'; omega
    · have := h.lt p hp; simp at e'; omega
    · exact h.keys p hp q hq e'
  · intro p hp
    rcases List.mem_cons.1 hp with rfl | hp
    · simp
    · have := h.lt p hp; omega
  · intro p hp b hpb
    rcases List.mem_cons.1 hp with rfl | hp
    · exact (hn b hpb).elim
    · rw [hblk' p hp] at hpb; exact h.own p hp b hpb
  · intro p hp q hq b hpb hqb
    rcases List.mem_cons.1 hp with rfl | hp <;> rcases List.mem_cons.1 hq with rfl | hq
    · rfl
    · exact (hn b hpb).elim
    · exact (hn b hqb).elim
    · rw [hblk' p hp] at hpb; rw [hblk' q hq] at hqb; exact h.inj p hp q hq b hpb hqb
  · intro p hp
    rcases List.mem_cons.1 hp with rfl | hp
    · exact OR_row.2 ⟨[], by simpa using World.ownsRow_nil w 0 e z, by simp, by simp, by simp, by simp⟩
    · exact OR.mono hk rfl (hρ _ (h.lt p hp)) (fun b hb => rfl) (h.obj p hp)

/-- A store into a slice of the call's own. -/
theorem ML.storeRow (h : ML cx mem nx ι ρ w) {id : Nat} {e z : Nat} {rows rows' : List (List V)} (hm : (id, .row e z rows) ∈ mem) {g : Nat} (hg : (ρ id).ownBlock = some g) (cur' : Array Value) {xs' : List Value}
    (hown : (w.setRow g cur').ownsRow 0 e z (ρ id) rows'.length xs') (hr : RowsR w (OO cx.X mem ι ρ) ι ρ nx z rows' xs') :
    ML cx (mem.map fun p => if p.1 = id then (id, .row e z rows') else p) nx ι ρ (w.setRow g cur') ∧
    Kp cx mem nx ι ρ w (mem.map fun p => if p.1 = id then (id, .row e z rows') else p) nx ι ρ (w.setRow g cur') := by
  have hin : ∀ q, q ∈ (mem.map fun p => if p.1 = id then (id, AObj.row e z rows') else p) → ∃ p ∈ mem, q = (if p.1 = id then (id, AObj.row e z rows') else p) ∧ blk ι ρ q = blk ι ρ p ∧ q.1 = p.1 := by
    intro q hq
    obtain ⟨p, hp, rfl⟩ := List.mem_map.1 hq
    refine ⟨p, hp, rfl, ?_⟩
    by_cases hpid : p.1 = id
    · have : p = (id, .row e z rows) := h.keys p hp _ hm hpid
      subst this; simp [blk]
    · simp [hpid]
  have hO : ∀ b, OO cx.X (mem.map fun p => if p.1 = id then (id, AObj.row e z rows') else p) ι ρ b → OO cx.X mem ι ρ b := by
    rintro b (hx | ⟨q, hq, hqb⟩)
    · exact .inl hx
    · obtain ⟨p, hp, -, hpb, -⟩ := hin q hq
      exact .inr ⟨p, hp, by rw [← hpb]; exact hqb⟩
  have hblk : blk ι ρ (id, .row e z rows) = some g := hg
  have hown' : OO cx.X mem ι ρ g := .inr ⟨_, hm, hblk⟩
  have hk : Kp cx mem nx ι ρ w (mem.map fun p => if p.1 = id then (id, AObj.row e z rows') else p) nx ι ρ (w.setRow g cur') := fun c v x hr => by
    refine hr.mono (fun a y hc hno => ?_) (fun _ _ => ⟨rfl, rfl⟩) (Nat.le_refl _)
    have hne : a.block ≠ g := fun e => hno (e ▸ hown')
    exact ⟨by rw [cell_setRow_other w _ _ _ hne]; exact hc, fun hn => hno (hO _ hn)⟩
  have hidown := h.own _ hm g hblk
  refine ⟨⟨h.os, h.tape, h.output, by simpa using h.size, fun b hb hd => ?_, ?_, ?_, ?_, ?_, h.xlt, ?_⟩, hk⟩
  · rw [setRow_other]; exact h.old b hb hd
    rintro rfl
    rcases hidown.2.1 with h1 | h1
    · omega
    · exact hd h1
  · intro p hp q hq e
    obtain ⟨p', hp', rfl, -, e1⟩ := hin p hp
    obtain ⟨q', hq', rfl, -, e2⟩ := hin q hq
    have : p' = q' := h.keys p' hp' q' hq' (by rw [← e1, ← e2]; exact e)
    rw [this]
  · intro p hp; obtain ⟨p', hp', -, -, e1⟩ := hin p hp; rw [e1]; exact h.lt p' hp'
  · intro p hp b hb; obtain ⟨p', hp', -, e1, -⟩ := hin p hp; rw [e1] at hb
    have := h.own p' hp' b hb; exact ⟨by simpa using this.1, this.2⟩
  · intro p hp q hq b hpb hqb
    obtain ⟨p', hp', rfl, e1, -⟩ := hin p hp
    obtain ⟨q', hq', rfl, e2, -⟩ := hin q hq
    have : p' = q' := h.inj p' hp' q' hq' b (by rw [← e1]; exact hpb) (by rw [← e2]; exact hqb)
    rw [this]
  · intro q hq
    obtain ⟨p, hp, rfl, -, -⟩ := hin q hq
    by_cases hpid : p.1 = id
    · simp only [hpid, if_true]
      exact OR_row.2 ⟨xs', hown, hr.mono hk⟩
    · simp only [hpid, if_false]
      refine OR.mono hk rfl rfl (fun b hb => setRow_other w _ _ _ ?_) (h.obj p hp)
      rintro rfl
      have := h.inj p hp _ hm b hb hblk
      exact hpid (by rw [this])

theorem flat_upd {esz : Nat} {rows : List (List V)} {xs : List Value} {i j : Nat} {new : List V} {ys : List Value} {O : Nat → Prop} (h : RowsR w O ι ρ nx esz rows xs) (hi : i < rows.length) (hj : j + new.length ≤ esz) (hy : ys.length = new.length)
    (hs : ∀ k, k < new.length → (new.getD k .any).sc = true) (hr : ∀ k, k < new.length → Rel w O ι ρ nx true (new.getD k .any) (ys.getD k undef)) :
    RowsR w O ι ρ nx esz (rows.set i ((rows.getD i []).take j ++ (new ++ (rows.getD i []).drop (j + new.length)))) (xs.take (i * esz + j) ++ ys ++ xs.drop (i * esz + j + ys.length)) := by
  have hlen := h.2.1 i hi
  have hb : (i + 1) * esz ≤ rows.length * esz := Nat.mul_le_mul_right _ hi
  rw [Nat.succ_mul] at hb
  have hx := h.1
  have gi : ∀ k, k < rows.length → (rows.set i ((rows.getD i []).take j ++ (new ++ (rows.getD i []).drop (j + new.length)))).getD k [] = if k = i then (rows.getD i []).take j ++ (new ++ (rows.getD i []).drop (j + new.length)) else rows.getD k [] := fun k hk => by
    simp only [List.getD, List.getElem?_set]
    by_cases e : i = k
    · subst e; simp [hk]
    · rw [if_neg e, if_neg (Ne.symm e)]
  have gr : ∀ k, ((rows.getD i []).take j ++ (new ++ (rows.getD i []).drop (j + new.length))).getD k .any = if j ≤ k ∧ k < j + new.length then new.getD (k - j) .any else (rows.getD i []).getD k .any := by
    intro k
    have ht : ((rows.getD i []).take j).length = j := by rw [List.length_take, hlen]; omega
    simp only [List.getD_eq_getElem?_getD] at ht ⊢
    by_cases k1 : k < j
    · rw [List.getElem?_append_left (by omega), List.getElem?_take, if_pos k1, if_neg (by omega)]
    · rw [List.getElem?_append_right (by omega), ht]
      by_cases k2 : k < j + new.length
      · rw [List.getElem?_append_left (by omega), if_pos (by omega)]
      · rw [List.getElem?_append_right (by omega), List.getElem?_drop, if_neg (by omega)]
        congr 2; omega
  have gx : ∀ m, (xs.take (i * esz + j) ++ ys ++ xs.drop (i * esz + j + ys.length)).getD m undef = if i * esz + j ≤ m ∧ m < i * esz + j + new.length then ys.getD (m - (i * esz + j)) undef else xs.getD m undef := by
    intro m
    have ht : (xs.take (i * esz + j)).length = i * esz + j := by rw [List.length_take]; omega
    simp only [List.getD_eq_getElem?_getD, List.append_assoc]
    by_cases k1 : m < i * esz + j
    · rw [List.getElem?_append_left (by omega), List.getElem?_take, if_pos k1, if_neg (by omega)]
    · rw [List.getElem?_append_right (by omega), ht]
      by_cases k2 : m < i * esz + j + new.length
      · rw [List.getElem?_append_left (by omega), if_pos (by omega)]
      · rw [List.getElem?_append_right (by omega), List.getElem?_drop, if_neg (by omega)]
        congr 2; omega
  have key : ∀ k s, k < rows.length → s < esz → (i * esz + j ≤ k * esz + s ∧ k * esz + s < i * esz + j + new.length ↔ k = i ∧ j ≤ s ∧ s < j + new.length) := by
    intro k s hk hs
    constructor
    · rintro ⟨h1, h2⟩
      have e : k = i := by
        rcases Nat.lt_trichotomy k i with hlt | he | hgt
        · have : (k + 1) * esz ≤ i * esz := Nat.mul_le_mul_right _ hlt
          rw [Nat.succ_mul] at this; omega
        · exact he
        · have : (i + 1) * esz ≤ k * esz := Nat.mul_le_mul_right _ hgt
          rw [Nat.succ_mul] at this; omega
      subst e; exact ⟨rfl, by omega, by omega⟩
    · rintro ⟨rfl, h1, h2⟩; exact ⟨by omega, by omega⟩
  refine ⟨?_, fun k hk => ?_, fun k s hk hs' => ?_, fun k s hk hs' => ?_⟩
  · simp only [List.length_append, List.length_take, List.length_drop, List.length_set]; omega
  · rw [List.length_set] at hk
    rw [gi k hk]
    split
    · rename_i e; subst e; simp only [List.length_append, List.length_take, List.length_drop]; omega
    · exact h.2.1 k hk
  · rw [List.length_set] at hk
    rw [gi k hk]
    split
    · rename_i e; subst e
      rw [gr]
      split
      · exact hs _ (by omega)
      · exact h.2.2.1 _ s hk hs'
    · exact h.2.2.1 k s hk hs'
  · rw [List.length_set] at hk
    rw [gi k hk, gx]
    by_cases e : k = i
    · subst e
      rw [if_pos rfl, gr]
      by_cases h2 : j ≤ s ∧ s < j + new.length
      · rw [if_pos h2, if_pos ((key k s hk hs').2 ⟨rfl, h2⟩)]
        have : k * esz + s - (k * esz + j) = s - j := by omega
        rw [this]; exact hr _ (by omega)
      · rw [if_neg h2, if_neg (fun hc => h2 ((key k s hk hs').1 hc).2)]
        exact h.2.2.2 k s hk hs'
    · rw [if_neg e, if_neg (fun hc => e ((key k s hk hs').1 hc).1)]
      exact h.2.2.2 k s hk hs'

end
end Go.Proofs.Ytcphhbiehaimeaa
