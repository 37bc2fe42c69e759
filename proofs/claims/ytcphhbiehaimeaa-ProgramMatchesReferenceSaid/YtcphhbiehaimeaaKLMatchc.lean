/- Texts of this proof, put together. -/
import Derived.Test.YtcphhbiehaimeaaKLMatchb
import Derived.Test.YtcphhbiehaimeaaProg
namespace Go.Proofs.Ytcphhbiehaimeaa
open Go.ChangeShapes Go.WideShapes Go.ChangeAt Go.RowKit
set_option linter.unusedVariables false
set_option linter.unusedSimpArgs false

section
variable {H : Type} {enc : TypeId × Value → H} {P : Program} {w : World}

/-- The fields of a struct of n cells from the cell 'off' on. -/
def DecFs (enc : TypeId × Value → H) (P : Program) (w : World) {α : Type} (n off : Nat) (fs : List Field) (ec : α → List V) (Q : α → Prop) : Prop :=
  ∀ (fuel : Nat) (cs : List Value), cs.length = n → (∀ f ∈ fs, ∃ x, DataW.trod enc P w 0 (fun _ => true) true fuel f.type ((cs.drop f.offset).take (P.cellsOf f.type)) = some x) → ∃ a, Q a ∧ Rd w (cs.drop off) (ec a)

theorem decFs_nil {n : Nat} : DecFs enc P w n n [] (fun _ : Unit => []) fun _ => True := by
  intro fuel cs hl _
  exact ⟨(), trivial, by rw [List.drop_eq_nil_of_le (by omega)]; exact Rd.nil⟩
theorem decFs_cons {α β : Type} {n off : Nat} {f : Field} {fs : List Field} {m : Nat} {ea : α → List V} {eb : β → List V} {Qa : α → Prop} {Qb : β → Prop}
    (ho : f.offset = off) (hm : P.cellsOf f.type = m) (ha : Dec enc P w f.type ea Qa) (hb : DecFs enc P w n (off + m) fs eb Qb) :
    DecFs enc P w n off (f :: fs) (fun p : α × β => ea p.1 ++ eb p.2) fun p => Qa p.1 ∧ Qb p.2 := by
  intro fuel cs hl h
  obtain ⟨x, hx⟩ := h f (by simp)
  obtain ⟨a, qa, ra⟩ := ha _ _ _ hx
  obtain ⟨b, qb, rb⟩ := hb fuel cs hl fun g hg => h g (List.mem_cons_of_mem _ hg)
  refine ⟨(a, b), ⟨qa, qb⟩, ?_⟩
  have := ra.append rb
  rw [ho, hm] at this
  have e : List.take m (List.drop off cs) ++ List.drop (off + m) cs = List.drop off cs := by
    rw [← List.drop_drop, List.take_append_drop]
  rw [e] at this
  exact this
theorem dec_struct {α : Type} {t : TypeId} {fs : Array Field} {n : Nat} {ec : α → List V} {Q : α → Prop} (ht : P.underlying t = some (.struct fs)) (hn : P.cellsOf t = n) (h : DecFs enc P w n 0 fs.toList ec Q) : Dec enc P w t ec Q := by
  intro fuel cs x hx
  obtain ⟨xs, k, rfl, rfl, hl, hxl, hi⟩ := DataW.trod_struct ht hx
  obtain ⟨a, qa, ra⟩ := h k cs (by rw [hl, hn]) fun f hf => by
    obtain ⟨i, hil, rfl⟩ := List.mem_iff_getElem.1 hf
    have hil' : i < fs.size := by simpa using hil
    have := hi i fs[i] (by simp [hil'])
    rw [List.getElem?_eq_getElem (by omega)] at this
    exact ⟨_, by simpa using this⟩
  exact ⟨a, qa, by simpa using ra⟩

theorem rel_row {α : Type} {e : TypeId} {sz n : Nat} {ec : α → List V} {Q : α → Prop} (hs : P.cellsOf e = sz) (hd : Dec enc P w e ec Q) {b off len cap : Nat} (hl : len ≤ cap) (hm : cap ≤ maxLen)
    (hel : ∀ i, i < len → ∃ cs' x, w.cells? 0 ((⟨b, off, none⟩ : Addr).add (i * P.cellsOf e)) (P.cellsOf e) = some cs' ∧ DataW.trod enc P w 0 (fun _ => true) true n e cs' = some x) :
    ∃ asx : List α, (∀ a ∈ asx, Q a) ∧ asx.length = len ∧ Rel w (fun _ => False) (fun _ => 0) (fun _ => undef) 0 true (.sl sz (asx.map ec)) (.slice (some ⟨b, off, none⟩) len cap) := by
  obtain ⟨asx, k1, k2, k3⟩ := hd.choose (fun i => ((w.cells? 0 ((⟨b, off, none⟩ : Addr).add (i * P.cellsOf e)) (P.cellsOf e)).getD [])) len fun i hi => by
    obtain ⟨cs', x, q1, q2⟩ := hel i hi
    rw [q1]; exact ⟨_, _, q2⟩
  refine ⟨asx, k2, k1, ?_⟩
  have rows : ∀ i (hi : i < asx.length), ((asx.map ec).getD i []) = ec asx[i] := fun i hi => by simp [List.getD, hi]
  have key : ∀ i (hi : i < asx.length), ∃ cs', Rd w cs' (ec asx[i]) ∧ cs'.length = sz ∧ ∀ j, j < sz → w.cell? ⟨b, off + (i * sz + j), none⟩ = some (cs'.getD j undef) := fun i hi => by
    obtain ⟨cs', x, q1, q2⟩ := hel i (by omega)
    have := k3 i hi
    simp only [q1, Option.getD_some] at this
    obtain ⟨hl', hc'⟩ := cells_get q1
    rw [hs] at hl' hc'
    refine ⟨cs', this, hl', fun j hj => ?_⟩
    rw [← hc' j hj]
    congr 1
    unfold Addr.add
    by_cases hi0 : i * sz = 0
    · by_cases hj0 : j = 0 <;> simp [hi0, hj0]
    · by_cases hj0 : j = 0 <;> simp [hi0, hj0, Nat.add_assoc]
  refine .sl true sz (asx.map ec) b off len cap (fun i j => ((w.cell? ⟨b, off + (i * sz + j), none⟩).getD undef)) (by simp [k1]) hl hm ?_ ?_ ?_ ?_
  · intro i hi
    have hi' : i < asx.length := by simpa using hi
    obtain ⟨cs', q1, q2, q3⟩ := key i hi'
    rw [rows i hi', q1.1, q2]
  · intro i j hi hj
    have hi' : i < asx.length := by simpa using hi
    obtain ⟨cs', q1, q2, q3⟩ := key i hi'
    rw [rows i hi']
    exact (q1.2 j (by rw [q1.1]; omega)).1
  · intro i j hi hj
    have hi' : i < asx.length := by simpa using hi
    obtain ⟨cs', q1, q2, q3⟩ := key i hi'
    simp only [q3 j hj, Option.getD_some]
    exact ⟨trivial, id⟩
  · intro i j hi hj
    have hi' : i < asx.length := by simpa using hi
    obtain ⟨cs', q1, q2, q3⟩ := key i hi'
    rw [rows i hi']
    simp only [q3 j hj, Option.getD_some]
    exact (q1.2 j (by rw [q1.1]; omega)).2

/-- A slice within. -/
theorem dec_slice {α : Type} {t e : TypeId} {sz : Nat} {ec : α → List V} {Q : α → Prop} (ht : P.underlying t = some (.slice e)) (hs : P.cellsOf e = sz) (hz : 0 < sz) (hd : Dec enc P w e ec Q) :
    Dec enc P w t (fun asx : List α => [.sl sz (asx.map ec)]) fun asx => asx.length ≤ maxLen ∧ ∀ a ∈ asx, Q a := by
  intro fuel cs x hf
  rcases Deep.open_slice ht hf with ⟨rfl, -⟩ | ⟨a, len, cap, m, n, D, Pl, rfl, -, hl, hm, hme, -, hel⟩
  · exact ⟨[], ⟨by simp, fun a ha => by simp at ha⟩, Rd.one rfl (.slnil _ _ _)⟩
  · simp only [if_true] at hme
    subst hme
    by_cases hc : m = 0
    · have : len = 0 := by omega
      subst hc; subst this
      exact ⟨[], ⟨by simp, fun a ha => by simp at ha⟩, Rd.one rfl (.slnil _ _ _)⟩
    · have hsp : a.spot = none := by
        obtain ⟨cs', q1, -⟩ := hel 0 (by omega)
        obtain ⟨-, hc'⟩ := cells_get q1
        have := hc' 0 (by omega)
        simp only [Nat.zero_mul, Addr.add, if_true] at this
        unfold World.cell? at this
        split at this
        · split at this
          · cases this
          · simpa using ‹¬ a.spot.isSome = true›
        · cases this
      obtain ⟨b, off, spot⟩ := a
      simp only at hsp
      subst hsp
      obtain ⟨asx, q, e1, hr⟩ := rel_row hs hd hl hm fun i hi => by
        obtain ⟨cs', q1, q2⟩ := hel i (by omega)
        exact ⟨cs', _, q1, q2⟩
      exact ⟨asx, ⟨by omega, q⟩, Rd.one rfl hr⟩
end
end Go.Proofs.Ytcphhbiehaimeaa

namespace Go.Proofs.Ytcphhbiehaimeaa
open Go.ChangeShapes Go.WideShapes Go.ChangeAt Go.RowKit
section
variable {H : Type} {enc : TypeId × Value → H} {w : World}
theorem decI : Dec enc Try.prog w 24 (fun l : List Int => [V.sl 1 (encI l)]) fun l => l.length ≤ maxLen ∧ ∀ c ∈ l, okI c :=
  (dec_slice (sz := 1) Try.underlying24 (by kernel_rfl) (by decide) (dec_int Try.underlying3)).turn (fun xs => xs) fun xs h => ⟨rfl, h.1, fun c hc => okI_of_wf (h.2 c hc)⟩
theorem decRw : Dec enc Try.prog w 26 encRw fun r => r.coef.length ≤ maxLen :=
  (dec_struct (n := 6) Try.underlying26 (by kernel_rfl)
    (decFs_cons (m := 1) rfl (by kernel_rfl) (dec_int Try.underlying3) (decFs_cons (m := 1) rfl (by kernel_rfl) (dec_int Try.underlying3) (decFs_cons (m := 1) rfl (by kernel_rfl) (dec_int Try.underlying3)
      (decFs_cons (m := 1) rfl (by kernel_rfl) (dec_int Try.underlying3) (decFs_cons (m := 1) rfl (by kernel_rfl) decI (decFs_cons (m := 1) rfl (by kernel_rfl) (dec_int Try.underlying3) decFs_nil))))))).turn
    (fun x => ⟨x.1, x.2.1, x.2.2.1, x.2.2.2.1, x.2.2.2.2.1, x.2.2.2.2.2.1⟩) fun x h => ⟨rfl, h.2.2.2.2.1.1⟩
theorem decPg : Dec enc Try.prog w 29 encPg fun p => p.rows.length ≤ maxLen ∧ p.gain.length ≤ maxLen ∧ ∀ r ∈ p.rows, r.coef.length ≤ maxLen :=
  (dec_struct (n := 3) Try.underlying29 (by kernel_rfl)
    (decFs_cons (m := 1) rfl (by kernel_rfl) (dec_int Try.underlying3) (decFs_cons (m := 1) rfl (by kernel_rfl) (dec_slice (sz := 6) Try.underlying27 (by kernel_rfl) (by decide) decRw) (decFs_cons (m := 1) rfl (by kernel_rfl) decI decFs_nil)))).turn
    (fun x => ⟨x.1, x.2.1, x.2.2.1⟩) fun x h => ⟨rfl, h.2.1.1, h.2.2.1.1, h.2.1.2⟩
end
end Go.Proofs.Ytcphhbiehaimeaa

namespace Go.Proofs.Ytcphhbiehaimeaa
theorem arT_22 : arT Try.prog 22 = none := by kernel_rfl
theorem arT_23 : arT Try.prog 23 = some (8, 3, 1) := by kernel_rfl
theorem arT_24 : arT Try.prog 24 = none := by kernel_rfl
theorem arT_27 : arT Try.prog 27 = none := by kernel_rfl
theorem arT_34 : arT Try.prog 34 = none := by kernel_rfl
theorem arT_35 : arT Try.prog 35 = none := by kernel_rfl
theorem arT_50 : arT Try.prog 50 = none := by kernel_rfl
theorem arT_59 : arT Try.prog 59 = some (3, 3, 1) := by kernel_rfl
theorem arT_61 : arT Try.prog 61 = some (4, 3, 1) := by kernel_rfl
theorem arT_64 : arT Try.prog 64 = some (2, 3, 1) := by kernel_rfl
theorem arT_65 : arT Try.prog 65 = some (4, 4, 1) := by kernel_rfl
theorem arT_68 : arT Try.prog 68 = none := by kernel_rfl
theorem boolT_24 : boolT Try.prog 24 = false := by kernel_rfl
theorem boolT_3 : boolT Try.prog 3 = false := by kernel_rfl
theorem boolT_38 : boolT Try.prog 38 = false := by kernel_rfl
theorem boolT_4 : boolT Try.prog 4 = true := by kernel_rfl
theorem boolT_79 : boolT Try.prog 79 = false := by kernel_rfl
theorem flatT_24 : flatT Try.prog 24 = none := by kernel_rfl
theorem flatT_3 : flatT Try.prog 3 = none := by kernel_rfl
theorem flatT_38 : flatT Try.prog 38 = none := by kernel_rfl
theorem flatT_4 : flatT Try.prog 4 = none := by kernel_rfl
theorem flatT_79 : flatT Try.prog 79 = some (2, IntKind.i64) := by kernel_rfl
theorem intT_3 : intT Try.prog 3 = some IntKind.i64 := by kernel_rfl
theorem intT_93 : intT Try.prog 93 = some IntKind.u64 := by kernel_rfl
theorem lay_23 : lay Try.prog 23 = some (8, true) := by kernel_rfl
theorem lay_24 : lay Try.prog 24 = some (1, false) := by kernel_rfl
theorem lay_26 : lay Try.prog 26 = some (6, true) := by kernel_rfl
theorem lay_27 : lay Try.prog 27 = some (1, false) := by kernel_rfl
theorem lay_29 : lay Try.prog 29 = some (3, true) := by kernel_rfl
theorem lay_3 : lay Try.prog 3 = some (1, false) := by kernel_rfl
theorem lay_32 : lay Try.prog 32 = some (1, false) := by kernel_rfl
theorem lay_35 : lay Try.prog 35 = some (1, false) := by kernel_rfl
theorem lay_37 : lay Try.prog 37 = some (4, true) := by kernel_rfl
theorem lay_4 : lay Try.prog 4 = some (1, false) := by kernel_rfl
theorem lay_59 : lay Try.prog 59 = some (3, true) := by kernel_rfl
theorem lay_68 : lay Try.prog 68 = some (1, false) := by kernel_rfl
theorem lay_70 : lay Try.prog 70 = some (4, true) := by kernel_rfl
theorem lay_79 : lay Try.prog 79 = some (2, true) := by kernel_rfl
theorem lay_82 : lay Try.prog 82 = some (1, false) := by kernel_rfl
theorem lay_88 : lay Try.prog 88 = some (1, false) := by kernel_rfl
theorem okF_10 : okF Try.prog 10 = true := by kernel_rfl
theorem okF_11 : okF Try.prog 11 = true := by kernel_rfl
theorem okF_12 : okF Try.prog 12 = true := by kernel_rfl
theorem okF_13 : okF Try.prog 13 = true := by kernel_rfl
theorem okF_14 : okF Try.prog 14 = true := by kernel_rfl
theorem okF_15 : okF Try.prog 15 = true := by kernel_rfl
theorem okF_16 : okF Try.prog 16 = true := by kernel_rfl
theorem okF_17 : okF Try.prog 17 = true := by kernel_rfl
theorem okF_18 : okF Try.prog 18 = true := by kernel_rfl
theorem okF_19 : okF Try.prog 19 = true := by kernel_rfl
theorem okF_20 : okF Try.prog 20 = true := by kernel_rfl
theorem okF_21 : okF Try.prog 21 = true := by kernel_rfl
theorem okF_22 : okF Try.prog 22 = true := by kernel_rfl
theorem okF_23 : okF Try.prog 23 = true := by kernel_rfl
theorem okF_24 : okF Try.prog 24 = true := by kernel_rfl
theorem okF_25 : okF Try.prog 25 = true := by kernel_rfl
theorem okF_26 : okF Try.prog 26 = true := by kernel_rfl
theorem okF_27 : okF Try.prog 27 = true := by kernel_rfl
theorem okF_28 : okF Try.prog 28 = true := by kernel_rfl
theorem okF_29 : okF Try.prog 29 = true := by kernel_rfl
theorem okF_3 : okF Try.prog 3 = true := by kernel_rfl
theorem okF_30 : okF Try.prog 30 = true := by kernel_rfl
theorem okF_31 : okF Try.prog 31 = true := by kernel_rfl
theorem okF_32 : okF Try.prog 32 = true := by kernel_rfl
theorem okF_33 : okF Try.prog 33 = true := by kernel_rfl
theorem okF_34 : okF Try.prog 34 = true := by kernel_rfl
theorem okF_35 : okF Try.prog 35 = true := by kernel_rfl
theorem okF_36 : okF Try.prog 36 = true := by kernel_rfl
theorem okF_37 : okF Try.prog 37 = true := by kernel_rfl
theorem okF_38 : okF Try.prog 38 = true := by kernel_rfl
theorem okF_39 : okF Try.prog 39 = true := by kernel_rfl
theorem okF_4 : okF Try.prog 4 = true := by kernel_rfl
theorem okF_40 : okF Try.prog 40 = true := by kernel_rfl
theorem okF_41 : okF Try.prog 41 = true := by kernel_rfl
theorem okF_42 : okF Try.prog 42 = true := by kernel_rfl
theorem okF_43 : okF Try.prog 43 = true := by kernel_rfl
theorem okF_44 : okF Try.prog 44 = true := by kernel_rfl
theorem okF_45 : okF Try.prog 45 = true := by kernel_rfl
theorem okF_46 : okF Try.prog 46 = true := by kernel_rfl
theorem okF_47 : okF Try.prog 47 = true := by kernel_rfl
theorem okF_48 : okF Try.prog 48 = true := by kernel_rfl
theorem okF_49 : okF Try.prog 49 = true := by kernel_rfl
theorem okF_5 : okF Try.prog 5 = true := by kernel_rfl
theorem okF_50 : okF Try.prog 50 = true := by kernel_rfl
theorem okF_51 : okF Try.prog 51 = true := by kernel_rfl
theorem okF_52 : okF Try.prog 52 = true := by kernel_rfl
theorem okF_53 : okF Try.prog 53 = true := by kernel_rfl
theorem okF_54 : okF Try.prog 54 = true := by kernel_rfl
theorem okF_55 : okF Try.prog 55 = true := by kernel_rfl
theorem okF_56 : okF Try.prog 56 = true := by kernel_rfl
theorem okF_57 : okF Try.prog 57 = true := by kernel_rfl
theorem okF_58 : okF Try.prog 58 = true := by kernel_rfl
theorem okF_59 : okF Try.prog 59 = true := by kernel_rfl
theorem okF_6 : okF Try.prog 6 = true := by kernel_rfl
theorem okF_60 : okF Try.prog 60 = true := by kernel_rfl
theorem okF_61 : okF Try.prog 61 = true := by kernel_rfl
theorem okF_62 : okF Try.prog 62 = true := by kernel_rfl
theorem okF_63 : okF Try.prog 63 = true := by kernel_rfl
theorem okF_64 : okF Try.prog 64 = true := by kernel_rfl
theorem okF_65 : okF Try.prog 65 = true := by kernel_rfl
theorem okF_66 : okF Try.prog 66 = true := by kernel_rfl
theorem okF_67 : okF Try.prog 67 = true := by kernel_rfl
theorem okF_68 : okF Try.prog 68 = true := by kernel_rfl
theorem okF_69 : okF Try.prog 69 = true := by kernel_rfl
theorem okF_7 : okF Try.prog 7 = true := by kernel_rfl
theorem okF_70 : okF Try.prog 70 = true := by kernel_rfl
theorem okF_71 : okF Try.prog 71 = true := by kernel_rfl
theorem okF_72 : okF Try.prog 72 = true := by kernel_rfl
theorem okF_73 : okF Try.prog 73 = true := by kernel_rfl
theorem okF_74 : okF Try.prog 74 = true := by kernel_rfl
theorem okF_75 : okF Try.prog 75 = true := by kernel_rfl
theorem okF_8 : okF Try.prog 8 = true := by kernel_rfl
theorem okF_9 : okF Try.prog 9 = true := by kernel_rfl
theorem plT_26 : plT Try.prog 26 = some [(0, 1), (1, 1), (2, 1), (3, 1), (4, 1), (5, 1)] := by kernel_rfl
theorem plT_29 : plT Try.prog 29 = some [(0, 1), (1, 1), (2, 1)] := by kernel_rfl
theorem plT_37 : plT Try.prog 37 = some [(0, 1), (1, 1), (2, 1), (3, 1)] := by kernel_rfl
theorem plT_70 : plT Try.prog 70 = some [(0, 1), (1, 1), (2, 1), (3, 1)] := by kernel_rfl
theorem plT_79 : plT Try.prog 79 = some [(0, 1), (1, 1)] := by kernel_rfl
theorem slT_22 : slT Try.prog 22 = some (59, 3, 24) := by kernel_rfl
theorem slT_23 : slT Try.prog 23 = none := by kernel_rfl
theorem slT_24 : slT Try.prog 24 = some (3, 1, 8) := by kernel_rfl
theorem slT_27 : slT Try.prog 27 = some (26, 6, 64) := by kernel_rfl
theorem slT_34 : slT Try.prog 34 = some (29, 3, 56) := by kernel_rfl
theorem slT_35 : slT Try.prog 35 = some (70, 4, 48) := by kernel_rfl
theorem slT_50 : slT Try.prog 50 = some (24, 1, 24) := by kernel_rfl
theorem slT_59 : slT Try.prog 59 = none := by kernel_rfl
theorem slT_61 : slT Try.prog 61 = none := by kernel_rfl
theorem slT_64 : slT Try.prog 64 = none := by kernel_rfl
theorem slT_65 : slT Try.prog 65 = none := by kernel_rfl
theorem slT_68 : slT Try.prog 68 = some (79, 2, 16) := by kernel_rfl
theorem stT_26_0 : stT Try.prog 26 0 = some (0, 1, false) := by kernel_rfl
theorem stT_26_1 : stT Try.prog 26 1 = some (1, 1, false) := by kernel_rfl
theorem stT_26_2 : stT Try.prog 26 2 = some (2, 1, false) := by kernel_rfl
theorem stT_26_3 : stT Try.prog 26 3 = some (3, 1, false) := by kernel_rfl
theorem stT_26_4 : stT Try.prog 26 4 = some (4, 1, false) := by kernel_rfl
theorem stT_26_5 : stT Try.prog 26 5 = some (5, 1, false) := by kernel_rfl
theorem stT_29_0 : stT Try.prog 29 0 = some (0, 1, false) := by kernel_rfl
theorem stT_29_1 : stT Try.prog 29 1 = some (1, 1, false) := by kernel_rfl
theorem stT_29_2 : stT Try.prog 29 2 = some (2, 1, false) := by kernel_rfl
theorem stT_37_0 : stT Try.prog 37 0 = some (0, 1, false) := by kernel_rfl
theorem stT_37_1 : stT Try.prog 37 1 = some (1, 1, false) := by kernel_rfl
theorem stT_37_2 : stT Try.prog 37 2 = some (2, 1, false) := by kernel_rfl
theorem stT_37_3 : stT Try.prog 37 3 = some (3, 1, false) := by kernel_rfl
theorem stT_70_0 : stT Try.prog 70 0 = some (0, 1, false) := by kernel_rfl
theorem stT_70_1 : stT Try.prog 70 1 = some (1, 1, false) := by kernel_rfl
theorem stT_70_2 : stT Try.prog 70 2 = some (2, 1, false) := by kernel_rfl
theorem stT_70_3 : stT Try.prog 70 3 = some (3, 1, false) := by kernel_rfl
theorem stT_79_0 : stT Try.prog 79 0 = some (0, 1, false) := by kernel_rfl
theorem stT_79_1 : stT Try.prog 79 1 = some (1, 1, false) := by kernel_rfl
theorem zeroT_24 : zeroT Try.prog 24 = some [V.nsl] := by kernel_rfl
theorem zeroT_26 : zeroT Try.prog 26 = some [V.int IntKind.i64 0, V.int IntKind.i64 0, V.int IntKind.i64 0, V.int IntKind.i64 0, V.nsl, V.int IntKind.i64 0] := by kernel_rfl
theorem zeroT_29 : zeroT Try.prog 29 = some [V.int IntKind.i64 0, V.nsl, V.nsl] := by kernel_rfl
theorem zeroT_3 : zeroT Try.prog 3 = some [V.int IntKind.i64 0] := by kernel_rfl
theorem zeroT_32 : zeroT Try.prog 32 = some [V.nf] := by kernel_rfl
theorem zeroT_35 : zeroT Try.prog 35 = some [V.nsl] := by kernel_rfl
theorem zeroT_37 : zeroT Try.prog 37 = some [V.bool false, V.int IntKind.i64 0, V.int IntKind.i64 0, V.nsl] := by kernel_rfl
theorem zeroT_59 : zeroT Try.prog 59 = some [V.int IntKind.i64 0, V.int IntKind.i64 0, V.int IntKind.i64 0] := by kernel_rfl
theorem zeroT_65 : zeroT Try.prog 65 = some [V.bool false, V.bool false, V.bool false, V.bool false] := by kernel_rfl
theorem zeroT_70 : zeroT Try.prog 70 = some [V.int IntKind.i64 0, V.int IntKind.i64 0, V.int IntKind.i64 0, V.nsl] := by kernel_rfl
theorem zeroT_79 : zeroT Try.prog 79 = some [V.int IntKind.i64 0, V.int IntKind.i64 0] := by kernel_rfl
theorem mixed : Try.prog.follows .mixedOrders = true := by kernel_rfl
end Go.Proofs.Ytcphhbiehaimeaa

namespace Go.Proofs.Ytcphhbiehaimeaa
open Go.RowKit
set_option linter.unusedVariables false
set_option linter.unusedSimpArgs false
section
variable {P : Program} {N : Nat} {C : Ctl P N} {fz : List Nat}
theorem evR_p {ds : List (Option Tmp)} {o : Oper} {l : List Oper} {σ σ' : St} {K : St → Prop}
    (k : evR C ds l σ' K) (h : ∀ Kq : St → Prop, Kq σ' → evO P ds o σ Kq := by intro Kq hKq; simp (maxSteps := 4000000) (disch := first | assumption | omega | (simp only [go_sem, *]; done) | (simp only [go_sem, *]; omega)) only [go_sem, isE, isO, stpO, notIn, St.bare, Bool.false_and, Bool.true_and, Bool.and_true, Bool.not_true, Bool.not_false, Int.reduceToNat, Nat.reduceBEq, Nat.reduceEqDiff, Nat.reduceAdd, Nat.reduceMul, Nat.reduceLeDiff, Nat.reduceLT, Nat.reduceSub, ↓reduceIte, reduceCtorEq, hq]; (repeat (refine And.intro (by first | assumption | omega | decide | (simp; done) | (simp; omega) | (have hq := hvv hgt; omega) | (have hq := hvv hgt.1; omega) | (simp_all; done)) ?_)); exact hKq) : evR C ds (o :: l) σ K :=
  evR_step fun Kq hKq => h Kq (hKq _ k)
theorem evR_bo {ds : List (Option Tmp)} {o : Oper} {l : List Oper} {σ σ' : St} {K : St → Prop}
    (k : evR C ds l σ' K) (h : ∀ Kq : St → Prop, Kq σ' → evO P ds o σ Kq := by intro Kq hKq; simp (maxSteps := 4000000) (disch := first | assumption | omega | (simp only [go_sem, *]; done) | (simp only [go_sem, *]; omega)) only [go_sem, isE, isO, stpO, notIn, St.bare, Bool.false_and, Bool.true_and, Bool.and_true, Bool.not_true, Bool.not_false, Int.reduceToNat, Nat.reduceBEq, Nat.reduceEqDiff, Nat.reduceAdd, Nat.reduceMul, Nat.reduceLeDiff, Nat.reduceLT, Nat.reduceSub, ↓reduceIte, reduceCtorEq, hq]; (repeat (refine And.intro (by first | assumption | omega | decide | (simp; done) | (simp; omega) | (have hq := hvv hgt; omega) | (have hq := hvv hgt.1; omega) | (simp_all; done)) ?_)); exact Or.inl hKq) : evR C ds (o :: l) σ K :=
  evR_step fun Kq hKq => h Kq (hKq _ k)
theorem evR_bs {ds : List (Option Tmp)} {o : Oper} {l : List Oper} {σ σ' : St} {K : St → Prop}
    (k : evR C ds l σ' K) (h : ∀ Kq : St → Prop, Kq σ' → evO P ds o σ Kq := by intro Kq hKq; simp (maxSteps := 4000000) (disch := first | assumption | omega | (simp only [go_sem, *]; done) | (simp only [go_sem, *]; omega)) only [go_sem, isE, isO, stpO, notIn, St.bare, Bool.false_and, Bool.true_and, Bool.and_true, Bool.not_true, Bool.not_false, Int.reduceToNat, Nat.reduceBEq, Nat.reduceEqDiff, Nat.reduceAdd, Nat.reduceMul, Nat.reduceLeDiff, Nat.reduceLT, Nat.reduceSub, ↓reduceIte, reduceCtorEq, hq]; (repeat (refine And.intro (by first | assumption | omega | decide | (simp; done) | (simp; omega) | (have hq := hvv hgt; omega) | (have hq := hvv hgt.1; omega) | (simp_all; done)) ?_)); exact Or.inr (Or.inl hKq)) : evR C ds (o :: l) σ K :=
  evR_step fun Kq hKq => h Kq (hKq _ k)
theorem evR_bc {ds : List (Option Tmp)} {o : Oper} {l : List Oper} {σ σ' : St} {K : St → Prop}
    (k : evR C ds l σ' K) (h : ∀ Kq : St → Prop, Kq σ' → evO P ds o σ Kq := by intro Kq hKq; simp (maxSteps := 4000000) (disch := first | assumption | omega | (simp only [go_sem, *]; done) | (simp only [go_sem, *]; omega)) only [go_sem, isE, isO, stpO, notIn, St.bare, Bool.false_and, Bool.true_and, Bool.and_true, Bool.not_true, Bool.not_false, Int.reduceToNat, Nat.reduceBEq, Nat.reduceEqDiff, Nat.reduceAdd, Nat.reduceMul, Nat.reduceLeDiff, Nat.reduceLT, Nat.reduceSub, ↓reduceIte, reduceCtorEq, hq]; (repeat (refine And.intro (by first | assumption | omega | decide | (simp; done) | (simp; omega) | (have hq := hvv hgt; omega) | (have hq := hvv hgt.1; omega) | (simp_all; done)) ?_)); exact Or.inr (Or.inr hKq)) : evR C ds (o :: l) σ K :=
  evR_step fun Kq hKq => h Kq (hKq _ k)
theorem evR_g {ds : List (Option Tmp)} {dst : Option Tmp} {op : Op} {ty : TypeId} {pos : String} {after : Array Edge} {j : Nat} {want : Bool} {d : Nat} {l : List Oper} {σ σ' : St} {K : St → Prop} {gb : Bool} {v0 : V} (k : evR C ds l σ' K)
    (hj : nth ds j = some d := by rfl) (hg : ∀ K' : Bool → Prop, K' gb → gof (σ.get (.tmp d)) want K' := by intro K3 h3; simp (maxSteps := 4000000) (disch := first | assumption | omega | (simp only [go_sem, *]; done) | (simp only [go_sem, *]; omega)) only [go_sem, isE, isO, stpO, notIn, St.bare, Bool.false_and, Bool.true_and, Bool.and_true, Bool.not_true, Bool.not_false, Int.reduceToNat, Nat.reduceBEq, Nat.reduceEqDiff, Nat.reduceAdd, Nat.reduceMul, Nat.reduceLeDiff, Nat.reduceLT, Nat.reduceSub, ↓reduceIte, reduceCtorEq, hq]; exact h3)
    (hs : gb = true → stp P σ (some gb) op fun v s => v = v0 ∧ s = σ := by intro hgt; (try simp only [decide_eq_true_eq, decide_eq_false_iff_not, Bool.not_eq_true', Bool.not_eq_false', Bool.and_eq_true, Bool.or_eq_true, Bool.and_eq_false_iff, Bool.or_eq_false_iff, beq_true, beq_false] at hgt); simp (maxSteps := 4000000) (disch := first | assumption | omega | (simp only [go_sem, *]; done) | (simp only [go_sem, *]; omega)) only [go_sem, isE, isO, stpO, notIn, St.bare, Bool.false_and, Bool.true_and, Bool.and_true, Bool.not_true, Bool.not_false, Int.reduceToNat, Nat.reduceBEq, Nat.reduceEqDiff, Nat.reduceAdd, Nat.reduceMul, Nat.reduceLeDiff, Nat.reduceLT, Nat.reduceSub, ↓reduceIte, reduceCtorEq, hq]; (repeat (refine And.intro (by first | assumption | omega | decide | (simp; done) | (simp; omega) | (have hq := hvv hgt; omega) | (have hq := hvv hgt.1; omega) | (simp_all; done)) ?_)); first | rfl | exact ⟨rfl, rfl⟩ | (refine Or.inl ?_; rfl) | (refine Or.inl ?_; exact ⟨rfl, rfl⟩))
    (hp : σ.put dst (.gd gb v0) = σ' := by simp only [St.put]; rfl) : evR C ds (⟨dst, op, ty, pos, after, some (j, want)⟩ :: l) σ K :=
  evR_step fun Kq hKq => evO_guard hj hg hs (by rw [hp]; exact hKq _ k)
theorem evR_gf {ds : List (Option Tmp)} {dst : Option Tmp} {op : Op} {ty : TypeId} {pos : String} {after : Array Edge} {j : Nat} {want : Bool} {d : Nat} {l : List Oper} {σ σ' : St} {K : St → Prop} (v0 : V) (k : evR C ds l σ' K)
    (hj : nth ds j = some d := by rfl) (hg : ∀ K' : Bool → Prop, K' false → gof (σ.get (.tmp d)) want K' := by intro K3 h3; simp (maxSteps := 4000000) (disch := first | assumption | omega | (simp only [go_sem, *]; done) | (simp only [go_sem, *]; omega)) only [go_sem, isE, isO, stpO, notIn, St.bare, Bool.false_and, Bool.true_and, Bool.and_true, Bool.not_true, Bool.not_false, Int.reduceToNat, Nat.reduceBEq, Nat.reduceEqDiff, Nat.reduceAdd, Nat.reduceMul, Nat.reduceLeDiff, Nat.reduceLT, Nat.reduceSub, ↓reduceIte, reduceCtorEq, hq, Int.lt_irrefl, Nat.lt_irrefl, Bool.and_false, beq_iff_eq]; exact h3)
    (hp : σ.put dst (.gd false v0) = σ' := by simp only [St.put]; rfl) : evR C ds (⟨dst, op, ty, pos, after, some (j, want)⟩ :: l) σ K :=
  evR_step fun Kq hKq => evO_guard hj hg (fun h => by cases h) (by rw [hp]; exact hKq _ k)
theorem evR_c {ds : List (Option Tmp)} {o : Oper} {l : List Oper} {σ : St} {K : St → Prop} {f : FuncId} {args : List V} {r : V} {F : V → St}
    (h : ∀ (Kq : St → Prop) (r : V), CallsA P f args r → Kq (F r) → evO P ds o σ Kq := by intro Kq r hc hKq; simp (maxSteps := 4000000) (disch := first | assumption | omega | (simp only [go_sem, *]; done) | (simp only [go_sem, *]; omega)) only [go_sem, isE, isO, stpO, notIn, St.bare, Bool.false_and, Bool.true_and, Bool.and_true, Bool.not_true, Bool.not_false, Int.reduceToNat, Nat.reduceBEq, Nat.reduceEqDiff, Nat.reduceAdd, Nat.reduceMul, Nat.reduceLeDiff, Nat.reduceLT, Nat.reduceSub, ↓reduceIte, reduceCtorEq, hq]; (repeat (refine And.intro (by first | assumption | omega | decide | (simp; done) | (simp; omega) | (have hq := hvv hgt; omega) | (have hq := hvv hgt.1; omega) | (simp_all; done)) ?_)); exact ⟨r, hc, hKq⟩)
    (hc : CallsA P f args r) (k : evR C ds l (F r) K) : evR C ds (o :: l) σ K :=
  evR_step fun Kq hKq => h Kq r hc (hKq _ k)
theorem evR_gc {ds : List (Option Tmp)} {dst : Option Tmp} {op : Op} {ty : TypeId} {pos : String} {after : Array Edge} {j : Nat} {want : Bool} {d : Nat} {l : List Oper} {σ σ' : St} {K : St → Prop} {gb : Bool} {f : FuncId} {args : List V} {r : V}
    (hj : nth ds j = some d := by rfl) (hg : ∀ K' : Bool → Prop, K' gb → gof (σ.get (.tmp d)) want K' := by intro K3 h3; simp (maxSteps := 4000000) (disch := first | assumption | omega | (simp only [go_sem, *]; done) | (simp only [go_sem, *]; omega)) only [go_sem, isE, isO, stpO, notIn, St.bare, Bool.false_and, Bool.true_and, Bool.and_true, Bool.not_true, Bool.not_false, Int.reduceToNat, Nat.reduceBEq, Nat.reduceEqDiff, Nat.reduceAdd, Nat.reduceMul, Nat.reduceLeDiff, Nat.reduceLT, Nat.reduceSub, ↓reduceIte, reduceCtorEq, hq]; exact h3)
    (hs : ∀ r : V, CallsA P f args r → gb = true → stp P σ (some gb) op fun v s => v = r ∧ s = σ := by intro r hc hgt; (try simp only [decide_eq_true_eq, decide_eq_false_iff_not, Bool.not_eq_true', Bool.not_eq_false', Bool.and_eq_true, Bool.or_eq_true, Bool.and_eq_false_iff, Bool.or_eq_false_iff, beq_true, beq_false] at hgt); simp (maxSteps := 4000000) (disch := first | assumption | omega | (simp only [go_sem, *]; done) | (simp only [go_sem, *]; omega)) only [go_sem, isE, isO, stpO, notIn, St.bare, Bool.false_and, Bool.true_and, Bool.and_true, Bool.not_true, Bool.not_false, Int.reduceToNat, Nat.reduceBEq, Nat.reduceEqDiff, Nat.reduceAdd, Nat.reduceMul, Nat.reduceLeDiff, Nat.reduceLT, Nat.reduceSub, ↓reduceIte, reduceCtorEq, hq]; (repeat (refine And.intro (by first | assumption | omega | decide | (simp; done) | (simp; omega) | (have hq := hvv hgt; omega) | (have hq := hvv hgt.1; omega) | (simp_all; done)) ?_)); (refine ⟨_, hc, ?_⟩); first | rfl | exact ⟨rfl, rfl⟩)
    (hc : CallsA P f args r)
    (hp : σ.put dst (.gd gb r) = σ' := by simp only [St.put]; rfl) (k : evR C ds l σ' K) : evR C ds (⟨dst, op, ty, pos, after, some (j, want)⟩ :: l) σ K :=
  evR_step fun Kq hKq => evO_guard hj hg (hs r hc) (by rw [hp]; exact hKq _ k)
theorem evR_gch {ds : List (Option Tmp)} {dst : Option Tmp} {op : Op} {ty : TypeId} {pos : String} {after : Array Edge} {j : Nat} {want : Bool} {d : Nat} {l : List Oper} {σ σ' : St} {K : St → Prop} {gb : Bool} {f : FuncId} {args : List V} {r : V}
    (hj : nth ds j = some d := by rfl) (hg : ∀ K' : Bool → Prop, K' gb → gof (σ.get (.tmp d)) want K' := by intro K3 h3; simp (maxSteps := 4000000) (disch := first | assumption | omega | (simp only [go_sem, *]; done) | (simp only [go_sem, *]; omega)) only [go_sem, isE, isO, stpO, notIn, St.bare, Bool.false_and, Bool.true_and, Bool.and_true, Bool.not_true, Bool.not_false, Int.reduceToNat, Nat.reduceBEq, Nat.reduceEqDiff, Nat.reduceAdd, Nat.reduceMul, Nat.reduceLeDiff, Nat.reduceLT, Nat.reduceSub, ↓reduceIte, reduceCtorEq, hq]; exact h3)
    (hs : ∀ r : V, (gb = true → CallsA P f args r) → gb = true → stp P σ (some gb) op fun v s => v = r ∧ s = σ := by intro r hc hgt; have hc1 := hc hgt; (try simp only [decide_eq_true_eq, decide_eq_false_iff_not, Bool.not_eq_true', Bool.not_eq_false', Bool.and_eq_true, Bool.or_eq_true, Bool.and_eq_false_iff, Bool.or_eq_false_iff, beq_true, beq_false] at hgt); simp (maxSteps := 4000000) (disch := first | assumption | omega | (simp only [go_sem, *]; done) | (simp only [go_sem, *]; omega)) only [go_sem, isE, isO, stpO, notIn, St.bare, Bool.false_and, Bool.true_and, Bool.and_true, Bool.not_true, Bool.not_false, Int.reduceToNat, Nat.reduceBEq, Nat.reduceEqDiff, Nat.reduceAdd, Nat.reduceMul, Nat.reduceLeDiff, Nat.reduceLT, Nat.reduceSub, ↓reduceIte, reduceCtorEq, hq]; (repeat (refine And.intro (by first | assumption | omega | decide | (simp; done) | (simp; omega) | (have hq := hvv hgt; omega) | (have hq := hvv hgt.1; omega) | (simp_all; done)) ?_)); (refine ⟨_, hc1, ?_⟩); first | rfl | exact ⟨rfl, rfl⟩)
    (hc : gb = true → CallsA P f args r)
    (hp : σ.put dst (.gd gb r) = σ' := by simp only [St.put]; rfl) (k : evR C ds l σ' K) : evR C ds (⟨dst, op, ty, pos, after, some (j, want)⟩ :: l) σ K :=
  evR_step fun Kq hKq => evO_guard hj hg (hs r hc) (by rw [hp]; exact hKq _ k)
theorem evR_e {ds : List (Option Tmp)} {σ σ' : St} {K : St → Prop} {Ψ : Exit → St → Prop} {kp : List Nat} (hK : ∀ s, Ψ .normal (s.norm kp) → K s) (k : Ψ .normal σ')
    (hn : σ.norm kp = σ' := by simp only [St.norm, List.filterMap, List.lookup, Option.map, Nat.reduceBEq]; rfl) : evR C ds [] σ K := hK σ (hn ▸ k)
theorem evD_p {ds : List (Option Tmp)} {o : Oper} {l : List Oper} {σ σ' : St} {K : St → Prop}
    (k : evD fz P ds l σ' K) (h : ∀ Kq : St → Prop, Kq σ' → evDO fz P ds o σ Kq := by intro Kq hKq; simp (maxSteps := 4000000) (disch := first | assumption | omega | (simp only [go_sem, *]; done) | (simp only [go_sem, *]; omega)) only [go_sem, isE, isO, stpO, notIn, St.bare, Bool.false_and, Bool.true_and, Bool.and_true, Bool.not_true, Bool.not_false, Int.reduceToNat, Nat.reduceBEq, Nat.reduceEqDiff, Nat.reduceAdd, Nat.reduceMul, Nat.reduceLeDiff, Nat.reduceLT, Nat.reduceSub, ↓reduceIte, reduceCtorEq, hq]; (repeat (refine And.intro (by first | assumption | omega | decide | (simp; done) | (simp; omega) | (have hq := hvv hgt; omega) | (have hq := hvv hgt.1; omega) | (simp_all; done)) ?_)); exact hKq) : evD fz P ds (o :: l) σ K :=
  evD_step fun Kq hKq => h Kq (hKq _ k)
theorem evD_bo {ds : List (Option Tmp)} {o : Oper} {l : List Oper} {σ σ' : St} {K : St → Prop}
    (k : evD fz P ds l σ' K) (h : ∀ Kq : St → Prop, Kq σ' → evDO fz P ds o σ Kq := by intro Kq hKq; simp (maxSteps := 4000000) (disch := first | assumption | omega | (simp only [go_sem, *]; done) | (simp only [go_sem, *]; omega)) only [go_sem, isE, isO, stpO, notIn, St.bare, Bool.false_and, Bool.true_and, Bool.and_true, Bool.not_true, Bool.not_false, Int.reduceToNat, Nat.reduceBEq, Nat.reduceEqDiff, Nat.reduceAdd, Nat.reduceMul, Nat.reduceLeDiff, Nat.reduceLT, Nat.reduceSub, ↓reduceIte, reduceCtorEq, hq]; (repeat (refine And.intro (by first | assumption | omega | decide | (simp; done) | (simp; omega) | (have hq := hvv hgt; omega) | (have hq := hvv hgt.1; omega) | (simp_all; done)) ?_)); exact Or.inl hKq) : evD fz P ds (o :: l) σ K :=
  evD_step fun Kq hKq => h Kq (hKq _ k)
theorem evD_bs {ds : List (Option Tmp)} {o : Oper} {l : List Oper} {σ σ' : St} {K : St → Prop}
    (k : evD fz P ds l σ' K) (h : ∀ Kq : St → Prop, Kq σ' → evDO fz P ds o σ Kq := by intro Kq hKq; simp (maxSteps := 4000000) (disch := first | assumption | omega | (simp only [go_sem, *]; done) | (simp only [go_sem, *]; omega)) only [go_sem, isE, isO, stpO, notIn, St.bare, Bool.false_and, Bool.true_and, Bool.and_true, Bool.not_true, Bool.not_false, Int.reduceToNat, Nat.reduceBEq, Nat.reduceEqDiff, Nat.reduceAdd, Nat.reduceMul, Nat.reduceLeDiff, Nat.reduceLT, Nat.reduceSub, ↓reduceIte, reduceCtorEq, hq]; (repeat (refine And.intro (by first | assumption | omega | decide | (simp; done) | (simp; omega) | (have hq := hvv hgt; omega) | (have hq := hvv hgt.1; omega) | (simp_all; done)) ?_)); exact Or.inl hKq) : evD fz P ds (o :: l) σ K :=
  evD_step fun Kq hKq => h Kq (hKq _ k)
theorem evD_bc {ds : List (Option Tmp)} {o : Oper} {l : List Oper} {σ σ' : St} {K : St → Prop}
    (k : evD fz P ds l σ' K) (h : ∀ Kq : St → Prop, Kq σ' → evDO fz P ds o σ Kq := by intro Kq hKq; simp (maxSteps := 4000000) (disch := first | assumption | omega | (simp only [go_sem, *]; done) | (simp only [go_sem, *]; omega)) only [go_sem, isE, isO, stpO, notIn, St.bare, Bool.false_and, Bool.true_and, Bool.and_true, Bool.not_true, Bool.not_false, Int.reduceToNat, Nat.reduceBEq, Nat.reduceEqDiff, Nat.reduceAdd, Nat.reduceMul, Nat.reduceLeDiff, Nat.reduceLT, Nat.reduceSub, ↓reduceIte, reduceCtorEq, hq]; (repeat (refine And.intro (by first | assumption | omega | decide | (simp; done) | (simp; omega) | (have hq := hvv hgt; omega) | (have hq := hvv hgt.1; omega) | (simp_all; done)) ?_)); exact Or.inr hKq) : evD fz P ds (o :: l) σ K :=
  evD_step fun Kq hKq => h Kq (hKq _ k)
theorem evD_g {ds : List (Option Tmp)} {dst : Option Tmp} {op : Op} {ty : TypeId} {pos : String} {after : Array Edge} {j : Nat} {want : Bool} {d : Nat} {l : List Oper} {σ σ' : St} {K : St → Prop} {gb : Bool} {v0 : V} (k : evD fz P ds l σ' K)
    (he : isE fz ⟨dst, op, ty, pos, after, some (j, want)⟩ = false := by rfl) (hj : nth ds j = some d := by rfl) (hg : ∀ K' : Bool → Prop, K' gb → gof (σ.get (.tmp d)) want K' := by intro K3 h3; simp (maxSteps := 4000000) (disch := first | assumption | omega | (simp only [go_sem, *]; done) | (simp only [go_sem, *]; omega)) only [go_sem, isE, isO, stpO, notIn, St.bare, Bool.false_and, Bool.true_and, Bool.and_true, Bool.not_true, Bool.not_false, Int.reduceToNat, Nat.reduceBEq, Nat.reduceEqDiff, Nat.reduceAdd, Nat.reduceMul, Nat.reduceLeDiff, Nat.reduceLT, Nat.reduceSub, ↓reduceIte, reduceCtorEq, hq]; exact h3)
    (hs : gb = true → stp P σ (some gb) op fun v s => v = v0 ∧ s = σ := by intro hgt; (try simp only [decide_eq_true_eq, decide_eq_false_iff_not, Bool.not_eq_true', Bool.not_eq_false', Bool.and_eq_true, Bool.or_eq_true, Bool.and_eq_false_iff, Bool.or_eq_false_iff, beq_true, beq_false] at hgt); simp (maxSteps := 4000000) (disch := first | assumption | omega | (simp only [go_sem, *]; done) | (simp only [go_sem, *]; omega)) only [go_sem, isE, isO, stpO, notIn, St.bare, Bool.false_and, Bool.true_and, Bool.and_true, Bool.not_true, Bool.not_false, Int.reduceToNat, Nat.reduceBEq, Nat.reduceEqDiff, Nat.reduceAdd, Nat.reduceMul, Nat.reduceLeDiff, Nat.reduceLT, Nat.reduceSub, ↓reduceIte, reduceCtorEq, hq]; (repeat (refine And.intro (by first | assumption | omega | decide | (simp; done) | (simp; omega) | (have hq := hvv hgt; omega) | (have hq := hvv hgt.1; omega) | (simp_all; done)) ?_)); first | rfl | exact ⟨rfl, rfl⟩ | (refine Or.inl ?_; rfl) | (refine Or.inl ?_; exact ⟨rfl, rfl⟩))
    (hp : σ.put dst (.gd gb v0) = σ' := by simp only [St.put]; rfl) : evD fz P ds (⟨dst, op, ty, pos, after, some (j, want)⟩ :: l) σ K :=
  evD_step fun Kq hKq => evDO_guard he hj hg hs (by rw [hp]; exact hKq _ k)
theorem evD_gf {ds : List (Option Tmp)} {dst : Option Tmp} {op : Op} {ty : TypeId} {pos : String} {after : Array Edge} {j : Nat} {want : Bool} {d : Nat} {l : List Oper} {σ σ' : St} {K : St → Prop} (v0 : V) (k : evD fz P ds l σ' K)
    (he : isE fz ⟨dst, op, ty, pos, after, some (j, want)⟩ = false := by rfl) (hj : nth ds j = some d := by rfl) (hg : ∀ K' : Bool → Prop, K' false → gof (σ.get (.tmp d)) want K' := by intro K3 h3; simp (maxSteps := 4000000) (disch := first | assumption | omega | (simp only [go_sem, *]; done) | (simp only [go_sem, *]; omega)) only [go_sem, isE, isO, stpO, notIn, St.bare, Bool.false_and, Bool.true_and, Bool.and_true, Bool.not_true, Bool.not_false, Int.reduceToNat, Nat.reduceBEq, Nat.reduceEqDiff, Nat.reduceAdd, Nat.reduceMul, Nat.reduceLeDiff, Nat.reduceLT, Nat.reduceSub, ↓reduceIte, reduceCtorEq, hq, Int.lt_irrefl, Nat.lt_irrefl, Bool.and_false, beq_iff_eq]; exact h3)
    (hp : σ.put dst (.gd false v0) = σ' := by simp only [St.put]; rfl) : evD fz P ds (⟨dst, op, ty, pos, after, some (j, want)⟩ :: l) σ K :=
  evD_step fun Kq hKq => evDO_guard he hj hg (fun h => by cases h) (by rw [hp]; exact hKq _ k)
theorem evD_c {ds : List (Option Tmp)} {o : Oper} {l : List Oper} {σ : St} {K : St → Prop} {f : FuncId} {args : List V} {r : V} {F : V → St}
    (h : ∀ (Kq : St → Prop) (r : V), CallsA P f args r → Kq (F r) → evDO fz P ds o σ Kq := by intro Kq r hc hKq; simp (maxSteps := 4000000) (disch := first | assumption | omega | (simp only [go_sem, *]; done) | (simp only [go_sem, *]; omega)) only [go_sem, isE, isO, stpO, notIn, St.bare, Bool.false_and, Bool.true_and, Bool.and_true, Bool.not_true, Bool.not_false, Int.reduceToNat, Nat.reduceBEq, Nat.reduceEqDiff, Nat.reduceAdd, Nat.reduceMul, Nat.reduceLeDiff, Nat.reduceLT, Nat.reduceSub, ↓reduceIte, reduceCtorEq, hq]; (repeat (refine And.intro (by first | assumption | omega | decide | (simp; done) | (simp; omega) | (have hq := hvv hgt; omega) | (have hq := hvv hgt.1; omega) | (simp_all; done)) ?_)); exact ⟨r, hc, hKq⟩)
    (hc : CallsA P f args r) (k : evD fz P ds l (F r) K) : evD fz P ds (o :: l) σ K :=
  evD_step fun Kq hKq => h Kq r hc (hKq _ k)
theorem evD_gc {ds : List (Option Tmp)} {dst : Option Tmp} {op : Op} {ty : TypeId} {pos : String} {after : Array Edge} {j : Nat} {want : Bool} {d : Nat} {l : List Oper} {σ σ' : St} {K : St → Prop} {gb : Bool} {f : FuncId} {args : List V} {r : V}
    (he : isE fz ⟨dst, op, ty, pos, after, some (j, want)⟩ = false := by rfl) (hj : nth ds j = some d := by rfl) (hg : ∀ K' : Bool → Prop, K' gb → gof (σ.get (.tmp d)) want K' := by intro K3 h3; simp (maxSteps := 4000000) (disch := first | assumption | omega | (simp only [go_sem, *]; done) | (simp only [go_sem, *]; omega)) only [go_sem, isE, isO, stpO, notIn, St.bare, Bool.false_and, Bool.true_and, Bool.and_true, Bool.not_true, Bool.not_false, Int.reduceToNat, Nat.reduceBEq, Nat.reduceEqDiff, Nat.reduceAdd, Nat.reduceMul, Nat.reduceLeDiff, Nat.reduceLT, Nat.reduceSub, ↓reduceIte, reduceCtorEq, hq]; exact h3)
    (hs : ∀ r : V, CallsA P f args r → gb = true → stp P σ (some gb) op fun v s => v = r ∧ s = σ := by intro r hc hgt; (try simp only [decide_eq_true_eq, decide_eq_false_iff_not, Bool.not_eq_true', Bool.not_eq_false', Bool.and_eq_true, Bool.or_eq_true, Bool.and_eq_false_iff, Bool.or_eq_false_iff, beq_true, beq_false] at hgt); simp (maxSteps := 4000000) (disch := first | assumption | omega | (simp only [go_sem, *]; done) | (simp only [go_sem, *]; omega)) only [go_sem, isE, isO, stpO, notIn, St.bare, Bool.false_and, Bool.true_and, Bool.and_true, Bool.not_true, Bool.not_false, Int.reduceToNat, Nat.reduceBEq, Nat.reduceEqDiff, Nat.reduceAdd, Nat.reduceMul, Nat.reduceLeDiff, Nat.reduceLT, Nat.reduceSub, ↓reduceIte, reduceCtorEq, hq]; (repeat (refine And.intro (by first | assumption | omega | decide | (simp; done) | (simp; omega) | (have hq := hvv hgt; omega) | (have hq := hvv hgt.1; omega) | (simp_all; done)) ?_)); (refine ⟨_, hc, ?_⟩); first | rfl | exact ⟨rfl, rfl⟩)
    (hc : CallsA P f args r)
    (hp : σ.put dst (.gd gb r) = σ' := by simp only [St.put]; rfl) (k : evD fz P ds l σ' K) : evD fz P ds (⟨dst, op, ty, pos, after, some (j, want)⟩ :: l) σ K :=
  evD_step fun Kq hKq => evDO_guard he hj hg (hs r hc) (by rw [hp]; exact hKq _ k)
theorem evD_gch {ds : List (Option Tmp)} {dst : Option Tmp} {op : Op} {ty : TypeId} {pos : String} {after : Array Edge} {j : Nat} {want : Bool} {d : Nat} {l : List Oper} {σ σ' : St} {K : St → Prop} {gb : Bool} {f : FuncId} {args : List V} {r : V}
    (he : isE fz ⟨dst, op, ty, pos, after, some (j, want)⟩ = false := by rfl) (hj : nth ds j = some d := by rfl) (hg : ∀ K' : Bool → Prop, K' gb → gof (σ.get (.tmp d)) want K' := by intro K3 h3; simp (maxSteps := 4000000) (disch := first | assumption | omega | (simp only [go_sem, *]; done) | (simp only [go_sem, *]; omega)) only [go_sem, isE, isO, stpO, notIn, St.bare, Bool.false_and, Bool.true_and, Bool.and_true, Bool.not_true, Bool.not_false, Int.reduceToNat, Nat.reduceBEq, Nat.reduceEqDiff, Nat.reduceAdd, Nat.reduceMul, Nat.reduceLeDiff, Nat.reduceLT, Nat.reduceSub, ↓reduceIte, reduceCtorEq, hq]; exact h3)
    (hs : ∀ r : V, (gb = true → CallsA P f args r) → gb = true → stp P σ (some gb) op fun v s => v = r ∧ s = σ := by intro r hc hgt; have hc1 := hc hgt; (try simp only [decide_eq_true_eq, decide_eq_false_iff_not, Bool.not_eq_true', Bool.not_eq_false', Bool.and_eq_true, Bool.or_eq_true, Bool.and_eq_false_iff, Bool.or_eq_false_iff, beq_true, beq_false] at hgt); simp (maxSteps := 4000000) (disch := first | assumption | omega | (simp only [go_sem, *]; done) | (simp only [go_sem, *]; omega)) only [go_sem, isE, isO, stpO, notIn, St.bare, Bool.false_and, Bool.true_and, Bool.and_true, Bool.not_true, Bool.not_false, Int.reduceToNat, Nat.reduceBEq, Nat.reduceEqDiff, Nat.reduceAdd, Nat.reduceMul, Nat.reduceLeDiff, Nat.reduceLT, Nat.reduceSub, ↓reduceIte, reduceCtorEq, hq]; (repeat (refine And.intro (by first | assumption | omega | decide | (simp; done) | (simp; omega) | (have hq := hvv hgt; omega) | (have hq := hvv hgt.1; omega) | (simp_all; done)) ?_)); (refine ⟨_, hc1, ?_⟩); first | rfl | exact ⟨rfl, rfl⟩)
    (hc : gb = true → CallsA P f args r)
    (hp : σ.put dst (.gd gb r) = σ' := by simp only [St.put]; rfl) (k : evD fz P ds l σ' K) : evD fz P ds (⟨dst, op, ty, pos, after, some (j, want)⟩ :: l) σ K :=
  evD_step fun Kq hKq => evDO_guard he hj hg (hs r hc) (by rw [hp]; exact hKq _ k)
theorem evD_e {ds : List (Option Tmp)} {σ σ' : St} {K : St → Prop} {Ψ : Exit → St → Prop} {kp : List Nat} (hK : ∀ s, Ψ .normal (s.norm kp) → K s) (k : Ψ .normal σ')
    (hn : σ.norm kp = σ' := by simp only [St.norm, List.filterMap, List.lookup, Option.map, Nat.reduceBEq]; rfl) : evD fz P ds [] σ K := hK σ (hn ▸ k)
theorem evD_o {ds : List (Option Tmp)} {o : Oper} {l : List Oper} {σ : St} {K : St → Prop} {f : FuncId} {args : List V} {e z : Nat} {rows : List (List V)} {F : Nat → Nat → List (List V) → St}
    (h : ∀ (Kq : St → Prop) (e z : Nat) (rows : List (List V)), CallsO P f args e z rows → Kq (F e z rows) → evDO fz P ds o σ Kq := by intro Kq e z rows hc hKq; simp (maxSteps := 4000000) (disch := first | assumption | omega | (simp only [go_sem, *]; done) | (simp only [go_sem, *]; omega)) only [go_sem, isE, isO, stpO, notIn, St.bare, Bool.false_and, Bool.true_and, Bool.and_true, Bool.not_true, Bool.not_false, Int.reduceToNat, Nat.reduceBEq, Nat.reduceEqDiff, Nat.reduceAdd, Nat.reduceMul, Nat.reduceLeDiff, Nat.reduceLT, Nat.reduceSub, ↓reduceIte, reduceCtorEq, hq]; (repeat (refine And.intro (by first | assumption | omega | decide | (simp; done) | (simp; omega) | (have hq := hvv hgt; omega) | (have hq := hvv hgt.1; omega) | (simp_all; done)) ?_)); (refine Or.inl ?_); (repeat (refine And.intro (by first | assumption | omega | decide | (simp; done) | (simp; omega) | (have hq := hvv hgt; omega) | (have hq := hvv hgt.1; omega) | (simp_all; done)) ?_)); exact ⟨e, z, rows, hc, hKq⟩)
    (hc : CallsO P f args e z rows) (k : evD fz P ds l (F e z rows) K) : evD fz P ds (o :: l) σ K :=
  evD_step fun Kq hKq => h Kq e z rows hc (hKq _ k)
theorem tr_condB {c : Operand} {x y : Code} {σ : St} {Ψ : Exit → St → Prop} {b : Bool} {p q : Prop} (ht : p → Tr C x σ Ψ) (hf : q → Tr C y σ Ψ) (hb : σ.get c = .bool b := by rfl)
    (e1 : (b = true) = p := by first | (simp only [decide_eq_true_eq, decide_eq_false_iff_not, Bool.not_eq_true', Bool.not_eq_false', Bool.and_eq_true, Bool.or_eq_true, Bool.and_eq_false_iff, Bool.or_eq_false_iff, beq_true, beq_false]; exact rfl) | exact rfl) (e2 : (b = false) = q := by first | (simp only [decide_eq_true_eq, decide_eq_false_iff_not, Bool.not_eq_true', Bool.not_eq_false', Bool.and_eq_true, Bool.or_eq_true, Bool.and_eq_false_iff, Bool.or_eq_false_iff, beq_true, beq_false]; exact rfl) | exact rfl) : Tr C (.cond c x y) σ Ψ := tr_cond hb (fun h => ht (e1 ▸ h)) (fun h => hf (e2 ▸ h))
end
end Go.Proofs.Ytcphhbiehaimeaa

namespace Go.Proofs.Ytcphhbiehaimeaa
open Go.RowKit
set_option linter.unusedVariables false
set_option linter.unusedSimpArgs false
theorem andNotN {a b : Nat} (ha : a < 65536) (hb : b < 65536) : ∃ K : Nat, bitsV .andNot .i64 a b = K ∧ K ≤ a ∧ ∀ i, K.testBit i = (a.testBit i && !b.testBit i) := by
  refine ⟨a &&& (b ^^^ 65535), ?_, Nat.and_le_left, fun i => ?_⟩
  · have e : bitsV .andNot .i64 a b = IntKind.i64.wrap (((BitVec.ofInt 64 (a : Int)) &&& ~~~(BitVec.ofInt 64 (b : Int))).toNat : Int) := rfl
    have e2 : ((BitVec.ofInt 64 (a : Int)) &&& ~~~(BitVec.ofInt 64 (b : Int))).toNat = a &&& (b ^^^ 65535) := by
      apply Nat.eq_of_testBit_eq
      intro i
      rw [← BitVec.getLsbD]
      simp only [BitVec.getLsbD_and, BitVec.getLsbD_not, Nat.testBit_and, Nat.testBit_xor]
      rw [BitVec.getLsbD, BitVec.getLsbD, toNat64 ha, toNat64 hb]
      by_cases h : i < 16
      · rw [show (65535 : Nat) = 2 ^ 16 - 1 from rfl, Nat.testBit_two_pow_sub_one]
        simp [h, show i < 64 by omega]
      · have : a.testBit i = false := Nat.testBit_lt_two_pow (Nat.lt_of_lt_of_le ha (by rw [show (65536 : Nat) = 2 ^ 16 from rfl]; exact Nat.pow_le_pow_right (by omega) (by omega)))
        simp [this]
    have h16 : a &&& (b ^^^ 65535) ≤ a := Nat.and_le_left
    rw [e, e2, w64 (by omega)]
  · rw [Nat.testBit_and, Nat.testBit_xor, show (65535 : Nat) = 2 ^ 16 - 1 from rfl, Nat.testBit_two_pow_sub_one]
    by_cases h : i < 16
    · simp [h]
    · have : a.testBit i = false := Nat.testBit_lt_two_pow (Nat.lt_of_lt_of_le ha (by rw [show (65536 : Nat) = 2 ^ 16 from rfl]; exact Nat.pow_le_pow_right (by omega) (by omega)))
      simp [this]
theorem sumG_or (l : List Int) {a b : Nat} (h : ∀ i, a.testBit i = true → b.testBit i = false) : ∀ n, sumG l a n + sumG l b n = sumG l (a ||| b) n
  | 0 => rfl
  | n + 1 => by
    have ih := sumG_or l h n
    simp only [sumG, Nat.testBit_or]
    have hn := h n
    cases ha : a.testBit n <;> cases hb : b.testBit n <;> simp_all <;> omega
theorem sum_in {p : Pg} (hv : validB p = true) {v : Nat} (e : p.vars = v) {r : Rw} (hr : r ∈ p.rows) {s : Nat} (hs : s < 2 ^ v) : sumW r s = sumG r.coef s v ∧ chosenW r.coef s = sumG r.coef s v ∧ -12000000000 ≤ sumG r.coef s v ∧ sumG r.coef s v ≤ 12000000000 := by
  obtain ⟨h0, h1, h2, h3, h4, h5⟩ := validB_all hv
  obtain ⟨k1, k2, k3⟩ := h5 r hr
  have hp : 2 ^ v ≤ 2 ^ 12 := Nat.pow_le_pow_right (by omega) (by omega)
  have hl : r.coef.length = v := by omega
  have e1 : chosenW r.coef s = sumG r.coef s v := by rw [chosenW_sum k2 (by omega) (by omega)]; unfold sumS; rw [hl]
  have h6 := chosenG_sum k2 (show s < 65536 by omega) v (by omega)
  refine ⟨?_, e1, by omega, by omega⟩
  unfold sumW
  have hright : rightB r r.coef.length = true := by simp only [rightB, Bool.and_eq_true, decide_eq_true_eq, isInB_spec]; exact ⟨trivial, k2, k3⟩
  obtain ⟨q1, q2, q3⟩ := shl_small (k := (r.coef.length : Nat)) (by omega)
  have hsh : shlW .i64 1 (r.coef.length : Nat) = ((2 ^ v : Nat) : Int) := by rw [hl]; exact shl1 (by omega)
  have hin : isInB (s : Int) 0 (IntKind.i64.wrap (shlW .i64 1 r.coef.length - 1)) = true := by rw [q1, hsh, isInB_spec]; omega
  rw [hright, hin, decide_eq_false (by omega), e1]
  rfl
theorem gainW_in {p : Pg} (hv : validB p = true) {v : Nat} (e : p.vars = v) {s : Nat} (hs : s < 2 ^ v) : gainW p s = sumG p.gain s v ∧ -12000000000 ≤ sumG p.gain s v ∧ sumG p.gain s v ≤ 12000000000 := by
  obtain ⟨h0, h1, h2, h3, h4, h5⟩ := validB_all hv
  have hp : 2 ^ v ≤ 2 ^ 12 := Nat.pow_le_pow_right (by omega) (by omega)
  have h6 := chosenG_sum h4 (show s < 65536 by omega) v (by omega)
  exact ⟨(gain_in hv e hs).1, by omega, by omega⟩
theorem keptB_in {p : Pg} (hv : validB p = true) {v : Nat} (e : p.vars = v) {r : Rw} (hr : r ∈ p.rows) {s : Nat} (hs : s < 2 ^ v) : keptB r s = decide (sumG r.coef s v ≤ r.most) := by
  unfold keptB; rw [(sum_in hv e hr hs).2.1]
theorem brkTo_app (p : Pg) (s : Int) : ∀ {i n : Nat}, i ≤ n → ∃ l, brkTo p s n = brkTo p s i ++ l
  | i, 0, h => ⟨[], by have : i = 0 := by omega
                       subst this; simp⟩
  | i, n + 1, h => by
    by_cases e : i = n + 1
    · subst e; exact ⟨[], by simp⟩
    · obtain ⟨l, hl⟩ := brkTo_app p s (show i ≤ n by omega)
      simp only [brkTo]
      split
      · exact ⟨l, hl⟩
      · exact ⟨l ++ [(n : Int)], by rw [hl, List.append_assoc]⟩
/-- A broken row stands in the list, where it has to. -/
theorem brkTo_at {p : Pg} {s : Int} {i n : Nat} (hi : i < n) (hk : keptB (p.rows.getD i rw0) s = false) : (brkTo p s i).length < (brkTo p s n).length ∧ (brkTo p s n).getD (brkTo p s i).length 0 = i := by
  obtain ⟨l, hl⟩ := brkTo_app p s (show i + 1 ≤ n by omega)
  rw [hl, brkTo_f hk]
  constructor
  · simp
  · simp [List.getD]
theorem brkTo_nil {p : Pg} {s : Int} : ∀ {n : Nat}, brkTo p s n = [] ↔ ∀ i, i < n → keptB (p.rows.getD i rw0) s = true
  | 0 => by simp [brkTo]
  | n + 1 => by
    cases h : keptB (p.rows.getD n rw0) s with
    | true =>
      rw [brkTo_t h, brkTo_nil (n := n)]
      constructor
      · intro h2 i hi
        by_cases e : i = n
        · subst e; exact h
        · exact h2 i (by omega)
      · exact fun h2 i hi => h2 i (by omega)
    | false =>
      rw [brkTo_f h]
      constructor
      · intro h2; simp at h2
      · intro h2; rw [h2 n (by omega)] at h; cases h
theorem broken_in {p : Pg} (hv : validB p = true) {v : Nat} (e : p.vars = v) {s : Nat} (hs : s < 2 ^ v) : brokenW p s = brkTo p s p.rows.length := by
  unfold brokenW; rw [if_pos (choice_in hv e hs)]
theorem broken_keeps {p : Pg} (hv : validB p = true) {v : Nat} (e : p.vars = v) {s : Nat} (hs : s < 2 ^ v) : decide (((brkTo p s p.rows.length).length : Int) = 0) = keepsB p s := by
  rw [keeps_in hv e hs, Bool.eq_iff_iff, decide_eq_true_eq]
  have h1 : ((brkTo p s p.rows.length).length : Int) = 0 ↔ brkTo p s p.rows.length = [] := by rw [← List.length_eq_zero_iff]; omega
  rw [h1, brkTo_nil]
  simp only [allKept, List.all_eq_true]
  constructor
  · intro h r hr
    obtain ⟨i, hi, rfl⟩ := List.getElem_of_mem hr
    have := h i hi
    rwa [show p.rows.getD i rw0 = p.rows[i] by simp [List.getD, hi]] at this
  · exact fun h i hi => h _ (getD_mem hi)
theorem broken_keeps2 {p : Pg} (hv : validB p = true) {v : Nat} (e : p.vars = v) {s : Nat} (hs : s < 2 ^ v) : decide (brkTo p s p.rows.length = []) = keepsB p s := by
  rw [← broken_keeps hv e hs, decide_eq_decide, ← List.length_eq_zero_iff]; omega
theorem pow_pos_int (v : Nat) : 0 < ((2 ^ v : Nat) : Int) := by have := Nat.two_pow_pos v; omega
theorem brk_no {p : Pg} (hv : validB p = true) {v : Nat} (e : p.vars = v) {i : Nat} (hi : i < p.rows.length) {s : Nat} (hs : s < 2 ^ v) (h : ¬ sumW (p.rows.getD i rw0) s ≤ (p.rows.getD i rw0).most) :
    (brkTo p s i).length < (brokenW p s).length ∧ (brokenW p s).getD (brkTo p s i).length 0 = i ∧ (brkTo p s (i + 1)).length = (brkTo p s i).length + 1 := by
  have hr := getD_mem (d := rw0) hi
  have hk : keptB (p.rows.getD i rw0) s = false := by
    rw [keptB_in hv e hr hs, decide_eq_false_iff_not, ← (sum_in hv e hr hs).1]; exact h
  obtain ⟨h1, h2⟩ := brkTo_at hi hk
  rw [broken_in hv e hs]
  exact ⟨h1, h2, by rw [brkTo_f hk]; simp⟩
theorem brk_yes {p : Pg} (hv : validB p = true) {v : Nat} (e : p.vars = v) {i : Nat} (hi : i < p.rows.length) {s : Nat} (hs : s < 2 ^ v) (h : sumW (p.rows.getD i rw0) s ≤ (p.rows.getD i rw0).most) : brkTo p s (i + 1) = brkTo p s i := by
  have hr := getD_mem (d := rw0) hi
  exact brkTo_t (by rw [keptB_in hv e hr hs, decide_eq_true_eq, ← (sum_in hv e hr hs).1]; exact h)
theorem sums_in {p : Pg} (hv : validB p = true) {v : Nat} (e : p.vars = v) {r : Rw} (hr : r ∈ p.rows) {A B : Nat} (hA : A < 2 ^ v) (hB : B < 2 ^ v) (hC : A ||| B < 2 ^ v) (hd : ∀ i, A.testBit i = true → B.testBit i = false) :
    IntKind.i64.wrap (sumW r A + sumW r B) = sumW r ((A ||| B : Nat) : Int) := by
  have h1 := sum_in hv e hr hA
  have h2 := sum_in hv e hr hB
  have h3 := sum_in hv e hr hC
  rw [h1.1, h2.1, h3.1, sumG_or _ hd, w64 (by omega)]
theorem gains_in {p : Pg} (hv : validB p = true) {v : Nat} (e : p.vars = v) {A B : Nat} (hA : A < 2 ^ v) (hB : B < 2 ^ v) (hC : A ||| B < 2 ^ v) (hd : ∀ i, A.testBit i = true → B.testBit i = false) :
    IntKind.i64.wrap (gainW p A + gainW p B) = gainW p ((A ||| B : Nat) : Int) := by
  have h1 := gainW_in hv e hA
  have h2 := gainW_in hv e hB
  have h3 := gainW_in hv e hC
  rw [h1.1, h2.1, h3.1, sumG_or _ hd, w64 (by omega)]
/-- Two choices without a common thing. -/
theorem two_choices {v : Nat} (hv : v ≤ 12) {c d : Int} (hc : okI c) (hd : okI d) :
    ∃ A B : Nat, pickW c ((2 ^ v : Nat) : Int) = A ∧ bitsV .andNot .i64 (pickW d ((2 ^ v : Nat) : Int)) A = B ∧ A < 2 ^ v ∧ B < 2 ^ v ∧ bitsV .or .i64 A B = ((A ||| B : Nat) : Int) ∧ A ||| B < 2 ^ v ∧ ∀ i, A.testBit i = true → B.testBit i = false := by
  have hp : 2 ^ v ≤ 2 ^ 12 := Nat.pow_le_pow_right (by omega) hv
  have hp0 : 0 < 2 ^ v := Nat.two_pow_pos v
  have key : ∀ c : Int, okI c → 0 ≤ pickW c ((2 ^ v : Nat) : Int) ∧ pickW c ((2 ^ v : Nat) : Int) < ((2 ^ v : Nat) : Int) := fun c hc => by
    unfold okI at hc
    unfold pickW
    split
    · rw [w64 (x := c + 1) (by omega), w64 (by omega), Int.tmod_eq_emod_of_nonneg (by omega)]
      exact ⟨Int.emod_nonneg _ (by omega), Int.emod_lt_of_pos _ (by omega)⟩
    · rw [Int.tmod_eq_emod_of_nonneg (by omega)]
      exact ⟨Int.emod_nonneg _ (by omega), Int.emod_lt_of_pos _ (by omega)⟩
  obtain ⟨a1, a2⟩ := key c hc
  obtain ⟨b1, b2⟩ := key d hd
  obtain ⟨A, hA⟩ := Int.eq_ofNat_of_zero_le a1
  obtain ⟨D, hD⟩ := Int.eq_ofNat_of_zero_le b1
  obtain ⟨B, hB, hB1, hB2⟩ := andNotN (a := D) (b := A) (by omega) (by omega)
  refine ⟨A, B, hA, by rw [hD]; exact hB, by omega, by omega, orN (by omega) (by omega), Nat.or_lt_two_pow (by omega) (by omega), fun i hi => ?_⟩
  rw [hB2, hi]; simp
end Go.Proofs.Ytcphhbiehaimeaa

namespace Go.Proofs.Ytcphhbiehaimeaa
open Go.RowKit
set_option linter.unusedVariables false
set_option linter.unusedSimpArgs false
theorem encR_set (l : List Rw) (k : Nat) (a b c d m : Int) (cf : List Int) : (encR l).set k [V.int .i64 a, V.int .i64 b, V.int .i64 c, V.int .i64 d, V.sl 1 (encI cf), V.int .i64 m] = encR (l.set k ⟨a, b, c, d, cf, m⟩) := by simp [encR, List.map_set, encRw]
theorem encR_app (a b : List Rw) : encR a ++ encR b = encR (a ++ b) := by simp [encR]
theorem encR_drop (l : List Rw) (n : Nat) : (encR l).drop n = encR (l.drop n) := by simp [encR, List.map_drop]
theorem encR_take (l : List Rw) (n : Nat) : (encR l).take n = encR (l.take n) := by simp [encR, List.map_take]
def nmTo (l : List Rw) (nm : List Int) : Nat → List Rw
  | 0 => l
  | n + 1 => (nmTo l nm n).set n ⟨nm.getD 0 0, nm.getD 1 0, nm.getD 2 0, nm.getD 3 0, ((nmTo l nm n).getD n rw0).coef, ((nmTo l nm n).getD n rw0).most⟩
theorem nmTo_length (l : List Rw) (nm : List Int) : ∀ n, (nmTo l nm n).length = l.length
  | 0 => rfl
  | n + 1 => by simp [nmTo, nmTo_length l nm n]
theorem nmTo_same (l : List Rw) (nm : List Int) : ∀ n j, ((nmTo l nm n).getD j rw0).coef = (l.getD j rw0).coef ∧ ((nmTo l nm n).getD j rw0).most = (l.getD j rw0).most
  | 0, j => ⟨rfl, rfl⟩
  | n + 1, j => by
    have ih := nmTo_same l nm n
    by_cases hn : n < l.length
    · by_cases e : j = n
      · subst e
        simp only [nmTo]
        rw [getD_set_self (by rw [nmTo_length]; exact hn)]
        exact ih j
      · have : ((nmTo l nm (n + 1)).getD j rw0) = (nmTo l nm n).getD j rw0 := by
          simp only [nmTo, List.getD, List.getElem?_set_ne (show n ≠ j by omega)]
        rw [this]; exact ih j
    · have : nmTo l nm (n + 1) = nmTo l nm n := by
        simp only [nmTo]
        exact List.set_eq_of_length_le (by rw [nmTo_length]; omega)
      rw [this]; exact ih j
theorem keptB_same {r s : Rw} (h : r.coef = s.coef ∧ r.most = s.most) (set : Int) : keptB r set = keptB s set := by unfold keptB; rw [h.1, h.2]
theorem all_getD {α : Type} (d : α) (l : List α) (p : α → Bool) : l.all p = true ↔ ∀ i, i < l.length → p (l.getD i d) = true := by
  rw [List.all_eq_true]
  constructor
  · exact fun h i hi => h _ (getD_mem hi)
  · intro h x hx
    obtain ⟨i, hi, rfl⟩ := List.getElem_of_mem hx
    have := h i hi
    rwa [show l.getD i d = l[i] by simp [List.getD, hi]] at this
/-- Rows turned around, under other names. -/
def turnR (rows : List Rw) (k : Nat) (nm : List Int) : List Rw := nmTo (rows.drop k ++ rows.take k) nm (rows.drop k ++ rows.take k).length
theorem turn_len (rows : List Rw) (k : Nat) : (rows.drop k ++ rows.take k).length = rows.length := by simp; omega
theorem turn_mem (rows : List Rw) (k : Nat) (r : Rw) : r ∈ rows.drop k ++ rows.take k ↔ r ∈ rows := by
  rw [List.mem_append, Or.comm, ← List.mem_append, List.take_append_drop]
theorem turnR_all (rows : List Rw) (k : Nat) (nm : List Int) (p : Rw → Bool) (hp : ∀ r s : Rw, r.coef = s.coef ∧ r.most = s.most → p r = p s) : (turnR rows k nm).all p = rows.all p := by
  have h1 : (turnR rows k nm).all p = (rows.drop k ++ rows.take k).all p := by
    rw [Bool.eq_iff_iff, all_getD rw0, all_getD rw0]
    unfold turnR
    rw [nmTo_length]
    have key : ∀ i, p ((nmTo (rows.drop k ++ rows.take k) nm (rows.drop k ++ rows.take k).length).getD i rw0) = p ((rows.drop k ++ rows.take k).getD i rw0) := fun i => hp _ _ (nmTo_same _ nm _ i)
    simp only [key]
  rw [h1, Bool.eq_iff_iff, List.all_eq_true, List.all_eq_true]
  exact ⟨fun h r hr => h r ((turn_mem rows k r).2 hr), fun h r hr => h r ((turn_mem rows k r).1 hr)⟩
def turnPg (p : Pg) (k : Nat) (nm : List Int) : Pg := ⟨p.vars, turnR p.rows k nm, p.gain⟩
theorem turn_valid {p : Pg} (hv : validB p = true) (k : Nat) (nm : List Int) : validB (turnPg p k nm) = true := by
  have e : (turnR p.rows k nm).length = p.rows.length := by unfold turnR; rw [nmTo_length, turn_len]
  have e2 : (turnR p.rows k nm).all (fun r => rightB r p.vars) = p.rows.all (fun r => rightB r p.vars) := turnR_all _ _ _ _ fun r s h => by unfold rightB; rw [h.1, h.2]
  have : validB (turnPg p k nm) = validB p := by
    have e3 : decide (((turnR p.rows k nm).length : Int) ≤ 300) = decide ((p.rows.length : Int) ≤ 300) := by rw [e]
    show (isInB p.vars 0 12 && (decide (((turnR p.rows k nm).length : Int) ≤ 300) && ((turnR p.rows k nm).all (fun r => rightB r p.vars) && (decide ((p.gain.length : Int) = p.vars) && coefB p.gain)))) = _
    rw [e3, e2]; rfl
  rw [this]; exact hv
theorem turn_choices (p : Pg) (k : Nat) (nm : List Int) : choiceL (turnPg p k nm) = choiceL p := by
  have key : ∀ s : Int, allKept (turnR p.rows k nm) s = allKept p.rows s := fun s => turnR_all _ _ _ _ fun r s' h => keptB_same h s
  have : ∀ n, chL (turnR p.rows k nm) n = chL p.rows n := by
    intro n
    induction n with
    | zero => rfl
    | succ n ih => simp only [chL, key, ih]
  exact this _
theorem turn_solve (p : Pg) (k : Nat) (nm : List Int) : (solveW (turnPg p k nm)).found = (solveW p).found ∧ (solveW (turnPg p k nm)).set = (solveW p).set ∧ (solveW (turnPg p k nm)).gain = (solveW p).gain := by
  have : solveB (turnPg p k nm) = solveB p := by unfold solveB; rw [turn_choices]; rfl
  simp only [solveW, this, and_self]
theorem pick_nat {c : Int} (hc : okI c) {n : Nat} (h0 : 0 < n) (hn : n ≤ 1000) : ∃ k : Nat, pickW c (n : Nat) = k ∧ k < n := by
  have := pickW_range c (n := (n : Nat)) (by omega) (by omega) hc
  obtain ⟨k, hk⟩ := Int.eq_ofNat_of_zero_le this.1
  exact ⟨k, hk, by omega⟩
theorem choice_max {p : Pg} (hv : validB p = true) : (choiceL p).length ≤ maxLen ∧ (choiceL p).length ≤ 4096 := by
  obtain ⟨v, hv1, hv2, hv3, hv4⟩ := vars_pow hv
  have h := chL_length p.rows (2 ^ p.vars.toNat)
  rw [hv1] at h
  simp only [Int.toNat_natCast] at h
  have : (choiceL p).length ≤ 2 ^ v := by unfold choiceL; rw [hv1]; exact h
  unfold maxLen; omega
end Go.Proofs.Ytcphhbiehaimeaa

namespace Go.Proofs.Ytcphhbiehaimeaa
open Go.RowKit
set_option linter.unusedVariables false
set_option linter.unusedSimpArgs false
/-! #### lists that grow -/
theorem chL_srt (rows : List Rw) : ∀ n, srt (chL rows n) ∧ ∀ x ∈ chL rows n, x < (n : Int)
  | 0 => ⟨fun i j _ h => by simp [chL] at h, by simp [chL]⟩
  | n + 1 => by
    obtain ⟨h1, h2⟩ := chL_srt rows n
    cases h : allKept rows n with
    | false => rw [chL_f h]; exact ⟨h1, fun x hx => by have := h2 x hx; omega⟩
    | true =>
      rw [chL_t h]
      refine ⟨fun i j hij hj => ?_, fun x hx => ?_⟩
      · by_cases hj2 : j < (chL rows n).length
        · have e1 : (chL rows n ++ [(n : Int)]).getD i 0 = (chL rows n).getD i 0 := by simp [List.getD, List.getElem?_append_left (show i < (chL rows n).length by omega)]
          have e2 : (chL rows n ++ [(n : Int)]).getD j 0 = (chL rows n).getD j 0 := by simp [List.getD, List.getElem?_append_left hj2]
          rw [e1, e2]; exact h1 i j hij hj2
        · have hj3 : j = (chL rows n).length := by simp at hj; omega
          subst hj3
          have e1 : (chL rows n ++ [(n : Int)]).getD i 0 = (chL rows n).getD i 0 := by simp [List.getD, List.getElem?_append_left hij]
          have e2 : (chL rows n ++ [(n : Int)]).getD (chL rows n).length 0 = n := by simp [List.getD]
          rw [e1, e2]; exact h2 _ (getD_mem hij)
      · rcases List.mem_append.1 hx with hx | hx
        · have := h2 x hx; omega
        · rw [List.mem_singleton] at hx; omega
theorem choice_srt (p : Pg) : srt (choiceL p) := (chL_srt p.rows _).1
theorem srt_lt {l : List Int} (h : srt l) {i j : Nat} (hi : i < l.length) (hj : j < l.length) : l.getD i 0 < l.getD j 0 ↔ i < j := by
  constructor
  · intro hl
    rcases Nat.lt_or_ge i j with h1 | h1
    · exact h1
    · have := srt_le h h1 hi; omega
  · exact fun hl => h i j hl hj
/-- Among the first n of a, those that r keeps. -/
def cntK (r : Rw) (a : List Int) (n : Nat) : List Int := (a.take n).filter fun s => keptB r s
theorem cntK_t {r : Rw} {a : List Int} {n : Nat} (hn : n < a.length) (h : keptB r (a.getD n 0) = true) : cntK r a (n + 1) = cntK r a n ++ [a.getD n 0] := by
  have e : a[n] = a.getD n 0 := by simp [List.getD, hn]
  unfold cntK
  rw [List.take_add_one, List.getElem?_eq_getElem hn, List.filter_append]
  simp only [Option.toList_some, List.filter_cons, List.filter_nil, e, h, if_true]
theorem cntK_f {r : Rw} {a : List Int} {n : Nat} (hn : n < a.length) (h : keptB r (a.getD n 0) = false) : cntK r a (n + 1) = cntK r a n := by
  have e : a[n] = a.getD n 0 := by simp [List.getD, hn]
  unfold cntK
  rw [List.take_add_one, List.getElem?_eq_getElem hn, List.filter_append]
  simp [List.filter_cons, e]
  exact h
theorem cntK_all (r : Rw) (a : List Int) : cntK r a a.length = a.filter fun s => keptB r s := by unfold cntK; rw [List.take_length]
theorem cntK_pre (r : Rw) (a : List Int) {n : Nat} (hn : n < a.length) (h : keptB r (a.getD n 0) = true) : (cntK r a n).length < (a.filter fun s => keptB r s).length ∧ (a.filter fun s => keptB r s).getD (cntK r a n).length 0 = a.getD n 0 := by
  have e : a.filter (fun s => keptB r s) = cntK r a (n + 1) ++ (a.drop (n + 1)).filter fun s => keptB r s := by
    unfold cntK; rw [← List.filter_append, List.take_append_drop]
  rw [e, cntK_t hn h]
  constructor
  · simp
  · simp [List.getD]
theorem chL_more (rows : List Rw) (r : Rw) : ∀ n, chL (rows ++ [r]) n = (chL rows n).filter fun s => keptB r s
  | 0 => rfl
  | n + 1 => by
    have e : allKept (rows ++ [r]) n = (allKept rows n && keptB r n) := by simp [allKept]
    simp only [chL, e, chL_more rows r n]
    cases h1 : allKept rows n <;> cases h2 : keptB r (n : Int) <;> simp [h1, h2]
/-! #### a further row -/
def moreP (p : Pg) (r : Rw) : Pg := ⟨p.vars, p.rows ++ [r], p.gain⟩
theorem more_choices (p : Pg) (r : Rw) : choiceL (moreP p r) = (choiceL p).filter fun s => keptB r s := chL_more p.rows r _
theorem more_valid {p : Pg} (hv : validB p = true) {r : Rw} (hr : rightB r p.vars = true) (hl : p.rows.length < 300) : validB (moreP p r) = true := by
  obtain ⟨h0, h1, h2, h3, h4, h5⟩ := validB_all hv
  have hh : ∀ q ∈ p.rows ++ [r], rightB q p.vars = true := fun q hq => by
    rcases List.mem_append.1 hq with hq | hq
    · obtain ⟨k1, k2, k3⟩ := h5 q hq
      simp only [rightB, Bool.and_eq_true, decide_eq_true_eq, isInB_spec]; exact ⟨k1, k2, k3⟩
    · rw [List.mem_singleton] at hq; subst hq; exact hr
  simp only [validB, moreP, Bool.and_eq_true, decide_eq_true_eq, isInB_spec, List.all_eq_true]
  exact ⟨⟨h0, h1⟩, decide_eq_true (show ((p.rows ++ [r]).length : Int) ≤ 300 by simp; omega), hh, decide_eq_true h3, h4⟩
theorem more_solve {p : Pg} (hv : validB p = true) {r : Rw} : (solveW (moreP p r)).found = true → (solveW p).found = true ∧ (solveW (moreP p r)).gain ≤ (solveW p).gain := by
  intro hf
  have s1 := bestW_spec p.gain (choiceL (moreP p r))
  have s2 := bestW_spec p.gain (choiceL p)
  have e1 : bestW p.gain (choiceL (moreP p r)) = solveB (moreP p r) := rfl
  have e2 : bestW p.gain (choiceL p) = solveB p := rfl
  rw [e1] at s1
  rw [e2] at s2
  have hf' : (solveB (moreP p r)).1 = true := hf
  obtain ⟨k1, k2, k3⟩ := s1.2 hf'
  rw [more_choices, List.mem_filter] at k1
  have hfp : (solveB p).1 = true := by
    cases h : (solveB p).1 with
    | true => rfl
    | false => rw [(s2.1 h).1] at k1; cases k1.1
  refine ⟨hfp, ?_⟩
  show (solveB (moreP p r)).2.2 ≤ (solveB p).2.2
  rw [k2]; exact (s2.2 hfp).2.2 _ k1.1
/-! #### without some -/
def bitL (b : Int) : Nat → List Int
  | 0 => []
  | n + 1 => if decide ((shrW .i64 b n).tmod 2 = 1) = true then bitL b n ++ [(n : Int)] else bitL b n
theorem bitL_t {b : Int} {n : Nat} (h : (shrW .i64 b n).tmod 2 = 1) : bitL b (n + 1) = bitL b n ++ [(n : Int)] := by simp only [bitL, h, decide_true, if_true]
theorem bitL_f {b : Int} {n : Nat} (h : ¬ (shrW .i64 b n).tmod 2 = 1) : bitL b (n + 1) = bitL b n := by simp only [bitL, h, decide_false, Bool.false_eq_true, if_false]
theorem bitL_length (b : Int) : ∀ n, (bitL b n).length ≤ n
  | 0 => Nat.le_refl _
  | n + 1 => by have := bitL_length b n; simp only [bitL]; split <;> (try simp) <;> omega
theorem bitL_lt (b : Int) : ∀ n, srt (bitL b n) ∧ ∀ x ∈ bitL b n, 0 ≤ x ∧ x < (n : Int)
  | 0 => ⟨fun i j _ h => by simp [bitL] at h, by simp [bitL]⟩
  | n + 1 => by
    obtain ⟨h1, h2⟩ := bitL_lt b n
    by_cases h : (shrW .i64 b n).tmod 2 = 1
    · rw [bitL_t h]
      refine ⟨fun i j hij hj => ?_, fun x hx => ?_⟩
      · by_cases hj2 : j < (bitL b n).length
        · have e1 : (bitL b n ++ [(n : Int)]).getD i 0 = (bitL b n).getD i 0 := by simp [List.getD, List.getElem?_append_left (show i < (bitL b n).length by omega)]
          have e2 : (bitL b n ++ [(n : Int)]).getD j 0 = (bitL b n).getD j 0 := by simp [List.getD, List.getElem?_append_left hj2]
          rw [e1, e2]; exact h1 i j hij hj2
        · have hj3 : j = (bitL b n).length := by simp at hj; omega
          subst hj3
          have e1 : (bitL b n ++ [(n : Int)]).getD i 0 = (bitL b n).getD i 0 := by simp [List.getD, List.getElem?_append_left hij]
          have e2 : (bitL b n ++ [(n : Int)]).getD (bitL b n).length 0 = n := by simp [List.getD]
          rw [e1, e2]; exact (h2 _ (getD_mem hij)).2
      · rcases List.mem_append.1 hx with hx | hx
        · have := h2 x hx; omega
        · rw [List.mem_singleton] at hx; omega
    · rw [bitL_f h]; exact ⟨h1, fun x hx => by have := h2 x hx; omega⟩
theorem okRows_of {p : Pg} (hv : validB p = true) {l : List Int} (hs : srt l) (hr : ∀ x ∈ l, 0 ≤ x ∧ x < (p.rows.length : Int)) : okRows p l = true := by
  obtain ⟨h0, h1, h2, h3, h4, h5⟩ := validB_all hv
  refine okTo_iff.2 fun i hi => idxOk_iff.2 ?_
  have := hr _ (getD_mem (d := 0) hi)
  rw [w64 (by omega)]
  refine ⟨this.1, by omega, fun h => hs (i - 1) i (by omega) hi⟩
theorem keepTo_mem {p : Pg} {l : List Int} {r : Rw} : ∀ {n : Nat}, r ∈ keepTo p l n → ∃ i : Nat, i < n ∧ r = p.rows.getD i rw0 ∧ ¬ (i : Int) ∈ l
  | 0, h => by simp [keepTo] at h
  | n + 1, h => by
    by_cases hm : (n : Int) ∈ l
    · rw [keepTo_t hm] at h
      obtain ⟨i, h1, h2⟩ := keepTo_mem h
      exact ⟨i, by omega, h2⟩
    · rw [keepTo_f hm] at h
      rcases List.mem_append.1 h with h | h
      · obtain ⟨i, h1, h2⟩ := keepTo_mem h
        exact ⟨i, by omega, h2⟩
      · rw [List.mem_singleton] at h; exact ⟨n, by omega, h, hm⟩
theorem without_valid {p : Pg} (hv : validB p = true) (l : List Int) : validB (withoutW p l) = true := by
  obtain ⟨h0, h1, h2, h3, h4, h5⟩ := validB_all hv
  have hh : ∀ q ∈ keepTo p l p.rows.length, rightB q p.vars = true := fun q hq => by
    obtain ⟨i, hi, rfl, -⟩ := keepTo_mem hq
    obtain ⟨k1, k2, k3⟩ := h5 _ (getD_mem (d := rw0) hi)
    simp only [rightB, Bool.and_eq_true, decide_eq_true_eq, isInB_spec]; exact ⟨k1, k2, k3⟩
  have hl := keepTo_length p l p.rows.length
  simp only [validB, withoutW, Bool.and_eq_true, decide_eq_true_eq, isInB_spec, List.all_eq_true]
  exact ⟨⟨h0, h1⟩, decide_eq_true (show ((keepTo p l p.rows.length).length : Int) ≤ 300 by omega), hh, decide_eq_true h3, h4⟩
theorem without_more {p : Pg} (l : List Int) {x : Int} (h : x ∈ choiceL p) : x ∈ choiceL (withoutW p l) := by
  obtain ⟨s, h1, h2, h3⟩ := mem_choiceL.1 h
  refine mem_choiceL.2 ⟨s, h1, h2, ?_⟩
  simp only [allKept, List.all_eq_true] at h3 ⊢
  intro r hr
  obtain ⟨i, hi, rfl, -⟩ := keepTo_mem hr
  exact h3 _ (getD_mem hi)
/-- How many rows are left. -/
theorem keepTo_count {p : Pg} {b : Int} {m : Nat} : ∀ {n : Nat}, n ≤ m → (keepTo p (bitL b m) n).length + (bitL b n).length = n
  | 0, _ => by simp [keepTo, bitL]
  | n + 1, h => by
    have ih := keepTo_count (p := p) (b := b) (m := m) (n := n) (by omega)
    have hmem : ∀ m, n < m → ((n : Int) ∈ bitL b m ↔ (shrW .i64 b n).tmod 2 = 1) := by
      intro m
      induction m with
      | zero => intro h; omega
      | succ m ihm =>
        intro h
        by_cases e : n = m
        · subst e
          by_cases h2 : (shrW .i64 b n).tmod 2 = 1
          · rw [bitL_t h2]; simp [h2]
          · rw [bitL_f h2]
            have := (bitL_lt b n).2
            constructor
            · intro h3; have := this _ h3; omega
            · exact fun h3 => (h2 h3).elim
        · have ih2 := ihm (by omega)
          by_cases h2 : (shrW .i64 b m).tmod 2 = 1
          · rw [bitL_t h2, List.mem_append, ih2, List.mem_singleton]
            constructor
            · rintro (h3 | h3)
              · exact h3
              · omega
            · exact fun h3 => .inl h3
          · rw [bitL_f h2]; exact ih2
    have hm := hmem m (by omega)
    by_cases h2 : (shrW .i64 b n).tmod 2 = 1
    · rw [keepTo_t (hm.2 h2), bitL_t h2]; simp; omega
    · rw [keepTo_f (fun h3 => h2 (hm.1 h3)), bitL_f h2]; simp; omega
theorem merge_at {c : List Int} (hc : srt c) {w : Nat} {x : Int} (h : ∀ j, j < w → c.getD j 0 < x) (hx : x ∈ c) (hn : ¬ ((w : Int) < c.length ∧ c.getD w 0 < x)) : w < c.length ∧ c.getD w 0 = x := by
  obtain ⟨i, hi, e⟩ : ∃ i, i < c.length ∧ c.getD i 0 = x := by
    obtain ⟨i, hi, rfl⟩ := List.getElem_of_mem hx
    exact ⟨i, hi, by simp [List.getD, hi]⟩
  have hwi : w ≤ i := by
    rcases Nat.lt_or_ge i w with h1 | h1
    · have := h i h1; omega
    · exact h1
  have := srt_le hc hwi hi
  refine ⟨by omega, ?_⟩
  rcases Int.lt_or_le (c.getD w 0) x with h1 | h1
  · exact (hn ⟨by omega, h1⟩).elim
  · omega
theorem more_at {p : Pg} (hv : validB p = true) {v : Nat} (e : p.vars = v) {r : Rw} (hr : rightB r p.vars = true) (hl : p.rows.length < 300) {k : Nat} (hk : k < (choiceL p).length) :
    (¬ r.most < sumW r ((choiceL p).getD k 0) → (cntK r (choiceL p) k).length < (choiceL (moreP p r)).length ∧ (choiceL (moreP p r)).getD (cntK r (choiceL p) k).length 0 = (choiceL p).getD k 0 ∧ (cntK r (choiceL p) (k + 1)).length = (cntK r (choiceL p) k).length + 1) ∧
    (r.most < sumW r ((choiceL p).getD k 0) → cntK r (choiceL p) (k + 1) = cntK r (choiceL p) k) := by
  obtain ⟨s, h1, h2, -⟩ := mem_choiceL.1 (getD_mem (d := 0) hk)
  have hq := more_valid hv hr hl
  have hs : s < 2 ^ v := by rw [e] at h2; simpa using h2
  have hm := sum_in hq (v := v) e (r := r) (by simp [moreP]) hs
  have hkb : keptB r ((choiceL p).getD k 0) = decide (sumW r ((choiceL p).getD k 0) ≤ r.most) := by
    rw [h1]; unfold keptB; rw [hm.1, hm.2.1]
  rw [more_choices]
  constructor
  · intro h
    have hkt : keptB r ((choiceL p).getD k 0) = true := by rw [hkb, decide_eq_true_eq]; omega
    obtain ⟨k1, k2⟩ := cntK_pre r _ hk hkt
    exact ⟨k1, k2, by rw [cntK_t hk hkt]; simp⟩
  · intro h
    exact cntK_f hk (by rw [hkb, decide_eq_false_iff_not]; omega)
theorem more_end (p : Pg) (r : Rw) : (cntK r (choiceL p) (choiceL p).length).length = (choiceL (moreP p r)).length := by rw [cntK_all, more_choices]
theorem made_one {v : Int} {t : T3} {g : List Int} : (madeW v [t] g).rows.length = 1 ∧ (madeW v [t] g).vars = pickW v 9 := by
  constructor
  · simp [madeW, rowsM_length]
  · rfl
end Go.Proofs.Ytcphhbiehaimeaa

namespace Go.Proofs.Ytcphhbiehaimeaa
open Go.RowKit
set_option linter.unusedVariables false
set_option linter.unusedSimpArgs false
theorem encI_rep (n : Nat) (x : Int) : List.replicate n [V.int .i64 x] = encI (List.replicate n x) := by simp [encI]
theorem encI_set (l : List Int) (k : Nat) (x : Int) : (encI l).set k [V.int .i64 x] = encI (l.set k x) := by simp [encI, List.map_set]
/-- The least sum, exactly. -/
def lstG (c : List Int) (d s : Nat) : Nat → Int
  | 0 => 0
  | k + 1 => lstG c d s k + (if k < d then (if s.testBit k then c.getD k 0 else 0) else if c.getD k 0 < 0 then c.getD k 0 else 0)
theorem lstG_range {c : List Int} (hb : coefB c = true) (d s : Nat) : ∀ k : Nat, -((k : Int) * 1000000000) ≤ lstG c d s k ∧ lstG c d s k ≤ (k : Int) * 1000000000
  | 0 => by simp [lstG]
  | k + 1 => by
    have ih := lstG_range hb d s k
    have hc := coef_getD hb k
    simp only [lstG]
    split
    · split <;> omega
    · split <;> omega
theorem lstG_low (c : List Int) {d s : Nat} : ∀ k, k ≤ d → lstG c d s k = sumG c s k
  | 0, _ => rfl
  | k + 1, h => by
    have ih := lstG_low c (d := d) (s := s) k (by omega)
    simp only [lstG, sumG, ih, if_pos (show k < d by omega)]
theorem sumG_take (c : List Int) (s d : Nat) : ∀ k, k ≤ d → sumG (c.take d) s k = sumG c s k
  | 0, _ => rfl
  | k + 1, h => by
    have : (c.take d).getD k 0 = c.getD k 0 := by simp [List.getD, List.getElem?_take, show k < d by omega]
    simp only [sumG, sumG_take c s d k (by omega), this]
theorem coefB_take {c : List Int} (h : coefB c = true) (d : Nat) : coefB (c.take d) = true := coefB_iff.2 fun x hx => coefB_iff.1 h x (List.mem_of_mem_take hx)
theorem leastW_lst {r : Rw} {v : Nat} (hb : coefB r.coef = true) (hl : r.coef.length = v) (hv : v ≤ 12) {d s : Nat} (hd : d ≤ v) (hs : s < 2 ^ d) : leastW r d s = lstG r.coef d s v := by
  have hp : 2 ^ d ≤ 2 ^ 12 := Nat.pow_le_pow_right (by omega) (by omega)
  have h0 : chosenW (r.coef.take d) s = lstG r.coef d s d := by
    rw [chosenW_sum (coefB_take hb d) (by omega) (by simp; omega), lstG_low _ _ (Nat.le_refl _)]
    unfold sumS
    rw [show (r.coef.take d).length = d by simp; omega, sumG_take _ _ _ _ (Nat.le_refl _)]
  unfold leastW
  rw [h0]
  have key : ∀ k, d + k ≤ v → leastT (r.coef.drop d) (lstG r.coef d s d) k = lstG r.coef d s (d + k) := by
    intro k
    induction k with
    | zero => intro _; rfl
    | succ k ih =>
      intro hk
      have hr := lstG_range hb d s (d + k)
      have hc := coef_getD hb (d + k)
      have e : (r.coef.drop d).getD k 0 = r.coef.getD (d + k) 0 := by simp [List.getD]
      have e2 : d + (k + 1) = (d + k) + 1 := by omega
      rw [e2]
      simp only [leastT, lstG, ih (by omega), e, if_neg (show ¬ d + k < d by omega)]
      have e3 : minV 0 (r.coef.getD (d + k) 0) = if r.coef.getD (d + k) 0 < 0 then r.coef.getD (d + k) 0 else 0 := rfl
      rw [e3]
      have : ((d + k : Nat) : Int) * 1000000000 ≤ 12 * 1000000000 := by omega
      split <;> rw [w64 (by omega)]
  rw [key (r.coef.drop d).length (by simp; omega)]
  congr 1; simp; omega
theorem lstG_le (c : List Int) {d s t : Nat} (ht : t % 2 ^ d = s) : ∀ k, lstG c d s k ≤ sumG c t k
  | 0 => Int.le_refl _
  | k + 1 => by
    have ih := lstG_le c ht k
    simp only [lstG, sumG]
    by_cases h : k < d
    · rw [if_pos h]
      have : s.testBit k = t.testBit k := by rw [← ht, Nat.testBit_mod_two_pow]; simp [h]
      rw [this]; split <;> omega
    · rw [if_neg h]; split <;> split <;> omega
/-! #### what is decided -/
def decL (v d s : Nat) : List Int := (List.range v).map fun k => if k < d then (if s.testBit k then 1 else 0) else -1
theorem decL_length (v d s : Nat) : (decL v d s).length = v := by simp [decL]
theorem decL_getD {v d s k : Nat} (h : k < v) : (decL v d s).getD k 0 = if k < d then (if s.testBit k then 1 else 0) else -1 := by simp [decL, List.getD, List.getElem?_range h]
theorem decL_0 (v : Nat) : decL v 0 0 = List.replicate v (-1) := by
  apply List.ext_getElem (by simp [decL])
  intro i h1 h2
  simp [decL]
theorem decL_set0 {v d s : Nat} (h : d < v) (hs : s < 2 ^ d) : (decL v d s).set d 0 = decL v (d + 1) s := by
  apply List.ext_getElem (by simp [decL])
  intro i h1 h2
  simp only [decL, List.getElem_set, List.getElem_map, List.getElem_range]
  by_cases e : d = i
  · subst e
    have : s.testBit d = false := Nat.testBit_lt_two_pow hs
    simp [this]
  · rw [if_neg e]
    by_cases h3 : i < d
    · simp [h3, show i < d + 1 by omega]
    · simp [h3, show ¬ i < d + 1 by omega]
theorem decL_set1 {v d s : Nat} (h : d < v) (hs : s < 2 ^ d) : (decL v d s).set d 1 = decL v (d + 1) (s + 2 ^ d) := by
  apply List.ext_getElem (by simp [decL])
  intro i h1 h2
  simp only [decL, List.getElem_set, List.getElem_map, List.getElem_range]
  have ho : s + 2 ^ d = 2 ^ d ||| s := by rw [Nat.add_comm]; simpa using Nat.two_pow_add_eq_or_of_lt hs 1
  rw [ho, Nat.testBit_or, Nat.testBit_two_pow]
  by_cases e : d = i
  · subst e; simp
  · rw [if_neg e]
    by_cases h3 : i < d
    · simp [h3, show i < d + 1 by omega, e]
    · simp [h3, show ¬ i < d + 1 by omega]
/-- The sum of a leaf. -/
def lfG (c dec : List Int) : Nat → Int
  | 0 => 0
  | k + 1 => if (decide (dec.getD k 0 = 1) || (decide (dec.getD k 0 < 0) && decide (c.getD k 0 < 0))) = true then IntKind.i64.wrap (lfG c dec k + c.getD k 0) else lfG c dec k
theorem lfG_t {c dec : List Int} {k : Nat} (h : dec.getD k 0 = 1 ∨ dec.getD k 0 < 0 ∧ c.getD k 0 < 0) : lfG c dec (k + 1) = IntKind.i64.wrap (lfG c dec k + c.getD k 0) := by simp only [lfG]; rw [if_pos]; simpa using h
theorem lfG_f {c dec : List Int} {k : Nat} (h : ¬ dec.getD k 0 = 1 ∧ (¬ dec.getD k 0 < 0 ∨ ¬ c.getD k 0 < 0)) : lfG c dec (k + 1) = lfG c dec k := by
  simp only [lfG]; rw [if_neg]
  simp only [Bool.or_eq_true, Bool.and_eq_true, decide_eq_true_eq]; omega
theorem lfG_lst {c : List Int} (hb : coefB c = true) {v d s : Nat} (hv : v ≤ 12) : ∀ k, k ≤ v → lfG c (decL v d s) k = lstG c d s k
  | 0, _ => rfl
  | k + 1, hk => by
    have ih := lfG_lst hb (d := d) (s := s) hv k (by omega)
    have hr := lstG_range hb d s k
    have hc := coef_getD hb k
    have hd := decL_getD (d := d) (s := s) (show k < v by omega)
    have hw : IntKind.i64.wrap (lstG c d s k + c.getD k 0) = lstG c d s k + c.getD k 0 := w64 (by omega)
    simp only [lstG]
    by_cases h : k < d
    · rw [if_pos h] at hd ⊢
      by_cases hb2 : s.testBit k = true
      · rw [if_pos hb2] at hd ⊢
        rw [lfG_t (.inl hd), ih, hw]
      · rw [if_neg hb2] at hd ⊢
        rw [lfG_f (by omega), ih]; omega
    · rw [if_neg h] at hd ⊢
      by_cases hn : c.getD k 0 < 0
      · rw [if_pos hn, lfG_t (.inr (by omega)), ih, hw]
      · rw [if_neg hn, lfG_f (by omega), ih]; omega
/-! #### the tree -/
def atLeaf (rows : List Rw) (l : List Stp) (d s p : Nat) : Prop := p < l.length ∧ l.getD p stp0 = ⟨-1, 0, 0, some (idxOf (overB d s) rows)⟩
def layT (rows : List Rw) (l : List Stp) : Nat → Nat → Nat → Nat → Prop
  | 0, d, s, p => atLeaf rows l d s p
  | n + 1, d, s, p => (0 ≤ idxOf (overB d s) rows ∧ atLeaf rows l d s p) ∨ (¬ 0 ≤ idxOf (overB d s) rows ∧ ∃ no yes : Nat, p < no ∧ p < yes ∧ p < l.length ∧ l.getD p stp0 = ⟨d, no, yes, none⟩ ∧ layT rows l n (d + 1) s no ∧ layT rows l n (d + 1) (s + 2 ^ d) yes)
theorem layT_mono {rows : List Rw} {l l' : List Stp} : ∀ {n d s p : Nat}, (∀ i, p ≤ i → i < l.length → i < l'.length ∧ l'.getD i stp0 = l.getD i stp0) → layT rows l n d s p → layT rows l' n d s p
  | 0, d, s, p, h, ⟨h1, h2⟩ => ⟨(h p (Nat.le_refl _) h1).1, (h p (Nat.le_refl _) h1).2.trans h2⟩
  | n + 1, d, s, p, h, .inl ⟨h0, h1, h2⟩ => .inl ⟨h0, (h p (Nat.le_refl _) h1).1, (h p (Nat.le_refl _) h1).2.trans h2⟩
  | n + 1, d, s, p, h, .inr ⟨h0, no, yes, a1, a2, a3, a4, a5, a6⟩ => .inr ⟨h0, no, yes, a1, a2, (h p (Nat.le_refl _) a3).1, (h p (Nat.le_refl _) a3).2.trans a4,
      layT_mono (fun i hi hl => h i (by omega) hl) a5, layT_mono (fun i hi hl => h i (by omega) hl) a6⟩
theorem layT_grow (rows : List Rw) : ∀ (n d s : Nat) (out : List Stp), d + n ≤ 12 → s < 2 ^ d → layT rows (growN rows n d s out) n d s out.length
  | 0, d, s, out, _, _ => ⟨by simp [growN], by simp [growN, List.getD]⟩
  | n + 1, d, s, out, hd, hs => by
    by_cases h0 : 0 ≤ idxOf (overB d s) rows
    · refine .inl ⟨h0, ?_⟩
      rw [growN_leaf h0]
      exact ⟨by simp, by simp [List.getD]⟩
    · have hsb := setBit_nat hs (show d ≤ 12 by omega)
      have l1 := layT_grow rows n (d + 1) s (out ++ [⟨d, 0, 0, none⟩]) (by omega) (by rw [Nat.pow_succ]; omega)
      have g1 := growN_length rows n (d + 1) s (out ++ [⟨d, 0, 0, none⟩])
      generalize ho1 : growN rows n (d + 1) s (out ++ [⟨d, 0, 0, none⟩]) = o1 at l1 g1
      have l2 := layT_grow rows n (d + 1) (s + 2 ^ d) o1 (by omega) (by rw [Nat.pow_succ]; omega)
      have g2 := growN_length rows n (d + 1) ((s + 2 ^ d : Nat) : Int) o1
      simp only [List.length_append, List.length_cons, List.length_nil] at l1 g1
      have e : growN rows (n + 1) d s out = (growN rows n (d + 1) ((s + 2 ^ d : Nat) : Int) o1).set out.length ⟨d, out.length + 1, o1.length, none⟩ := by
        simp only [growN, if_neg h0, hsb, ho1]
      rw [e]
      have hset : ∀ (l : List Stp) (x : Stp) (i : Nat), out.length < i → (l.set out.length x).getD i stp0 = l.getD i stp0 := fun l x i hi => by
        simp only [List.getD, List.getElem?_set_ne (show out.length ≠ i by omega)]
      refine .inr ⟨h0, out.length + 1, o1.length, by omega, by omega, by rw [List.length_set]; omega, getD_set_self (by omega), ?_, ?_⟩
      · refine layT_mono (fun i hi hl => ⟨by rw [List.length_set]; omega, ?_⟩) l1
        rw [hset _ _ _ (by omega), growN_pre rows n _ _ _ i hl]
      · refine layT_mono (fun i hi hl => ⟨by rw [List.length_set]; exact hl, ?_⟩) l2
        exact hset _ _ _ (by omega)
def leafB (rows2 : List Rw) (v : Nat) (i : Int) (d s : Nat) : Bool := decide ((rows2.getD i.toNat rw0).most < lfG (rows2.getD i.toNat rw0).coef (decL v d s) v)
def treeB (rows2 rows : List Rw) (v : Nat) : Nat → Nat → Nat → Bool
  | 0, d, s => leafB rows2 v (idxOf (overB d s) rows) d s
  | n + 1, d, s => if 0 ≤ idxOf (overB d s) rows then leafB rows2 v (idxOf (overB d s) rows) d s else treeB rows2 rows v n (d + 1) s && treeB rows2 rows v n (d + 1) (s + 2 ^ d)
theorem idx_at {α : Type} (dflt : α) {p : α → Bool} : ∀ {xs : List α}, 0 ≤ idxOf p xs → (idxOf p xs).toNat < xs.length ∧ p (xs.getD (idxOf p xs).toNat dflt) = true
  | [], h => by simp [idxOf] at h
  | x :: xs, h => by
    by_cases hp : p x = true
    · simp only [idxOf, hp, if_true]; simp [hp]
    · have hf : p x = false := by simpa using hp
      by_cases hr : idxOf p xs < 0
      · simp [idxOf, hf, hr] at h
      · have e : idxOf p (x :: xs) = idxOf p xs + 1 := by simp [idxOf, hf, hr]
        obtain ⟨h1, h2⟩ := idx_at dflt (p := p) (xs := xs) (by omega)
        rw [e, show (idxOf p xs + 1).toNat = (idxOf p xs).toNat + 1 by omega]
        exact ⟨by simpa using h1, by simpa using h2⟩
def okRws (rows : List Rw) (v : Nat) : Prop := ∀ r ∈ rows, r.coef.length = v ∧ coefB r.coef = true
theorem tree_true {rows : List Rw} {v : Nat} (hv : v ≤ 12) (hr : okRws rows v) : ∀ (n d s : Nat), d + n = v → s < 2 ^ d → infN rows n d s → treeB rows rows v n d s = true := by
  have leaf : ∀ d s : Nat, d ≤ v → s < 2 ^ d → 0 ≤ idxOf (overB d s) rows → leafB rows v (idxOf (overB d s) rows) d s = true := fun d s hd hs h => by
    obtain ⟨h1, h2⟩ := idx_at rw0 h
    obtain ⟨k1, k2⟩ := hr _ (getD_mem (d := rw0) h1)
    simp only [overB, decide_eq_true_eq] at h2
    rw [leastW_lst k2 k1 hv hd hs] at h2
    simp only [leafB, decide_eq_true_eq]
    rw [lfG_lst k2 hv v (Nat.le_refl _)]; exact h2
  intro n
  induction n with
  | zero => intro d s hd hs h; exact leaf d s (by omega) hs h
  | succ n ih =>
    intro d s hd hs h
    simp only [treeB]
    split
    · rename_i h0; exact leaf d s (by omega) hs h0
    · rename_i h0
      rcases h with h | ⟨h1, h2⟩
      · exact (h0 h).elim
      · rw [setBit_nat hs (by omega)] at h2
        rw [ih (d + 1) s (by omega) (by rw [Nat.pow_succ]; omega) h1, ih (d + 1) (s + 2 ^ d) (by omega) (by rw [Nat.pow_succ]; omega) h2]
        rfl
/-- A choice t that is not refuted: the leaf that holds it does not. -/
theorem tree_false {rows2 rows : List Rw} {v : Nat} (hv : v ≤ 12) (hr : okRws rows v) (hr2 : okRws rows2 v) (hlen : rows2.length = rows.length) {t : Nat} (ht : t < 2 ^ v)
    (hno : ∀ i, i < rows.length → (rows.getD i rw0).most < sumG (rows.getD i rw0).coef t v → sumG (rows2.getD i rw0).coef t v ≤ (rows2.getD i rw0).most) :
    ∀ (n d s : Nat), d + n = v → s < 2 ^ d → t % 2 ^ d = s → infN rows n d s → treeB rows2 rows v n d s = false := by
  have leaf : ∀ d s : Nat, d ≤ v → s < 2 ^ d → t % 2 ^ d = s → 0 ≤ idxOf (overB d s) rows → leafB rows2 v (idxOf (overB d s) rows) d s = false := fun d s hd hs he h => by
    obtain ⟨h1, h2⟩ := idx_at rw0 h
    obtain ⟨k1, k2⟩ := hr _ (getD_mem (d := rw0) h1)
    obtain ⟨j1, j2⟩ := hr2 _ (getD_mem (d := rw0) (show (idxOf (overB d s) rows).toNat < rows2.length by omega))
    simp only [overB, decide_eq_true_eq] at h2
    rw [leastW_lst k2 k1 hv hd hs] at h2
    have h3 := lstG_le (rows.getD (idxOf (overB d s) rows).toNat rw0).coef he v
    have h4 := hno _ h1 (by omega)
    have h5 := lstG_le (rows2.getD (idxOf (overB d s) rows).toNat rw0).coef he v
    simp only [leafB, decide_eq_false_iff_not]
    rw [lfG_lst j2 hv v (Nat.le_refl _)]; omega
  intro n
  induction n with
  | zero => intro d s hd hs he h; exact leaf d s (by omega) hs he h
  | succ n ih =>
    intro d s hd hs he h
    simp only [treeB]
    split
    · rename_i h0; exact leaf d s (by omega) hs he h0
    · rename_i h0
      rcases h with h | ⟨h1, h2⟩
      · exact (h0 h).elim
      · rw [setBit_nat hs (by omega)] at h2
        have hm : t % 2 ^ (d + 1) = s ∨ t % 2 ^ (d + 1) = s + 2 ^ d := by
          have h6 : t % 2 ^ (d + 1) = t % 2 ^ d + 2 ^ d * (t / 2 ^ d % 2) := by rw [Nat.pow_succ, Nat.mod_mul]
          rw [h6, he]
          rcases Nat.mod_two_eq_zero_or_one (t / 2 ^ d) with h7 | h7 <;> rw [h7]
          · left; omega
          · right; omega
        rcases hm with hm | hm
        · rw [ih (d + 1) s (by omega) (by rw [Nat.pow_succ]; omega) hm h1]; rfl
        · rw [ih (d + 1) (s + 2 ^ d) (by omega) (by rw [Nat.pow_succ]; omega) hm h2, Bool.and_false]
/-! #### for Solve -/
def negP (g : List Int) (i : Nat) : List Int := negG g i ++ List.replicate (g.length - i) 0
theorem negP_length {g : List Int} {i : Nat} (h : i ≤ g.length) : (negP g i).length = g.length := by simp [negP, negG_length]; omega
theorem negP_set {g : List Int} {i : Nat} (h : i < g.length) : (negP g i).set i (IntKind.i64.wrap (0 - g.getD i 0)) = negP g (i + 1) := by
  unfold negP
  rw [negG_succ h]
  obtain ⟨k, hk⟩ : ∃ k, g.length - i = k + 1 := ⟨g.length - i - 1, by omega⟩
  have hl : (negG g i).length = i := by rw [negG_length]; omega
  rw [hk, List.replicate_succ, List.set_append, if_neg (by omega), hl, Nat.sub_self, List.set_cons_zero, show g.length - (i + 1) = k by omega]
  simp
theorem negP_0 (g : List Int) : negP g 0 = List.replicate g.length 0 := by simp [negP, negG]
theorem negP_end (g : List Int) : negP g g.length = negG g g.length := by simp [negP]
/-- The one row of a leaf, so far. -/
def sumP (c : List Int) (v i : Nat) : List Int := ((List.range i).map fun k => c.getD k 0) ++ List.replicate (v - i) 0
theorem sumP_length {c : List Int} {v i : Nat} (h : i ≤ v) : (sumP c v i).length = v := by simp [sumP]; omega
theorem sumP_at {c : List Int} {v i : Nat} (h : i < v) : (sumP c v i).getD i 0 = 0 := by
  obtain ⟨k, hk⟩ : ∃ k, v - i = k + 1 := ⟨v - i - 1, by omega⟩
  simp [sumP, List.getD, List.getElem?_append_right, hk]
theorem sumP_set {c : List Int} {v i : Nat} (h : i < v) : (sumP c v i).set i (c.getD i 0) = sumP c v (i + 1) := by
  unfold sumP
  obtain ⟨k, hk⟩ : ∃ k, v - i = k + 1 := ⟨v - i - 1, by omega⟩
  rw [hk, List.replicate_succ, List.set_append, if_neg (by simp), List.length_map, List.length_range, Nat.sub_self, List.set_cons_zero, List.range_succ, List.map_append, show v - (i + 1) = k by omega]
  simp
theorem sumP_0 (c : List Int) (v : Nat) : sumP c v 0 = List.replicate v 0 := by simp [sumP]
theorem sumP_end {c : List Int} {v : Nat} (h : c.length = v) : sumP c v v = c := by
  unfold sumP
  rw [Nat.sub_self, List.replicate_zero, List.append_nil]
  apply List.ext_getElem (by simp [h])
  intro i h1 h2
  simp [List.getD, h2]
/-- The reference's goal. -/
def goalR (p : Pg) (g : Int) : Rw := ⟨0, 0, 0, 0, negG p.gain p.gain.length, IntKind.i64.wrap (IntKind.i64.wrap (0 - g) - 1)⟩
theorem goalR_eq {p : Pg} {g : Int} (h : -100000000000 ≤ g ∧ g ≤ 100000000000) : goalR p g = goalW p g := by
  unfold goalR goalW
  rw [w64 (x := 0 - g) (by omega), w64 (x := g + 1) (by omega), w64 (x := (0 - g) - 1) (by omega), w64 (by omega), show 0 - g - 1 = 0 - (g + 1) by omega]
theorem okRws_goal {p : Pg} (hv : validB p = true) (g : Int) : okRws (p.rows ++ [goalW p g]) p.vars.toNat := by
  obtain ⟨h0, h1, h2, h3, h4, h5⟩ := validB_all hv
  intro r hr
  rcases List.mem_append.1 hr with hr | hr
  · obtain ⟨k1, k2, -⟩ := h5 r hr; exact ⟨by omega, k2⟩
  · rw [List.mem_singleton] at hr; subst hr
    exact ⟨by simp only [goalW, negG_length]; omega, by simp only [goalW]; rw [negG_neg h4]; exact coefB_neg h4⟩
theorem okRws_rows {p : Pg} (hv : validB p = true) : okRws p.rows p.vars.toNat := fun r hr => okRws_goal hv 0 r (List.mem_append_left _ hr)
theorem proof_refutes {p : Pg} (hv : validB p = true) {v : Nat} (e : p.vars = v) : treeB (solRows p (solveB p)) (solRows p (solveB p)) v v 0 0 = true := by
  obtain ⟨h0, h1, h2, h3, h4, h5⟩ := validB_all hv
  have hi := solve_inf hv
  rw [e] at hi
  simp only [Int.toNat_natCast] at hi
  refine tree_true (by omega) (fun r hr => ?_) v 0 0 (by omega) (by simp) hi
  unfold solRows at hr
  split at hr
  · have := okRws_goal hv _ r hr; rw [e] at this; simpa using this
  · have := okRws_rows hv r hr; rw [e] at this; simpa using this
theorem proof_less {p : Pg} (hv : validB p = true) {v : Nat} (e : p.vars = v) (hf : (solveB p).1 = true) : treeB (p.rows ++ [goalW p ((solveB p).2.2 - 1)]) (solRows p (solveB p)) v v 0 0 = false := by
  obtain ⟨h0, h1, h2, h3, h4, h5⟩ := validB_all hv
  have hi := solve_inf hv
  rw [e] at hi
  simp only [Int.toNat_natCast] at hi
  obtain ⟨s, hs1, hs2, hs3⟩ := solveB_mem hf
  obtain ⟨s', hs1', -, hs4, hs5, hs6⟩ := solveB_gain hv hf
  have : s' = s := by omega
  subst this
  rw [e] at hs2
  simp only [Int.toNat_natCast] at hs2
  have hp : 2 ^ v ≤ 2 ^ 12 := Nat.pow_le_pow_right (by omega) (by omega)
  have ev : p.vars.toNat = v := by omega
  have esol := solRows_t (p := p) hf
  have hgs : ∀ g, sumG (goalW p g).coef s' v = - sumS p.gain s' := fun g => by
    have h6 := goal_sum hv (show s' < 65536 by omega)
    have hb : coefB (negG p.gain p.gain.length) = true := by rw [negG_neg h4]; exact coefB_neg h4
    rw [chosenW_sum hb (by omega) (by rw [negG_length]; omega)] at h6
    rw [← h6]
    show sumG (negG p.gain p.gain.length) s' v = sumG (negG p.gain p.gain.length) s' (negG p.gain p.gain.length).length
    rw [negG_length]; congr 1; omega
  rw [esol] at hi ⊢
  refine tree_false (by omega) (ev ▸ okRws_goal hv _) (ev ▸ okRws_goal hv _) (by simp) hs2 (fun i hi2 hb => ?_) v 0 0 (by omega) (by simp) (by simp; exact Nat.mod_one _) hi
  by_cases hil : i < p.rows.length
  · exfalso
    have e1 : (p.rows ++ [goalW p (solveB p).2.2]).getD i rw0 = p.rows.getD i rw0 := by simp [List.getD, List.getElem?_append_left hil]
    rw [e1] at hb
    have hr := getD_mem (d := rw0) hil
    have hk := (List.all_eq_true.1 hs3) _ hr
    rw [keptB_in hv e hr hs2, decide_eq_true_eq] at hk
    omega
  · have hie : i = p.rows.length := by simp at hi2; omega
    subst hie
    have e1 : (p.rows ++ [goalW p ((solveB p).2.2 - 1)]).getD p.rows.length rw0 = goalW p ((solveB p).2.2 - 1) := by simp [List.getD]
    rw [e1, hgs, goal_most (by omega), ← hs4]; omega
end Go.Proofs.Ytcphhbiehaimeaa

namespace Go.Proofs.Ytcphhbiehaimeaa
open Go.RowKit
set_option linter.unusedVariables false
set_option linter.unusedSimpArgs false
theorem coefB_no {l : List Int} {i : Nat} (hi : i < l.length) (h : l.getD i 0 < -1000000000 ∨ 1000000000 < l.getD i 0) : coefB l = false := by
  rw [Bool.eq_false_iff]; intro hc
  have := coefB_iff.1 hc _ (getD_mem (d := 0) hi); omega
theorem coefB_yes {l : List Int} (h : ∀ j, j < l.length → -1000000000 ≤ l.getD j 0 ∧ l.getD j 0 ≤ 1000000000) : coefB l = true := by
  refine coefB_iff.2 fun x hx => ?_
  obtain ⟨i, hi, rfl⟩ := List.getElem_of_mem hx
  have := h i hi
  rwa [show l.getD i 0 = l[i] by simp [List.getD, hi]] at this
theorem valid_no {p : Pg} (h : (((p.vars < 0 ∨ 12 < p.vars) ∨ 300 < (p.rows.length : Int)) ∨ ¬ (p.gain.length : Int) = p.vars) ∨ coefB p.gain = false) : validB p = false := by
  rw [Bool.eq_false_iff]; intro hv
  obtain ⟨h0, h1, h2, h3, h4, h5⟩ := validB_all hv
  rcases h with (((h | h) | h) | h) | h
  · omega
  · omega
  · omega
  · exact h h3
  · rw [h4] at h; cases h
theorem valid_row_no {p : Pg} {i : Nat} (hi : i < p.rows.length) (h : rightB (p.rows.getD i rw0) p.vars = false) : validB p = false := by
  rw [Bool.eq_false_iff]; intro hv
  obtain ⟨h0, h1, h2, h3, h4, h5⟩ := validB_all hv
  obtain ⟨k1, k2, k3⟩ := h5 _ (getD_mem (d := rw0) hi)
  have : rightB (p.rows.getD i rw0) p.vars = true := by simp only [rightB, Bool.and_eq_true, decide_eq_true_eq, isInB_spec]; exact ⟨k1, k2, k3⟩
  rw [this] at h; cases h
theorem valid_yes {p : Pg} (h : (((¬ p.vars < 0 ∧ ¬ 12 < p.vars) ∧ ¬ 300 < (p.rows.length : Int)) ∧ (p.gain.length : Int) = p.vars) ∧ coefB p.gain = true) (hr : ∀ j, j < p.rows.length → rightB (p.rows.getD j rw0) p.vars = true) : validB p = true := by
  obtain ⟨⟨⟨⟨a1, a2⟩, a3⟩, a4⟩, a5⟩ := h
  simp only [validB, Bool.and_eq_true, decide_eq_true_eq, isInB_spec]
  exact ⟨⟨by omega, by omega⟩, by omega, (all_getD rw0 _ _).2 hr, a4, a5⟩
theorem choice_shl {p : Pg} (hv : validB p = true) {s : Int} : choiceB p s = true ↔ 0 ≤ s ∧ s < shlW .i64 1 p.vars := by
  obtain ⟨v, hv1, hv2, hv3, hv4⟩ := vars_pow hv
  rw [choice_iff hv hv1, hv1, hv3]
  constructor
  · rintro ⟨n, rfl, hn⟩; omega
  · rintro ⟨h1, h2⟩
    obtain ⟨n, rfl⟩ := Int.eq_ofNat_of_zero_le h1
    exact ⟨n, rfl, by omega⟩
theorem choice_no {p : Pg} {s : Int} (h : (validB p = false ∨ s < 0) ∨ shlW .i64 1 p.vars ≤ s) : choiceB p s = false := by
  cases hv : validB p with
  | false => unfold choiceB; rw [hv]; rfl
  | true =>
    rw [Bool.eq_false_iff]; intro hc
    have := (choice_shl hv).1 hc
    rcases h with (h | h) | h
    · rw [hv] at h; cases h
    · omega
    · omega
theorem choice_yes {p : Pg} {s : Int} (h : (validB p = true ∧ ¬ s < 0) ∧ ¬ shlW .i64 1 p.vars ≤ s) : choiceB p s = true := (choice_shl h.1.1).2 ⟨by omega, by omega⟩
theorem tot_all {l : List Int} (hb : coefB l = true) (hl : l.length ≤ 12) {s : Nat} (hs : s < 65536) : totG l s l.length = chosenW l s := by
  rw [totG_sum hb hs _ hl, chosenW_sum hb hs hl]; rfl
theorem choice_nat {p : Pg} {s : Int} (h : choiceB p s = true) : ∃ n : Nat, s = n ∧ n < 65536 := by
  have hv : validB p = true := by unfold choiceB at h; rw [Bool.and_eq_true] at h; exact h.1
  obtain ⟨v, hv1, hv2, hv3, hv4⟩ := vars_pow hv
  obtain ⟨n, h1, h2⟩ := (choice_iff hv hv1).1 h
  exact ⟨n, h1, by omega⟩
theorem choice_valid {p : Pg} {s : Int} (h : choiceB p s = true) : validB p = true := by unfold choiceB at h; rw [Bool.and_eq_true] at h; exact h.1
theorem tot_gain {p : Pg} {s : Int} (h : choiceB p s = true) : totG p.gain s p.gain.length = gainW p s := by
  obtain ⟨n, rfl, hn⟩ := choice_nat h
  obtain ⟨h0, h1, h2, h3, h4, h5⟩ := validB_all (choice_valid h)
  unfold gainW
  rw [if_pos h, tot_all h4 (by omega) hn]
theorem tot_row {p : Pg} {s : Int} (h : choiceB p s = true) {i : Nat} (hi : i < p.rows.length) : totG (p.rows.getD i rw0).coef s (p.rows.getD i rw0).coef.length = chosenW (p.rows.getD i rw0).coef s := by
  obtain ⟨n, rfl, hn⟩ := choice_nat h
  obtain ⟨h0, h1, h2, h3, h4, h5⟩ := validB_all (choice_valid h)
  obtain ⟨k1, k2, -⟩ := h5 _ (getD_mem (d := rw0) hi)
  exact tot_all k2 (by omega) hn
theorem row_kept {p : Pg} {s : Int} (h : choiceB p s = true) {i : Nat} (hi : i < p.rows.length) : keptB (p.rows.getD i rw0) s = !decide ((p.rows.getD i rw0).most < totG (p.rows.getD i rw0).coef s (p.rows.getD i rw0).coef.length) := by
  rw [tot_row h hi]; unfold keptB
  rw [← decide_not, decide_eq_decide]; omega
theorem keepsB_brk {p : Pg} {s : Int} : keepsB p s = (choiceB p s && decide (((brokenW p s).length : Int) = 0)) := by
  cases h : choiceB p s with
  | false => unfold keepsB; rw [h]; rfl
  | true =>
    obtain ⟨v, hv1, hv2, hv3, hv4⟩ := vars_pow (choice_valid h)
    obtain ⟨n, rfl, hn⟩ := (choice_iff (choice_valid h) hv1).1 h
    rw [broken_in (choice_valid h) hv1 hn, broken_keeps (choice_valid h) hv1 hn, Bool.true_and]
theorem sumW_no {r : Rw} {s : Int} (h : ((12 < (r.coef.length : Int) ∨ rightB r r.coef.length = false) ∨ s < 0) ∨ shlW .i64 1 r.coef.length ≤ s) : sumW r s = 0 := by
  unfold sumW
  cases hr : rightB r r.coef.length with
  | false => simp
  | true =>
    by_cases hl : 12 < (r.coef.length : Int)
    · simp [hl]
    · have hs := (shl_small (k := (r.coef.length : Nat)) (by omega)).1
      have : isInB s 0 (IntKind.i64.wrap (shlW .i64 1 r.coef.length - 1)) = false := by
        rw [hs, Bool.eq_false_iff]; intro h2
        have := isInB_spec.1 h2
        rw [hr] at h
        simp only [Bool.true_eq_false, or_false] at h
        omega
      rw [this]; simp
theorem sumW_yes {r : Rw} {s : Int} (h : ((¬ 12 < (r.coef.length : Int) ∧ rightB r r.coef.length = true) ∧ ¬ s < 0) ∧ ¬ shlW .i64 1 r.coef.length ≤ s) : sumW r s = totG r.coef s r.coef.length := by
  obtain ⟨⟨⟨h1, h2⟩, h3⟩, h4⟩ := h
  have hs := (shl_small (k := (r.coef.length : Nat)) (by omega))
  obtain ⟨n, rfl⟩ := Int.eq_ofNat_of_zero_le (show 0 ≤ s by omega)
  have hc : coefB r.coef = true := by simp only [rightB, Bool.and_eq_true] at h2; exact h2.2.1
  unfold sumW
  rw [h2, decide_eq_false h1, isInB_spec.2 (show 0 ≤ (n : Int) ∧ (n : Int) ≤ _ by rw [hs.1]; omega), tot_all hc (by omega) (by omega)]
  rfl
theorem allKept_no {rows : List Rw} {s : Int} {i : Nat} (hi : i < rows.length) (h : keptB (rows.getD i rw0) s = false) : allKept rows s = false := by
  rw [Bool.eq_false_iff]; intro h2
  have h3 : keptB (rows.getD i rw0) s = true := (all_getD rw0 rows (fun r => keptB r s)).1 h2 i hi
  rw [h] at h3; cases h3
theorem allKept_yes {rows : List Rw} {s : Int} (h : ∀ i, i < rows.length → keptB (rows.getD i rw0) s = true) : allKept rows s = true := (all_getD rw0 rows (fun r => keptB r s)).2 h
/-! #### the least sum, and the plain proof -/
def lrG (c : List Int) (d set : Int) : Nat → Int
  | 0 => 0
  | k + 1 => if (k : Int) < d then IntKind.i64.wrap (lrG c d set k + IntKind.i64.wrap (c.getD k 0 * (shrW .i64 set k).tmod 2)) else if c.getD k 0 < 0 then IntKind.i64.wrap (lrG c d set k + c.getD k 0) else lrG c d set k
theorem lrG_1 {c : List Int} {d set : Int} {k : Nat} (h : (k : Int) < d) : lrG c d set (k + 1) = IntKind.i64.wrap (lrG c d set k + IntKind.i64.wrap (c.getD k 0 * (shrW .i64 set k).tmod 2)) := by simp only [lrG, if_pos h]
theorem lrG_2 {c : List Int} {d set : Int} {k : Nat} (h : ¬ (k : Int) < d) (h2 : c.getD k 0 < 0) : lrG c d set (k + 1) = IntKind.i64.wrap (lrG c d set k + c.getD k 0) := by simp only [lrG, if_neg h, if_pos h2]
theorem lrG_3 {c : List Int} {d set : Int} {k : Nat} (h : ¬ (k : Int) < d) (h2 : ¬ c.getD k 0 < 0) : lrG c d set (k + 1) = lrG c d set k := by simp only [lrG, if_neg h, if_neg h2]
theorem lrG_lst {c : List Int} (hb : coefB c = true) {d s : Nat} (hs : s < 65536) : ∀ k, k ≤ 12 → lrG c d s k = lstG c d s k
  | 0, _ => rfl
  | k + 1, hk => by
    have ih := lrG_lst hb (d := d) hs k (by omega)
    have hr := lstG_range hb d s k
    have hc := coef_getD hb k
    simp only [lstG]
    by_cases h : k < d
    · rw [lrG_1 (by omega), ih, rem_bit (by omega), if_pos h]
      split
      · rw [Int.mul_one, w64 (x := c.getD k 0) (by omega), w64 (by omega)]
      · rw [Int.mul_zero, w64 (x := (0 : Int)) (by omega), w64 (by omega)]
    · rw [if_neg h]
      by_cases hn : c.getD k 0 < 0
      · rw [lrG_2 (by omega) hn, ih, if_pos hn, w64 (by omega)]
      · rw [lrG_3 (by omega) hn, ih, if_neg hn]; omega
theorem lrG_over {rows : List Rw} {v : Nat} (hv : v ≤ 12) (hr : okRws rows v) {d s : Nat} (hd : d ≤ v) (hs : s < 2 ^ d) : ∀ r ∈ rows, decide (r.most < lrG r.coef d s r.coef.length) = overB d s r := fun r hr' => by
  obtain ⟨k1, k2⟩ := hr r hr'
  have hp : 2 ^ d ≤ 2 ^ 12 := Nat.pow_le_pow_right (by omega) (by omega)
  unfold overB
  rw [lrG_lst k2 (by omega) _ (by omega), leastW_lst k2 k1 hv hd hs, k1]
/-! #### the best, from behind -/
def cmb (s t : Bool × Int × Int) : Bool × Int × Int := if t.1 = true then (if (!s.1 || decide (s.2.2 < t.2.2)) = true then t else s) else s
def one (g : List Int) (x : Int) : Bool × Int × Int := (true, x, chosenW g x)
theorem bestS_cmb (g : List Int) (s : Bool × Int × Int) (x : Int) : bestS g s x = cmb s (one g x) := by unfold cmb; rw [if_pos (show (one g x).1 = true from rfl)]; rfl
theorem cmb_assoc (a b c : Bool × Int × Int) : cmb (cmb a b) c = cmb a (cmb b c) := by
  obtain ⟨a1, a2, a3⟩ := a
  obtain ⟨b1, b2, b3⟩ := b
  obtain ⟨c1, c2, c3⟩ := c
  by_cases h1 : a3 < b3 <;> by_cases h2 : b3 < c3 <;> by_cases h3 : a3 < c3 <;> cases a1 <;> cases b1 <;> cases c1 <;> first | (simp [cmb, h1, h2, h3]; done) | (exfalso; omega)
def e0 : Bool × Int × Int := (false, 0, 0)
theorem fold_cmb (g : List Int) : ∀ (xs : List Int) (a b : Bool × Int × Int), xs.foldl (bestS g) (cmb a b) = cmb a (xs.foldl (bestS g) b)
  | [], a, b => rfl
  | x :: xs, a, b => by
    simp only [List.foldl_cons]
    rw [bestS_cmb, cmb_assoc, ← bestS_cmb, fold_cmb g xs a]
def bestR (g xs : List Int) : Bool × Int × Int := xs.foldr (fun x s => cmb (one g x) s) e0
theorem bestR_eq (g : List Int) : ∀ xs, bestR g xs = bestW g xs
  | [] => rfl
  | x :: xs => by
    have ih := bestR_eq g xs
    have e1 : bestW g (x :: xs) = xs.foldl (bestS g) (cmb (one g x) e0) := by
      unfold bestW
      rw [List.foldl_cons]
      congr 1
    rw [e1, fold_cmb]
    unfold bestR at ih ⊢
    rw [List.foldr_cons, ih]; rfl
theorem bestR_drop {g xs : List Int} {i : Nat} (hi : i < xs.length) : bestR g (xs.drop i) = cmb (one g (xs.getD i 0)) (bestR g (xs.drop (i + 1))) := by
  rw [drop_cons (d := 0) hi]; rfl
theorem cmb_t {g : List Int} {x : Int} {s : Bool × Int × Int} (h : s.1 = false ∨ s.2.2 ≤ chosenW g x) : cmb (one g x) s = (true, x, chosenW g x) := by
  obtain ⟨s1, s2, s3⟩ := s
  simp only at h
  cases s1
  · simp [cmb, one]
  · simp only [Bool.true_eq_false, false_or] at h
    have : ¬ chosenW g x < s3 := by omega
    simp [cmb, one, this]
theorem cmb_f {g : List Int} {x : Int} {s : Bool × Int × Int} (h : s.1 = true ∧ ¬ s.2.2 ≤ chosenW g x) : cmb (one g x) s = s := by
  obtain ⟨s1, s2, s3⟩ := s
  obtain ⟨h1, h2⟩ := h
  simp only at h1 h2
  subst h1
  have : chosenW g x < s3 := by omega
  simp [cmb, one, this]
theorem bestR_end {g xs : List Int} {i : Nat} (h : xs.length ≤ i) : bestR g (xs.drop i) = e0 := by rw [List.drop_eq_nil_of_le h]; rfl
end Go.Proofs.Ytcphhbiehaimeaa

namespace Go.Proofs.Ytcphhbiehaimeaa
open Go.RowKit
set_option linter.unusedVariables false
set_option linter.unusedSimpArgs false
theorem encS_two (a : List Stp) (v no : Int) : encS a ++ (List.replicate 1 [V.int .i64 0, V.int .i64 0, V.int .i64 0, V.nsl]).set 0 [V.int .i64 v, V.int .i64 no, V.int .i64 0, V.nsl] = encS (a ++ [⟨v, no, 0, none⟩]) := by rw [encS_snoc]; rfl
theorem encS_two0 (v no : Int) : (List.replicate 1 [V.int .i64 0, V.int .i64 0, V.int .i64 0, V.nsl]).set 0 [V.int .i64 v, V.int .i64 no, V.int .i64 0, V.nsl] = encS [⟨v, no, 0, none⟩] := rfl
theorem encS_leaf0 (v i : Int) : (List.replicate 1 [V.int .i64 0, V.int .i64 0, V.int .i64 0, V.nsl]).set 0 [V.int .i64 v, V.int .i64 0, V.int .i64 0, V.sl 2 ((List.replicate 1 [V.int .i64 0, V.int .i64 0]).set 0 [V.int .i64 i, V.int .i64 1])] = encS [⟨v, 0, 0, some i⟩] := rfl
theorem encS_set3 (l : List Stp) (k : Nat) (a b c : Int) : (encS l).set k [V.int .i64 a, V.int .i64 b, V.int .i64 c, V.nsl] = encS (l.set k ⟨a, b, c, none⟩) := by rw [encS_set]; rfl
theorem growN_set (rows : List Rw) : ∀ (n d : Nat) (s : Int) (out : List Stp) (i : Nat) (x : Stp), i < out.length → growN rows n d s (out.set i x) = (growN rows n d s out).set i x
  | 0, d, s, out, i, x, h => by simp only [growN]; rw [List.set_append_left _ _ h]
  | n + 1, d, s, out, i, x, h => by
    have h1 := growN_length rows n (d + 1) s (out ++ [⟨d, 0, 0, none⟩])
    simp only [growN]
    split
    · rw [List.set_append_left _ _ h]
    · rw [← List.set_append_left _ _ h, growN_set rows n _ _ _ i x (by simp; omega), growN_set rows n _ _ _ i x (by simp only [List.length_append] at h1; omega)]
      rw [List.length_set, List.length_set, List.set_comm _ _ (show i ≠ out.length by omega)]
def plO (rows : List Rw) (m d : Nat) (s : Int) (out : List Stp) : List Stp := growN rows m (d + 1) s (out ++ [⟨d, (out.length + 1 : Nat), 0, none⟩])
theorem plO_eq (rows : List Rw) (m d : Nat) (s : Int) (out : List Stp) : plO rows m d s out = (growN rows m (d + 1) s (out ++ [⟨d, 0, 0, none⟩])).set out.length ⟨d, (out.length + 1 : Nat), 0, none⟩ := by
  rw [← growN_set rows m _ _ _ _ _ (by simp)]
  unfold plO
  congr 1
  rw [List.set_append_right _ _ (Nat.le_refl _)]
  simp
theorem plO_length (rows : List Rw) (m d : Nat) (s : Int) (out : List Stp) : (plO rows m d s out).length = (growN rows m (d + 1) s (out ++ [⟨d, 0, 0, none⟩])).length := by rw [plO_eq, List.length_set]
theorem plO_at (rows : List Rw) (m d : Nat) (s : Int) (out : List Stp) : (plO rows m d s out).getD out.length stp0 = ⟨d, (out.length + 1 : Nat), 0, none⟩ := by
  have h := growN_length rows m (d + 1) s (out ++ [⟨d, 0, 0, none⟩])
  simp only [List.length_append, List.length_cons, List.length_nil] at h
  rw [plO_eq]; exact getD_set_self (by omega)
theorem plO_fin {rows : List Rw} {m d : Nat} {s : Nat} {out : List Stp} (hs : s < 2 ^ d) (hd : d ≤ 12) (hneg : ¬ 0 ≤ idxOf (overB d s) rows) :
    growN rows m (d + 1) ((s + 2 ^ d : Nat) : Int) ((plO rows m d s out).set out.length ⟨d, (out.length + 1 : Nat), (plO rows m d s out).length, none⟩) = growN rows (m + 1) d s out := by
  have h := growN_length rows m (d + 1) s (out ++ [⟨d, 0, 0, none⟩])
  simp only [List.length_append, List.length_cons, List.length_nil] at h
  rw [plO_length, plO_eq, List.set_set, growN_set rows m _ _ _ _ _ (by omega)]
  simp only [growN, if_neg hneg, setBit_nat hs hd]
  rfl
theorem idx_neg {rows : List Rw} {p : Rw → Bool} (h : ∀ j, j < rows.length → p (rows.getD j rw0) = false) : ¬ 0 ≤ idxOf p rows := by
  rw [idxOf_none p rows (all_false rw0 h (Nat.le_refl _))]; omega
theorem choice_tot {p : Pg} (hv : validB p = true) {k : Nat} (hk : k < (choiceL p).length) : totG p.gain ((choiceL p).getD k 0) p.gain.length = chosenW p.gain ((choiceL p).getD k 0) := by
  obtain ⟨s, h1, h2, -⟩ := mem_choiceL.1 (getD_mem (d := 0) hk)
  obtain ⟨v, hv1, hv2, hv3, hv4⟩ := vars_pow hv
  obtain ⟨h0, h1', h2', h3, h4, h5⟩ := validB_all hv
  rw [hv1] at h2
  simp only [Int.toNat_natCast] at h2
  rw [h1, tot_all h4 (by omega) (by omega)]
theorem best_back {g xs : List Int} {k : Nat} (hk : k < xs.length) (h : (bestR g (xs.drop (k + 1))).1 = false ∨ (bestR g (xs.drop (k + 1))).2.2 ≤ chosenW g (xs.getD k 0)) : bestR g (xs.drop k) = (true, xs.getD k 0, chosenW g (xs.getD k 0)) := by rw [bestR_drop hk, cmb_t h]
theorem best_keep {g xs : List Int} {k : Nat} (hk : k < xs.length) (h : (bestR g (xs.drop (k + 1))).1 = true ∧ ¬ (bestR g (xs.drop (k + 1))).2.2 ≤ chosenW g (xs.getD k 0)) : bestR g (xs.drop k) = bestR g (xs.drop (k + 1)) := by rw [bestR_drop hk, cmb_f h]
theorem best_all (p : Pg) : bestR p.gain ((choiceL p).drop 0) = solveB p := by rw [List.drop_zero, bestR_eq]; rfl
end Go.Proofs.Ytcphhbiehaimeaa

namespace Go.Proofs.Ytcphhbiehaimeaa
open Go.RowKit
set_option linter.unusedVariables false
set_option linter.unusedSimpArgs false
def atW (rows : List Int) : Nat → Nat
  | 0 => 0
  | n + 1 => if atW rows n < rows.length ∧ rows.getD (atW rows n) 0 = n then atW rows n + 1 else atW rows n
def kpW (p : Pg) (rows : List Int) : Nat → List Rw
  | 0 => []
  | n + 1 => if atW rows n < rows.length ∧ rows.getD (atW rows n) 0 = n then kpW p rows n else kpW p rows n ++ [p.rows.getD n rw0]
theorem atW_t {rows : List Int} {n : Nat} (h : atW rows n < rows.length ∧ rows.getD (atW rows n) 0 = n) (p : Pg) : atW rows (n + 1) = atW rows n + 1 ∧ kpW p rows (n + 1) = kpW p rows n := by
  constructor
  · simp only [atW, if_pos h]
  · simp only [kpW, if_pos h]
theorem atW_f {rows : List Int} {n : Nat} (h : ¬ (atW rows n < rows.length ∧ rows.getD (atW rows n) 0 = n)) (p : Pg) : atW rows (n + 1) = atW rows n ∧ kpW p rows (n + 1) = kpW p rows n ++ [p.rows.getD n rw0] := by
  constructor
  · simp only [atW, if_neg h]
  · simp only [kpW, if_neg h]
theorem atW_le (rows : List Int) : ∀ n, atW rows n ≤ n ∧ atW rows n ≤ rows.length
  | 0 => ⟨Nat.le_refl _, Nat.zero_le _⟩
  | n + 1 => by
    have := atW_le rows n
    simp only [atW]; split <;> omega
theorem kpW_length (p : Pg) (rows : List Int) : ∀ n, (kpW p rows n).length ≤ n
  | 0 => Nat.le_refl _
  | n + 1 => by have := kpW_length p rows n; simp only [kpW]; split <;> (try simp) <;> omega
theorem atW_inv (rows : List Int) : ∀ n j, j < atW rows n → 0 ≤ rows.getD j 0 ∧ rows.getD j 0 < n ∧ (0 < j → rows.getD (j - 1) 0 < rows.getD j 0)
  | 0, j, h => by simp [atW] at h
  | n + 1, j, h => by
    by_cases hc : atW rows n < rows.length ∧ rows.getD (atW rows n) 0 = n
    · rw [(atW_t hc ⟨0, [], []⟩).1] at h
      by_cases hj : j < atW rows n
      · have := atW_inv rows n j hj; omega
      · have e : j = atW rows n := by omega
        rw [e, hc.2]
        refine ⟨by omega, by omega, fun h0 => ?_⟩
        have := atW_inv rows n (atW rows n - 1) (by omega)
        omega
    · rw [(atW_f hc ⟨0, [], []⟩).1] at h
      have := atW_inv rows n j h; omega
theorem atW_ok {p : Pg} (hv : validB p = true) {rows : List Int} (h : atW rows p.rows.length = rows.length) : okRows p rows = true := by
  obtain ⟨h0, h1, h2, h3, h4, h5⟩ := validB_all hv
  refine okTo_iff.2 fun i hi => idxOk_iff.2 ?_
  have := atW_inv rows p.rows.length i (by omega)
  rw [w64 (by omega)]
  exact ⟨this.1, by omega, this.2.2⟩
theorem atW_keep {p : Pg} (hv : validB p = true) {rows : List Int} (h : okRows p rows = true) : ∀ n, n ≤ p.rows.length → (∀ j, j < atW rows n → rows.getD j 0 < n) ∧ (∀ j, atW rows n ≤ j → j < rows.length → (n : Int) ≤ rows.getD j 0) ∧ kpW p rows n = keepTo p rows n
  | 0, _ => ⟨fun j hj => by simp [atW] at hj, fun j _ hj => by have := (idxOk_iff.1 (okTo_iff.1 h j hj)).1; simpa using this, rfl⟩
  | n + 1, hn => by
    obtain ⟨a1, a2, a3⟩ := atW_keep hv h n (by omega)
    have hs := okRows_srt h
    by_cases hc : atW rows n < rows.length ∧ rows.getD (atW rows n) 0 = n
    · obtain ⟨e1, e2⟩ := atW_t hc p
      have hm : (n : Int) ∈ rows := by rw [← hc.2]; exact getD_mem hc.1
      refine ⟨fun j hj => ?_, fun j h1 h2 => ?_, by rw [e2, a3, keepTo_t hm]⟩
      · rw [e1] at hj
        by_cases hj2 : j < atW rows n
        · have := a1 j hj2; omega
        · rw [show j = atW rows n by omega, hc.2]; omega
      · rw [e1] at h1
        have := hs (atW rows n) j (by omega) h2
        omega
    · obtain ⟨e1, e2⟩ := atW_f hc p
      have hm : ¬ (n : Int) ∈ rows := fun hm => by
        obtain ⟨j, hj, hje⟩ : ∃ j, j < rows.length ∧ rows.getD j 0 = (n : Int) := by
          obtain ⟨j, hj, e⟩ := List.getElem_of_mem hm
          exact ⟨j, hj, by rw [← e]; simp [List.getD, hj]⟩
        rcases Nat.lt_or_ge j (atW rows n) with h6 | h6
        · have := a1 j h6; omega
        · rcases Nat.lt_or_ge (atW rows n) j with h7 | h7
          · have h8 := hs (atW rows n) j h7 hj
            have h9 := a2 (atW rows n) (Nat.le_refl _) (by omega)
            omega
          · have : j = atW rows n := by omega
            subst this; exact hc ⟨hj, hje⟩
      refine ⟨fun j hj => by rw [e1] at hj; have := a1 j hj; omega, fun j h1 h2 => ?_, by rw [e2, a3, keepTo_f hm]⟩
      rw [e1] at h1
      have h3 := a2 j h1 h2
      rcases Int.lt_or_eq_of_le h3 with h4 | h4
      · omega
      · exact (hm (h4 ▸ getD_mem h2)).elim
theorem atW_end {p : Pg} (hv : validB p = true) {rows : List Int} (h : okRows p rows = true) : atW rows p.rows.length = rows.length ∧ kpW p rows p.rows.length = keepTo p rows p.rows.length := by
  obtain ⟨h0, h1, h2, h3, h4, h5⟩ := validB_all hv
  obtain ⟨a1, a2, a3⟩ := atW_keep hv h p.rows.length (Nat.le_refl _)
  refine ⟨?_, a3⟩
  have := (atW_le rows p.rows.length).2
  rcases Nat.lt_or_ge (atW rows p.rows.length) rows.length with h6 | h6
  · have h7 := a2 _ (Nat.le_refl _) h6
    have h8 := (idxOk_iff.1 (okTo_iff.1 h _ h6)).2.1
    rw [w64 (by omega)] at h8; omega
  · omega
theorem wth_at {p : Pg} (hv : validB p = true) {rows : List Int} (h : atW rows p.rows.length = rows.length) : wthV p rows = [.agg (encPg ⟨p.vars, kpW p rows p.rows.length, p.gain⟩), .int .i64 0] := by
  have hok := atW_ok hv h
  rw [wthV_t hok hv, (atW_end hv hok).2]; rfl
theorem wth_no {p : Pg} (hv : validB p = true) {rows : List Int} (h : ¬ atW rows p.rows.length = rows.length) : wthV p rows = [.agg [.int .i64 0, .nsl, .nsl], .int .i64 230] := by
  refine wthV_f1 ?_
  rw [Bool.eq_false_iff]; intro hok
  exact h (atW_end hv hok).1
theorem wth_bad {p : Pg} {rows : List Int} (h : validB p = false ∨ (p.rows.length : Int) < rows.length) : wthV p rows = [.agg [.int .i64 0, .nsl, .nsl], .int .i64 230] := by
  cases hv : validB p with
  | false => exact wthV_f2 hv
  | true =>
    refine wthV_f1 ?_
    rw [Bool.eq_false_iff]; intro hok
    have := okRows_len hok hv
    rcases h with h | h
    · rw [hv] at h; cases h
    · omega
/-! #### cut short -/
def cutR (n : Nat) (r : Rw) : Rw := ⟨r.kind, r.a, r.b, r.pl, r.coef.take n, r.most⟩
def fewP (p : Pg) : Pg := ⟨p.vars, (p.rows.take 20).map (cutR 13), p.gain.take 13⟩
theorem take_min {α : Type} (l : List α) (n : Nat) : l.take (minV (l.length : Int) (n : Int)).toNat = l.take n := by
  unfold minV
  split
  · rw [Int.toNat_natCast]
  · rw [Int.toNat_natCast, List.take_length, List.take_of_length_le (by omega)]
theorem cut_succ {l : List Rw} {i : Nat} (n : Nat) (h : i < l.length) : (l.take (i + 1)).map (cutR n) = (l.take i).map (cutR n) ++ [cutR n (l.getD i rw0)] := take_snoc _ _ h
theorem minV_range (l : Nat) (n : Int) (h : 0 ≤ n) : 0 ≤ minV (l : Int) n ∧ minV (l : Int) n ≤ l := by unfold minV; split <;> omega
theorem agEq_self (cs : List V) : agEq cs cs = true := by unfold agEq; simp
theorem few_min (p : Pg) : (p.rows.take (min p.rows.length 20)).map (cutR 13) = (p.rows.take 20).map (cutR 13) := by
  congr 1
  rcases Nat.le_total p.rows.length 20 with h | h
  · rw [Nat.min_eq_left h, List.take_length, List.take_of_length_le h]
  · rw [Nat.min_eq_right h]
end Go.Proofs.Ytcphhbiehaimeaa

namespace Go.Proofs.Ytcphhbiehaimeaa
open Go.RowKit
set_option linter.unusedVariables false
set_option linter.unusedSimpArgs false
def pg0 : Pg := ⟨0, [], []⟩
def encPs (l : List Pg) : List (List V) := l.map encPg
theorem encPs_length (l : List Pg) : (encPs l).length = l.length := by simp [encPs]
theorem encPs_getD (l : List Pg) (k : Nat) (h : k < l.length) : (encPs l).getD k [] = encPg (l.getD k pg0) := by simp [encPs, List.getD, h]
def encL (l : List (List Int)) : List (List V) := l.map fun x => [V.sl 1 (encI x)]
theorem encL_length (l : List (List Int)) : (encL l).length = l.length := by simp [encL]
theorem encL_getD (l : List (List Int)) (k : Nat) (h : k < l.length) : (encL l).getD k [] = [V.sl 1 (encI (l.getD k []))] := by simp [encL, List.getD, h]
def okPg (p : Pg) : Prop := p.rows.length ≤ 20 ∧ p.gain.length ≤ 13 ∧ ∀ r ∈ p.rows, r.coef.length ≤ 13
theorem okPg_max {p : Pg} (h : okPg p) : p.rows.length ≤ maxLen ∧ p.gain.length ≤ maxLen ∧ ∀ r ∈ p.rows, r.coef.length ≤ maxLen := by
  unfold maxLen
  exact ⟨by have := h.1; omega, by have := h.2.1; omega, fun r hr => by have := h.2.2 r hr; omega⟩
theorem okPg_few (p : Pg) : okPg (fewP p) := by
  refine ⟨by simp [fewP]; omega, by simp [fewP]; omega, fun r hr => ?_⟩
  obtain ⟨s, -, rfl⟩ := List.mem_map.1 hr
  simp [cutR]; omega
theorem okPg_made {p : Pg} (hv : validB p = true) (h8 : p.rows.length ≤ 8) : okPg p := by
  obtain ⟨h0, h1, h2, h3, h4, h5⟩ := validB_all hv
  exact ⟨by omega, by omega, fun r hr => by have := (h5 r hr).1; omega⟩
theorem okPg_bent {p : Pg} (h : okPg p) (k : Nat) (r : Rw) : okPg ⟨p.vars, p.rows.set k (cutR 13 r), p.gain⟩ := by
  refine ⟨by simpa using h.1, h.2.1, fun s hs => ?_⟩
  rcases List.mem_or_eq_of_mem_set hs with h1 | rfl
  · exact h.2.2 s h1
  · simp [cutR]; omega
theorem okPg_without {p : Pg} (h : okPg p) (l : List Int) : okPg (withoutW p l) := by
  refine ⟨Nat.le_trans (keepTo_length p l _) h.1, h.2.1, fun r hr => ?_⟩
  obtain ⟨i, hi, rfl, -⟩ := keepTo_mem hr
  exact h.2.2 _ (getD_mem hi)
theorem okPg_0 : okPg pg0 := ⟨by simp [pg0], by simp [pg0], by simp [pg0]⟩
theorem proof_max {p : Pg} (hv : validB p = true) : (solveW p).proof.length ≤ maxLen := by
  obtain ⟨h0, h1, -⟩ := validB_all hv
  have hn := growN_length (solRows p (solveB p)) p.vars.toNat 0 0 []
  have hp : 2 ^ (p.vars.toNat + 1) ≤ 2 ^ 13 := Nat.pow_le_pow_right (by omega) (by omega)
  show (growN _ _ _ _ _).length ≤ _
  simp only [List.length_nil] at hn
  unfold maxLen; omega
theorem sameTo_self (l : List Rw) : ∀ n, sameTo l l n = true
  | 0 => rfl
  | n + 1 => by simp [sameTo, sameTo_self l n, sameRw]
theorem sameB_self (p : Pg) : sameB p p = true := by simp [sameB, sameTo_self]
theorem wth_or (p : Pg) (l : List Int) : wthV p l = [.agg (encPg (withoutW p l)), .int .i64 0] ∨ wthV p l = [.agg [.int .i64 0, .nsl, .nsl], .int .i64 230] := by
  unfold wthV; split
  · exact .inl rfl
  · exact .inr rfl
theorem bool_or (b : Bool) : b = true ∨ b = false := by cases b <;> simp
theorem brk_max (p : Pg) (h : okPg p) (s : Int) : (brokenW p s).length ≤ maxLen := by
  unfold brokenW maxLen
  have := brkTo_length p s p.rows.length
  have := h.1
  split
  · omega
  · simp
theorem cellsI_mapL (g : Nat → Nat) : ∀ xs : List Int, V.mapL g (cellsI xs) = cellsI xs
  | [] => rfl
  | x :: xs => by simpa [cellsI, V.mapL, V.map] using cellsI_mapL g xs
theorem cellsI_domL (p q : Nat → Bool) : ∀ xs : List Int, V.domL p q (cellsI xs) = true
  | [] => rfl
  | x :: xs => by simpa [cellsI, V.domL, V.dom] using cellsI_domL p q xs
end Go.Proofs.Ytcphhbiehaimeaa

namespace Go.Proofs.Ytcphhbiehaimeaa
open Go.RowKit
set_option linter.unusedVariables false
set_option linter.unusedSimpArgs false
set_option maxRecDepth 100000
attribute [local go_sem] Nat.zero_add Nat.add_zero Nat.mul_one eq_self ne_eq not_true_eq_false not_false_eq_true decide_true decide_false decide_not Bool.false_eq_true List.filter_cons List.filter_nil true_and and_true beq_false beq_true Bool.not_true Bool.not_false Bool.and_true Bool.true_and Option.getD_some Option.getD_none imp_self implies_true Int.toNat_natCast List.cons_append List.nil_append List.map_cons List.map_nil List.length_cons List.length_nil List.getD_cons_zero List.getD_cons_succ List.drop_zero List.drop_succ_cons List.take_succ_cons List.take_zero
attribute [local go_sem] isE isO stpO notIn St.bare evO evDO isEff stp St.get St.slot St.put List.lookup un unL ofVal gof nth pickV pkB_false pkB_true binV unV loadV idxV fldV partV buildV fillV lenV sliV appV appR rowsV winV V.parts V.okp V.sc Mem.look_cons Mem.look_nil V.cl V.clL AObj.clo fzAll exps St.fz Mem.fz V.fz V.fzL AObj.fz Option.isSome_some Option.isSome_none Bool.or_true Bool.true_or Bool.or_false Bool.false_or false_and and_false false_or or_false arT_22 arT_23 arT_24 arT_27 arT_34 arT_35 arT_50 arT_59 arT_61 arT_64 arT_65 arT_68 boolT_24 boolT_3 boolT_38 boolT_4 boolT_79 flatT_24 flatT_3 flatT_38 flatT_4 flatT_79 intT_3 intT_93 lay_23 lay_24 lay_26 lay_27 lay_29 lay_3 lay_32 lay_35 lay_37 lay_4 lay_59 lay_68 lay_70 lay_79 lay_82 lay_88 okF_10 okF_11 okF_12 okF_13 okF_14 okF_15 okF_16 okF_17 okF_18 okF_19 okF_20 okF_21 okF_22 okF_23 okF_24 okF_25 okF_26 okF_27 okF_28 okF_29 okF_3 okF_30 okF_31 okF_32 okF_33 okF_34 okF_35 okF_36 okF_37 okF_38 okF_39 okF_4 okF_40 okF_41 okF_42 okF_43 okF_44 okF_45 okF_46 okF_47 okF_48 okF_49 okF_5 okF_50 okF_51 okF_52 okF_53 okF_54 okF_55 okF_56 okF_57 okF_58 okF_59 okF_6 okF_60 okF_61 okF_62 okF_63 okF_64 okF_65 okF_66 okF_67 okF_68 okF_69 okF_7 okF_70 okF_71 okF_72 okF_73 okF_74 okF_75 okF_8 okF_9 plT_26 plT_29 plT_37 plT_70 plT_79 slT_22 slT_23 slT_24 slT_27 slT_34 slT_35 slT_50 slT_59 slT_61 slT_64 slT_65 slT_68 stT_26_0 stT_26_1 stT_26_2 stT_26_3 stT_26_4 stT_26_5 stT_29_0 stT_29_1 stT_29_2 stT_37_0 stT_37_1 stT_37_2 stT_37_3 stT_70_0 stT_70_1 stT_70_2 stT_70_3 stT_79_0 stT_79_1 zeroT_24 zeroT_26 zeroT_29 zeroT_3 zeroT_32 zeroT_35 zeroT_37 zeroT_59 zeroT_65 zeroT_70 zeroT_79
attribute [local go_sem] List.getElem?_cons_zero List.getElem?_cons_succ List.zip_cons_cons List.zip_nil_left List.zip_nil_right Bool.false_and Bool.and_false List.length_append List.length_set List.length_replicate List.all_cons List.all_nil encI_length encI_getD encR_length encR_getD encRw encPg spl shp AObj.shp rowM isSt isRpS isRd csh AObj.csh forall_const imp_self
attribute [local simp] encI_length encR_length
theorem c12 (c n : Int) (hn : 0 < n) : CallsA Try.prog 12 [.int .i64 c, .int .i64 n] (.int .i64 (pickW c n)) := by
  have hq : True := trivial
  refine callsA_of_tr Try.func12 rfl (Nat.le_of_ble_eq_true rfl) ?_
  simp only [Try.results12, envOf, Nat.reduceAdd]
  refine tr_seq fun K1 hK1 => ?_
  refine tr_region [0, 1] rfl rfl fun K hK => ?_
  refine evR_p ?_
  refine evR_e hK ?_; clear hK K
  refine hK1 _ ?_
  refine tr_seq fun K2 hK2 => ?_
  refine tr_seq fun K3 hK3 => ?_
  refine tr_region [0, 1, 6] rfl rfl fun K hK => ?_
  iterate 2 refine evR_p ?_
  refine evR_e hK ?_; clear hK K
  refine hK3 _ ?_
  refine tr_condB (fun ht1 => ?_) (fun ht1 => ?_)
  · skip
    refine tr_region [0, 1] rfl rfl fun K hK => ?_
    iterate 4 refine evR_p ?_
    refine evR_e hK ?_; clear hK K
    refine hK2 _ ?_
    refine tr_seq fun K4 hK4 => ?_
    refine tr_region [4] rfl rfl fun K hK => ?_
    iterate 4 refine evR_p ?_
    refine evR_e hK ?_; clear hK K
    refine hK4 _ ?_
    refine tr_ret ?_
    (try simp only [thenE, inBlkE])
    simp (maxSteps := 4000000) (disch := first | assumption | omega | (simp only [go_sem, *]; done) | (simp only [go_sem, *]; omega)) only [postA, postO, resV1, fzAll, go_sem, hq, Int.reduceToNat, Nat.reduceBEq, Nat.reduceEqDiff, Nat.reduceAdd, Nat.reduceMul, Nat.reduceLeDiff, Nat.reduceLT, Nat.reduceSub, ↓reduceIte, reduceCtorEq]
    all_goals (simp [pickW, *])
  · skip
    refine tr_skip ?_
    (try simp only [thenE, inBlkE])
    refine hK2 _ ?_
    refine tr_seq fun K5 hK5 => ?_
    refine tr_region [4] rfl rfl fun K hK => ?_
    iterate 4 refine evR_p ?_
    refine evR_e hK ?_; clear hK K
    refine hK5 _ ?_
    refine tr_ret ?_
    (try simp only [thenE, inBlkE])
    simp (maxSteps := 4000000) (disch := first | assumption | omega | (simp only [go_sem, *]; done) | (simp only [go_sem, *]; omega)) only [postA, postO, resV1, fzAll, go_sem, hq, Int.reduceToNat, Nat.reduceBEq, Nat.reduceEqDiff, Nat.reduceAdd, Nat.reduceMul, Nat.reduceLeDiff, Nat.reduceLT, Nat.reduceSub, ↓reduceIte, reduceCtorEq]
    all_goals (simp [pickW, *])

theorem c37 (c n : Int) (hn : 0 < n) : CallsA Try.prog 37 [.int .i64 c, .int .i64 n] (.int .i64 (pickW c n)) := by
  have hq : True := trivial
  refine callsA_of_tr Try.func37 rfl (Nat.le_of_ble_eq_true rfl) ?_
  simp only [Try.results37, envOf, Nat.reduceAdd]
  refine tr_seq fun K1 hK1 => ?_
  refine tr_region [0, 1] rfl rfl fun K hK => ?_
  refine evR_p ?_
  refine evR_e hK ?_; clear hK K
  refine hK1 _ ?_
  refine tr_seq fun K2 hK2 => ?_
  refine tr_seq fun K3 hK3 => ?_
  refine tr_region [0, 1, 6] rfl rfl fun K hK => ?_
  iterate 2 refine evR_p ?_
  refine evR_e hK ?_; clear hK K
  refine hK3 _ ?_
  refine tr_condB (fun ht1 => ?_) (fun ht1 => ?_)
  · skip
    refine tr_region [0, 1] rfl rfl fun K hK => ?_
    iterate 4 refine evR_p ?_
    refine evR_e hK ?_; clear hK K
    refine hK2 _ ?_
    refine tr_seq fun K4 hK4 => ?_
    refine tr_region [4] rfl rfl fun K hK => ?_
    iterate 4 refine evR_p ?_
    refine evR_e hK ?_; clear hK K
    refine hK4 _ ?_
    refine tr_ret ?_
    (try simp only [thenE, inBlkE])
    simp (maxSteps := 4000000) (disch := first | assumption | omega | (simp only [go_sem, *]; done) | (simp only [go_sem, *]; omega)) only [postA, postO, resV1, fzAll, go_sem, hq, Int.reduceToNat, Nat.reduceBEq, Nat.reduceEqDiff, Nat.reduceAdd, Nat.reduceMul, Nat.reduceLeDiff, Nat.reduceLT, Nat.reduceSub, ↓reduceIte, reduceCtorEq]
    all_goals (simp [pickW, *])
  · skip
    refine tr_skip ?_
    (try simp only [thenE, inBlkE])
    refine hK2 _ ?_
    refine tr_seq fun K5 hK5 => ?_
    refine tr_region [4] rfl rfl fun K hK => ?_
    iterate 4 refine evR_p ?_
    refine evR_e hK ?_; clear hK K
    refine hK5 _ ?_
    refine tr_ret ?_
    (try simp only [thenE, inBlkE])
    simp (maxSteps := 4000000) (disch := first | assumption | omega | (simp only [go_sem, *]; done) | (simp only [go_sem, *]; omega)) only [postA, postO, resV1, fzAll, go_sem, hq, Int.reduceToNat, Nat.reduceBEq, Nat.reduceEqDiff, Nat.reduceAdd, Nat.reduceMul, Nat.reduceLeDiff, Nat.reduceLT, Nat.reduceSub, ↓reduceIte, reduceCtorEq]
    all_goals (simp [pickW, *])

theorem c49 (n lo hi : Int) : CallsA Try.prog 49 [.int .i64 n, .int .i64 lo, .int .i64 hi] (.bool (isInB n lo hi)) := by
  have hq : True := trivial
  refine callsA_of_tr Try.func49 rfl (Nat.le_of_ble_eq_true rfl) ?_
  simp only [Try.results49, envOf, Nat.reduceAdd]
  refine tr_seq fun K1 hK1 => ?_
  refine tr_region [0, 1, 2] rfl rfl fun K hK => ?_
  refine evR_p ?_
  refine evR_e hK ?_; clear hK K
  refine hK1 _ ?_
  refine tr_seq fun K2 hK2 => ?_
  refine tr_region [6] rfl rfl fun K hK => ?_
  iterate 4 refine evR_p ?_
  iterate 3 refine evR_g ?_
  iterate 2 refine evR_p ?_
  refine evR_e hK ?_; clear hK K
  refine hK2 _ ?_
  refine tr_ret ?_
  (try simp only [thenE, inBlkE])
  simp (maxSteps := 4000000) (disch := first | assumption | omega | (simp only [go_sem, *]; done) | (simp only [go_sem, *]; omega)) only [postA, postO, resV1, fzAll, go_sem, hq, Int.reduceToNat, Nat.reduceBEq, Nat.reduceEqDiff, Nat.reduceAdd, Nat.reduceMul, Nat.reduceLeDiff, Nat.reduceLT, Nat.reduceSub, ↓reduceIte, reduceCtorEq]
  all_goals (simp [isInB])

theorem c39 (l : List Int) (set : Int) (hm : l.length ≤ maxLen) : CallsA Try.prog 39 [.sl 1 (encI l), .int .i64 set] (.int .i64 (chosenW l set)) := by
  unfold maxLen at hm
  have hq : True := trivial
  refine callsA_of_tr Try.func39 rfl (Nat.le_of_ble_eq_true rfl) ?_
  simp only [Try.results39, envOf, Nat.reduceAdd]
  refine tr_seq fun K1 hK1 => ?_
  refine tr_region [0, 1] rfl rfl fun K hK => ?_
  refine evR_p ?_
  refine evR_e hK ?_; clear hK K
  refine hK1 _ ?_
  refine tr_seq fun K2 hK2 => ?_
  refine tr_region [0, 1, 5] rfl rfl fun K hK => ?_
  refine evR_p ?_
  refine evR_e hK ?_; clear hK K
  refine hK2 _ ?_
  refine tr_seq fun K3 hK3 => ?_
  refine tr_seq fun K4 hK4 => ?_
  refine tr_region [1, 5, 8, 9, 10] rfl rfl fun K hK => ?_
  iterate 3 refine evR_p ?_
  refine evR_e hK ?_; clear hK K
  refine hK4 _ ?_
  refine tr_block ?_
  -- loop 1: live [1, 5, 8, 9, 10]
  refine tr_loopW (fun m σ => ∃ i, i + m = l.length ∧ σ = ⟨[(1, .int .i64 set), (5, .int .i64 (chosenG l set i)), (8, .sl 1 (encI l)), (9, .int .i64 l.length), (10, .int .i64 (i : Nat))], [], 0⟩) (l.length) ?_ ?_
  · exact ⟨_, Wk.refl _, 0, by omega, rfl⟩
  · rintro m σ ⟨i, hi, rfl⟩ KL1 hKL1
    refine tr_seq fun K5 hK5 => ?_
    refine tr_region [1, 5, 8, 9, 10, 11] rfl rfl fun K hK => ?_
    refine evR_p ?_
    refine evR_e hK ?_; clear hK K
    refine hK5 _ ?_
    refine tr_seq fun K6 hK6 => ?_
    refine tr_condB (fun ht1 => ?_) (fun ht1 => ?_)
    · skip
      have hil : i < l.length := by omega
      replace hq := And.intro hq (hil)
      refine tr_skip ?_
      (try simp only [thenE, inBlkE])
      refine hK6 _ ?_
      refine tr_seq fun K7 hK7 => ?_
      refine tr_block ?_
      refine tr_seq fun K8 hK8 => ?_
      refine tr_region [1, 5, 6, 7, 8, 9, 10] rfl rfl fun K hK => ?_
      iterate 5 refine evR_p ?_
      refine evR_e hK ?_; clear hK K
      refine hK8 _ ?_
      refine tr_seq fun K9 hK9 => ?_
      refine tr_region [1, 5, 7, 8, 9, 10, 19] rfl rfl fun K hK => ?_
      iterate 5 refine evR_p ?_
      refine evR_e hK ?_; clear hK K
      refine hK9 _ ?_
      refine tr_condB (fun ht2 => ?_) (fun ht2 => ?_)
      · skip
        refine tr_region [1, 5, 8, 9, 10] rfl rfl fun K hK => ?_
        iterate 4 refine evR_p ?_
        refine evR_e hK ?_; clear hK K
        refine hK7 _ ?_
        refine tr_region [1, 5, 8, 9, 10] rfl rfl fun K hK => ?_
        iterate 2 refine evR_p ?_
        refine evR_e hK ?_; clear hK K
        refine hKL1 _ ?_
        exact ⟨m - 1, _, by omega, Wk.refl _, i + 1, by omega, by first | (rw [w64 (x := (i : Int) + 1) (by omega), chosenG_t (by simp only [cBit, *]; decide)]; rfl) | (rw [w64 (x := (i : Int) + 1) (by omega), chosenG_f (by simp only [cBit, decide_eq_false_iff_not, *]; first | assumption | simp)]; rfl)⟩
      · skip
        refine tr_skip ?_
        (try simp only [thenE, inBlkE])
        refine hK7 _ ?_
        refine tr_region [1, 5, 8, 9, 10] rfl rfl fun K hK => ?_
        iterate 2 refine evR_p ?_
        refine evR_e hK ?_; clear hK K
        refine hKL1 _ ?_
        exact ⟨m - 1, _, by omega, Wk.refl _, i + 1, by omega, by first | (rw [w64 (x := (i : Int) + 1) (by omega), chosenG_t (by simp only [cBit, *]; decide)]; rfl) | (rw [w64 (x := (i : Int) + 1) (by omega), chosenG_f (by simp only [cBit, decide_eq_false_iff_not, *]; first | assumption | simp)]; rfl)⟩
    · skip
      have hil : i = l.length := by omega
      subst hil
      refine tr_exit ?_
      simp only [thenE, inBlkE, Nat.reduceEqDiff, ↓reduceIte]
      refine hK3 _ ?_
      refine tr_seq fun K10 hK10 => ?_
      refine tr_region [4] rfl rfl fun K hK => ?_
      iterate 2 refine evR_p ?_
      refine evR_e hK ?_; clear hK K
      refine hK10 _ ?_
      refine tr_ret ?_
      (try simp only [thenE, inBlkE])
      simp (maxSteps := 4000000) (disch := first | assumption | omega | (simp only [go_sem, *]; done) | (simp only [go_sem, *]; omega)) only [postA, postO, resV1, fzAll, go_sem, hq, Int.reduceToNat, Nat.reduceBEq, Nat.reduceEqDiff, Nat.reduceAdd, Nat.reduceMul, Nat.reduceLeDiff, Nat.reduceLT, Nat.reduceSub, ↓reduceIte, reduceCtorEq]
      all_goals (rfl)

theorem c75 (xs : List Int) (f : FuncId) (caps : List V) (p : Int → Bool) (hf : okF Try.prog f = true) (hcl : V.clL caps = true) (hp : ∀ x ∈ xs, CallsA Try.prog f (.int .i64 x :: caps) (.bool (p x))) (hm : xs.length ≤ maxLen) : CallsA Try.prog 75 [.sl 1 (encI xs), .fn f caps] (.int .i64 (idxOf p xs)) := by
  unfold maxLen at hm
  have hq := hcl
  refine callsA_of_tr Try.func75 rfl (Nat.le_of_ble_eq_true rfl) ?_
  simp only [Try.results75, envOf, Nat.reduceAdd]
  refine tr_seq fun K1 hK1 => ?_
  refine tr_region [0, 1] rfl rfl fun K hK => ?_
  refine evR_p ?_
  refine evR_e hK ?_; clear hK K
  refine hK1 _ ?_
  refine tr_seq fun K2 hK2 => ?_
  refine tr_seq fun K3 hK3 => ?_
  refine tr_region [0, 1, 7, 8] rfl rfl fun K hK => ?_
  iterate 3 refine evR_p ?_
  refine evR_e hK ?_; clear hK K
  refine hK3 _ ?_
  refine tr_block ?_
  -- loop 1: live [0, 1, 7, 8]
  refine tr_loopW (fun m σ => ∃ i, i + m = xs.length ∧ (∀ j, j < i → p (xs.getD j 0) = false) ∧ σ = ⟨[(0, .sl 1 (encI xs)), (1, .fn f caps), (7, .int .i64 xs.length), (8, .int .i64 (i : Nat))], [], 0⟩) (xs.length) ?_ ?_
  · exact ⟨_, Wk.refl _, 0, by omega, (by intro j hj; omega), rfl⟩
  · rintro m σ ⟨i, hi, hpi, rfl⟩ KL1 hKL1
    refine tr_seq fun K4 hK4 => ?_
    refine tr_region [0, 1, 7, 8, 9] rfl rfl fun K hK => ?_
    refine evR_p ?_
    refine evR_e hK ?_; clear hK K
    refine hK4 _ ?_
    refine tr_seq fun K5 hK5 => ?_
    refine tr_condB (fun ht1 => ?_) (fun ht1 => ?_)
    · skip
      have hil : i < xs.length := by omega
      replace hq := And.intro hq (hil)
      refine tr_skip ?_
      (try simp only [thenE, inBlkE])
      refine hK5 _ ?_
      refine tr_seq fun K6 hK6 => ?_
      refine tr_block ?_
      refine tr_seq fun K7 hK7 => ?_
      refine tr_region [0, 1, 5, 7, 8] rfl rfl fun K hK => ?_
      iterate 2 refine evR_p ?_
      refine evR_e hK ?_; clear hK K
      refine hK7 _ ?_
      refine tr_seq fun K8 hK8 => ?_
      refine tr_region [0, 1, 5, 7, 8, 16] rfl rfl fun K hK => ?_
      iterate 5 refine evR_p ?_
      refine evR_c (hc := (hp _ (getD_mem hil))) (k := ?_)
      refine evR_e hK ?_; clear hK K
      refine hK8 _ ?_
      refine tr_condB (fun ht2 => ?_) (fun ht2 => ?_)
      · skip
        refine tr_seq fun K9 hK9 => ?_
        refine tr_region [4] rfl rfl fun K hK => ?_
        iterate 2 refine evR_p ?_
        refine evR_e hK ?_; clear hK K
        refine hK9 _ ?_
        refine tr_ret ?_
        (try simp only [thenE, inBlkE])
        simp (maxSteps := 4000000) (disch := first | assumption | omega | (simp only [go_sem, *]; done) | (simp only [go_sem, *]; omega)) only [postA, postO, resV1, fzAll, go_sem, hq, Int.reduceToNat, Nat.reduceBEq, Nat.reduceEqDiff, Nat.reduceAdd, Nat.reduceMul, Nat.reduceLeDiff, Nat.reduceLT, Nat.reduceSub, ↓reduceIte, reduceCtorEq]
        all_goals (first | (rw [idxOf_at p 0 xs i hil hpi (by assumption)]; done) | (rw [idxOf_none p xs (all_false 0 hpi (by omega))]; done))
      · skip
        refine tr_skip ?_
        (try simp only [thenE, inBlkE])
        refine hK6 _ ?_
        refine tr_region [0, 1, 7, 8] rfl rfl fun K hK => ?_
        iterate 2 refine evR_p ?_
        refine evR_e hK ?_; clear hK K
        refine hKL1 _ ?_
        exact ⟨m - 1, _, by omega, Wk.refl _, i + 1, by omega, step_false hpi (by assumption), by rw [w64 (by omega)]; rfl⟩
    · skip
      have hil : i = xs.length := by omega
      refine tr_exit ?_
      simp only [thenE, inBlkE, Nat.reduceEqDiff, ↓reduceIte]
      refine hK2 _ ?_
      refine tr_seq fun K10 hK10 => ?_
      refine tr_region [4] rfl rfl fun K hK => ?_
      refine evR_p ?_
      refine evR_e hK ?_; clear hK K
      refine hK10 _ ?_
      refine tr_ret ?_
      (try simp only [thenE, inBlkE])
      simp (maxSteps := 4000000) (disch := first | assumption | omega | (simp only [go_sem, *]; done) | (simp only [go_sem, *]; omega)) only [postA, postO, resV1, fzAll, go_sem, hq, Int.reduceToNat, Nat.reduceBEq, Nat.reduceEqDiff, Nat.reduceAdd, Nat.reduceMul, Nat.reduceLeDiff, Nat.reduceLT, Nat.reduceSub, ↓reduceIte, reduceCtorEq]
      all_goals (first | (rw [idxOf_at p 0 xs i hil hpi (by assumption)]; done) | (rw [idxOf_none p xs (all_false 0 hpi (by omega))]; done))

theorem c61 (xs : List Rw) (f : FuncId) (caps : List V) (p : Rw → Bool) (hf : okF Try.prog f = true) (hcl : V.clL caps = true) (hp : ∀ x ∈ xs, CallsA Try.prog f (.agg (encRw x) :: caps) (.bool (p x))) (hm : xs.length ≤ maxLen) : CallsA Try.prog 61 [.sl 6 (encR xs), .fn f caps] (.int .i64 (idxOf p xs)) := by
  unfold maxLen at hm
  have hq := hcl
  refine callsA_of_tr Try.func61 rfl (Nat.le_of_ble_eq_true rfl) ?_
  simp only [Try.results61, envOf, Nat.reduceAdd]
  refine tr_seq fun K1 hK1 => ?_
  refine tr_region [0, 1] rfl rfl fun K hK => ?_
  refine evR_p ?_
  refine evR_e hK ?_; clear hK K
  refine hK1 _ ?_
  refine tr_seq fun K2 hK2 => ?_
  refine tr_seq fun K3 hK3 => ?_
  refine tr_region [0, 1, 7, 8] rfl rfl fun K hK => ?_
  iterate 3 refine evR_p ?_
  refine evR_e hK ?_; clear hK K
  refine hK3 _ ?_
  refine tr_block ?_
  -- loop 1: live [0, 1, 7, 8]
  refine tr_loopW (fun m σ => ∃ i, i + m = xs.length ∧ (∀ j, j < i → p (xs.getD j rw0) = false) ∧ σ = ⟨[(0, .sl 6 (encR xs)), (1, .fn f caps), (7, .int .i64 xs.length), (8, .int .i64 (i : Nat))], [], 0⟩) (xs.length) ?_ ?_
  · exact ⟨_, Wk.refl _, 0, by omega, (by intro j hj; omega), rfl⟩
  · rintro m σ ⟨i, hi, hpi, rfl⟩ KL1 hKL1
    refine tr_seq fun K4 hK4 => ?_
    refine tr_region [0, 1, 7, 8, 9] rfl rfl fun K hK => ?_
    refine evR_p ?_
    refine evR_e hK ?_; clear hK K
    refine hK4 _ ?_
    refine tr_seq fun K5 hK5 => ?_
    refine tr_condB (fun ht1 => ?_) (fun ht1 => ?_)
    · skip
      have hil : i < xs.length := by omega
      replace hq := And.intro hq (hil)
      refine tr_skip ?_
      (try simp only [thenE, inBlkE])
      refine hK5 _ ?_
      refine tr_seq fun K6 hK6 => ?_
      refine tr_block ?_
      refine tr_seq fun K7 hK7 => ?_
      refine tr_region [0, 1, 5, 7, 8] rfl rfl fun K hK => ?_
      iterate 2 refine evR_p ?_
      refine evR_e hK ?_; clear hK K
      refine hK7 _ ?_
      refine tr_seq fun K8 hK8 => ?_
      refine tr_region [0, 1, 5, 7, 8, 16] rfl rfl fun K hK => ?_
      iterate 5 refine evR_p ?_
      refine evR_c (hc := (hp _ (getD_mem hil))) (k := ?_)
      refine evR_e hK ?_; clear hK K
      refine hK8 _ ?_
      refine tr_condB (fun ht2 => ?_) (fun ht2 => ?_)
      · skip
        refine tr_seq fun K9 hK9 => ?_
        refine tr_region [4] rfl rfl fun K hK => ?_
        iterate 2 refine evR_p ?_
        refine evR_e hK ?_; clear hK K
        refine hK9 _ ?_
        refine tr_ret ?_
        (try simp only [thenE, inBlkE])
        simp (maxSteps := 4000000) (disch := first | assumption | omega | (simp only [go_sem, *]; done) | (simp only [go_sem, *]; omega)) only [postA, postO, resV1, fzAll, go_sem, hq, Int.reduceToNat, Nat.reduceBEq, Nat.reduceEqDiff, Nat.reduceAdd, Nat.reduceMul, Nat.reduceLeDiff, Nat.reduceLT, Nat.reduceSub, ↓reduceIte, reduceCtorEq]
        all_goals (first | (rw [idxOf_at p rw0 xs i hil hpi (by assumption)]; done) | (rw [idxOf_none p xs (all_false rw0 hpi (by omega))]; done))
      · skip
        refine tr_skip ?_
        (try simp only [thenE, inBlkE])
        refine hK6 _ ?_
        refine tr_region [0, 1, 7, 8] rfl rfl fun K hK => ?_
        iterate 2 refine evR_p ?_
        refine evR_e hK ?_; clear hK K
        refine hKL1 _ ?_
        exact ⟨m - 1, _, by omega, Wk.refl _, i + 1, by omega, step_false hpi (by assumption), by rw [w64 (by omega)]; rfl⟩
    · skip
      have hil : i = xs.length := by omega
      refine tr_exit ?_
      simp only [thenE, inBlkE, Nat.reduceEqDiff, ↓reduceIte]
      refine hK2 _ ?_
      refine tr_seq fun K10 hK10 => ?_
      refine tr_region [4] rfl rfl fun K hK => ?_
      refine evR_p ?_
      refine evR_e hK ?_; clear hK K
      refine hK10 _ ?_
      refine tr_ret ?_
      (try simp only [thenE, inBlkE])
      simp (maxSteps := 4000000) (disch := first | assumption | omega | (simp only [go_sem, *]; done) | (simp only [go_sem, *]; omega)) only [postA, postO, resV1, fzAll, go_sem, hq, Int.reduceToNat, Nat.reduceBEq, Nat.reduceEqDiff, Nat.reduceAdd, Nat.reduceMul, Nat.reduceLeDiff, Nat.reduceLT, Nat.reduceSub, ↓reduceIte, reduceCtorEq]
      all_goals (first | (rw [idxOf_at p rw0 xs i hil hpi (by assumption)]; done) | (rw [idxOf_none p xs (all_false rw0 hpi (by omega))]; done))

theorem c72 (xs : List Int) (f : FuncId) (caps : List V) (p : Int → Bool) (hf : okF Try.prog f = true) (hcl : V.clL caps = true) (hp : ∀ x ∈ xs, CallsA Try.prog f (.int .i64 x :: caps) (.bool (p x))) (hm : xs.length ≤ maxLen) : CallsA Try.prog 72 [.sl 1 (encI xs), .fn f caps] (.bool (xs.any p)) := by
  have hq := hcl
  refine callsA_of_tr Try.func72 rfl (Nat.le_of_ble_eq_true rfl) ?_
  simp only [Try.results72, envOf, Nat.reduceAdd]
  refine tr_seq fun K1 hK1 => ?_
  refine tr_region [0, 1] rfl rfl fun K hK => ?_
  refine evR_p ?_
  refine evR_e hK ?_; clear hK K
  refine hK1 _ ?_
  refine tr_seq fun K2 hK2 => ?_
  refine tr_region [4] rfl rfl fun K hK => ?_
  iterate 2 refine evR_p ?_
  refine evR_c (hc := (c75 _ _ _ p hf hcl hp hm)) (k := ?_)
  iterate 2 refine evR_p ?_
  refine evR_e hK ?_; clear hK K
  refine hK2 _ ?_
  refine tr_ret ?_
  (try simp only [thenE, inBlkE])
  simp (maxSteps := 4000000) (disch := first | assumption | omega | (simp only [go_sem, *]; done) | (simp only [go_sem, *]; omega)) only [postA, postO, resV1, fzAll, go_sem, hq, Int.reduceToNat, Nat.reduceBEq, Nat.reduceEqDiff, Nat.reduceAdd, Nat.reduceMul, Nat.reduceLeDiff, Nat.reduceLT, Nat.reduceSub, ↓reduceIte, reduceCtorEq]
  all_goals (simp [idxOf_ge])

theorem c66 (xs : List Rw) (f : FuncId) (caps : List V) (p : Rw → Bool) (hf : okF Try.prog f = true) (hcl : V.clL caps = true) (hp : ∀ x ∈ xs, CallsA Try.prog f (.agg (encRw x) :: caps) (.bool (p x))) (hm : xs.length ≤ maxLen) : CallsA Try.prog 66 [.sl 6 (encR xs), .fn f caps] (.bool (xs.any p)) := by
  have hq := hcl
  refine callsA_of_tr Try.func66 rfl (Nat.le_of_ble_eq_true rfl) ?_
  simp only [Try.results66, envOf, Nat.reduceAdd]
  refine tr_seq fun K1 hK1 => ?_
  refine tr_region [0, 1] rfl rfl fun K hK => ?_
  refine evR_p ?_
  refine evR_e hK ?_; clear hK K
  refine hK1 _ ?_
  refine tr_seq fun K2 hK2 => ?_
  refine tr_region [4] rfl rfl fun K hK => ?_
  iterate 2 refine evR_p ?_
  refine evR_c (hc := (c61 _ _ _ p hf hcl hp hm)) (k := ?_)
  iterate 2 refine evR_p ?_
  refine evR_e hK ?_; clear hK K
  refine hK2 _ ?_
  refine tr_ret ?_
  (try simp only [thenE, inBlkE])
  simp (maxSteps := 4000000) (disch := first | assumption | omega | (simp only [go_sem, *]; done) | (simp only [go_sem, *]; omega)) only [postA, postO, resV1, fzAll, go_sem, hq, Int.reduceToNat, Nat.reduceBEq, Nat.reduceEqDiff, Nat.reduceAdd, Nat.reduceMul, Nat.reduceLeDiff, Nat.reduceLT, Nat.reduceSub, ↓reduceIte, reduceCtorEq]
  all_goals (simp [idxOf_ge])

theorem c73 (x : Int) (f : FuncId) (caps : List V) (b : Bool) (hf : okF Try.prog f = true) (hcl : V.clL caps = true) (hp : CallsA Try.prog f (.int .i64 x :: caps) (.bool b)) : CallsA Try.prog 73 [.int .i64 x, .ep [.fn f caps]] (.bool (!b)) := by
  have hq := hcl
  refine callsA_of_tr Try.func73 rfl (Nat.le_of_ble_eq_true rfl) ?_
  simp only [Try.results73, envOf, Nat.reduceAdd]
  refine tr_seq fun K1 hK1 => ?_
  refine tr_region [0, 1] rfl rfl fun K hK => ?_
  refine evR_p ?_
  refine evR_e hK ?_; clear hK K
  refine hK1 _ ?_
  refine tr_seq fun K2 hK2 => ?_
  refine tr_region [3] rfl rfl fun K hK => ?_
  iterate 2 refine evR_p ?_
  refine evR_c (hc := hp) (k := ?_)
  iterate 2 refine evR_p ?_
  refine evR_e hK ?_; clear hK K
  refine hK2 _ ?_
  refine tr_ret ?_
  (try simp only [thenE, inBlkE])
  simp (maxSteps := 4000000) (disch := first | assumption | omega | (simp only [go_sem, *]; done) | (simp only [go_sem, *]; omega)) only [postA, postO, resV1, fzAll, go_sem, hq, Int.reduceToNat, Nat.reduceBEq, Nat.reduceEqDiff, Nat.reduceAdd, Nat.reduceMul, Nat.reduceLeDiff, Nat.reduceLT, Nat.reduceSub, ↓reduceIte, reduceCtorEq]
  all_goals (skip)

theorem c67 (x : Rw) (f : FuncId) (caps : List V) (b : Bool) (hf : okF Try.prog f = true) (hcl : V.clL caps = true) (hp : CallsA Try.prog f (.agg (encRw x) :: caps) (.bool b)) : CallsA Try.prog 67 [.agg (encRw x), .ep [.fn f caps]] (.bool (!b)) := by
  have hq := hcl
  refine callsA_of_tr Try.func67 rfl (Nat.le_of_ble_eq_true rfl) ?_
  simp only [Try.results67, envOf, Nat.reduceAdd]
  refine tr_seq fun K1 hK1 => ?_
  refine tr_region [1, 2] rfl rfl fun K hK => ?_
  iterate 2 refine evR_p ?_
  refine evR_e hK ?_; clear hK K
  refine hK1 _ ?_
  refine tr_seq fun K2 hK2 => ?_
  refine tr_region [3] rfl rfl fun K hK => ?_
  iterate 2 refine evR_p ?_
  refine evR_c (hc := hp) (k := ?_)
  iterate 2 refine evR_p ?_
  refine evR_e hK ?_; clear hK K
  refine hK2 _ ?_
  refine tr_ret ?_
  (try simp only [thenE, inBlkE])
  simp (maxSteps := 4000000) (disch := first | assumption | omega | (simp only [go_sem, *]; done) | (simp only [go_sem, *]; omega)) only [postA, postO, resV1, fzAll, go_sem, hq, Int.reduceToNat, Nat.reduceBEq, Nat.reduceEqDiff, Nat.reduceAdd, Nat.reduceMul, Nat.reduceLeDiff, Nat.reduceLT, Nat.reduceSub, ↓reduceIte, reduceCtorEq]
  all_goals (skip)

theorem c68 (xs : List Int) (f : FuncId) (caps : List V) (p : Int → Bool) (hf : okF Try.prog f = true) (hcl : V.clL caps = true) (hp : ∀ x ∈ xs, CallsA Try.prog f (.int .i64 x :: caps) (.bool (p x))) (hm : xs.length ≤ maxLen) : CallsA Try.prog 68 [.sl 1 (encI xs), .fn f caps] (.bool (xs.all p)) := by
  have hq := hcl
  refine callsA_of_tr Try.func68 rfl (Nat.le_of_ble_eq_true rfl) ?_
  simp only [Try.results68, envOf, Nat.reduceAdd]
  refine tr_seq fun K1 hK1 => ?_
  refine tr_region [0, 3] rfl rfl fun K hK => ?_
  iterate 2 refine evR_p ?_
  refine evR_e hK ?_; clear hK K
  refine hK1 _ ?_
  refine tr_seq fun K2 hK2 => ?_
  refine tr_region [4] rfl rfl fun K hK => ?_
  iterate 2 refine evR_p ?_
  refine evR_c (hc := (c72 xs 73 [.ep [.fn f caps]] (fun x => !p x) okF_73 (by simp [V.clL, V.cl]) (fun x hx => c73 x f caps (p x) hf hcl (hp x hx)) hm)) (k := ?_)
  iterate 2 refine evR_p ?_
  refine evR_e hK ?_; clear hK K
  refine hK2 _ ?_
  refine tr_ret ?_
  (try simp only [thenE, inBlkE])
  simp (maxSteps := 4000000) (disch := first | assumption | omega | (simp only [go_sem, *]; done) | (simp only [go_sem, *]; omega)) only [postA, postO, resV1, fzAll, go_sem, hq, Int.reduceToNat, Nat.reduceBEq, Nat.reduceEqDiff, Nat.reduceAdd, Nat.reduceMul, Nat.reduceLeDiff, Nat.reduceLT, Nat.reduceSub, ↓reduceIte, reduceCtorEq]
  all_goals (simp [List.all_eq_not_any_not])

theorem c46 (xs : List Rw) (f : FuncId) (caps : List V) (p : Rw → Bool) (hf : okF Try.prog f = true) (hcl : V.clL caps = true) (hp : ∀ x ∈ xs, CallsA Try.prog f (.agg (encRw x) :: caps) (.bool (p x))) (hm : xs.length ≤ maxLen) : CallsA Try.prog 46 [.sl 6 (encR xs), .fn f caps] (.bool (xs.all p)) := by
  have hq := hcl
  refine callsA_of_tr Try.func46 rfl (Nat.le_of_ble_eq_true rfl) ?_
  simp only [Try.results46, envOf, Nat.reduceAdd]
  refine tr_seq fun K1 hK1 => ?_
  refine tr_region [0, 3] rfl rfl fun K hK => ?_
  iterate 2 refine evR_p ?_
  refine evR_e hK ?_; clear hK K
  refine hK1 _ ?_
  refine tr_seq fun K2 hK2 => ?_
  refine tr_region [4] rfl rfl fun K hK => ?_
  iterate 2 refine evR_p ?_
  refine evR_c (hc := (c66 xs 67 [.ep [.fn f caps]] (fun x => !p x) okF_67 (by simp [V.clL, V.cl]) (fun x hx => c67 x f caps (p x) hf hcl (hp x hx)) hm)) (k := ?_)
  iterate 2 refine evR_p ?_
  refine evR_e hK ?_; clear hK K
  refine hK2 _ ?_
  refine tr_ret ?_
  (try simp only [thenE, inBlkE])
  simp (maxSteps := 4000000) (disch := first | assumption | omega | (simp only [go_sem, *]; done) | (simp only [go_sem, *]; omega)) only [postA, postO, resV1, fzAll, go_sem, hq, Int.reduceToNat, Nat.reduceBEq, Nat.reduceEqDiff, Nat.reduceAdd, Nat.reduceMul, Nat.reduceLeDiff, Nat.reduceLT, Nat.reduceSub, ↓reduceIte, reduceCtorEq]
  all_goals (simp [List.all_eq_not_any_not])

theorem c69 (n : Int) : CallsA Try.prog 69 [.int .i64 n] (.bool (isInB n (-1000000000) 1000000000)) := by
  have hq : True := trivial
  refine callsA_of_tr Try.func69 rfl (Nat.le_of_ble_eq_true rfl) ?_
  simp only [Try.results69, envOf, Nat.reduceAdd]
  refine tr_seq fun K1 hK1 => ?_
  refine tr_region [0] rfl rfl fun K hK => ?_
  refine evR_p ?_
  refine evR_e hK ?_; clear hK K
  refine hK1 _ ?_
  refine tr_seq fun K2 hK2 => ?_
  refine tr_region [2] rfl rfl fun K hK => ?_
  refine evR_p ?_
  refine evR_c (hc := (c49 _ _ _)) (k := ?_)
  refine evR_p ?_
  refine evR_e hK ?_; clear hK K
  refine hK2 _ ?_
  refine tr_ret ?_
  (try simp only [thenE, inBlkE])
  simp (maxSteps := 4000000) (disch := first | assumption | omega | (simp only [go_sem, *]; done) | (simp only [go_sem, *]; omega)) only [postA, postO, resV1, fzAll, go_sem, hq, Int.reduceToNat, Nat.reduceBEq, Nat.reduceEqDiff, Nat.reduceAdd, Nat.reduceMul, Nat.reduceLeDiff, Nat.reduceLT, Nat.reduceSub, ↓reduceIte, reduceCtorEq]
  all_goals (skip)

theorem c50 (l : List Int) (hm : l.length ≤ maxLen) : CallsA Try.prog 50 [.sl 1 (encI l)] (.bool (coefB l)) := by
  have hq : True := trivial
  refine callsA_of_tr Try.func50 rfl (Nat.le_of_ble_eq_true rfl) ?_
  simp only [Try.results50, envOf, Nat.reduceAdd]
  refine tr_seq fun K1 hK1 => ?_
  refine tr_region [0] rfl rfl fun K hK => ?_
  refine evR_p ?_
  refine evR_e hK ?_; clear hK K
  refine hK1 _ ?_
  refine tr_seq fun K2 hK2 => ?_
  refine tr_region [2] rfl rfl fun K hK => ?_
  refine evR_p ?_
  refine evR_c (hc := (c68 l 69 [] (fun n => isInB n (-1000000000) 1000000000) okF_69 rfl (fun x _ => c69 x) hm)) (k := ?_)
  refine evR_p ?_
  refine evR_e hK ?_; clear hK K
  refine hK2 _ ?_
  refine tr_ret ?_
  (try simp only [thenE, inBlkE])
  simp (maxSteps := 4000000) (disch := first | assumption | omega | (simp only [go_sem, *]; done) | (simp only [go_sem, *]; omega)) only [postA, postO, resV1, fzAll, go_sem, hq, Int.reduceToNat, Nat.reduceBEq, Nat.reduceEqDiff, Nat.reduceAdd, Nat.reduceMul, Nat.reduceLeDiff, Nat.reduceLT, Nat.reduceSub, ↓reduceIte, reduceCtorEq]
  all_goals (rfl)

theorem c48 (r : Rw) (hm : r.coef.length ≤ maxLen) (v : Int) : CallsA Try.prog 48 [.agg (encRw r), .int .i64 v] (.bool (rightB r v)) := by
  have hq : True := trivial
  refine callsA_of_tr Try.func48 rfl (Nat.le_of_ble_eq_true rfl) ?_
  simp only [Try.results48, envOf, Nat.reduceAdd]
  refine tr_seq fun K1 hK1 => ?_
  refine tr_region [1, 2] rfl rfl fun K hK => ?_
  iterate 2 refine evR_p ?_
  refine evR_e hK ?_; clear hK K
  refine hK1 _ ?_
  refine tr_seq fun K2 hK2 => ?_
  refine tr_region [4] rfl rfl fun K hK => ?_
  iterate 6 refine evR_p ?_
  iterate 2 refine evR_g ?_
  refine evR_gc (hc := (c50 _ hm)) (k := ?_)
  iterate 2 refine evR_p ?_
  iterate 2 refine evR_g ?_
  refine evR_gc (hc := (c49 _ _ _)) (k := ?_)
  iterate 2 refine evR_p ?_
  refine evR_e hK ?_; clear hK K
  refine hK2 _ ?_
  refine tr_ret ?_
  (try simp only [thenE, inBlkE])
  simp (maxSteps := 4000000) (disch := first | assumption | omega | (simp only [go_sem, *]; done) | (simp only [go_sem, *]; omega)) only [postA, postO, resV1, fzAll, go_sem, hq, Int.reduceToNat, Nat.reduceBEq, Nat.reduceEqDiff, Nat.reduceAdd, Nat.reduceMul, Nat.reduceLeDiff, Nat.reduceLT, Nat.reduceSub, ↓reduceIte, reduceCtorEq]
  all_goals (simp [rightB, Bool.and_assoc])

theorem c55 (r : Rw) (hm : r.coef.length ≤ maxLen) (set : Int) : CallsA Try.prog 55 [.agg (encRw r), .int .i64 set] (.bool (keptB r set)) := by
  have hq : True := trivial
  refine callsA_of_tr Try.func55 rfl (Nat.le_of_ble_eq_true rfl) ?_
  simp only [Try.results55, envOf, Nat.reduceAdd]
  refine tr_seq fun K1 hK1 => ?_
  refine tr_region [1, 2] rfl rfl fun K hK => ?_
  iterate 2 refine evR_p ?_
  refine evR_e hK ?_; clear hK K
  refine hK1 _ ?_
  refine tr_seq fun K2 hK2 => ?_
  refine tr_draw [] [4] mixed rfl (by kernel_rfl) rfl fun K hK => ?_
  iterate 3 refine evD_p ?_
  refine evD_c (hc := (c39 _ _ hm)) (k := ?_)
  iterate 4 refine evD_p ?_
  refine evD_e hK ?_; clear hK K
  refine hK2 _ ?_
  refine tr_ret ?_
  (try simp only [thenE, inBlkE])
  simp (maxSteps := 4000000) (disch := first | assumption | omega | (simp only [go_sem, *]; done) | (simp only [go_sem, *]; omega)) only [postA, postO, resV1, fzAll, go_sem, hq, Int.reduceToNat, Nat.reduceBEq, Nat.reduceEqDiff, Nat.reduceAdd, Nat.reduceMul, Nat.reduceLeDiff, Nat.reduceLT, Nat.reduceSub, ↓reduceIte, reduceCtorEq]
  all_goals (simp [keptB])

theorem c47 (r : Rw) (hm : r.coef.length ≤ maxLen) (p : Pg) : CallsA Try.prog 47 [.agg (encRw r), .ep (encPg p)] (.bool (rightB r p.vars)) := by
  have hq : True := trivial
  refine callsA_of_tr Try.func47 rfl (Nat.le_of_ble_eq_true rfl) ?_
  simp only [Try.results47, envOf, Nat.reduceAdd]
  refine tr_seq fun K1 hK1 => ?_
  refine tr_region [1, 2] rfl rfl fun K hK => ?_
  iterate 2 refine evR_p ?_
  refine evR_e hK ?_; clear hK K
  refine hK1 _ ?_
  refine tr_seq fun K2 hK2 => ?_
  refine tr_region [3] rfl rfl fun K hK => ?_
  iterate 3 refine evR_p ?_
  refine evR_c (hc := (c48 r hm _)) (k := ?_)
  refine evR_p ?_
  refine evR_e hK ?_; clear hK K
  refine hK2 _ ?_
  refine tr_ret ?_
  (try simp only [thenE, inBlkE])
  simp (maxSteps := 4000000) (disch := first | assumption | omega | (simp only [go_sem, *]; done) | (simp only [go_sem, *]; omega)) only [postA, postO, resV1, fzAll, go_sem, hq, Int.reduceToNat, Nat.reduceBEq, Nat.reduceEqDiff, Nat.reduceAdd, Nat.reduceMul, Nat.reduceLeDiff, Nat.reduceLT, Nat.reduceSub, ↓reduceIte, reduceCtorEq]
  all_goals (skip)

theorem c20 (p : Pg) (hr : p.rows.length ≤ maxLen) (hg : p.gain.length ≤ maxLen) (hc : ∀ r ∈ p.rows, r.coef.length ≤ maxLen) : CallsA Try.prog 20 [.agg (encPg p)] (.bool (validB p)) := by
  have hq : True := trivial
  refine callsA_of_tr Try.func20 rfl (Nat.le_of_ble_eq_true rfl) ?_
  simp only [Try.results20, envOf, Nat.reduceAdd]
  refine tr_seq fun K1 hK1 => ?_
  refine tr_region [1] rfl rfl fun K hK => ?_
  iterate 2 refine evR_p ?_
  refine evR_e hK ?_; clear hK K
  refine hK1 _ ?_
  refine tr_seq fun K2 hK2 => ?_
  refine tr_region [1, 3] rfl rfl fun K hK => ?_
  iterate 3 refine evR_p ?_
  refine evR_c (hc := (c46 p.rows 47 [.ep (encPg p)] (fun r => rightB r p.vars) okF_47 rfl (fun r h => c47 r (hc r h) p) hr)) (k := ?_)
  refine evR_p ?_
  refine evR_e hK ?_; clear hK K
  refine hK2 _ ?_
  refine tr_seq fun K3 hK3 => ?_
  refine tr_region [2] rfl rfl fun K hK => ?_
  iterate 2 refine evR_p ?_
  refine evR_c (hc := (c49 _ _ _)) (k := ?_)
  refine evR_p ?_
  iterate 4 refine evR_g ?_
  iterate 2 refine evR_p ?_
  refine evR_g ?_
  iterate 2 refine evR_p ?_
  iterate 6 refine evR_g ?_
  iterate 2 refine evR_p ?_
  iterate 2 refine evR_g ?_
  refine evR_gc (hc := (c50 _ hg)) (k := ?_)
  iterate 2 refine evR_p ?_
  refine evR_e hK ?_; clear hK K
  refine hK3 _ ?_
  refine tr_ret ?_
  (try simp only [thenE, inBlkE])
  simp (maxSteps := 4000000) (disch := first | assumption | omega | (simp only [go_sem, *]; done) | (simp only [go_sem, *]; omega)) only [postA, postO, resV1, fzAll, go_sem, hq, Int.reduceToNat, Nat.reduceBEq, Nat.reduceEqDiff, Nat.reduceAdd, Nat.reduceMul, Nat.reduceLeDiff, Nat.reduceLT, Nat.reduceSub, ↓reduceIte, reduceCtorEq]
  all_goals (simp [validB, Bool.and_assoc])

end Go.Proofs.Ytcphhbiehaimeaa


namespace Go.Proofs.Ytcphhbiehaimeaa
open Go.RowKit
set_option linter.unusedVariables false
set_option linter.unusedSimpArgs false
set_option maxRecDepth 100000
attribute [local go_sem] Nat.zero_add Nat.add_zero Nat.mul_one eq_self ne_eq not_true_eq_false not_false_eq_true decide_true decide_false decide_not Bool.false_eq_true List.filter_cons List.filter_nil true_and and_true beq_false beq_true Bool.not_true Bool.not_false Bool.and_true Bool.true_and Option.getD_some Option.getD_none imp_self implies_true Int.toNat_natCast List.cons_append List.nil_append List.map_cons List.map_nil List.length_cons List.length_nil List.getD_cons_zero List.getD_cons_succ List.drop_zero List.drop_succ_cons List.take_succ_cons List.take_zero
attribute [local go_sem] isE isO stpO notIn St.bare evO evDO isEff stp St.get St.slot St.put List.lookup un unL ofVal gof nth pickV pkB_false pkB_true binV unV loadV idxV fldV partV buildV fillV lenV sliV appV appR rowsV winV V.parts V.okp V.sc Mem.look_cons Mem.look_nil V.cl V.clL AObj.clo fzAll exps St.fz Mem.fz V.fz V.fzL AObj.fz Option.isSome_some Option.isSome_none Bool.or_true Bool.true_or Bool.or_false Bool.false_or false_and and_false false_or or_false arT_22 arT_23 arT_24 arT_27 arT_34 arT_35 arT_50 arT_59 arT_61 arT_64 arT_65 arT_68 boolT_24 boolT_3 boolT_38 boolT_4 boolT_79 flatT_24 flatT_3 flatT_38 flatT_4 flatT_79 intT_3 intT_93 lay_23 lay_24 lay_26 lay_27 lay_29 lay_3 lay_32 lay_35 lay_37 lay_4 lay_59 lay_68 lay_70 lay_79 lay_82 lay_88 okF_10 okF_11 okF_12 okF_13 okF_14 okF_15 okF_16 okF_17 okF_18 okF_19 okF_20 okF_21 okF_22 okF_23 okF_24 okF_25 okF_26 okF_27 okF_28 okF_29 okF_3 okF_30 okF_31 okF_32 okF_33 okF_34 okF_35 okF_36 okF_37 okF_38 okF_39 okF_4 okF_40 okF_41 okF_42 okF_43 okF_44 okF_45 okF_46 okF_47 okF_48 okF_49 okF_5 okF_50 okF_51 okF_52 okF_53 okF_54 okF_55 okF_56 okF_57 okF_58 okF_59 okF_6 okF_60 okF_61 okF_62 okF_63 okF_64 okF_65 okF_66 okF_67 okF_68 okF_69 okF_7 okF_70 okF_71 okF_72 okF_73 okF_74 okF_75 okF_8 okF_9 plT_26 plT_29 plT_37 plT_70 plT_79 slT_22 slT_23 slT_24 slT_27 slT_34 slT_35 slT_50 slT_59 slT_61 slT_64 slT_65 slT_68 stT_26_0 stT_26_1 stT_26_2 stT_26_3 stT_26_4 stT_26_5 stT_29_0 stT_29_1 stT_29_2 stT_37_0 stT_37_1 stT_37_2 stT_37_3 stT_70_0 stT_70_1 stT_70_2 stT_70_3 stT_79_0 stT_79_1 zeroT_24 zeroT_26 zeroT_29 zeroT_3 zeroT_32 zeroT_35 zeroT_37 zeroT_59 zeroT_65 zeroT_70 zeroT_79
attribute [local go_sem] List.getElem?_cons_zero List.getElem?_cons_succ List.zip_cons_cons List.zip_nil_left List.zip_nil_right Bool.false_and Bool.and_false List.length_append List.length_set List.length_replicate List.all_cons List.all_nil encI_length encI_getD encR_length encR_getD encRw encPg spl shp AObj.shp rowM isSt isRpS isRd csh AObj.csh forall_const imp_self
attribute [local simp] encI_length encR_length cellsI_length
section
attribute [local go_sem] encI_rep encI_set encI_getD
theorem c35 (p : Pg) (hg : p.gain.length ≤ 1000) (gn : Int) : CallsA Try.prog 35 [.agg (encPg p), .int .i64 gn] (.agg (encRw (goalR p gn))) := by
  have hq : True := trivial
  refine callsA_of_tr Try.func35 rfl (Nat.le_of_ble_eq_true rfl) ?_
  simp only [Try.results35, envOf, Nat.reduceAdd]
  refine tr_seq fun K1 hK1 => ?_
  refine tr_region [1, 2, 4] rfl rfl fun K hK => ?_
  iterate 2 refine evR_p ?_
  refine evR_e hK ?_; clear hK K
  refine hK1 _ ?_
  refine tr_seq fun K2 hK2 => ?_
  refine tr_region [2, 4, 5] rfl rfl fun K hK => ?_
  iterate 10 refine evR_p ?_
  refine evR_e hK ?_; clear hK K
  refine hK2 _ ?_
  refine tr_seq fun K3 hK3 => ?_
  refine tr_seq fun K4 hK4 => ?_
  refine tr_region [2, 4, 5, 6] rfl rfl fun K hK => ?_
  refine evR_p ?_
  refine evR_e hK ?_; clear hK K
  refine hK4 _ ?_
  refine tr_block ?_
  -- loop 1: live [2, 4, 5, 6]
  refine tr_loopW (fun m σ => ∃ i : Nat, i + m = p.gain.length ∧ σ = ⟨[(2, .ptr 0 0), (4, .ptr 1 0), (5, .ptr 3 0), (6, .int .i64 (i : Nat))], [(3, .cells [.int .i64 0, .int .i64 0, .int .i64 0, .int .i64 0, .own 2, .int .i64 (IntKind.i64.wrap (IntKind.i64.wrap (0 - gn) - 1))]), (2, .row 3 1 (encI (negP p.gain i))), (1, .cells [.int .i64 0, .int .i64 0, .int .i64 0, .int .i64 0, .nsl, .int .i64 0]), (0, .cells (encPg p))], 4⟩) (p.gain.length) ?_ ?_
  · exact ⟨_, Wk.refl _, 0, by omega, by rw [negP_0]; rfl⟩
  · rintro m σ ⟨i, hi, rfl⟩ KL1 hKL1
    have hnl : (negP p.gain i).length = p.gain.length := negP_length (by omega)
    refine tr_seq fun K5 hK5 => ?_
    refine tr_seq fun K6 hK6 => ?_
    refine tr_region [2, 4, 5, 6, 19] rfl rfl fun K hK => ?_
    iterate 5 refine evR_p ?_
    refine evR_e hK ?_; clear hK K
    refine hK6 _ ?_
    refine tr_condB (fun ht1 => ?_) (fun ht1 => ?_)
    · skip
      have hil : i < p.gain.length := by omega
      replace hq := And.intro hq (And.intro hil (hnl))
      refine tr_skip ?_
      (try simp only [thenE, inBlkE])
      refine hK5 _ ?_
      refine tr_seq fun K7 hK7 => ?_
      refine tr_block ?_
      refine tr_draw [] [2, 4, 5, 6] mixed rfl (by kernel_rfl) rfl fun K hK => ?_
      iterate 11 refine evD_p ?_
      refine evD_e hK ?_; clear hK K
      refine hK7 _ ?_
      refine tr_region [2, 4, 5, 6] rfl rfl fun K hK => ?_
      iterate 3 refine evR_p ?_
      refine evR_e hK ?_; clear hK K
      refine hKL1 _ ?_
      exact ⟨m - 1, _, by omega, Wk.refl _, i + 1, by omega, by rw [w64 (x := (i : Int) + 1) (by omega), negP_set hil]; rfl⟩
    · skip
      have hil : i = p.gain.length := by omega
      subst hil
      rw [negP_end]
      refine tr_exit ?_
      simp only [thenE, inBlkE, Nat.reduceEqDiff, ↓reduceIte]
      refine hK3 _ ?_
      refine tr_seq fun K8 hK8 => ?_
      refine tr_region [4] rfl rfl fun K hK => ?_
      iterate 2 refine evR_p ?_
      refine evR_e hK ?_; clear hK K
      refine hK8 _ ?_
      refine tr_ret ?_
      (try simp only [thenE, inBlkE])
      simp (maxSteps := 4000000) (disch := first | assumption | omega | (simp only [go_sem, *]; done) | (simp only [go_sem, *]; omega)) only [postA, postO, resV1, fzAll, go_sem, hq, Int.reduceToNat, Nat.reduceBEq, Nat.reduceEqDiff, Nat.reduceAdd, Nat.reduceMul, Nat.reduceLeDiff, Nat.reduceLT, Nat.reduceSub, ↓reduceIte, reduceCtorEq]
      all_goals (rfl)
end

section
attribute [local go_sem] encS_length encS_getD encSt encI_rep encI_set encI_getD
set_option maxHeartbeats 8000000 in
theorem c34a (rows2 : List Rw) (v : Nat) (hv : v ≤ 12) (hr : okRws rows2 v) (hmo : ∀ r ∈ rows2, okI r.most) (hrl : rows2.length ≤ 100000) (l : List Stp) (hll : l.length ≤ maxLen) (p : Nat) (h1 : p < l.length) (j : Nat) (h2 : l.getD p stp0 = ⟨-1, 0, 0, some (j : Nat)⟩) (h4 : j < rows2.length) (d s : Nat) : CallsA Try.prog 34 [.sl 6 (encR rows2), .sl 4 (encS l), .int .i64 (p : Nat), .sl 1 (encI (decL v d s))] (.bool (leafB rows2 v (j : Nat) d s)) := by
  unfold maxLen at hll
  have hdl := decL_length v d s
  obtain ⟨k1, k2⟩ := hr _ (getD_mem (d := rw0) h4)
  have hm := hmo _ (getD_mem (d := rw0) h4)
  unfold okI at hm
  have hw1 : IntKind.i64.wrap (0 + IntKind.i64.wrap (1 * (rows2.getD j rw0).most)) = (rows2.getD j rw0).most := by rw [Int.one_mul, w64 hm, Int.zero_add, w64 hm]
  have hw2 : ∀ k, IntKind.i64.wrap (0 + IntKind.i64.wrap (1 * (rows2.getD j rw0).coef.getD k 0)) = (rows2.getD j rw0).coef.getD k 0 := fun k => by have := coef_getD k2 k; rw [Int.one_mul, Int.zero_add, w64 (x := (rows2.getD j rw0).coef.getD k 0) (by omega), w64 (by omega)]
  have hq := And.intro h2 (And.intro hdl (And.intro hw1 (And.intro hw2 (k1))))
  refine callsA_of_tr Try.func34 rfl (Nat.le_of_ble_eq_true rfl) ?_
  simp only [Try.results34, envOf, Nat.reduceAdd]
  refine tr_seq fun K1 hK1 => ?_
  refine tr_region [0, 1, 2, 3] rfl rfl fun K hK => ?_
  refine evR_p ?_
  refine evR_e hK ?_; clear hK K
  refine hK1 _ ?_
  refine tr_seq fun K2 hK2 => ?_
  refine tr_seq fun K3 hK3 => ?_
  refine tr_region [0, 1, 2, 3, 26] rfl rfl fun K hK => ?_
  iterate 3 refine evR_p ?_
  iterate 4 refine evR_g ?_
  refine evR_p ?_
  refine evR_e hK ?_; clear hK K
  refine hK3 _ ?_
  refine tr_condB (fun ht1 => ?_) (fun ht1 => ?_)
  · skip
    (first | (exfalso; omega) | (exfalso; simp_all; done) | skip)
    all_goals
      refine tr_seq fun K4 hK4 => ?_
      refine tr_region [8] rfl rfl fun K hK => ?_
      refine evR_p ?_
      refine evR_e hK ?_; clear hK K
      refine hK4 _ ?_
      refine tr_ret ?_
      (try simp only [thenE, inBlkE])
      simp (maxSteps := 4000000) (disch := first | assumption | omega | (simp only [go_sem, *]; done) | (simp only [go_sem, *]; omega)) only [postA, postO, resV1, fzAll, go_sem, hq, Int.reduceToNat, Nat.reduceBEq, Nat.reduceEqDiff, Nat.reduceAdd, Nat.reduceMul, Nat.reduceLeDiff, Nat.reduceLT, Nat.reduceSub, ↓reduceIte, reduceCtorEq]
      all_goals (rfl)
  · skip
    (first | (exfalso; omega) | (exfalso; simp_all; done) | skip)
    all_goals
      refine tr_skip ?_
      (try simp only [thenE, inBlkE])
      refine hK2 _ ?_
      refine tr_seq fun K5 hK5 => ?_
      refine tr_region [0, 1, 2, 3, 9] rfl rfl fun K hK => ?_
      iterate 6 refine evR_p ?_
      refine evR_e hK ?_; clear hK K
      refine hK5 _ ?_
      refine tr_seq fun K6 hK6 => ?_
      refine tr_seq fun K7 hK7 => ?_
      refine tr_region [0, 1, 2, 3, 9, 33] rfl rfl fun K hK => ?_
      iterate 3 refine evR_p ?_
      refine evR_e hK ?_; clear hK K
      refine hK7 _ ?_
      refine tr_condB (fun ht2 => ?_) (fun ht2 => ?_)
      · skip
        (first | (exfalso; omega) | (exfalso; simp_all; done) | skip)
        all_goals
          refine tr_seq fun K8 hK8 => ?_
          refine tr_seq fun K9 hK9 => ?_
          refine tr_region [0, 3, 9, 53] rfl rfl fun K hK => ?_
          iterate 4 refine evR_p ?_
          iterate 3 refine evR_g ?_
          iterate 2 refine evR_p ?_
          iterate 4 refine evR_g ?_
          iterate 2 refine evR_p ?_
          iterate 4 refine evR_g ?_
          refine evR_p ?_
          refine evR_e hK ?_; clear hK K
          refine hK9 _ ?_
          refine tr_condB (fun ht3 => ?_) (fun ht3 => ?_)
          · skip
            (first | (exfalso; omega) | (exfalso; simp_all; done) | skip)
            all_goals
              refine tr_seq fun K10 hK10 => ?_
              refine tr_region [8] rfl rfl fun K hK => ?_
              refine evR_p ?_
              refine evR_e hK ?_; clear hK K
              refine hK10 _ ?_
              refine tr_ret ?_
              (try simp only [thenE, inBlkE])
              simp (maxSteps := 4000000) (disch := first | assumption | omega | (simp only [go_sem, *]; done) | (simp only [go_sem, *]; omega)) only [postA, postO, resV1, fzAll, go_sem, hq, Int.reduceToNat, Nat.reduceBEq, Nat.reduceEqDiff, Nat.reduceAdd, Nat.reduceMul, Nat.reduceLeDiff, Nat.reduceLT, Nat.reduceSub, ↓reduceIte, reduceCtorEq]
              all_goals (rfl)
          · skip
            (first | (exfalso; omega) | (exfalso; simp_all; done) | skip)
            all_goals
              refine tr_skip ?_
              (try simp only [thenE, inBlkE])
              refine hK8 _ ?_
              refine tr_seq fun K11 hK11 => ?_
              refine tr_region [0, 3, 9, 10] rfl rfl fun K hK => ?_
              refine evR_p ?_
              refine evR_e hK ?_; clear hK K
              refine hK11 _ ?_
              refine tr_seq fun K12 hK12 => ?_
              refine tr_region [0, 3, 9, 10, 11] rfl rfl fun K hK => ?_
              iterate 4 refine evR_p ?_
              refine evR_e hK ?_; clear hK K
              refine hK12 _ ?_
              refine tr_seq fun K13 hK13 => ?_
              refine tr_seq fun K14 hK14 => ?_
              refine tr_region [0, 3, 9, 10, 11, 12] rfl rfl fun K hK => ?_
              refine evR_p ?_
              refine evR_e hK ?_; clear hK K
              refine hK14 _ ?_
              refine tr_block ?_
              -- loop 1: live [0, 3, 9, 10, 11, 12]
              refine tr_loopW (fun m σ => (m = 1 ∧ σ = ⟨[(0, .sl 6 (encR rows2)), (3, .sl 1 (encI (decL v d s))), (9, .ptr 0 0), (10, .int .i64 0), (11, .own 1), (12, .int .i64 0)], [(1, .row 3 1 (encI (List.replicate v 0))), (0, .cells [.int .i64 (-1), .int .i64 0, .int .i64 0, .sl 2 [[.int .i64 (j : Nat), .int .i64 1]]])], 2⟩) ∨ (m = 0 ∧ σ = ⟨[(0, .sl 6 (encR rows2)), (3, .sl 1 (encI (decL v d s))), (9, .ptr 0 0), (10, .int .i64 (rows2.getD j rw0).most), (11, .own 1), (12, .int .i64 1)], [(1, .row 3 1 (encI (rows2.getD j rw0).coef)), (0, .cells [.int .i64 (-1), .int .i64 0, .int .i64 0, .sl 2 [[.int .i64 (j : Nat), .int .i64 1]]])], 2⟩)) (1) ?_ ?_
              · exact ⟨_, Wk.refl _, .inl ⟨rfl, rfl⟩⟩
              · rintro m σ (⟨rfl, rfl⟩ | ⟨rfl, rfl⟩) KL1 hKL1
                all_goals
                  refine tr_seq fun K15 hK15 => ?_
                  refine tr_seq fun K16 hK16 => ?_
                  refine tr_region [0, 3, 9, 10, 11, 12, 61] rfl rfl fun K hK => ?_
                  iterate 5 refine evR_p ?_
                  refine evR_e hK ?_; clear hK K
                  refine hK16 _ ?_
                  refine tr_condB (fun ht4 => ?_) (fun ht4 => ?_)
                  · skip
                    (first | (exfalso; omega) | (exfalso; simp_all; done) | skip)
                    all_goals
                      refine tr_skip ?_
                      (try simp only [thenE, inBlkE])
                      refine hK15 _ ?_
                      refine tr_seq fun K17 hK17 => ?_
                      refine tr_block ?_
                      refine tr_seq fun K18 hK18 => ?_
                      refine tr_region [0, 3, 9, 10, 11, 12, 13] rfl rfl fun K hK => ?_
                      iterate 7 refine evR_p ?_
                      refine evR_e hK ?_; clear hK K
                      refine hK18 _ ?_
                      refine tr_seq fun K19 hK19 => ?_
                      refine tr_seq fun K20 hK20 => ?_
                      refine tr_draw [] [0, 3, 9, 10, 11, 12, 13, 104] mixed rfl (by kernel_rfl) rfl fun K hK => ?_
                      iterate 4 refine evD_p ?_
                      iterate 5 refine evD_g ?_
                      iterate 2 refine evD_p ?_
                      iterate 3 refine evD_g ?_
                      iterate 2 refine evD_p ?_
                      iterate 3 refine evD_g ?_
                      iterate 2 refine evD_p ?_
                      iterate 3 refine evD_g ?_
                      iterate 10 refine evD_gf (.bool false) ?_
                      refine evD_g ?_
                      refine evD_p ?_
                      refine evD_e hK ?_; clear hK K
                      refine hK20 _ ?_
                      refine tr_condB (fun ht5 => ?_) (fun ht5 => ?_)
                      · skip
                        (first | (exfalso; omega) | (exfalso; simp_all; done) | skip)
                        all_goals
                          refine tr_seq fun K21 hK21 => ?_
                          refine tr_region [8] rfl rfl fun K hK => ?_
                          refine evR_p ?_
                          refine evR_e hK ?_; clear hK K
                          refine hK21 _ ?_
                          refine tr_ret ?_
                          (try simp only [thenE, inBlkE])
                          simp (maxSteps := 4000000) (disch := first | assumption | omega | (simp only [go_sem, *]; done) | (simp only [go_sem, *]; omega)) only [postA, postO, resV1, fzAll, go_sem, hq, Int.reduceToNat, Nat.reduceBEq, Nat.reduceEqDiff, Nat.reduceAdd, Nat.reduceMul, Nat.reduceLeDiff, Nat.reduceLT, Nat.reduceSub, ↓reduceIte, reduceCtorEq]
                          all_goals (rfl)
                      · skip
                        (first | (exfalso; omega) | (exfalso; simp_all; done) | skip)
                        all_goals
                          refine tr_skip ?_
                          (try simp only [thenE, inBlkE])
                          refine hK19 _ ?_
                          refine tr_seq fun K22 hK22 => ?_
                          refine tr_draw [] [0, 3, 9, 10, 11, 12, 13] mixed rfl (by kernel_rfl) rfl fun K hK => ?_
                          iterate 12 refine evD_p ?_
                          refine evD_e hK ?_; clear hK K
                          refine hK22 _ ?_
                          refine tr_seq fun K23 hK23 => ?_
                          refine tr_region [0, 3, 9, 10, 11, 12, 13, 14] rfl rfl fun K hK => ?_
                          refine evR_p ?_
                          refine evR_e hK ?_; clear hK K
                          refine hK23 _ ?_
                          refine tr_block ?_
                          -- loop 2: live [0, 3, 9, 10, 11, 12, 13, 14]
                          refine tr_loopW (fun m σ => ∃ k : Nat, k + m = v ∧ σ = ⟨[(0, .sl 6 (encR rows2)), (3, .sl 1 (encI (decL v d s))), (9, .ptr 0 0), (10, .int .i64 (rows2.getD j rw0).most), (11, .own 1), (12, .int .i64 0), (13, .ptr 2 0), (14, .int .i64 (k : Nat))], [(2, .cells [.int .i64 (j : Nat), .int .i64 1]), (1, .row 3 1 (encI (sumP (rows2.getD j rw0).coef v k))), (0, .cells [.int .i64 (-1), .int .i64 0, .int .i64 0, .sl 2 [[.int .i64 (j : Nat), .int .i64 1]]])], 3⟩) (v) ?_ ?_
                          · exact ⟨_, Wk.refl _, 0, by omega, by rw [sumP_0]; rfl⟩
                          · rintro m2 σ ⟨k, hk, rfl⟩ KL2 hKL2
                            have hsl : (sumP (rows2.getD j rw0).coef v k).length = v := sumP_length (by omega)
                            refine tr_seq fun K24 hK24 => ?_
                            refine tr_seq fun K25 hK25 => ?_
                            refine tr_region [0, 3, 9, 10, 11, 12, 13, 14, 119] rfl rfl fun K hK => ?_
                            iterate 4 refine evR_p ?_
                            refine evR_e hK ?_; clear hK K
                            refine hK25 _ ?_
                            refine tr_condB (fun ht6 => ?_) (fun ht6 => ?_)
                            · skip
                              (first | (exfalso; omega) | (exfalso; simp_all; done) | skip)
                              all_goals
                                have hkl : k < v := by omega
                                have hsa := sumP_at (c := (rows2.getD j rw0).coef) hkl
                                replace hq := And.intro hq (And.intro hkl (And.intro hsl (hsa)))
                                refine tr_skip ?_
                                (try simp only [thenE, inBlkE])
                                refine hK24 _ ?_
                                refine tr_seq fun K26 hK26 => ?_
                                refine tr_block ?_
                                refine tr_draw [] [0, 3, 9, 10, 11, 12, 13, 14] mixed rfl (by kernel_rfl) rfl fun K hK => ?_
                                iterate 21 refine evD_p ?_
                                refine evD_e hK ?_; clear hK K
                                refine hK26 _ ?_
                                refine tr_region [0, 3, 9, 10, 11, 12, 13, 14] rfl rfl fun K hK => ?_
                                iterate 3 refine evR_p ?_
                                refine evR_e hK ?_; clear hK K
                                refine hKL2 _ ?_
                                exact ⟨m2 - 1, _, by omega, Wk.refl _, k + 1, by omega, by rw [w64 (x := (k : Int) + 1) (by omega), sumP_set hkl]; rfl⟩
                            · skip
                              (first | (exfalso; omega) | (exfalso; simp_all; done) | skip)
                              all_goals
                                have hkl : v = k := by omega
                                subst hkl
                                refine tr_exit ?_
                                simp only [thenE, inBlkE, Nat.reduceEqDiff, ↓reduceIte]
                                refine hK17 _ ?_
                                refine tr_region [0, 3, 9, 10, 11, 12] rfl rfl fun K hK => ?_
                                iterate 3 refine evR_p ?_
                                refine evR_e hK ?_; clear hK K
                                refine hKL1 _ ?_
                                exact ⟨0, _, by omega, Wk.cut 2 rfl, .inr ⟨rfl, by rw [sumP_end k1]; rfl⟩⟩
                  · skip
                    (first | (exfalso; omega) | (exfalso; simp_all; done) | skip)
                    all_goals
                      refine tr_exit ?_
                      simp only [thenE, inBlkE, Nat.reduceEqDiff, ↓reduceIte]
                      refine hK13 _ ?_
                      refine tr_seq fun K27 hK27 => ?_
                      refine tr_region [3, 10, 11, 15] rfl rfl fun K hK => ?_
                      refine evR_p ?_
                      refine evR_e hK ?_; clear hK K
                      refine hK27 _ ?_
                      refine tr_seq fun K28 hK28 => ?_
                      refine tr_seq fun K29 hK29 => ?_
                      refine tr_region [3, 10, 11, 15, 16] rfl rfl fun K hK => ?_
                      refine evR_p ?_
                      refine evR_e hK ?_; clear hK K
                      refine hK29 _ ?_
                      refine tr_block ?_
                      -- loop 3: live [3, 10, 11, 15, 16]
                      refine tr_loopW (fun m σ => ∃ k : Nat, k + m = v ∧ σ = ⟨[(3, .sl 1 (encI (decL v d s))), (10, .int .i64 (rows2.getD j rw0).most), (11, .own 1), (15, .int .i64 (lfG (rows2.getD j rw0).coef (decL v d s) k)), (16, .int .i64 (k : Nat))], [(1, .row 3 1 (encI (rows2.getD j rw0).coef)), (0, .cells [.int .i64 (-1), .int .i64 0, .int .i64 0, .sl 2 [[.int .i64 (j : Nat), .int .i64 1]]])], 2⟩) (v) ?_ ?_
                      · exact ⟨_, Wk.refl _, 0, by omega, rfl⟩
                      · rintro m3 σ ⟨k, hk, rfl⟩ KL3 hKL3
                        refine tr_seq fun K30 hK30 => ?_
                        refine tr_seq fun K31 hK31 => ?_
                        refine tr_region [3, 10, 11, 15, 16, 145] rfl rfl fun K hK => ?_
                        iterate 4 refine evR_p ?_
                        refine evR_e hK ?_; clear hK K
                        refine hK31 _ ?_
                        refine tr_condB (fun ht7 => ?_) (fun ht7 => ?_)
                        · skip
                          (first | (exfalso; omega) | (exfalso; simp_all; done) | skip)
                          all_goals
                            have hkl : k < v := by omega
                            replace hq := And.intro hq (hkl)
                            refine tr_skip ?_
                            (try simp only [thenE, inBlkE])
                            refine hK30 _ ?_
                            refine tr_seq fun K32 hK32 => ?_
                            refine tr_block ?_
                            refine tr_seq fun K33 hK33 => ?_
                            refine tr_region [3, 10, 11, 15, 16, 166] rfl rfl fun K hK => ?_
                            iterate 6 refine evR_p ?_
                            iterate 12 refine evR_g ?_
                            refine evR_p ?_
                            refine evR_e hK ?_; clear hK K
                            refine hK33 _ ?_
                            refine tr_condB (fun ht8 => ?_) (fun ht8 => ?_)
                            · skip
                              (first | (exfalso; omega) | (exfalso; simp_all; done) | skip)
                              all_goals
                                refine tr_region [3, 10, 11, 15, 16] rfl rfl fun K hK => ?_
                                iterate 7 refine evR_p ?_
                                refine evR_e hK ?_; clear hK K
                                refine hK32 _ ?_
                                refine tr_region [3, 10, 11, 15, 16] rfl rfl fun K hK => ?_
                                iterate 3 refine evR_p ?_
                                refine evR_e hK ?_; clear hK K
                                refine hKL3 _ ?_
                                first
                                  | exact ⟨m3 - 1, _, by omega, Wk.refl _, k + 1, by omega, by rw [w64 (x := (k : Int) + 1) (by omega), lfG_t (by assumption)]; rfl⟩
                                  | exact ⟨m3 - 1, _, by omega, Wk.refl _, k + 1, by omega, by rw [w64 (x := (k : Int) + 1) (by omega), lfG_f (by assumption)]; rfl⟩
                            · skip
                              (first | (exfalso; omega) | (exfalso; simp_all; done) | skip)
                              all_goals
                                refine tr_skip ?_
                                (try simp only [thenE, inBlkE])
                                refine hK32 _ ?_
                                refine tr_region [3, 10, 11, 15, 16] rfl rfl fun K hK => ?_
                                iterate 3 refine evR_p ?_
                                refine evR_e hK ?_; clear hK K
                                refine hKL3 _ ?_
                                first
                                  | exact ⟨m3 - 1, _, by omega, Wk.refl _, k + 1, by omega, by rw [w64 (x := (k : Int) + 1) (by omega), lfG_t (by assumption)]; rfl⟩
                                  | exact ⟨m3 - 1, _, by omega, Wk.refl _, k + 1, by omega, by rw [w64 (x := (k : Int) + 1) (by omega), lfG_f (by assumption)]; rfl⟩
                        · skip
                          (first | (exfalso; omega) | (exfalso; simp_all; done) | skip)
                          all_goals
                            have hkl : v = k := by omega
                            subst hkl
                            refine tr_exit ?_
                            simp only [thenE, inBlkE, Nat.reduceEqDiff, ↓reduceIte]
                            refine hK28 _ ?_
                            refine tr_seq fun K34 hK34 => ?_
                            refine tr_region [8] rfl rfl fun K hK => ?_
                            iterate 4 refine evR_p ?_
                            refine evR_e hK ?_; clear hK K
                            refine hK34 _ ?_
                            refine tr_ret ?_
                            (try simp only [thenE, inBlkE])
                            simp (maxSteps := 4000000) (disch := first | assumption | omega | (simp only [go_sem, *]; done) | (simp only [go_sem, *]; omega)) only [postA, postO, resV1, fzAll, go_sem, hq, Int.reduceToNat, Nat.reduceBEq, Nat.reduceEqDiff, Nat.reduceAdd, Nat.reduceMul, Nat.reduceLeDiff, Nat.reduceLT, Nat.reduceSub, ↓reduceIte, reduceCtorEq]
                            all_goals (rfl)
      · skip
        (first | (exfalso; omega) | (exfalso; simp_all; done) | skip)
        all_goals
          refine tr_skip ?_
          (try simp only [thenE, inBlkE])
          refine hK6 _ ?_
          refine tr_seq fun K35 hK35 => ?_
          refine tr_seq fun K36 hK36 => ?_
          refine tr_region [0, 1, 3, 9, 203] rfl rfl fun K hK => ?_
          iterate 4 refine evR_p ?_
          iterate 5 refine evR_g ?_
          iterate 2 refine evR_p ?_
          iterate 4 refine evR_g ?_
          iterate 2 refine evR_p ?_
          iterate 4 refine evR_g ?_
          iterate 2 refine evR_p ?_
          iterate 4 refine evR_g ?_
          refine evR_p ?_
          refine evR_e hK ?_; clear hK K
          refine hK36 _ ?_
          refine tr_condB (fun ht9 => ?_) (fun ht9 => ?_)
          · skip
            (first | (exfalso; omega) | (exfalso; simp_all; done) | skip)
            all_goals
              refine tr_seq fun K37 hK37 => ?_
              refine tr_region [8] rfl rfl fun K hK => ?_
              refine evR_p ?_
              refine evR_e hK ?_; clear hK K
              refine hK37 _ ?_
              refine tr_ret ?_
              (try simp only [thenE, inBlkE])
              simp (maxSteps := 4000000) (disch := first | assumption | omega | (simp only [go_sem, *]; done) | (simp only [go_sem, *]; omega)) only [postA, postO, resV1, fzAll, go_sem, hq, Int.reduceToNat, Nat.reduceBEq, Nat.reduceEqDiff, Nat.reduceAdd, Nat.reduceMul, Nat.reduceLeDiff, Nat.reduceLT, Nat.reduceSub, ↓reduceIte, reduceCtorEq]
              all_goals (rfl)
          · skip
            (first | (exfalso; omega) | (exfalso; simp_all; done) | skip)
            all_goals
              refine tr_skip ?_
              (try simp only [thenE, inBlkE])
              refine hK35 _ ?_
              refine tr_seq fun K38 hK38 => ?_
              refine tr_seq fun K39 hK39 => ?_
              refine tr_region [0, 1, 3, 9, 209] rfl rfl fun K hK => ?_
              iterate 6 refine evR_p ?_
              refine evR_e hK ?_; clear hK K
              refine hK39 _ ?_
              refine tr_condB (fun ht10 => ?_) (fun ht10 => ?_)
              · skip
                (first | (exfalso; omega) | (exfalso; simp_all; done) | skip)
                all_goals
                  refine tr_seq fun K40 hK40 => ?_
                  refine tr_region [8] rfl rfl fun K hK => ?_
                  refine evR_p ?_
                  refine evR_e hK ?_; clear hK K
                  refine hK40 _ ?_
                  refine tr_ret ?_
                  (try simp only [thenE, inBlkE])
                  simp (maxSteps := 4000000) (disch := first | assumption | omega | (simp only [go_sem, *]; done) | (simp only [go_sem, *]; omega)) only [postA, postO, resV1, fzAll, go_sem, hq, Int.reduceToNat, Nat.reduceBEq, Nat.reduceEqDiff, Nat.reduceAdd, Nat.reduceMul, Nat.reduceLeDiff, Nat.reduceLT, Nat.reduceSub, ↓reduceIte, reduceCtorEq]
                  all_goals (rfl)
              · skip
                (first | (exfalso; omega) | (exfalso; simp_all; done) | skip)
                all_goals
                  refine tr_skip ?_
                  (try simp only [thenE, inBlkE])
                  refine hK38 _ ?_
                  refine tr_seq fun K41 hK41 => ?_
                  refine tr_region [0, 1, 3, 9, 17] rfl rfl fun K hK => ?_
                  refine evR_bo ?_
                  iterate 3 refine evR_p ?_
                  refine evR_e hK ?_; clear hK K
                  refine hK41 _ ?_
                  refine tr_seq fun K42 hK42 => ?_
                  refine tr_region [0, 1, 3, 9, 17] rfl rfl fun K hK => ?_
                  iterate 5 refine evR_p ?_
                  refine evR_e hK ?_; clear hK K
                  refine hK42 _ ?_
                  refine tr_seq fun K43 hK43 => ?_
                  refine tr_region [0, 1, 9, 17, 18] rfl rfl fun K hK => ?_
                  refine evR_bo ?_
                  iterate 3 refine evR_p ?_
                  refine evR_e hK ?_; clear hK K
                  refine hK43 _ ?_
                  refine tr_seq fun K44 hK44 => ?_
                  refine tr_region [0, 1, 9, 17, 18] rfl rfl fun K hK => ?_
                  iterate 5 refine evR_p ?_
                  refine evR_e hK ?_; clear hK K
                  refine hK44 _ ?_
                  refine tr_seq fun K45 hK45 => ?_
                  refine tr_region [8] rfl rfl fun K hK => ?_
                  iterate 5 refine evR_p ?_
                  refine evR_c (hc := c34) (k := ?_)
                  refine evR_p ?_
                  iterate 5 refine evR_g ?_
                  refine evR_gc (hc := c34) (k := ?_)
                  iterate 2 refine evR_p ?_
                  refine evR_e hK ?_; clear hK K
                  refine hK45 _ ?_
                  refine tr_ret ?_
                  (try simp only [thenE, inBlkE])
                  simp (maxSteps := 4000000) (disch := first | assumption | omega | (simp only [go_sem, *]; done) | (simp only [go_sem, *]; omega)) only [postA, postO, resV1, fzAll, go_sem, hq, Int.reduceToNat, Nat.reduceBEq, Nat.reduceEqDiff, Nat.reduceAdd, Nat.reduceMul, Nat.reduceLeDiff, Nat.reduceLT, Nat.reduceSub, ↓reduceIte, reduceCtorEq]
                  all_goals (rfl)
end

section
attribute [local go_sem] encS_length encS_getD encSt encI_set encI_getD List.replicate_zero
set_option maxHeartbeats 8000000 in
theorem c34b (rows2 : List Rw) (l : List Stp) (hll : l.length ≤ maxLen) (p : Nat) (h1 : p < l.length) (dd no yes : Nat) (h2 : l.getD p stp0 = ⟨(dd : Nat), (no : Nat), (yes : Nat), none⟩) (hno : p < no) (hyes : p < yes) (dec : List Int) (hdl : dec.length ≤ 1000) (hdd : dd < dec.length) (hdn : dec.getD dd 0 < 0) (b1 b2 : Bool) (g1 : CallsA Try.prog 34 [.sl 6 (encR rows2), .sl 4 (encS l), .int .i64 (no : Nat), .sl 1 (encI (dec.set dd 0))] (.bool b1)) (g2 : CallsA Try.prog 34 [.sl 6 (encR rows2), .sl 4 (encS l), .int .i64 (yes : Nat), .sl 1 (encI (dec.set dd 1))] (.bool b2)) : CallsA Try.prog 34 [.sl 6 (encR rows2), .sl 4 (encS l), .int .i64 (p : Nat), .sl 1 (encI dec)] (.bool (b1 && b2)) := by
  unfold maxLen at hll
  have hq := h2
  refine callsA_of_tr Try.func34 rfl (Nat.le_of_ble_eq_true rfl) ?_
  simp only [Try.results34, envOf, Nat.reduceAdd]
  refine tr_seq fun K1 hK1 => ?_
  refine tr_region [0, 1, 2, 3] rfl rfl fun K hK => ?_
  refine evR_p ?_
  refine evR_e hK ?_; clear hK K
  refine hK1 _ ?_
  refine tr_seq fun K2 hK2 => ?_
  refine tr_seq fun K3 hK3 => ?_
  refine tr_region [0, 1, 2, 3, 26] rfl rfl fun K hK => ?_
  iterate 3 refine evR_p ?_
  iterate 4 refine evR_g ?_
  refine evR_p ?_
  refine evR_e hK ?_; clear hK K
  refine hK3 _ ?_
  refine tr_condB (fun ht1 => ?_) (fun ht1 => ?_)
  · skip
    (first | (exfalso; omega) | (exfalso; simp_all; done) | skip)
    all_goals
      refine tr_seq fun K4 hK4 => ?_
      refine tr_region [8] rfl rfl fun K hK => ?_
      refine evR_p ?_
      refine evR_e hK ?_; clear hK K
      refine hK4 _ ?_
      refine tr_ret ?_
      (try simp only [thenE, inBlkE])
      simp (maxSteps := 4000000) (disch := first | assumption | omega | (simp only [go_sem, *]; done) | (simp only [go_sem, *]; omega)) only [postA, postO, resV1, fzAll, go_sem, hq, Int.reduceToNat, Nat.reduceBEq, Nat.reduceEqDiff, Nat.reduceAdd, Nat.reduceMul, Nat.reduceLeDiff, Nat.reduceLT, Nat.reduceSub, ↓reduceIte, reduceCtorEq]
      all_goals (rfl)
  · skip
    (first | (exfalso; omega) | (exfalso; simp_all; done) | skip)
    all_goals
      refine tr_skip ?_
      (try simp only [thenE, inBlkE])
      refine hK2 _ ?_
      refine tr_seq fun K5 hK5 => ?_
      refine tr_region [0, 1, 2, 3, 9] rfl rfl fun K hK => ?_
      iterate 6 refine evR_p ?_
      refine evR_e hK ?_; clear hK K
      refine hK5 _ ?_
      refine tr_seq fun K6 hK6 => ?_
      refine tr_seq fun K7 hK7 => ?_
      refine tr_region [0, 1, 2, 3, 9, 33] rfl rfl fun K hK => ?_
      iterate 3 refine evR_p ?_
      refine evR_e hK ?_; clear hK K
      refine hK7 _ ?_
      refine tr_condB (fun ht2 => ?_) (fun ht2 => ?_)
      · skip
        (first | (exfalso; omega) | (exfalso; simp_all; done) | skip)
        all_goals
          refine tr_seq fun K8 hK8 => ?_
          refine tr_seq fun K9 hK9 => ?_
          refine tr_region [0, 3, 9, 53] rfl rfl fun K hK => ?_
          iterate 4 refine evR_p ?_
          iterate 3 refine evR_g ?_
          iterate 2 refine evR_p ?_
          iterate 4 refine evR_g ?_
          iterate 2 refine evR_p ?_
          iterate 4 refine evR_g ?_
          refine evR_p ?_
          refine evR_e hK ?_; clear hK K
          refine hK9 _ ?_
          refine tr_condB (fun ht3 => ?_) (fun ht3 => ?_)
          · skip
            (first | (exfalso; omega) | (exfalso; simp_all; done) | skip)
            all_goals
              refine tr_seq fun K10 hK10 => ?_
              refine tr_region [8] rfl rfl fun K hK => ?_
              refine evR_p ?_
              refine evR_e hK ?_; clear hK K
              refine hK10 _ ?_
              refine tr_ret ?_
              (try simp only [thenE, inBlkE])
              simp (maxSteps := 4000000) (disch := first | assumption | omega | (simp only [go_sem, *]; done) | (simp only [go_sem, *]; omega)) only [postA, postO, resV1, fzAll, go_sem, hq, Int.reduceToNat, Nat.reduceBEq, Nat.reduceEqDiff, Nat.reduceAdd, Nat.reduceMul, Nat.reduceLeDiff, Nat.reduceLT, Nat.reduceSub, ↓reduceIte, reduceCtorEq]
              all_goals (rfl)
          · skip
            (first | (exfalso; omega) | (exfalso; simp_all; done) | skip)
            all_goals
              refine tr_skip ?_
              (try simp only [thenE, inBlkE])
              refine hK8 _ ?_
              refine tr_seq fun K11 hK11 => ?_
              refine tr_region [0, 3, 9, 10] rfl rfl fun K hK => ?_
              refine evR_p ?_
              refine evR_e hK ?_; clear hK K
              refine hK11 _ ?_
              refine tr_seq fun K12 hK12 => ?_
              refine tr_region [0, 3, 9, 10, 11] rfl rfl fun K hK => ?_
              iterate 4 refine evR_p ?_
              refine evR_e hK ?_; clear hK K
              refine hK12 _ ?_
              refine tr_seq fun K13 hK13 => ?_
              refine tr_seq fun K14 hK14 => ?_
              refine tr_region [0, 3, 9, 10, 11, 12] rfl rfl fun K hK => ?_
              refine evR_p ?_
              refine evR_e hK ?_; clear hK K
              refine hK14 _ ?_
              refine tr_block ?_
              -- loop 1: live [0, 3, 9, 10, 11, 12]
              refine tr_loopW (fun m σ => (m = 1 ∧ σ = ⟨[(0, .sl 6 (encR rows2)), (3, .sl 1 (encI (decL v d s))), (9, .ptr 0 0), (10, .int .i64 0), (11, .own 1), (12, .int .i64 0)], [(1, .row 3 1 (encI (List.replicate v 0))), (0, .cells [.int .i64 (-1), .int .i64 0, .int .i64 0, .sl 2 [[.int .i64 (j : Nat), .int .i64 1]]])], 2⟩) ∨ (m = 0 ∧ σ = ⟨[(0, .sl 6 (encR rows2)), (3, .sl 1 (encI (decL v d s))), (9, .ptr 0 0), (10, .int .i64 (rows2.getD j rw0).most), (11, .own 1), (12, .int .i64 1)], [(1, .row 3 1 (encI (rows2.getD j rw0).coef)), (0, .cells [.int .i64 (-1), .int .i64 0, .int .i64 0, .sl 2 [[.int .i64 (j : Nat), .int .i64 1]]])], 2⟩)) (1) ?_ ?_
              · exact ⟨_, Wk.refl _, .inl ⟨rfl, rfl⟩⟩
              · rintro m σ (⟨rfl, rfl⟩ | ⟨rfl, rfl⟩) KL1 hKL1
                all_goals
                  refine tr_seq fun K15 hK15 => ?_
                  refine tr_seq fun K16 hK16 => ?_
                  refine tr_region [0, 3, 9, 10, 11, 12, 61] rfl rfl fun K hK => ?_
                  iterate 5 refine evR_p ?_
                  refine evR_e hK ?_; clear hK K
                  refine hK16 _ ?_
                  refine tr_condB (fun ht4 => ?_) (fun ht4 => ?_)
                  · skip
                    (first | (exfalso; omega) | (exfalso; simp_all; done) | skip)
                    all_goals
                      refine tr_skip ?_
                      (try simp only [thenE, inBlkE])
                      refine hK15 _ ?_
                      refine tr_seq fun K17 hK17 => ?_
                      refine tr_block ?_
                      refine tr_seq fun K18 hK18 => ?_
                      refine tr_region [0, 3, 9, 10, 11, 12, 13] rfl rfl fun K hK => ?_
                      iterate 7 refine evR_p ?_
                      refine evR_e hK ?_; clear hK K
                      refine hK18 _ ?_
                      refine tr_seq fun K19 hK19 => ?_
                      refine tr_seq fun K20 hK20 => ?_
                      refine tr_draw [] [0, 3, 9, 10, 11, 12, 13, 104] mixed rfl (by kernel_rfl) rfl fun K hK => ?_
                      iterate 4 refine evD_p ?_
                      iterate 5 refine evD_g ?_
                      iterate 2 refine evD_p ?_
                      iterate 3 refine evD_g ?_
                      iterate 2 refine evD_p ?_
                      iterate 3 refine evD_g ?_
                      iterate 2 refine evD_p ?_
                      iterate 3 refine evD_g ?_
                      iterate 10 refine evD_gf (.bool false) ?_
                      refine evD_g ?_
                      refine evD_p ?_
                      refine evD_e hK ?_; clear hK K
                      refine hK20 _ ?_
                      refine tr_condB (fun ht5 => ?_) (fun ht5 => ?_)
                      · skip
                        (first | (exfalso; omega) | (exfalso; simp_all; done) | skip)
                        all_goals
                          refine tr_seq fun K21 hK21 => ?_
                          refine tr_region [8] rfl rfl fun K hK => ?_
                          refine evR_p ?_
                          refine evR_e hK ?_; clear hK K
                          refine hK21 _ ?_
                          refine tr_ret ?_
                          (try simp only [thenE, inBlkE])
                          simp (maxSteps := 4000000) (disch := first | assumption | omega | (simp only [go_sem, *]; done) | (simp only [go_sem, *]; omega)) only [postA, postO, resV1, fzAll, go_sem, hq, Int.reduceToNat, Nat.reduceBEq, Nat.reduceEqDiff, Nat.reduceAdd, Nat.reduceMul, Nat.reduceLeDiff, Nat.reduceLT, Nat.reduceSub, ↓reduceIte, reduceCtorEq]
                          all_goals (rfl)
                      · skip
                        (first | (exfalso; omega) | (exfalso; simp_all; done) | skip)
                        all_goals
                          refine tr_skip ?_
                          (try simp only [thenE, inBlkE])
                          refine hK19 _ ?_
                          refine tr_seq fun K22 hK22 => ?_
                          refine tr_draw [] [0, 3, 9, 10, 11, 12, 13] mixed rfl (by kernel_rfl) rfl fun K hK => ?_
                          iterate 12 refine evD_p ?_
                          refine evD_e hK ?_; clear hK K
                          refine hK22 _ ?_
                          refine tr_seq fun K23 hK23 => ?_
                          refine tr_region [0, 3, 9, 10, 11, 12, 13, 14] rfl rfl fun K hK => ?_
                          refine evR_p ?_
                          refine evR_e hK ?_; clear hK K
                          refine hK23 _ ?_
                          refine tr_block ?_
                          -- loop 2: live [0, 3, 9, 10, 11, 12, 13, 14]
                          refine tr_loopW (fun m σ => ∃ k : Nat, k + m = v ∧ σ = ⟨[(0, .sl 6 (encR rows2)), (3, .sl 1 (encI (decL v d s))), (9, .ptr 0 0), (10, .int .i64 (rows2.getD j rw0).most), (11, .own 1), (12, .int .i64 0), (13, .ptr 2 0), (14, .int .i64 (k : Nat))], [(2, .cells [.int .i64 (j : Nat), .int .i64 1]), (1, .row 3 1 (encI (sumP (rows2.getD j rw0).coef v k))), (0, .cells [.int .i64 (-1), .int .i64 0, .int .i64 0, .sl 2 [[.int .i64 (j : Nat), .int .i64 1]]])], 3⟩) (v) ?_ ?_
                          · exact ⟨_, Wk.refl _, 0, by omega, by rw [sumP_0]; rfl⟩
                          · rintro m2 σ ⟨k, hk, rfl⟩ KL2 hKL2
                            have hsl : (sumP (rows2.getD j rw0).coef v k).length = v := sumP_length (by omega)
                            refine tr_seq fun K24 hK24 => ?_
                            refine tr_seq fun K25 hK25 => ?_
                            refine tr_region [0, 3, 9, 10, 11, 12, 13, 14, 119] rfl rfl fun K hK => ?_
                            iterate 4 refine evR_p ?_
                            refine evR_e hK ?_; clear hK K
                            refine hK25 _ ?_
                            refine tr_condB (fun ht6 => ?_) (fun ht6 => ?_)
                            · skip
                              (first | (exfalso; omega) | (exfalso; simp_all; done) | skip)
                              all_goals
                                have hkl : k < v := by omega
                                have hsa := sumP_at (c := (rows2.getD j rw0).coef) hkl
                                replace hq := And.intro hq (And.intro hkl (And.intro hsl (hsa)))
                                refine tr_skip ?_
                                (try simp only [thenE, inBlkE])
                                refine hK24 _ ?_
                                refine tr_seq fun K26 hK26 => ?_
                                refine tr_block ?_
                                refine tr_draw [] [0, 3, 9, 10, 11, 12, 13, 14] mixed rfl (by kernel_rfl) rfl fun K hK => ?_
                                iterate 21 refine evD_p ?_
                                refine evD_e hK ?_; clear hK K
                                refine hK26 _ ?_
                                refine tr_region [0, 3, 9, 10, 11, 12, 13, 14] rfl rfl fun K hK => ?_
                                iterate 3 refine evR_p ?_
                                refine evR_e hK ?_; clear hK K
                                refine hKL2 _ ?_
                                exact ⟨m2 - 1, _, by omega, Wk.refl _, k + 1, by omega, by rw [w64 (x := (k : Int) + 1) (by omega), sumP_set hkl]; rfl⟩
                            · skip
                              (first | (exfalso; omega) | (exfalso; simp_all; done) | skip)
                              all_goals
                                have hkl : v = k := by omega
                                subst hkl
                                refine tr_exit ?_
                                simp only [thenE, inBlkE, Nat.reduceEqDiff, ↓reduceIte]
                                refine hK17 _ ?_
                                refine tr_region [0, 3, 9, 10, 11, 12] rfl rfl fun K hK => ?_
                                iterate 3 refine evR_p ?_
                                refine evR_e hK ?_; clear hK K
                                refine hKL1 _ ?_
                                exact ⟨0, _, by omega, Wk.cut 2 rfl, .inr ⟨rfl, by rw [sumP_end k1]; rfl⟩⟩
                  · skip
                    (first | (exfalso; omega) | (exfalso; simp_all; done) | skip)
                    all_goals
                      refine tr_exit ?_
                      simp only [thenE, inBlkE, Nat.reduceEqDiff, ↓reduceIte]
                      refine hK13 _ ?_
                      refine tr_seq fun K27 hK27 => ?_
                      refine tr_region [3, 10, 11, 15] rfl rfl fun K hK => ?_
                      refine evR_p ?_
                      refine evR_e hK ?_; clear hK K
                      refine hK27 _ ?_
                      refine tr_seq fun K28 hK28 => ?_
                      refine tr_seq fun K29 hK29 => ?_
                      refine tr_region [3, 10, 11, 15, 16] rfl rfl fun K hK => ?_
                      refine evR_p ?_
                      refine evR_e hK ?_; clear hK K
                      refine hK29 _ ?_
                      refine tr_block ?_
                      -- loop 3: live [3, 10, 11, 15, 16]
                      refine tr_loopW (fun m σ => ∃ k : Nat, k + m = v ∧ σ = ⟨[(3, .sl 1 (encI (decL v d s))), (10, .int .i64 (rows2.getD j rw0).most), (11, .own 1), (15, .int .i64 (lfG (rows2.getD j rw0).coef (decL v d s) k)), (16, .int .i64 (k : Nat))], [(1, .row 3 1 (encI (rows2.getD j rw0).coef)), (0, .cells [.int .i64 (-1), .int .i64 0, .int .i64 0, .sl 2 [[.int .i64 (j : Nat), .int .i64 1]]])], 2⟩) (v) ?_ ?_
                      · exact ⟨_, Wk.refl _, 0, by omega, rfl⟩
                      · rintro m3 σ ⟨k, hk, rfl⟩ KL3 hKL3
                        refine tr_seq fun K30 hK30 => ?_
                        refine tr_seq fun K31 hK31 => ?_
                        refine tr_region [3, 10, 11, 15, 16, 145] rfl rfl fun K hK => ?_
                        iterate 4 refine evR_p ?_
                        refine evR_e hK ?_; clear hK K
                        refine hK31 _ ?_
                        refine tr_condB (fun ht7 => ?_) (fun ht7 => ?_)
                        · skip
                          (first | (exfalso; omega) | (exfalso; simp_all; done) | skip)
                          all_goals
                            have hkl : k < v := by omega
                            replace hq := And.intro hq (hkl)
                            refine tr_skip ?_
                            (try simp only [thenE, inBlkE])
                            refine hK30 _ ?_
                            refine tr_seq fun K32 hK32 => ?_
                            refine tr_block ?_
                            refine tr_seq fun K33 hK33 => ?_
                            refine tr_region [3, 10, 11, 15, 16, 166] rfl rfl fun K hK => ?_
                            iterate 6 refine evR_p ?_
                            iterate 12 refine evR_g ?_
                            refine evR_p ?_
                            refine evR_e hK ?_; clear hK K
                            refine hK33 _ ?_
                            refine tr_condB (fun ht8 => ?_) (fun ht8 => ?_)
                            · skip
                              (first | (exfalso; omega) | (exfalso; simp_all; done) | skip)
                              all_goals
                                refine tr_region [3, 10, 11, 15, 16] rfl rfl fun K hK => ?_
                                iterate 7 refine evR_p ?_
                                refine evR_e hK ?_; clear hK K
                                refine hK32 _ ?_
                                refine tr_region [3, 10, 11, 15, 16] rfl rfl fun K hK => ?_
                                iterate 3 refine evR_p ?_
                                refine evR_e hK ?_; clear hK K
                                refine hKL3 _ ?_
                                first
                                  | exact ⟨m3 - 1, _, by omega, Wk.refl _, k + 1, by omega, by rw [w64 (x := (k : Int) + 1) (by omega), lfG_t (by assumption)]; rfl⟩
                                  | exact ⟨m3 - 1, _, by omega, Wk.refl _, k + 1, by omega, by rw [w64 (x := (k : Int) + 1) (by omega), lfG_f (by assumption)]; rfl⟩
                            · skip
                              (first | (exfalso; omega) | (exfalso; simp_all; done) | skip)
                              all_goals
                                refine tr_skip ?_
                                (try simp only [thenE, inBlkE])
                                refine hK32 _ ?_
                                refine tr_region [3, 10, 11, 15, 16] rfl rfl fun K hK => ?_
                                iterate 3 refine evR_p ?_
                                refine evR_e hK ?_; clear hK K
                                refine hKL3 _ ?_
                                first
                                  | exact ⟨m3 - 1, _, by omega, Wk.refl _, k + 1, by omega, by rw [w64 (x := (k : Int) + 1) (by omega), lfG_t (by assumption)]; rfl⟩
                                  | exact ⟨m3 - 1, _, by omega, Wk.refl _, k + 1, by omega, by rw [w64 (x := (k : Int) + 1) (by omega), lfG_f (by assumption)]; rfl⟩
                        · skip
                          (first | (exfalso; omega) | (exfalso; simp_all; done) | skip)
                          all_goals
                            have hkl : v = k := by omega
                            subst hkl
                            refine tr_exit ?_
                            simp only [thenE, inBlkE, Nat.reduceEqDiff, ↓reduceIte]
                            refine hK28 _ ?_
                            refine tr_seq fun K34 hK34 => ?_
                            refine tr_region [8] rfl rfl fun K hK => ?_
                            iterate 4 refine evR_p ?_
                            refine evR_e hK ?_; clear hK K
                            refine hK34 _ ?_
                            refine tr_ret ?_
                            (try simp only [thenE, inBlkE])
                            simp (maxSteps := 4000000) (disch := first | assumption | omega | (simp only [go_sem, *]; done) | (simp only [go_sem, *]; omega)) only [postA, postO, resV1, fzAll, go_sem, hq, Int.reduceToNat, Nat.reduceBEq, Nat.reduceEqDiff, Nat.reduceAdd, Nat.reduceMul, Nat.reduceLeDiff, Nat.reduceLT, Nat.reduceSub, ↓reduceIte, reduceCtorEq]
                            all_goals (rfl)
      · skip
        (first | (exfalso; omega) | (exfalso; simp_all; done) | skip)
        all_goals
          refine tr_skip ?_
          (try simp only [thenE, inBlkE])
          refine hK6 _ ?_
          refine tr_seq fun K35 hK35 => ?_
          refine tr_seq fun K36 hK36 => ?_
          refine tr_region [0, 1, 3, 9, 203] rfl rfl fun K hK => ?_
          iterate 4 refine evR_p ?_
          iterate 5 refine evR_g ?_
          iterate 2 refine evR_p ?_
          iterate 4 refine evR_g ?_
          iterate 2 refine evR_p ?_
          iterate 4 refine evR_g ?_
          iterate 2 refine evR_p ?_
          iterate 4 refine evR_g ?_
          refine evR_p ?_
          refine evR_e hK ?_; clear hK K
          refine hK36 _ ?_
          refine tr_condB (fun ht9 => ?_) (fun ht9 => ?_)
          · skip
            (first | (exfalso; omega) | (exfalso; simp_all; done) | skip)
            all_goals
              refine tr_seq fun K37 hK37 => ?_
              refine tr_region [8] rfl rfl fun K hK => ?_
              refine evR_p ?_
              refine evR_e hK ?_; clear hK K
              refine hK37 _ ?_
              refine tr_ret ?_
              (try simp only [thenE, inBlkE])
              simp (maxSteps := 4000000) (disch := first | assumption | omega | (simp only [go_sem, *]; done) | (simp only [go_sem, *]; omega)) only [postA, postO, resV1, fzAll, go_sem, hq, Int.reduceToNat, Nat.reduceBEq, Nat.reduceEqDiff, Nat.reduceAdd, Nat.reduceMul, Nat.reduceLeDiff, Nat.reduceLT, Nat.reduceSub, ↓reduceIte, reduceCtorEq]
              all_goals (rfl)
          · skip
            (first | (exfalso; omega) | (exfalso; simp_all; done) | skip)
            all_goals
              refine tr_skip ?_
              (try simp only [thenE, inBlkE])
              refine hK35 _ ?_
              refine tr_seq fun K38 hK38 => ?_
              refine tr_seq fun K39 hK39 => ?_
              refine tr_region [0, 1, 3, 9, 209] rfl rfl fun K hK => ?_
              iterate 6 refine evR_p ?_
              refine evR_e hK ?_; clear hK K
              refine hK39 _ ?_
              refine tr_condB (fun ht10 => ?_) (fun ht10 => ?_)
              · skip
                (first | (exfalso; omega) | (exfalso; simp_all; done) | skip)
                all_goals
                  refine tr_seq fun K40 hK40 => ?_
                  refine tr_region [8] rfl rfl fun K hK => ?_
                  refine evR_p ?_
                  refine evR_e hK ?_; clear hK K
                  refine hK40 _ ?_
                  refine tr_ret ?_
                  (try simp only [thenE, inBlkE])
                  simp (maxSteps := 4000000) (disch := first | assumption | omega | (simp only [go_sem, *]; done) | (simp only [go_sem, *]; omega)) only [postA, postO, resV1, fzAll, go_sem, hq, Int.reduceToNat, Nat.reduceBEq, Nat.reduceEqDiff, Nat.reduceAdd, Nat.reduceMul, Nat.reduceLeDiff, Nat.reduceLT, Nat.reduceSub, ↓reduceIte, reduceCtorEq]
                  all_goals (rfl)
              · skip
                (first | (exfalso; omega) | (exfalso; simp_all; done) | skip)
                all_goals
                  refine tr_skip ?_
                  (try simp only [thenE, inBlkE])
                  refine hK38 _ ?_
                  refine tr_seq fun K41 hK41 => ?_
                  refine tr_region [0, 1, 3, 9, 17] rfl rfl fun K hK => ?_
                  refine evR_bo ?_
                  iterate 3 refine evR_p ?_
                  refine evR_e hK ?_; clear hK K
                  refine hK41 _ ?_
                  refine tr_seq fun K42 hK42 => ?_
                  refine tr_region [0, 1, 3, 9, 17] rfl rfl fun K hK => ?_
                  iterate 5 refine evR_p ?_
                  refine evR_e hK ?_; clear hK K
                  refine hK42 _ ?_
                  refine tr_seq fun K43 hK43 => ?_
                  refine tr_region [0, 1, 9, 17, 18] rfl rfl fun K hK => ?_
                  refine evR_bo ?_
                  iterate 3 refine evR_p ?_
                  refine evR_e hK ?_; clear hK K
                  refine hK43 _ ?_
                  refine tr_seq fun K44 hK44 => ?_
                  refine tr_region [0, 1, 9, 17, 18] rfl rfl fun K hK => ?_
                  iterate 5 refine evR_p ?_
                  refine evR_e hK ?_; clear hK K
                  refine hK44 _ ?_
                  refine tr_seq fun K45 hK45 => ?_
                  refine tr_fz [.own 2, .own 4] (by simp (maxSteps := 4000000) (disch := first | assumption | omega | (simp only [go_sem, *]; done) | (simp only [go_sem, *]; omega)) only [go_sem, hq, Int.reduceToNat, Nat.reduceBEq, Nat.reduceEqDiff, Nat.reduceAdd, Nat.reduceMul, Nat.reduceLeDiff, Nat.reduceLT, Nat.reduceSub, ↓reduceIte, reduceCtorEq]; (try rfl)) ?_
                  refine tr_region [8] rfl rfl fun K hK => ?_
                  iterate 5 refine evR_p ?_
                  refine evR_c (hc := g1) (k := ?_)
                  refine evR_p ?_
                  iterate 5 refine evR_g ?_
                  refine evR_gc (hc := g2) (k := ?_)
                  iterate 2 refine evR_p ?_
                  refine evR_e hK ?_; clear hK K
                  refine hK45 _ ?_
                  refine tr_ret ?_
                  (try simp only [thenE, inBlkE])
                  simp (maxSteps := 4000000) (disch := first | assumption | omega | (simp only [go_sem, *]; done) | (simp only [go_sem, *]; omega)) only [postA, postO, resV1, fzAll, go_sem, hq, Int.reduceToNat, Nat.reduceBEq, Nat.reduceEqDiff, Nat.reduceAdd, Nat.reduceMul, Nat.reduceLeDiff, Nat.reduceLT, Nat.reduceSub, ↓reduceIte, reduceCtorEq]
                  all_goals (rfl)
end
theorem c34 (rows2 rows : List Rw) (v : Nat) (hv : v ≤ 12) (hr : okRws rows2 v) (hmo : ∀ r ∈ rows2, okI r.most) (hlen : rows2.length = rows.length) (hrl : rows2.length ≤ 100000) (l : List Stp) (hll : l.length ≤ maxLen) : ∀ (n d s p : Nat), d + n = v → s < 2 ^ d → infN rows n d s → layT rows l n d s p →
    CallsA Try.prog 34 [.sl 6 (encR rows2), .sl 4 (encS l), .int .i64 (p : Nat), .sl 1 (encI (decL v d s))] (.bool (treeB rows2 rows v n d s)) := by
  have leaf : ∀ d s p : Nat, 0 ≤ idxOf (overB d s) rows → atLeaf rows l d s p → CallsA Try.prog 34 [.sl 6 (encR rows2), .sl 4 (encS l), .int .i64 (p : Nat), .sl 1 (encI (decL v d s))] (.bool (leafB rows2 v (idxOf (overB d s) rows) d s)) := fun d s p h0 ⟨h1, h2⟩ => by
    obtain ⟨k1, -⟩ := idx_at rw0 h0
    obtain ⟨j, hj⟩ := Int.eq_ofNat_of_zero_le h0
    rw [hj] at h2 k1 ⊢
    exact c34a rows2 v hv hr hmo hrl l hll p h1 j h2 (by simp only [Int.toNat_natCast] at k1; omega) d s
  intro n
  induction n with
  | zero => intro d s p hd hs hi hl; exact leaf d s p hi hl
  | succ n ih =>
    intro d s p hd hs hi hl
    simp only [treeB]
    rcases hl with ⟨h0, hl⟩ | ⟨h0, no, yes, a1, a2, a3, a4, a5, a6⟩
    · rw [if_pos h0]; exact leaf d s p h0 hl
    · rw [if_neg h0]
      rcases hi with hi | ⟨i1, i2⟩
      · exact (h0 hi).elim
      · rw [setBit_nat hs (by omega)] at i2
        have g1 := ih (d + 1) s no (by omega) (by rw [Nat.pow_succ]; omega) i1 a5
        have g2 := ih (d + 1) (s + 2 ^ d) yes (by omega) (by rw [Nat.pow_succ]; omega) i2 a6
        rw [← decL_set0 (show d < v by omega) hs] at g1
        rw [← decL_set1 (show d < v by omega) hs] at g2
        exact c34b rows2 l hll p a3 d no yes a4 a1 a2 (decL v d s) (by rw [decL_length]; omega) (by rw [decL_length]; omega) (by rw [decL_getD (by omega), if_neg (by omega)]; omega) _ _ g1 g2

end Go.Proofs.Ytcphhbiehaimeaa


namespace Go.Proofs.Ytcphhbiehaimeaa
open Go.RowKit
set_option linter.unusedVariables false
set_option linter.unusedSimpArgs false
set_option maxRecDepth 100000
attribute [local go_sem] Nat.zero_add Nat.add_zero Nat.mul_one eq_self ne_eq not_true_eq_false not_false_eq_true decide_true decide_false decide_not Bool.false_eq_true List.filter_cons List.filter_nil true_and and_true beq_false beq_true Bool.not_true Bool.not_false Bool.and_true Bool.true_and Option.getD_some Option.getD_none imp_self implies_true Int.toNat_natCast List.cons_append List.nil_append List.map_cons List.map_nil List.length_cons List.length_nil List.getD_cons_zero List.getD_cons_succ List.drop_zero List.drop_succ_cons List.take_succ_cons List.take_zero
attribute [local go_sem] isE isO stpO notIn St.bare evO evDO isEff stp St.get St.slot St.put List.lookup un unL ofVal gof nth pickV pkB_false pkB_true binV unV loadV idxV fldV partV buildV fillV lenV sliV appV appR rowsV winV V.parts V.okp V.sc Mem.look_cons Mem.look_nil V.cl V.clL AObj.clo fzAll exps St.fz Mem.fz V.fz V.fzL AObj.fz Option.isSome_some Option.isSome_none Bool.or_true Bool.true_or Bool.or_false Bool.false_or false_and and_false false_or or_false arT_22 arT_23 arT_24 arT_27 arT_34 arT_35 arT_50 arT_59 arT_61 arT_64 arT_65 arT_68 boolT_24 boolT_3 boolT_38 boolT_4 boolT_79 flatT_24 flatT_3 flatT_38 flatT_4 flatT_79 intT_3 intT_93 lay_23 lay_24 lay_26 lay_27 lay_29 lay_3 lay_32 lay_35 lay_37 lay_4 lay_59 lay_68 lay_70 lay_79 lay_82 lay_88 okF_10 okF_11 okF_12 okF_13 okF_14 okF_15 okF_16 okF_17 okF_18 okF_19 okF_20 okF_21 okF_22 okF_23 okF_24 okF_25 okF_26 okF_27 okF_28 okF_29 okF_3 okF_30 okF_31 okF_32 okF_33 okF_34 okF_35 okF_36 okF_37 okF_38 okF_39 okF_4 okF_40 okF_41 okF_42 okF_43 okF_44 okF_45 okF_46 okF_47 okF_48 okF_49 okF_5 okF_50 okF_51 okF_52 okF_53 okF_54 okF_55 okF_56 okF_57 okF_58 okF_59 okF_6 okF_60 okF_61 okF_62 okF_63 okF_64 okF_65 okF_66 okF_67 okF_68 okF_69 okF_7 okF_70 okF_71 okF_72 okF_73 okF_74 okF_75 okF_8 okF_9 plT_26 plT_29 plT_37 plT_70 plT_79 slT_22 slT_23 slT_24 slT_27 slT_34 slT_35 slT_50 slT_59 slT_61 slT_64 slT_65 slT_68 stT_26_0 stT_26_1 stT_26_2 stT_26_3 stT_26_4 stT_26_5 stT_29_0 stT_29_1 stT_29_2 stT_37_0 stT_37_1 stT_37_2 stT_37_3 stT_70_0 stT_70_1 stT_70_2 stT_70_3 stT_79_0 stT_79_1 zeroT_24 zeroT_26 zeroT_29 zeroT_3 zeroT_32 zeroT_35 zeroT_37 zeroT_59 zeroT_65 zeroT_70 zeroT_79
attribute [local go_sem] List.getElem?_cons_zero List.getElem?_cons_succ List.zip_cons_cons List.zip_nil_left List.zip_nil_right Bool.false_and Bool.and_false List.length_append List.length_set List.length_replicate List.all_cons List.all_nil encI_length encI_getD encR_length encR_getD encRw encPg spl shp AObj.shp rowM isSt isRpS isRd csh AObj.csh forall_const imp_self
attribute [local simp] encI_length encR_length cellsI_length
theorem c42 (l : List Int) (set : Int) (hm : l.length ≤ maxLen) : CallsA Try.prog 42 [.sl 1 (encI l), .int .i64 set] (.int .i64 (totG l set l.length)) := by
  unfold maxLen at hm
  have hq : True := trivial
  refine callsA_of_tr Try.func42 rfl (Nat.le_of_ble_eq_true rfl) ?_
  simp only [Try.results42, envOf, Nat.reduceAdd]
  refine tr_seq fun K1 hK1 => ?_
  refine tr_region [0, 1] rfl rfl fun K hK => ?_
  refine evR_p ?_
  refine evR_e hK ?_; clear hK K
  refine hK1 _ ?_
  refine tr_seq fun K2 hK2 => ?_
  refine tr_region [0, 1, 5] rfl rfl fun K hK => ?_
  refine evR_p ?_
  refine evR_e hK ?_; clear hK K
  refine hK2 _ ?_
  refine tr_seq fun K3 hK3 => ?_
  refine tr_seq fun K4 hK4 => ?_
  refine tr_region [0, 1, 5, 6] rfl rfl fun K hK => ?_
  refine evR_p ?_
  refine evR_e hK ?_; clear hK K
  refine hK4 _ ?_
  refine tr_block ?_
  -- loop 1: live [0, 1, 5, 6]
  refine tr_loopW (fun m σ => ∃ i : Nat, i + m = l.length ∧ σ = ⟨[(0, .sl 1 (encI l)), (1, .int .i64 set), (5, .int .i64 (totG l set i)), (6, .int .i64 (i : Nat))], [], 0⟩) (l.length) ?_ ?_
  · exact ⟨_, Wk.refl _, 0, by omega, rfl⟩
  · rintro m σ ⟨i, hi, rfl⟩ KL1 hKL1
    refine tr_seq fun K5 hK5 => ?_
    refine tr_seq fun K6 hK6 => ?_
    refine tr_region [0, 1, 5, 6, 10] rfl rfl fun K hK => ?_
    iterate 4 refine evR_p ?_
    refine evR_e hK ?_; clear hK K
    refine hK6 _ ?_
    refine tr_condB (fun ht1 => ?_) (fun ht1 => ?_)
    · skip
      have hil : i < l.length := by omega
      replace hq := And.intro hq (hil)
      refine tr_skip ?_
      (try simp only [thenE, inBlkE])
      refine hK5 _ ?_
      refine tr_seq fun K7 hK7 => ?_
      refine tr_block ?_
      refine tr_draw [] [0, 1, 5, 6] mixed rfl (by kernel_rfl) rfl fun K hK => ?_
      iterate 12 refine evD_p ?_
      refine evD_e hK ?_; clear hK K
      refine hK7 _ ?_
      refine tr_region [0, 1, 5, 6] rfl rfl fun K hK => ?_
      iterate 3 refine evR_p ?_
      refine evR_e hK ?_; clear hK K
      refine hKL1 _ ?_
      exact ⟨m - 1, _, by omega, Wk.refl _, i + 1, by omega, by rw [w64 (x := (i : Int) + 1) (by omega)]; rfl⟩
    · skip
      have hil : i = l.length := by omega
      subst hil
      refine tr_exit ?_
      simp only [thenE, inBlkE, Nat.reduceEqDiff, ↓reduceIte]
      refine hK3 _ ?_
      refine tr_seq fun K8 hK8 => ?_
      refine tr_region [4] rfl rfl fun K hK => ?_
      iterate 2 refine evR_p ?_
      refine evR_e hK ?_; clear hK K
      refine hK8 _ ?_
      refine tr_ret ?_
      (try simp only [thenE, inBlkE])
      simp (maxSteps := 4000000) (disch := first | assumption | omega | (simp only [go_sem, *]; done) | (simp only [go_sem, *]; omega)) only [postA, postO, resV1, fzAll, go_sem, hq, Int.reduceToNat, Nat.reduceBEq, Nat.reduceEqDiff, Nat.reduceAdd, Nat.reduceMul, Nat.reduceLeDiff, Nat.reduceLT, Nat.reduceSub, ↓reduceIte, reduceCtorEq]
      all_goals (rfl)

theorem c51 (l : List Int) (hm : l.length ≤ maxLen) : CallsA Try.prog 51 [.sl 1 (encI l)] (.bool (coefB l)) := by
  unfold maxLen at hm
  have hq : True := trivial
  refine callsA_of_tr Try.func51 rfl (Nat.le_of_ble_eq_true rfl) ?_
  simp only [Try.results51, envOf, Nat.reduceAdd]
  refine tr_seq fun K1 hK1 => ?_
  refine tr_region [0] rfl rfl fun K hK => ?_
  refine evR_p ?_
  refine evR_e hK ?_; clear hK K
  refine hK1 _ ?_
  refine tr_seq fun K2 hK2 => ?_
  refine tr_seq fun K3 hK3 => ?_
  refine tr_region [0, 3] rfl rfl fun K hK => ?_
  refine evR_p ?_
  refine evR_e hK ?_; clear hK K
  refine hK3 _ ?_
  refine tr_block ?_
  -- loop 1: live [0, 3]
  refine tr_loopW (fun m σ => ∃ i : Nat, i + m = l.length ∧ (∀ j, j < i → -1000000000 ≤ l.getD j 0 ∧ l.getD j 0 ≤ 1000000000) ∧ σ = ⟨[(0, .sl 1 (encI l)), (3, .int .i64 (i : Nat))], [], 0⟩) (l.length) ?_ ?_
  · exact ⟨_, Wk.refl _, 0, by omega, (by intro j hj; omega), rfl⟩
  · rintro m σ ⟨i, hi, hb, rfl⟩ KL1 hKL1
    refine tr_seq fun K4 hK4 => ?_
    refine tr_seq fun K5 hK5 => ?_
    refine tr_region [0, 3, 7] rfl rfl fun K hK => ?_
    iterate 4 refine evR_p ?_
    refine evR_e hK ?_; clear hK K
    refine hK5 _ ?_
    refine tr_condB (fun ht1 => ?_) (fun ht1 => ?_)
    · skip
      have hil : i < l.length := by omega
      replace hq := And.intro hq (hil)
      refine tr_skip ?_
      (try simp only [thenE, inBlkE])
      refine hK4 _ ?_
      refine tr_seq fun K6 hK6 => ?_
      refine tr_block ?_
      refine tr_seq fun K7 hK7 => ?_
      refine tr_region [0, 3, 21] rfl rfl fun K hK => ?_
      iterate 6 refine evR_p ?_
      iterate 5 refine evR_g ?_
      refine evR_p ?_
      refine evR_e hK ?_; clear hK K
      refine hK7 _ ?_
      refine tr_condB (fun ht2 => ?_) (fun ht2 => ?_)
      · skip
        refine tr_seq fun K8 hK8 => ?_
        refine tr_region [2] rfl rfl fun K hK => ?_
        refine evR_p ?_
        refine evR_e hK ?_; clear hK K
        refine hK8 _ ?_
        refine tr_ret ?_
        (try simp only [thenE, inBlkE])
        simp (maxSteps := 4000000) (disch := first | assumption | omega | (simp only [go_sem, *]; done) | (simp only [go_sem, *]; omega)) only [postA, postO, resV1, fzAll, go_sem, hq, Int.reduceToNat, Nat.reduceBEq, Nat.reduceEqDiff, Nat.reduceAdd, Nat.reduceMul, Nat.reduceLeDiff, Nat.reduceLT, Nat.reduceSub, ↓reduceIte, reduceCtorEq]
        all_goals ((first | (rw [coefB_no hil ht2]; done) | (rw [coefB_yes hb]; done)))
      · skip
        refine tr_skip ?_
        (try simp only [thenE, inBlkE])
        refine hK6 _ ?_
        refine tr_region [0, 3] rfl rfl fun K hK => ?_
        iterate 3 refine evR_p ?_
        refine evR_e hK ?_; clear hK K
        refine hKL1 _ ?_
        exact ⟨m - 1, _, by omega, Wk.refl _, i + 1, by omega, (fun j hj => (by rcases Nat.lt_or_ge j i with h | h; exact hb j h; (have : j = i := (by omega)); subst this; omega)), by rw [w64 (x := (i : Int) + 1) (by omega)]; rfl⟩
    · skip
      have hil : i = l.length := by omega
      subst hil
      refine tr_exit ?_
      simp only [thenE, inBlkE, Nat.reduceEqDiff, ↓reduceIte]
      refine hK2 _ ?_
      refine tr_seq fun K9 hK9 => ?_
      refine tr_region [2] rfl rfl fun K hK => ?_
      refine evR_p ?_
      refine evR_e hK ?_; clear hK K
      refine hK9 _ ?_
      refine tr_ret ?_
      (try simp only [thenE, inBlkE])
      simp (maxSteps := 4000000) (disch := first | assumption | omega | (simp only [go_sem, *]; done) | (simp only [go_sem, *]; omega)) only [postA, postO, resV1, fzAll, go_sem, hq, Int.reduceToNat, Nat.reduceBEq, Nat.reduceEqDiff, Nat.reduceAdd, Nat.reduceMul, Nat.reduceLeDiff, Nat.reduceLT, Nat.reduceSub, ↓reduceIte, reduceCtorEq]
      all_goals ((first | (rw [coefB_no hil ht2]; done) | (rw [coefB_yes hb]; done)))

theorem c52 (r : Rw) (hm : r.coef.length ≤ maxLen) (v : Int) : CallsA Try.prog 52 [.agg (encRw r), .int .i64 v] (.bool (rightB r v)) := by
  have hq : True := trivial
  refine callsA_of_tr Try.func52 rfl (Nat.le_of_ble_eq_true rfl) ?_
  simp only [Try.results52, envOf, Nat.reduceAdd]
  refine tr_seq fun K1 hK1 => ?_
  refine tr_region [1, 2] rfl rfl fun K hK => ?_
  iterate 2 refine evR_p ?_
  refine evR_e hK ?_; clear hK K
  refine hK1 _ ?_
  refine tr_seq fun K2 hK2 => ?_
  refine tr_region [4] rfl rfl fun K hK => ?_
  iterate 6 refine evR_p ?_
  iterate 2 refine evR_g ?_
  refine evR_gc (hc := (c51 _ hm)) (k := ?_)
  iterate 2 refine evR_p ?_
  iterate 3 refine evR_g ?_
  iterate 2 refine evR_p ?_
  iterate 3 refine evR_g ?_
  iterate 2 refine evR_p ?_
  refine evR_e hK ?_; clear hK K
  refine hK2 _ ?_
  refine tr_ret ?_
  (try simp only [thenE, inBlkE])
  simp (maxSteps := 4000000) (disch := first | assumption | omega | (simp only [go_sem, *]; done) | (simp only [go_sem, *]; omega)) only [postA, postO, resV1, fzAll, go_sem, hq, Int.reduceToNat, Nat.reduceBEq, Nat.reduceEqDiff, Nat.reduceAdd, Nat.reduceMul, Nat.reduceLeDiff, Nat.reduceLT, Nat.reduceSub, ↓reduceIte, reduceCtorEq]
  all_goals (simp [rightB, isInB, Bool.and_assoc])

theorem c21 (p : Pg) (hr : p.rows.length ≤ maxLen) (hg : p.gain.length ≤ maxLen) (hc : ∀ r ∈ p.rows, r.coef.length ≤ maxLen) : CallsA Try.prog 21 [.agg (encPg p)] (.bool (validB p)) := by
  have hr0 := hr
  unfold maxLen at hr0
  have hq : True := trivial
  refine callsA_of_tr Try.func21 rfl (Nat.le_of_ble_eq_true rfl) ?_
  simp only [Try.results21, envOf, Nat.reduceAdd]
  refine tr_seq fun K1 hK1 => ?_
  refine tr_region [1] rfl rfl fun K hK => ?_
  iterate 2 refine evR_p ?_
  refine evR_e hK ?_; clear hK K
  refine hK1 _ ?_
  refine tr_seq fun K2 hK2 => ?_
  refine tr_seq fun K3 hK3 => ?_
  refine tr_region [1, 31] rfl rfl fun K hK => ?_
  iterate 4 refine evR_p ?_
  iterate 3 refine evR_g ?_
  iterate 2 refine evR_p ?_
  iterate 4 refine evR_g ?_
  iterate 2 refine evR_p ?_
  iterate 6 refine evR_g ?_
  iterate 2 refine evR_p ?_
  iterate 2 refine evR_g ?_
  refine evR_gc (hc := (c51 _ hg)) (k := ?_)
  refine evR_g ?_
  refine evR_p ?_
  refine evR_e hK ?_; clear hK K
  refine hK3 _ ?_
  refine tr_condB (fun ht1 => ?_) (fun ht1 => ?_)
  · skip
    refine tr_seq fun K4 hK4 => ?_
    refine tr_region [2] rfl rfl fun K hK => ?_
    refine evR_p ?_
    refine evR_e hK ?_; clear hK K
    refine hK4 _ ?_
    refine tr_ret ?_
    (try simp only [thenE, inBlkE])
    simp (maxSteps := 4000000) (disch := first | assumption | omega | (simp only [go_sem, *]; done) | (simp only [go_sem, *]; omega)) only [postA, postO, resV1, fzAll, go_sem, hq, Int.reduceToNat, Nat.reduceBEq, Nat.reduceEqDiff, Nat.reduceAdd, Nat.reduceMul, Nat.reduceLeDiff, Nat.reduceLT, Nat.reduceSub, ↓reduceIte, reduceCtorEq]
    all_goals ((first | (rw [valid_yes ht1 hb]; done) | (rw [valid_row_no hil ht3]; done) | (rw [valid_no ht1]; done)))
  · skip
    refine tr_skip ?_
    (try simp only [thenE, inBlkE])
    refine hK2 _ ?_
    refine tr_seq fun K5 hK5 => ?_
    refine tr_seq fun K6 hK6 => ?_
    refine tr_region [1, 3] rfl rfl fun K hK => ?_
    refine evR_p ?_
    refine evR_e hK ?_; clear hK K
    refine hK6 _ ?_
    refine tr_block ?_
    -- loop 1: live [1, 3]
    refine tr_loopW (fun m σ => ∃ i : Nat, i + m = p.rows.length ∧ (∀ j, j < i → rightB (p.rows.getD j rw0) p.vars = true) ∧ σ = ⟨[(1, .ptr 0 0), (3, .int .i64 (i : Nat))], [(0, .cells (encPg p))], 1⟩) (p.rows.length) ?_ ?_
    · exact ⟨_, Wk.refl _, 0, by omega, (by intro j hj; omega), rfl⟩
    · rintro m σ ⟨i, hi, hb, rfl⟩ KL1 hKL1
      refine tr_seq fun K7 hK7 => ?_
      refine tr_seq fun K8 hK8 => ?_
      refine tr_region [1, 3, 36] rfl rfl fun K hK => ?_
      iterate 5 refine evR_p ?_
      refine evR_e hK ?_; clear hK K
      refine hK8 _ ?_
      refine tr_condB (fun ht2 => ?_) (fun ht2 => ?_)
      · skip
        have hil : i < p.rows.length := by omega
        replace hq := And.intro hq (hil)
        refine tr_skip ?_
        (try simp only [thenE, inBlkE])
        refine hK7 _ ?_
        refine tr_seq fun K9 hK9 => ?_
        refine tr_block ?_
        refine tr_seq fun K10 hK10 => ?_
        refine tr_draw [] [1, 3, 47] mixed rfl (by kernel_rfl) rfl fun K hK => ?_
        iterate 7 refine evD_p ?_
        refine evD_c (hc := (c52 (p.rows.getD i rw0) (hc _ (getD_mem hil)) _)) (k := ?_)
        refine evD_p ?_
        refine evD_e hK ?_; clear hK K
        refine hK10 _ ?_
        refine tr_condB (fun ht3 => ?_) (fun ht3 => ?_)
        · skip
          refine tr_seq fun K11 hK11 => ?_
          refine tr_region [2] rfl rfl fun K hK => ?_
          refine evR_p ?_
          refine evR_e hK ?_; clear hK K
          refine hK11 _ ?_
          refine tr_ret ?_
          (try simp only [thenE, inBlkE])
          simp (maxSteps := 4000000) (disch := first | assumption | omega | (simp only [go_sem, *]; done) | (simp only [go_sem, *]; omega)) only [postA, postO, resV1, fzAll, go_sem, hq, Int.reduceToNat, Nat.reduceBEq, Nat.reduceEqDiff, Nat.reduceAdd, Nat.reduceMul, Nat.reduceLeDiff, Nat.reduceLT, Nat.reduceSub, ↓reduceIte, reduceCtorEq]
          all_goals ((first | (rw [valid_yes ht1 hb]; done) | (rw [valid_row_no hil ht3]; done) | (rw [valid_no ht1]; done)))
        · skip
          refine tr_skip ?_
          (try simp only [thenE, inBlkE])
          refine hK9 _ ?_
          refine tr_region [1, 3] rfl rfl fun K hK => ?_
          iterate 3 refine evR_p ?_
          refine evR_e hK ?_; clear hK K
          refine hKL1 _ ?_
          exact ⟨m - 1, _, by omega, Wk.refl _, i + 1, by omega, (fun j hj => (by rcases Nat.lt_or_ge j i with h | h; exact hb j h; (have : j = i := (by omega)); subst this; assumption)), by rw [w64 (x := (i : Int) + 1) (by omega)]; rfl⟩
      · skip
        have hil : i = p.rows.length := by omega
        subst hil
        refine tr_exit ?_
        simp only [thenE, inBlkE, Nat.reduceEqDiff, ↓reduceIte]
        refine hK5 _ ?_
        refine tr_seq fun K12 hK12 => ?_
        refine tr_region [2] rfl rfl fun K hK => ?_
        refine evR_p ?_
        refine evR_e hK ?_; clear hK K
        refine hK12 _ ?_
        refine tr_ret ?_
        (try simp only [thenE, inBlkE])
        simp (maxSteps := 4000000) (disch := first | assumption | omega | (simp only [go_sem, *]; done) | (simp only [go_sem, *]; omega)) only [postA, postO, resV1, fzAll, go_sem, hq, Int.reduceToNat, Nat.reduceBEq, Nat.reduceEqDiff, Nat.reduceAdd, Nat.reduceMul, Nat.reduceLeDiff, Nat.reduceLT, Nat.reduceSub, ↓reduceIte, reduceCtorEq]
        all_goals ((first | (rw [valid_yes ht1 hb]; done) | (rw [valid_row_no hil ht3]; done) | (rw [valid_no ht1]; done)))

theorem c25 (p : Pg) (hr : p.rows.length ≤ maxLen) (hg : p.gain.length ≤ maxLen) (hc : ∀ r ∈ p.rows, r.coef.length ≤ maxLen) (set : Int) : CallsA Try.prog 25 [.agg (encPg p), .int .i64 set] (.int .i64 (gainW p set)) := by
  have hvv := @validB_vars p
  have hq : True := trivial
  refine callsA_of_tr Try.func25 rfl (Nat.le_of_ble_eq_true rfl) ?_
  simp only [Try.results25, envOf, Nat.reduceAdd]
  refine tr_seq fun K1 hK1 => ?_
  refine tr_region [1, 2] rfl rfl fun K hK => ?_
  iterate 2 refine evR_p ?_
  refine evR_e hK ?_; clear hK K
  refine hK1 _ ?_
  refine tr_seq fun K2 hK2 => ?_
  refine tr_seq fun K3 hK3 => ?_
  refine tr_region [1, 2, 18] rfl rfl fun K hK => ?_
  refine evR_p ?_
  refine evR_c (hc := (c21 p hr hg hc)) (k := ?_)
  iterate 2 refine evR_p ?_
  iterate 2 refine evR_g ?_
  iterate 2 refine evR_p ?_
  iterate 5 refine evR_g ?_
  refine evR_p ?_
  refine evR_e hK ?_; clear hK K
  refine hK3 _ ?_
  refine tr_condB (fun ht1 => ?_) (fun ht1 => ?_)
  · skip
    refine tr_seq fun K4 hK4 => ?_
    refine tr_region [4] rfl rfl fun K hK => ?_
    refine evR_p ?_
    refine evR_e hK ?_; clear hK K
    refine hK4 _ ?_
    refine tr_ret ?_
    (try simp only [thenE, inBlkE])
    simp (maxSteps := 4000000) (disch := first | assumption | omega | (simp only [go_sem, *]; done) | (simp only [go_sem, *]; omega)) only [postA, postO, resV1, fzAll, go_sem, hq, Int.reduceToNat, Nat.reduceBEq, Nat.reduceEqDiff, Nat.reduceAdd, Nat.reduceMul, Nat.reduceLeDiff, Nat.reduceLT, Nat.reduceSub, ↓reduceIte, reduceCtorEq]
    all_goals ((first | (rw [tot_gain (choice_yes ht1)]; done) | (rw [gainW, choice_no ht1]; rfl)))
  · skip
    refine tr_skip ?_
    (try simp only [thenE, inBlkE])
    refine hK2 _ ?_
    refine tr_seq fun K5 hK5 => ?_
    refine tr_region [4] rfl rfl fun K hK => ?_
    iterate 3 refine evR_p ?_
    refine evR_c (hc := (c42 _ _ hg)) (k := ?_)
    refine evR_p ?_
    refine evR_e hK ?_; clear hK K
    refine hK5 _ ?_
    refine tr_ret ?_
    (try simp only [thenE, inBlkE])
    simp (maxSteps := 4000000) (disch := first | assumption | omega | (simp only [go_sem, *]; done) | (simp only [go_sem, *]; omega)) only [postA, postO, resV1, fzAll, go_sem, hq, Int.reduceToNat, Nat.reduceBEq, Nat.reduceEqDiff, Nat.reduceAdd, Nat.reduceMul, Nat.reduceLeDiff, Nat.reduceLT, Nat.reduceSub, ↓reduceIte, reduceCtorEq]
    all_goals ((first | (rw [tot_gain (choice_yes ht1)]; done) | (rw [gainW, choice_no ht1]; rfl)))

theorem c27 (p : Pg) (hr : p.rows.length ≤ maxLen) (hg : p.gain.length ≤ maxLen) (hc : ∀ r ∈ p.rows, r.coef.length ≤ maxLen) (set : Int) : CallsA Try.prog 27 [.agg (encPg p), .int .i64 set] (.sl 1 (encI (brokenW p set))) := by
  have hvv := @validB_vars p
  have hq : True := trivial
  refine callsA_of_trL Try.func27 rfl (Nat.le_of_ble_eq_true rfl) ?_
  simp only [Try.results27, envOf, Nat.reduceAdd]
  refine tr_seq fun K1 hK1 => ?_
  refine tr_region [1, 2] rfl rfl fun K hK => ?_
  iterate 2 refine evR_p ?_
  refine evR_e hK ?_; clear hK K
  refine hK1 _ ?_
  refine tr_seq fun K2 hK2 => ?_
  refine tr_seq fun K3 hK3 => ?_
  refine tr_region [1, 2, 20] rfl rfl fun K hK => ?_
  refine evR_p ?_
  refine evR_c (hc := (c21 p hr hg hc)) (k := ?_)
  iterate 2 refine evR_p ?_
  iterate 2 refine evR_g ?_
  iterate 2 refine evR_p ?_
  iterate 5 refine evR_g ?_
  refine evR_p ?_
  refine evR_e hK ?_; clear hK K
  refine hK3 _ ?_
  refine tr_condB (fun ht1 => ?_) (fun ht1 => ?_)
  · skip
    refine tr_seq fun K4 hK4 => ?_
    refine tr_region [4] rfl rfl fun K hK => ?_
    refine evR_p ?_
    refine evR_e hK ?_; clear hK K
    refine hK4 _ ?_
    refine tr_ret ?_
    (try simp only [thenE, inBlkE])
    simp (maxSteps := 4000000) (disch := first | assumption | omega | (simp only [go_sem, *]; done) | (simp only [go_sem, *]; omega)) only [postA, postO, resV1, fzAll, go_sem, hq, Int.reduceToNat, Nat.reduceBEq, Nat.reduceEqDiff, Nat.reduceAdd, Nat.reduceMul, Nat.reduceLeDiff, Nat.reduceLT, Nat.reduceSub, ↓reduceIte, reduceCtorEq]
    all_goals ((first | (rw [brokenW, if_pos hch]; exact .refl _) | (rw [brokenW, choice_no ht1]; exact .nsl _)))
  · skip
    refine tr_skip ?_
    (try simp only [thenE, inBlkE])
    refine hK2 _ ?_
    refine tr_seq fun K5 hK5 => ?_
    refine tr_region [1, 2, 5] rfl rfl fun K hK => ?_
    refine evR_p ?_
    refine evR_e hK ?_; clear hK K
    refine hK5 _ ?_
    refine tr_seq fun K6 hK6 => ?_
    refine tr_seq fun K7 hK7 => ?_
    refine tr_region [1, 2, 5, 6] rfl rfl fun K hK => ?_
    refine evR_p ?_
    refine evR_e hK ?_; clear hK K
    refine hK7 _ ?_
    refine tr_block ?_
    -- loop 1: live [1, 2, 5, 6]
    refine tr_loopW (fun m σ => ∃ i : Nat, i + m = p.rows.length ∧ σ = ⟨[(1, .int .i64 set), (2, .ptr 0 0), (5, .own 1), (6, .int .i64 (i : Nat))], [(1, .row 3 1 (encI (brkTo p set i))), (0, .cells (encPg p))], 2⟩) (p.rows.length) ?_ ?_
    · exact ⟨_, Wk.nilslot 3 1 5 rfl, 0, by omega, rfl⟩
    · rintro m σ ⟨i, hi, rfl⟩ KL1 hKL1
      have hch := choice_yes ht1
      have hr3 := choiceB_rows hch
      have hbl := brkTo_length p set i
      refine tr_seq fun K8 hK8 => ?_
      refine tr_seq fun K9 hK9 => ?_
      refine tr_region [1, 2, 5, 6, 25] rfl rfl fun K hK => ?_
      iterate 5 refine evR_p ?_
      refine evR_e hK ?_; clear hK K
      refine hK9 _ ?_
      refine tr_condB (fun ht2 => ?_) (fun ht2 => ?_)
      · skip
        have hil : i < p.rows.length := by omega
        have hkp := row_kept hch hil
        replace hq := And.intro hq (hil)
        refine tr_skip ?_
        (try simp only [thenE, inBlkE])
        refine hK8 _ ?_
        refine tr_seq fun K10 hK10 => ?_
        refine tr_block ?_
        refine tr_seq fun K11 hK11 => ?_
        refine tr_draw [] [1, 2, 5, 6, 42] mixed rfl (by kernel_rfl) rfl fun K hK => ?_
        iterate 7 refine evD_p ?_
        refine evD_c (hc := (c42 _ _ (hc _ (getD_mem hil)))) (k := ?_)
        iterate 7 refine evD_p ?_
        refine evD_e hK ?_; clear hK K
        refine hK11 _ ?_
        refine tr_condB (fun ht3 => ?_) (fun ht3 => ?_)
        · skip
          refine tr_region [1, 2, 5, 6] rfl rfl fun K hK => ?_
          iterate 2 refine evR_p ?_
          refine evR_bs ?_
          iterate 2 refine evR_p ?_
          refine evR_e hK ?_; clear hK K
          refine hK10 _ ?_
          refine tr_region [1, 2, 5, 6] rfl rfl fun K hK => ?_
          iterate 3 refine evR_p ?_
          refine evR_e hK ?_; clear hK K
          refine hKL1 _ ?_
          first
            | exact ⟨m - 1, _, by omega, (Wk.trans (Wk.ren 2 1 (Nat.le_of_ble_eq_true rfl) (Nat.le_of_ble_eq_true rfl) rfl) (Wk.cut 2 rfl)), i + 1, by omega, by rw [w64 (x := (i : Int) + 1) (by omega), brkTo_f (by rw [hkp, decide_eq_true ht3]; rfl), encI_snoc]; rfl⟩
            | exact ⟨m - 1, _, by omega, Wk.refl _, i + 1, by omega, by rw [w64 (x := (i : Int) + 1) (by omega), brkTo_t (by rw [hkp, decide_eq_false ht3]; rfl)]; rfl⟩
        · skip
          refine tr_skip ?_
          (try simp only [thenE, inBlkE])
          refine hK10 _ ?_
          refine tr_region [1, 2, 5, 6] rfl rfl fun K hK => ?_
          iterate 3 refine evR_p ?_
          refine evR_e hK ?_; clear hK K
          refine hKL1 _ ?_
          first
            | exact ⟨m - 1, _, by omega, (Wk.trans (Wk.ren 2 1 (Nat.le_of_ble_eq_true rfl) (Nat.le_of_ble_eq_true rfl) rfl) (Wk.cut 2 rfl)), i + 1, by omega, by rw [w64 (x := (i : Int) + 1) (by omega), brkTo_f (by rw [hkp, decide_eq_true ht3]; rfl), encI_snoc]; rfl⟩
            | exact ⟨m - 1, _, by omega, Wk.refl _, i + 1, by omega, by rw [w64 (x := (i : Int) + 1) (by omega), brkTo_t (by rw [hkp, decide_eq_false ht3]; rfl)]; rfl⟩
      · skip
        have hil : i = p.rows.length := by omega
        subst hil
        refine tr_exit ?_
        simp only [thenE, inBlkE, Nat.reduceEqDiff, ↓reduceIte]
        refine hK6 _ ?_
        refine tr_seq fun K12 hK12 => ?_
        refine tr_region [4] rfl rfl fun K hK => ?_
        iterate 2 refine evR_p ?_
        refine evR_e hK ?_; clear hK K
        refine hK12 _ ?_
        refine tr_ret ?_
        (try simp only [thenE, inBlkE])
        simp (maxSteps := 4000000) (disch := first | assumption | omega | (simp only [go_sem, *]; done) | (simp only [go_sem, *]; omega)) only [postA, postO, resV1, fzAll, go_sem, hq, Int.reduceToNat, Nat.reduceBEq, Nat.reduceEqDiff, Nat.reduceAdd, Nat.reduceMul, Nat.reduceLeDiff, Nat.reduceLT, Nat.reduceSub, ↓reduceIte, reduceCtorEq]
        all_goals ((first | (rw [brokenW, if_pos hch]; exact .refl _) | (rw [brokenW, choice_no ht1]; exact .nsl _)))

theorem c23 (p : Pg) (hr : p.rows.length ≤ maxLen) (hg : p.gain.length ≤ maxLen) (hc : ∀ r ∈ p.rows, r.coef.length ≤ maxLen) (set : Int) : CallsA Try.prog 23 [.agg (encPg p), .int .i64 set] (.bool (keepsB p set)) := by
  have hvv := @validB_vars p
  have hq : True := trivial
  refine callsA_of_tr Try.func23 rfl (Nat.le_of_ble_eq_true rfl) ?_
  simp only [Try.results23, envOf, Nat.reduceAdd]
  refine tr_seq fun K1 hK1 => ?_
  refine tr_region [1, 2] rfl rfl fun K hK => ?_
  iterate 2 refine evR_p ?_
  refine evR_e hK ?_; clear hK K
  refine hK1 _ ?_
  refine tr_seq fun K2 hK2 => ?_
  refine tr_region [4] rfl rfl fun K hK => ?_
  refine evR_p ?_
  refine evR_c (hc := (c21 p hr hg hc)) (k := ?_)
  refine evR_p ?_
  iterate 2 refine evR_g ?_
  iterate 2 refine evR_p ?_
  iterate 5 refine evR_g ?_
  iterate 2 refine evR_p ?_
  iterate 2 refine evR_g ?_
  refine evR_gc (hc := (c27 p hr hg hc set)) (k := ?_)
  iterate 2 refine evR_g ?_
  iterate 2 refine evR_p ?_
  refine evR_e hK ?_; clear hK K
  refine hK2 _ ?_
  refine tr_ret ?_
  (try simp only [thenE, inBlkE])
  simp (maxSteps := 4000000) (disch := first | assumption | omega | (simp only [go_sem, *]; done) | (simp only [go_sem, *]; omega)) only [postA, postO, resV1, fzAll, go_sem, hq, Int.reduceToNat, Nat.reduceBEq, Nat.reduceEqDiff, Nat.reduceAdd, Nat.reduceMul, Nat.reduceLeDiff, Nat.reduceLT, Nat.reduceSub, ↓reduceIte, reduceCtorEq]
  all_goals ((rw [keepsB_brk]; cases hv : validB p <;> (try (simp [hv, choiceB]; done)); congr 1; rw [Bool.eq_iff_iff]; simp only [Bool.and_eq_true, Bool.true_and, decide_eq_true_eq, choice_shl hv]; (try omega)))

theorem c29 (r : Rw) (hm : r.coef.length ≤ maxLen) (set : Int) : CallsA Try.prog 29 [.agg (encRw r), .int .i64 set] (.int .i64 (sumW r set)) := by
  have hm0 := hm
  unfold maxLen at hm0
  have hq : True := trivial
  refine callsA_of_tr Try.func29 rfl (Nat.le_of_ble_eq_true rfl) ?_
  simp only [Try.results29, envOf, Nat.reduceAdd]
  refine tr_seq fun K1 hK1 => ?_
  refine tr_region [1, 2] rfl rfl fun K hK => ?_
  iterate 2 refine evR_p ?_
  refine evR_e hK ?_; clear hK K
  refine hK1 _ ?_
  refine tr_seq fun K2 hK2 => ?_
  refine tr_seq fun K3 hK3 => ?_
  refine tr_region [1, 2, 28] rfl rfl fun K hK => ?_
  iterate 5 refine evR_p ?_
  iterate 4 refine evR_g ?_
  refine evR_gc (hc := (c52 r hm _)) (k := ?_)
  refine evR_g ?_
  iterate 2 refine evR_p ?_
  iterate 2 refine evR_g ?_
  iterate 2 refine evR_p ?_
  iterate 6 refine evR_g ?_
  refine evR_p ?_
  refine evR_e hK ?_; clear hK K
  refine hK3 _ ?_
  refine tr_condB (fun ht1 => ?_) (fun ht1 => ?_)
  · skip
    refine tr_seq fun K4 hK4 => ?_
    refine tr_region [4] rfl rfl fun K hK => ?_
    refine evR_p ?_
    refine evR_e hK ?_; clear hK K
    refine hK4 _ ?_
    refine tr_ret ?_
    (try simp only [thenE, inBlkE])
    simp (maxSteps := 4000000) (disch := first | assumption | omega | (simp only [go_sem, *]; done) | (simp only [go_sem, *]; omega)) only [postA, postO, resV1, fzAll, go_sem, hq, Int.reduceToNat, Nat.reduceBEq, Nat.reduceEqDiff, Nat.reduceAdd, Nat.reduceMul, Nat.reduceLeDiff, Nat.reduceLT, Nat.reduceSub, ↓reduceIte, reduceCtorEq]
    all_goals ((first | (rw [sumW_yes ht1]; done) | (rw [sumW_no ht1]; done)))
  · skip
    refine tr_skip ?_
    (try simp only [thenE, inBlkE])
    refine hK2 _ ?_
    refine tr_seq fun K5 hK5 => ?_
    refine tr_region [4] rfl rfl fun K hK => ?_
    iterate 3 refine evR_p ?_
    refine evR_c (hc := (c42 _ _ hm)) (k := ?_)
    refine evR_p ?_
    refine evR_e hK ?_; clear hK K
    refine hK5 _ ?_
    refine tr_ret ?_
    (try simp only [thenE, inBlkE])
    simp (maxSteps := 4000000) (disch := first | assumption | omega | (simp only [go_sem, *]; done) | (simp only [go_sem, *]; omega)) only [postA, postO, resV1, fzAll, go_sem, hq, Int.reduceToNat, Nat.reduceBEq, Nat.reduceEqDiff, Nat.reduceAdd, Nat.reduceMul, Nat.reduceLeDiff, Nat.reduceLT, Nat.reduceSub, ↓reduceIte, reduceCtorEq]
    all_goals ((first | (rw [sumW_yes ht1]; done) | (rw [sumW_no ht1]; done)))

theorem c45 (p : Pg) (hr : p.rows.length ≤ maxLen) (hg : p.gain.length ≤ maxLen) (hc : ∀ r ∈ p.rows, r.coef.length ≤ maxLen) (set : Int) (hch : choiceB p set = true) : CallsA Try.prog 45 [.agg (encPg p), .int .i64 set] (.bool (allKept p.rows set)) := by
  have hr3 := choiceB_rows hch
  have hq : True := trivial
  refine callsA_of_tr Try.func45 rfl (Nat.le_of_ble_eq_true rfl) ?_
  simp only [Try.results45, envOf, Nat.reduceAdd]
  refine tr_seq fun K1 hK1 => ?_
  refine tr_region [1, 2] rfl rfl fun K hK => ?_
  iterate 2 refine evR_p ?_
  refine evR_e hK ?_; clear hK K
  refine hK1 _ ?_
  refine tr_seq fun K2 hK2 => ?_
  refine tr_seq fun K3 hK3 => ?_
  refine tr_region [1, 2, 5] rfl rfl fun K hK => ?_
  refine evR_p ?_
  refine evR_e hK ?_; clear hK K
  refine hK3 _ ?_
  refine tr_block ?_
  -- loop 1: live [1, 2, 5]
  refine tr_loopW (fun m σ => ∃ i : Nat, i + m = p.rows.length ∧ (∀ j, j < i → keptB (p.rows.getD j rw0) set = true) ∧ σ = ⟨[(1, .int .i64 set), (2, .ptr 0 0), (5, .int .i64 (i : Nat))], [(0, .cells (encPg p))], 1⟩) (p.rows.length) ?_ ?_
  · exact ⟨_, Wk.refl _, 0, by omega, (by intro j hj; omega), rfl⟩
  · rintro m σ ⟨i, hi, hb, rfl⟩ KL1 hKL1
    refine tr_seq fun K4 hK4 => ?_
    refine tr_seq fun K5 hK5 => ?_
    refine tr_region [1, 2, 5, 10] rfl rfl fun K hK => ?_
    iterate 5 refine evR_p ?_
    refine evR_e hK ?_; clear hK K
    refine hK5 _ ?_
    refine tr_condB (fun ht1 => ?_) (fun ht1 => ?_)
    · skip
      have hil : i < p.rows.length := by omega
      have hkp := row_kept hch hil
      replace hq := And.intro hq (hil)
      refine tr_skip ?_
      (try simp only [thenE, inBlkE])
      refine hK4 _ ?_
      refine tr_seq fun K6 hK6 => ?_
      refine tr_block ?_
      refine tr_seq fun K7 hK7 => ?_
      refine tr_draw [] [1, 2, 5, 27] mixed rfl (by kernel_rfl) rfl fun K hK => ?_
      iterate 7 refine evD_p ?_
      refine evD_c (hc := (c42 _ _ (hc _ (getD_mem hil)))) (k := ?_)
      iterate 7 refine evD_p ?_
      refine evD_e hK ?_; clear hK K
      refine hK7 _ ?_
      refine tr_condB (fun ht2 => ?_) (fun ht2 => ?_)
      · skip
        refine tr_seq fun K8 hK8 => ?_
        refine tr_region [4] rfl rfl fun K hK => ?_
        refine evR_p ?_
        refine evR_e hK ?_; clear hK K
        refine hK8 _ ?_
        refine tr_ret ?_
        (try simp only [thenE, inBlkE])
        simp (maxSteps := 4000000) (disch := first | assumption | omega | (simp only [go_sem, *]; done) | (simp only [go_sem, *]; omega)) only [postA, postO, resV1, fzAll, go_sem, hq, Int.reduceToNat, Nat.reduceBEq, Nat.reduceEqDiff, Nat.reduceAdd, Nat.reduceMul, Nat.reduceLeDiff, Nat.reduceLT, Nat.reduceSub, ↓reduceIte, reduceCtorEq]
        all_goals ((first | (rw [allKept_yes hb]; done) | (rw [allKept_no hil (by rw [hkp, decide_eq_true ht2]; rfl)]; done)))
      · skip
        refine tr_skip ?_
        (try simp only [thenE, inBlkE])
        refine hK6 _ ?_
        refine tr_region [1, 2, 5] rfl rfl fun K hK => ?_
        iterate 3 refine evR_p ?_
        refine evR_e hK ?_; clear hK K
        refine hKL1 _ ?_
        exact ⟨m - 1, _, by omega, Wk.refl _, i + 1, by omega, (fun j hj => (by rcases Nat.lt_or_ge j i with h | h; exact hb j h; (have : j = i := (by omega)); subst this; rw [hkp, decide_eq_false ht2]; rfl)), by rw [w64 (x := (i : Int) + 1) (by omega)]; rfl⟩
    · skip
      have hil : i = p.rows.length := by omega
      subst hil
      refine tr_exit ?_
      simp only [thenE, inBlkE, Nat.reduceEqDiff, ↓reduceIte]
      refine hK2 _ ?_
      refine tr_seq fun K9 hK9 => ?_
      refine tr_region [4] rfl rfl fun K hK => ?_
      refine evR_p ?_
      refine evR_e hK ?_; clear hK K
      refine hK9 _ ?_
      refine tr_ret ?_
      (try simp only [thenE, inBlkE])
      simp (maxSteps := 4000000) (disch := first | assumption | omega | (simp only [go_sem, *]; done) | (simp only [go_sem, *]; omega)) only [postA, postO, resV1, fzAll, go_sem, hq, Int.reduceToNat, Nat.reduceBEq, Nat.reduceEqDiff, Nat.reduceAdd, Nat.reduceMul, Nat.reduceLeDiff, Nat.reduceLT, Nat.reduceSub, ↓reduceIte, reduceCtorEq]
      all_goals ((first | (rw [allKept_yes hb]; done) | (rw [allKept_no hil (by rw [hkp, decide_eq_true ht2]; rfl)]; done)))

theorem c17 (p : Pg) (hr : p.rows.length ≤ maxLen) (hg : p.gain.length ≤ maxLen) (hc : ∀ r ∈ p.rows, r.coef.length ≤ maxLen) (hv : validB p = true) : CallsA Try.prog 17 [.agg (encPg p)] (.tup [.sl 1 (encI (choiceL p)), .int .i64 0]) := by
  obtain ⟨v, hv1, hv2, hv3, hv4⟩ := vars_pow hv
  have hv5 : shlW .i64 1 p.vars = ((2 ^ v : Nat) : Int) := by rw [hv1]; exact hv3
  have hq := And.intro hv (hv5)
  refine callsA_of_tr Try.func17 rfl (Nat.le_of_ble_eq_true rfl) ?_
  simp only [Try.results17, envOf, Nat.reduceAdd]
  refine tr_seq fun K1 hK1 => ?_
  refine tr_region [1] rfl rfl fun K hK => ?_
  iterate 3 refine evR_p ?_
  refine evR_e hK ?_; clear hK K
  refine hK1 _ ?_
  refine tr_seq fun K2 hK2 => ?_
  refine tr_seq fun K3 hK3 => ?_
  refine tr_region [1, 8] rfl rfl fun K hK => ?_
  refine evR_p ?_
  refine evR_c (hc := (c21 p hr hg hc)) (k := ?_)
  refine evR_p ?_
  refine evR_e hK ?_; clear hK K
  refine hK3 _ ?_
  refine tr_condB (fun ht1 => ?_) (fun ht1 => ?_)
  · skip
    (first | (exfalso; simp_all; done) | skip)
    all_goals
      refine tr_seq fun K4 hK4 => ?_
      refine tr_region [2, 3] rfl rfl fun K hK => ?_
      iterate 2 refine evR_p ?_
      refine evR_e hK ?_; clear hK K
      refine hK4 _ ?_
      refine tr_ret ?_
      (try simp only [thenE, inBlkE])
      simp (maxSteps := 4000000) (disch := first | assumption | omega | (simp only [go_sem, *]; done) | (simp only [go_sem, *]; omega)) only [postA, postO, resV1, fzAll, go_sem, hq, Int.reduceToNat, Nat.reduceBEq, Nat.reduceEqDiff, Nat.reduceAdd, Nat.reduceMul, Nat.reduceLeDiff, Nat.reduceLT, Nat.reduceSub, ↓reduceIte, reduceCtorEq]
      all_goals ((unfold choiceL; rw [hv1]; rfl))
  · skip
    (first | (exfalso; simp_all; done) | skip)
    all_goals
      refine tr_skip ?_
      (try simp only [thenE, inBlkE])
      refine hK2 _ ?_
      refine tr_seq fun K5 hK5 => ?_
      refine tr_region [1, 4] rfl rfl fun K hK => ?_
      refine evR_p ?_
      refine evR_e hK ?_; clear hK K
      refine hK5 _ ?_
      refine tr_seq fun K6 hK6 => ?_
      refine tr_seq fun K7 hK7 => ?_
      refine tr_region [1, 4, 5] rfl rfl fun K hK => ?_
      refine evR_p ?_
      refine evR_e hK ?_; clear hK K
      refine hK7 _ ?_
      refine tr_block ?_
      -- loop 1: live [1, 4, 5]
      refine tr_loopW (fun m σ => ∃ i : Nat, i + m = 2 ^ v ∧ σ = ⟨[(1, .ptr 0 0), (4, .own 1), (5, .int .i64 (i : Nat))], [(1, .row 3 1 (encI (chL p.rows i))), (0, .cells (encPg p))], 2⟩) (2 ^ v) ?_ ?_
      · exact ⟨_, Wk.nilslot 3 1 4 rfl, 0, by omega, rfl⟩
      · rintro m σ ⟨i, hi, rfl⟩ KL1 hKL1
        have hcl := chL_length p.rows i
        refine tr_seq fun K8 hK8 => ?_
        refine tr_seq fun K9 hK9 => ?_
        refine tr_region [1, 4, 5, 13] rfl rfl fun K hK => ?_
        iterate 5 refine evR_p ?_
        refine evR_e hK ?_; clear hK K
        refine hK9 _ ?_
        refine tr_condB (fun ht2 => ?_) (fun ht2 => ?_)
        · skip
          (first | (exfalso; simp_all; done) | skip)
          all_goals
            have hil : i < 2 ^ v := by omega
            replace hq := And.intro hq (hil)
            refine tr_skip ?_
            (try simp only [thenE, inBlkE])
            refine hK8 _ ?_
            refine tr_seq fun K10 hK10 => ?_
            refine tr_block ?_
            refine tr_seq fun K11 hK11 => ?_
            refine tr_region [1, 4, 5, 18] rfl rfl fun K hK => ?_
            iterate 2 refine evR_p ?_
            refine evR_c (hc := (c45 p hr hg hc (i : Nat) (choice_in hv hv1 hil))) (k := ?_)
            refine evR_e hK ?_; clear hK K
            refine hK11 _ ?_
            refine tr_condB (fun ht3 => ?_) (fun ht3 => ?_)
            · skip
              (first | (exfalso; simp_all; done) | skip)
              all_goals
                refine tr_region [1, 4, 5] rfl rfl fun K hK => ?_
                iterate 2 refine evR_p ?_
                refine evR_bs ?_
                iterate 2 refine evR_p ?_
                refine evR_e hK ?_; clear hK K
                refine hK10 _ ?_
                refine tr_region [1, 4, 5] rfl rfl fun K hK => ?_
                iterate 3 refine evR_p ?_
                refine evR_e hK ?_; clear hK K
                refine hKL1 _ ?_
                first
                  | exact ⟨m - 1, _, by omega, (Wk.trans (Wk.ren 2 1 (Nat.le_of_ble_eq_true rfl) (Nat.le_of_ble_eq_true rfl) rfl) (Wk.cut 2 rfl)), i + 1, by omega, by rw [w64 (x := (i : Int) + 1) (by omega), chL_t ht3, encI_snoc]; rfl⟩
                  | exact ⟨m - 1, _, by omega, Wk.refl _, i + 1, by omega, by rw [w64 (x := (i : Int) + 1) (by omega), chL_f ht3]; rfl⟩
            · skip
              (first | (exfalso; simp_all; done) | skip)
              all_goals
                refine tr_skip ?_
                (try simp only [thenE, inBlkE])
                refine hK10 _ ?_
                refine tr_region [1, 4, 5] rfl rfl fun K hK => ?_
                iterate 3 refine evR_p ?_
                refine evR_e hK ?_; clear hK K
                refine hKL1 _ ?_
                first
                  | exact ⟨m - 1, _, by omega, (Wk.trans (Wk.ren 2 1 (Nat.le_of_ble_eq_true rfl) (Nat.le_of_ble_eq_true rfl) rfl) (Wk.cut 2 rfl)), i + 1, by omega, by rw [w64 (x := (i : Int) + 1) (by omega), chL_t ht3, encI_snoc]; rfl⟩
                  | exact ⟨m - 1, _, by omega, Wk.refl _, i + 1, by omega, by rw [w64 (x := (i : Int) + 1) (by omega), chL_f ht3]; rfl⟩
        · skip
          (first | (exfalso; simp_all; done) | skip)
          all_goals
            have hil : i = 2 ^ v := by omega
            subst hil
            refine tr_exit ?_
            simp only [thenE, inBlkE, Nat.reduceEqDiff, ↓reduceIte]
            refine hK6 _ ?_
            refine tr_seq fun K12 hK12 => ?_
            refine tr_region [2, 3] rfl rfl fun K hK => ?_
            iterate 3 refine evR_p ?_
            refine evR_e hK ?_; clear hK K
            refine hK12 _ ?_
            refine tr_ret ?_
            (try simp only [thenE, inBlkE])
            simp (maxSteps := 4000000) (disch := first | assumption | omega | (simp only [go_sem, *]; done) | (simp only [go_sem, *]; omega)) only [postA, postO, resV1, fzAll, go_sem, hq, Int.reduceToNat, Nat.reduceBEq, Nat.reduceEqDiff, Nat.reduceAdd, Nat.reduceMul, Nat.reduceLeDiff, Nat.reduceLT, Nat.reduceSub, ↓reduceIte, reduceCtorEq]
            all_goals ((unfold choiceL; rw [hv1]; rfl))

theorem c17n (p : Pg) (hr : p.rows.length ≤ maxLen) (hg : p.gain.length ≤ maxLen) (hc : ∀ r ∈ p.rows, r.coef.length ≤ maxLen) (hv : validB p = false) : CallsA Try.prog 17 [.agg (encPg p)] (.tup [.nsl, .int .i64 230]) := by
  have hq := hv
  refine callsA_of_tr Try.func17 rfl (Nat.le_of_ble_eq_true rfl) ?_
  simp only [Try.results17, envOf, Nat.reduceAdd]
  refine tr_seq fun K1 hK1 => ?_
  refine tr_region [1] rfl rfl fun K hK => ?_
  iterate 3 refine evR_p ?_
  refine evR_e hK ?_; clear hK K
  refine hK1 _ ?_
  refine tr_seq fun K2 hK2 => ?_
  refine tr_seq fun K3 hK3 => ?_
  refine tr_region [1, 8] rfl rfl fun K hK => ?_
  refine evR_p ?_
  refine evR_c (hc := (c21 p hr hg hc)) (k := ?_)
  refine evR_p ?_
  refine evR_e hK ?_; clear hK K
  refine hK3 _ ?_
  refine tr_condB (fun ht1 => ?_) (fun ht1 => ?_)
  · skip
    (first | (exfalso; simp_all; done) | skip)
    all_goals
      refine tr_seq fun K4 hK4 => ?_
      refine tr_region [2, 3] rfl rfl fun K hK => ?_
      iterate 2 refine evR_p ?_
      refine evR_e hK ?_; clear hK K
      refine hK4 _ ?_
      refine tr_ret ?_
      (try simp only [thenE, inBlkE])
      simp (maxSteps := 4000000) (disch := first | assumption | omega | (simp only [go_sem, *]; done) | (simp only [go_sem, *]; omega)) only [postA, postO, resV1, fzAll, go_sem, hq, Int.reduceToNat, Nat.reduceBEq, Nat.reduceEqDiff, Nat.reduceAdd, Nat.reduceMul, Nat.reduceLeDiff, Nat.reduceLT, Nat.reduceSub, ↓reduceIte, reduceCtorEq]
      all_goals (rfl)
  · skip
    (first | (exfalso; simp_all; done) | skip)
    all_goals
      refine tr_skip ?_
      (try simp only [thenE, inBlkE])
      refine hK2 _ ?_
      refine tr_seq fun K5 hK5 => ?_
      refine tr_region [1, 4] rfl rfl fun K hK => ?_
      refine evR_p ?_
      refine evR_e hK ?_; clear hK K
      refine hK5 _ ?_
      refine tr_seq fun K6 hK6 => ?_
      refine tr_seq fun K7 hK7 => ?_
      refine tr_region [1, 4, 5] rfl rfl fun K hK => ?_
      refine evR_p ?_
      refine evR_e hK ?_; clear hK K
      refine hK7 _ ?_
      refine tr_block ?_
      -- loop 1: live [1, 4, 5]
      refine tr_loopW (fun m σ => ∃ i : Nat, i + m = 2 ^ v ∧ σ = ⟨[(1, .ptr 0 0), (4, .own 1), (5, .int .i64 (i : Nat))], [(1, .row 3 1 (encI (chL p.rows i))), (0, .cells (encPg p))], 2⟩) (2 ^ v) ?_ ?_
      · exact ⟨_, Wk.nilslot 3 1 4 rfl, 0, by omega, rfl⟩
      · rintro m σ ⟨i, hi, rfl⟩ KL1 hKL1
        have hcl := chL_length p.rows i
        refine tr_seq fun K8 hK8 => ?_
        refine tr_seq fun K9 hK9 => ?_
        refine tr_region [1, 4, 5, 13] rfl rfl fun K hK => ?_
        iterate 5 refine evR_p ?_
        refine evR_e hK ?_; clear hK K
        refine hK9 _ ?_
        refine tr_condB (fun ht2 => ?_) (fun ht2 => ?_)
        · skip
          (first | (exfalso; simp_all; done) | skip)
          all_goals
            have hil : i < 2 ^ v := by omega
            replace hq := And.intro hq (hil)
            refine tr_skip ?_
            (try simp only [thenE, inBlkE])
            refine hK8 _ ?_
            refine tr_seq fun K10 hK10 => ?_
            refine tr_block ?_
            refine tr_seq fun K11 hK11 => ?_
            refine tr_region [1, 4, 5, 18] rfl rfl fun K hK => ?_
            iterate 2 refine evR_p ?_
            refine evR_c (hc := (c45 p hr hg hc (i : Nat) (choice_in hv hv1 hil))) (k := ?_)
            refine evR_e hK ?_; clear hK K
            refine hK11 _ ?_
            refine tr_condB (fun ht3 => ?_) (fun ht3 => ?_)
            · skip
              (first | (exfalso; simp_all; done) | skip)
              all_goals
                refine tr_region [1, 4, 5] rfl rfl fun K hK => ?_
                iterate 2 refine evR_p ?_
                refine evR_bs ?_
                iterate 2 refine evR_p ?_
                refine evR_e hK ?_; clear hK K
                refine hK10 _ ?_
                refine tr_region [1, 4, 5] rfl rfl fun K hK => ?_
                iterate 3 refine evR_p ?_
                refine evR_e hK ?_; clear hK K
                refine hKL1 _ ?_
                first
                  | exact ⟨m - 1, _, by omega, (Wk.trans (Wk.ren 2 1 (Nat.le_of_ble_eq_true rfl) (Nat.le_of_ble_eq_true rfl) rfl) (Wk.cut 2 rfl)), i + 1, by omega, by rw [w64 (x := (i : Int) + 1) (by omega), chL_t ht3, encI_snoc]; rfl⟩
                  | exact ⟨m - 1, _, by omega, Wk.refl _, i + 1, by omega, by rw [w64 (x := (i : Int) + 1) (by omega), chL_f ht3]; rfl⟩
            · skip
              (first | (exfalso; simp_all; done) | skip)
              all_goals
                refine tr_skip ?_
                (try simp only [thenE, inBlkE])
                refine hK10 _ ?_
                refine tr_region [1, 4, 5] rfl rfl fun K hK => ?_
                iterate 3 refine evR_p ?_
                refine evR_e hK ?_; clear hK K
                refine hKL1 _ ?_
                first
                  | exact ⟨m - 1, _, by omega, (Wk.trans (Wk.ren 2 1 (Nat.le_of_ble_eq_true rfl) (Nat.le_of_ble_eq_true rfl) rfl) (Wk.cut 2 rfl)), i + 1, by omega, by rw [w64 (x := (i : Int) + 1) (by omega), chL_t ht3, encI_snoc]; rfl⟩
                  | exact ⟨m - 1, _, by omega, Wk.refl _, i + 1, by omega, by rw [w64 (x := (i : Int) + 1) (by omega), chL_f ht3]; rfl⟩
        · skip
          (first | (exfalso; simp_all; done) | skip)
          all_goals
            have hil : i = 2 ^ v := by omega
            subst hil
            refine tr_exit ?_
            simp only [thenE, inBlkE, Nat.reduceEqDiff, ↓reduceIte]
            refine hK6 _ ?_
            refine tr_seq fun K12 hK12 => ?_
            refine tr_region [2, 3] rfl rfl fun K hK => ?_
            iterate 3 refine evR_p ?_
            refine evR_e hK ?_; clear hK K
            refine hK12 _ ?_
            refine tr_ret ?_
            (try simp only [thenE, inBlkE])
            simp (maxSteps := 4000000) (disch := first | assumption | omega | (simp only [go_sem, *]; done) | (simp only [go_sem, *]; omega)) only [postA, postO, resV1, fzAll, go_sem, hq, Int.reduceToNat, Nat.reduceBEq, Nat.reduceEqDiff, Nat.reduceAdd, Nat.reduceMul, Nat.reduceLeDiff, Nat.reduceLT, Nat.reduceSub, ↓reduceIte, reduceCtorEq]
            all_goals (rfl)

theorem c64 (r : Rw) (hm : r.coef.length ≤ maxLen) (d set : Int) : CallsA Try.prog 64 [.agg (encRw r), .int .i64 d, .int .i64 set] (.int .i64 (lrG r.coef d set r.coef.length)) := by
  have hm0 := hm
  unfold maxLen at hm0
  have hq : True := trivial
  refine callsA_of_tr Try.func64 rfl (Nat.le_of_ble_eq_true rfl) ?_
  simp only [Try.results64, envOf, Nat.reduceAdd]
  refine tr_seq fun K1 hK1 => ?_
  refine tr_region [1, 2, 3] rfl rfl fun K hK => ?_
  iterate 2 refine evR_p ?_
  refine evR_e hK ?_; clear hK K
  refine hK1 _ ?_
  refine tr_seq fun K2 hK2 => ?_
  refine tr_region [1, 2, 3, 7] rfl rfl fun K hK => ?_
  refine evR_p ?_
  refine evR_e hK ?_; clear hK K
  refine hK2 _ ?_
  refine tr_seq fun K3 hK3 => ?_
  refine tr_seq fun K4 hK4 => ?_
  refine tr_region [1, 2, 3, 7, 8] rfl rfl fun K hK => ?_
  refine evR_p ?_
  refine evR_e hK ?_; clear hK K
  refine hK4 _ ?_
  refine tr_block ?_
  -- loop 1: live [1, 2, 3, 7, 8]
  refine tr_loopW (fun m σ => ∃ i : Nat, i + m = r.coef.length ∧ σ = ⟨[(1, .int .i64 d), (2, .int .i64 set), (3, .ptr 0 0), (7, .int .i64 (lrG r.coef d set i)), (8, .int .i64 (i : Nat))], [(0, .cells (encRw r))], 1⟩) (r.coef.length) ?_ ?_
  · exact ⟨_, Wk.refl _, 0, by omega, rfl⟩
  · rintro m σ ⟨i, hi, rfl⟩ KL1 hKL1
    refine tr_seq fun K5 hK5 => ?_
    refine tr_seq fun K6 hK6 => ?_
    refine tr_region [1, 2, 3, 7, 8, 13] rfl rfl fun K hK => ?_
    iterate 5 refine evR_p ?_
    refine evR_e hK ?_; clear hK K
    refine hK6 _ ?_
    refine tr_condB (fun ht1 => ?_) (fun ht1 => ?_)
    · skip
      have hil : i < r.coef.length := by omega
      replace hq := And.intro hq (hil)
      refine tr_skip ?_
      (try simp only [thenE, inBlkE])
      refine hK5 _ ?_
      refine tr_seq fun K7 hK7 => ?_
      refine tr_block ?_
      refine tr_seq fun K8 hK8 => ?_
      refine tr_region [1, 2, 3, 7, 8, 18] rfl rfl fun K hK => ?_
      iterate 3 refine evR_p ?_
      refine evR_e hK ?_; clear hK K
      refine hK8 _ ?_
      refine tr_condB (fun ht2 => ?_) (fun ht2 => ?_)
      · skip
        refine tr_draw [] [1, 2, 3, 7, 8] mixed rfl (by kernel_rfl) rfl fun K hK => ?_
        iterate 13 refine evD_p ?_
        refine evD_e hK ?_; clear hK K
        refine hK7 _ ?_
        refine tr_region [1, 2, 3, 7, 8] rfl rfl fun K hK => ?_
        iterate 3 refine evR_p ?_
        refine evR_e hK ?_; clear hK K
        refine hKL1 _ ?_
        first
          | exact ⟨m - 1, _, by omega, Wk.refl _, i + 1, by omega, by rw [w64 (x := (i : Int) + 1) (by omega), lrG_1 ht2]; rfl⟩
          | exact ⟨m - 1, _, by omega, Wk.refl _, i + 1, by omega, by rw [w64 (x := (i : Int) + 1) (by omega), lrG_2 ht2 ht3]; rfl⟩
          | exact ⟨m - 1, _, by omega, Wk.refl _, i + 1, by omega, by rw [w64 (x := (i : Int) + 1) (by omega), lrG_3 ht2 ht3]; rfl⟩
      · skip
        refine tr_seq fun K9 hK9 => ?_
        refine tr_region [1, 2, 3, 7, 8, 36] rfl rfl fun K hK => ?_
        iterate 6 refine evR_p ?_
        refine evR_e hK ?_; clear hK K
        refine hK9 _ ?_
        refine tr_condB (fun ht3 => ?_) (fun ht3 => ?_)
        · skip
          refine tr_region [1, 2, 3, 7, 8] rfl rfl fun K hK => ?_
          iterate 8 refine evR_p ?_
          refine evR_e hK ?_; clear hK K
          refine hK7 _ ?_
          refine tr_region [1, 2, 3, 7, 8] rfl rfl fun K hK => ?_
          iterate 3 refine evR_p ?_
          refine evR_e hK ?_; clear hK K
          refine hKL1 _ ?_
          first
            | exact ⟨m - 1, _, by omega, Wk.refl _, i + 1, by omega, by rw [w64 (x := (i : Int) + 1) (by omega), lrG_1 ht2]; rfl⟩
            | exact ⟨m - 1, _, by omega, Wk.refl _, i + 1, by omega, by rw [w64 (x := (i : Int) + 1) (by omega), lrG_2 ht2 ht3]; rfl⟩
            | exact ⟨m - 1, _, by omega, Wk.refl _, i + 1, by omega, by rw [w64 (x := (i : Int) + 1) (by omega), lrG_3 ht2 ht3]; rfl⟩
        · skip
          refine tr_skip ?_
          (try simp only [thenE, inBlkE])
          refine hK7 _ ?_
          refine tr_region [1, 2, 3, 7, 8] rfl rfl fun K hK => ?_
          iterate 3 refine evR_p ?_
          refine evR_e hK ?_; clear hK K
          refine hKL1 _ ?_
          first
            | exact ⟨m - 1, _, by omega, Wk.refl _, i + 1, by omega, by rw [w64 (x := (i : Int) + 1) (by omega), lrG_1 ht2]; rfl⟩
            | exact ⟨m - 1, _, by omega, Wk.refl _, i + 1, by omega, by rw [w64 (x := (i : Int) + 1) (by omega), lrG_2 ht2 ht3]; rfl⟩
            | exact ⟨m - 1, _, by omega, Wk.refl _, i + 1, by omega, by rw [w64 (x := (i : Int) + 1) (by omega), lrG_3 ht2 ht3]; rfl⟩
    · skip
      have hil : i = r.coef.length := by omega
      subst hil
      refine tr_exit ?_
      simp only [thenE, inBlkE, Nat.reduceEqDiff, ↓reduceIte]
      refine hK3 _ ?_
      refine tr_seq fun K10 hK10 => ?_
      refine tr_region [6] rfl rfl fun K hK => ?_
      iterate 2 refine evR_p ?_
      refine evR_e hK ?_; clear hK K
      refine hK10 _ ?_
      refine tr_ret ?_
      (try simp only [thenE, inBlkE])
      simp (maxSteps := 4000000) (disch := first | assumption | omega | (simp only [go_sem, *]; done) | (simp only [go_sem, *]; omega)) only [postA, postO, resV1, fzAll, go_sem, hq, Int.reduceToNat, Nat.reduceBEq, Nat.reduceEqDiff, Nat.reduceAdd, Nat.reduceMul, Nat.reduceLeDiff, Nat.reduceLT, Nat.reduceSub, ↓reduceIte, reduceCtorEq]
      all_goals (rfl)

end Go.Proofs.Ytcphhbiehaimeaa

