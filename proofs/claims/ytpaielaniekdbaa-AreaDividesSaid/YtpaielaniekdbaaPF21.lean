/- A polygon's edges. -/
import Derived.Test.YtpaielaniekdbaaPE21
namespace Go.Proofs.Ytpaielaniekdbaa
open Go.RowKit
set_option linter.unusedVariables false
set_option linter.unusedSimpArgs false
def edgesFrom (a : Pl) : List Pl → List (Pl × Pl)
  | [] => []
  | b :: bs => (a, b) :: edgesFrom b bs
def hitE (p : Pl) (e : Pl × Pl) : Bool := hitP e.1 e.2 p
def crossE (p : Pl) (e : Pl × Pl) : Bool := crossP e.1 e.2 p
def sideE (p : Pl) (out : Int) (es : List (Pl × Pl)) : Int := if es.any (hitE p) then 0 else if es.countP (crossE p) % 2 = 0 then out else 0 - out
theorem sideGo_E (p : Pl) : ∀ (l : List Pl) (a : Pl) (out : Int), sideGo p a out l = sideE p out (edgesFrom a l)
  | [], a, out => by simp [sideGo, sideE, edgesFrom]
  | b :: bs, a, out => by
    simp only [sideGo, edgesFrom]
    rw [sideGo_E p bs]
    unfold sideE
    simp only [List.any_cons, List.countP_cons, hitE, crossE]
    cases hh : hitP a b p with
    | true => simp
    | false =>
      simp only [Bool.false_eq_true, if_false, Bool.false_or]
      split
      · rfl
      · rcases Bool.eq_false_or_eq_true (crossP a b p) with hc | hc <;> simp only [hc, if_true, Bool.false_eq_true, if_false, Nat.add_zero]
        split <;> split <;> omega
def lastP (l : List Pl) : Pl := l.getD (l.length - 1) ⟨0, 0⟩
def edges (l : List Pl) : List (Pl × Pl) := edgesFrom (lastP l) l
theorem sideP_E (l : List Pl) (p : Pl) : sideP l p = sideE p (-1) (edges l) := sideGo_E p l _ _
theorem edgesFrom_append (a : Pl) : ∀ (u v : List Pl), edgesFrom a (u ++ v) = edgesFrom a u ++ edgesFrom (if u = [] then a else lastP u) v
  | [], v => by simp [edgesFrom]
  | b :: bs, v => by
    simp only [List.cons_append, edgesFrom, edgesFrom_append b bs v]
    cases bs with
    | nil => simp [lastP]
    | cons c cs => simp [lastP]
theorem lastP_append (u v : List Pl) (h : v ≠ []) : lastP (u ++ v) = lastP v := by
  have hl : 0 < v.length := List.length_pos_iff.2 h
  simp only [lastP, List.getD_eq_getElem?_getD, List.length_append]
  rw [List.getElem?_append_right (by omega)]
  congr 2; omega
theorem edges_rot (u v : List Pl) : (edges (u ++ v)).Perm (edges (v ++ u)) := by
  rcases List.eq_nil_or_concat u with hu | ⟨u', x, hu⟩
  · subst hu; simp
  rcases List.eq_nil_or_concat v with hv | ⟨v', y, hv⟩
  · subst hv; simp
  have h1 : u ≠ [] := by subst hu; simp
  have h2 : v ≠ [] := by subst hv; simp
  unfold edges
  rw [lastP_append u v h2, lastP_append v u h1, edgesFrom_append, edgesFrom_append, if_neg h1, if_neg h2]
  exact List.perm_append_comm
def swapE (e : Pl × Pl) : Pl × Pl := (e.2, e.1)
theorem edgesFrom_snoc (a : Pl) (u : List Pl) (b : Pl) : edgesFrom a (u ++ [b]) = edgesFrom a u ++ [(if u = [] then a else lastP u, b)] := by
  rw [edgesFrom_append]; rfl
/-- Back along a way. -/
theorem edgesFrom_rev (a : Pl) : ∀ (l : List Pl), (edgesFrom (lastP (a :: l)) ((a :: l).reverse.drop 1)) = (edgesFrom a l).reverse.map swapE
  | [] => by simp [edgesFrom]
  | b :: bs => by
    have ih := edgesFrom_rev b bs
    have e1 : lastP (a :: b :: bs) = lastP (b :: bs) := lastP_append [a] (b :: bs) (by simp)
    have e2 : (a :: b :: bs).reverse.drop 1 = (b :: bs).reverse.drop 1 ++ [a] := by
      rw [List.reverse_cons, List.drop_append_of_le_length (by simp)]
    rw [e1, e2, edgesFrom_snoc, ih]
    simp only [edgesFrom, List.reverse_cons, List.map_append, List.map_cons, List.map_nil, swapE]
    congr 3
    by_cases h : (bs.reverse ++ [b]).drop 1 = []
    · rw [if_pos h]
      have : bs = [] := by
        have := congrArg List.length h
        simp at this
        exact this
      subst this; rfl
    · rw [if_neg h]
      have hbs : bs ≠ [] := by intro e; subst e; simp at h
      have : (bs.reverse ++ [b]).drop 1 = bs.reverse.drop 1 ++ [b] := by rw [List.drop_append_of_le_length]; simp; exact List.length_pos_iff.2 hbs
      rw [this, lastP_append _ [b] (by simp)]; rfl
theorem hit_swap (p : Pl) (e : Pl × Pl) : hitE p (swapE e) = hitE p e := by
  obtain ⟨a, b⟩ := e
  have h : turnP b a p = 0 - turnP a b p := by
    have e1 : (a.x - b.x) * (p.y - b.y) = (b.x - a.x) * (b.y - p.y) := by
      have : a.x - b.x = -(b.x - a.x) := by omega
      have h2 : p.y - b.y = -(b.y - p.y) := by omega
      rw [this, h2, Int.neg_mul_neg]
    simp only [turnP, Int.sub_mul, Int.mul_sub]
    have c1 := Int.mul_comm a.x b.y
    have c2 := Int.mul_comm b.x a.y
    have c3 := Int.mul_comm b.x b.y
    have c4 := Int.mul_comm a.x a.y
    omega
  rw [Bool.eq_iff_iff]
  simp only [hitE, swapE, hitP, nearP, h, minV_min, maxV_max, Bool.and_eq_true, decide_eq_true_eq]
  omega
theorem turn_swap (a b p : Pl) : turnP b a p = 0 - turnP a b p := by
  simp only [turnP, Int.sub_mul, Int.mul_sub]
  have c1 := Int.mul_comm a.x b.y
  have c2 := Int.mul_comm b.x a.y
  have c3 := Int.mul_comm b.x b.y
  have c4 := Int.mul_comm a.x a.y
  omega
theorem cross_comm (a b p : Pl) : crossP b a p = crossP a b p := by
  rw [Bool.eq_iff_iff]
  simp only [crossP, turn_swap a b p, Bool.and_eq_true, Bool.or_eq_true, decide_eq_true_eq]
  omega
theorem cross_swap (p : Pl) (e : Pl × Pl) : crossE p (swapE e) = crossE p e := cross_comm e.1 e.2 p
theorem edges_rev (l : List Pl) : (edges l.reverse).Perm ((edges l).map swapE) := by
  cases l with
  | nil => simp [edges, edgesFrom]
  | cons a l =>
    rcases List.eq_nil_or_concat l with hl | ⟨m, z, hl⟩
    · subst hl; simp [edges, edgesFrom, lastP, swapE]
    · rw [List.concat_eq_append] at hl
      have h2 : l ≠ [] := by subst hl; simp
      have e1 : lastP (a :: l) = z := by subst hl; exact lastP_append (a :: m) [z] (by simp)
      have e2 : (a :: l).reverse = z :: (a :: l).reverse.drop 1 := by subst hl; simp
      have e3 : lastP (a :: l).reverse = a := by rw [List.reverse_cons]; exact lastP_append l.reverse [a] (by simp)
      have h := edgesFrom_rev a l
      rw [e1] at h
      unfold edges
      rw [e3, e1]
      rw [e2]
      simp only [edgesFrom, List.map_cons]
      rw [h]
      refine List.Perm.cons _ ?_
      exact (List.reverse_perm _).map _
theorem sideE_perm {p : Pl} {out : Int} {es fs : List (Pl × Pl)} (h : es.Perm fs) : sideE p out es = sideE p out fs := by
  unfold sideE
  rw [h.any_eq, h.countP_eq]
theorem sideE_swap (p : Pl) (out : Int) (es : List (Pl × Pl)) : sideE p out (es.map swapE) = sideE p out es := by
  unfold sideE
  have e1 : (es.map swapE).any (hitE p) = es.any (hitE p) := by
    rw [List.any_map]; congr 1; funext e; exact hit_swap p e
  have e2 : (es.map swapE).countP (crossE p) = es.countP (crossE p) := by
    rw [List.countP_map]; congr 1; funext e; exact cross_swap p e
  rw [e1, e2]
theorem side_rot (u v : List Pl) (p : Pl) : sideP (u ++ v) p = sideP (v ++ u) p := by
  rw [sideP_E, sideP_E]; exact sideE_perm (edges_rot u v)
theorem side_rev (l : List Pl) (p : Pl) : sideP l.reverse p = sideP l p := by
  rw [sideP_E, sideP_E, sideE_perm (edges_rev l), sideE_swap]
end Go.Proofs.Ytpaielaniekdbaa
