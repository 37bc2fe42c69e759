/- Programs: rows, choices, sums. -/
import Derived.Test.YtcphhbiehaimeaaP21
namespace Go.Proofs.Ytcphhbiehaimeaa
open Go.RowKit
set_option linter.unusedVariables false
set_option linter.unusedSimpArgs false
theorem encI_snoc (a : List Int) (n : Int) : encI (a ++ [n]) = encI a ++ [[V.int .i64 n]] := by simp [encI]
theorem encI_drop (l : List Int) (n : Nat) : (encI l).drop n = encI (l.drop n) := by simp [encI, List.map_drop]
theorem encI_take (l : List Int) (n : Nat) : (encI l).take n = encI (l.take n) := by simp [encI, List.map_take]
theorem encI_app (a b : List Int) : encI a ++ encI b = encI (a ++ b) := by simp [encI]
structure Rw where
  kind : Int
  a : Int
  b : Int
  pl : Int
  coef : List Int
  most : Int
instance : Inhabited Rw := ⟨⟨0, 0, 0, 0, [], 0⟩⟩
def rw0 : Rw := ⟨0, 0, 0, 0, [], 0⟩
def encRw (r : Rw) : List V := [.int .i64 r.kind, .int .i64 r.a, .int .i64 r.b, .int .i64 r.pl, .sl 1 (encI r.coef), .int .i64 r.most]
def encR (l : List Rw) : List (List V) := l.map encRw
theorem encR_length (l : List Rw) : (encR l).length = l.length := by simp [encR]
theorem encR_getD (l : List Rw) (k : Nat) (h : k < l.length) : (encR l).getD k [] = encRw (l.getD k rw0) := by simp [encR, List.getD, h]
theorem encR_snoc (a : List Rw) (r : Rw) : encR (a ++ [r]) = encR a ++ [encRw r] := by simp [encR]
structure Pg where
  vars : Int
  rows : List Rw
  gain : List Int
def encPg (p : Pg) : List V := [.int .i64 p.vars, .sl 6 (encR p.rows), .sl 1 (encI p.gain)]
def cBit (set : Int) (i : Nat) : Bool := decide (bitsV .and .i64 (shrW .i64 set i) 1 = 1)
def chosenG (l : List Int) (set : Int) : Nat → Int
  | 0 => 0
  | n + 1 => if cBit set n then IntKind.i64.wrap (chosenG l set n + l.getD n 0) else chosenG l set n
def chosenW (l : List Int) (set : Int) : Int := chosenG l set l.length
theorem chosenG_t {l : List Int} {set : Int} {i : Nat} (h : cBit set i = true) : chosenG l set (i + 1) = IntKind.i64.wrap (chosenG l set i + l.getD i 0) := by simp [chosenG, h]
theorem chosenG_f {l : List Int} {set : Int} {i : Nat} (h : cBit set i = false) : chosenG l set (i + 1) = chosenG l set i := by simp [chosenG, h]
def isInB (n lo hi : Int) : Bool := decide (lo ≤ n) && decide (n ≤ hi)
theorem isInB_spec {n lo hi : Int} : isInB n lo hi = true ↔ lo ≤ n ∧ n ≤ hi := by simp [isInB]
def coefB (l : List Int) : Bool := l.all fun n => isInB n (-1000000000) 1000000000
def rightB (r : Rw) (vars : Int) : Bool := decide ((r.coef.length : Int) = vars) && (coefB r.coef && isInB r.most (-1000000000000) 1000000000000)
def validB (p : Pg) : Bool := isInB p.vars 0 12 && (decide ((p.rows.length : Int) ≤ 300) && (p.rows.all (fun r => rightB r p.vars) && (decide ((p.gain.length : Int) = p.vars) && coefB p.gain)))
theorem validB_vars {p : Pg} (h : validB p = true) : 0 ≤ p.vars ∧ p.vars ≤ 12 := by
  simp only [validB, Bool.and_eq_true] at h
  exact isInB_spec.1 h.1
def choiceB (p : Pg) (set : Int) : Bool := validB p && isInB set 0 (IntKind.i64.wrap (shlW .i64 1 p.vars - 1))
def keptB (r : Rw) (set : Int) : Bool := decide (chosenW r.coef set ≤ r.most)
def keepsB (p : Pg) (set : Int) : Bool := choiceB p set && p.rows.all fun r => keptB r set
def gainW (p : Pg) (set : Int) : Int := if choiceB p set then chosenW p.gain set else 0
def brkTo (p : Pg) (set : Int) : Nat → List Int
  | 0 => []
  | n + 1 => if keptB (p.rows.getD n rw0) set then brkTo p set n else brkTo p set n ++ [(n : Int)]
theorem brkTo_t {p : Pg} {set : Int} {i : Nat} (h : keptB (p.rows.getD i rw0) set = true) : brkTo p set (i + 1) = brkTo p set i := by simp only [brkTo, h, if_true]
theorem brkTo_f {p : Pg} {set : Int} {i : Nat} (h : keptB (p.rows.getD i rw0) set = false) : brkTo p set (i + 1) = brkTo p set i ++ [(i : Int)] := by simp only [brkTo, h]; rfl
theorem brkTo_length (p : Pg) (set : Int) : ∀ n, (brkTo p set n).length ≤ n
  | 0 => Nat.le_refl _
  | n + 1 => by have := brkTo_length p set n; simp only [brkTo]; split <;> (try simp) <;> omega
def brokenW (p : Pg) (set : Int) : List Int := if choiceB p set then brkTo p set p.rows.length else []
def sumW (r : Rw) (set : Int) : Int := if decide (12 < (r.coef.length : Int)) || (!rightB r r.coef.length || !isInB set 0 (IntKind.i64.wrap (shlW .i64 1 r.coef.length - 1))) then 0 else chosenW r.coef set
theorem all_not {α : Type} (p : α → Bool) (l : List α) : (!(l.any fun x => !p x)) = l.all p := by simp [List.all_eq_not_any_not]
theorem shl_small {k : Int} (h : 0 ≤ k ∧ k ≤ 12) : IntKind.i64.wrap (shlW .i64 1 k - 1) = shlW .i64 1 k - 1 ∧ 1 ≤ shlW .i64 1 k ∧ shlW .i64 1 k ≤ 4096 := by
  obtain ⟨n, rfl⟩ := Int.eq_ofNat_of_zero_le h.1
  have hn : n ≤ 12 := by omega
  have : ∀ n : Fin 13, IntKind.i64.wrap (shlW .i64 1 (n.val : Int) - 1) = shlW .i64 1 (n.val : Int) - 1 ∧ 1 ≤ shlW .i64 1 (n.val : Int) ∧ shlW .i64 1 (n.val : Int) ≤ 4096 := by decide +kernel
  exact this ⟨n, by omega⟩
theorem choiceB_rows {p : Pg} {set : Int} (h : choiceB p set = true) : p.rows.length ≤ 300 := by
  simp only [choiceB, validB, Bool.and_eq_true, decide_eq_true_eq] at h
  have := h.1.2.1
  omega
def negG (g : List Int) (n : Nat) : List Int := (g.take n).map fun x => IntKind.i64.wrap (0 - x)
theorem negG_succ {g : List Int} {n : Nat} (h : n < g.length) : negG g (n + 1) = negG g n ++ [IntKind.i64.wrap (0 - g.getD n 0)] := take_snoc _ _ h
theorem negG_length (g : List Int) (n : Nat) : (negG g n).length = min n g.length := by simp [negG]
/-- What 'goal' makes. -/
def goalW (p : Pg) (gain : Int) : Rw := ⟨0, 0, 0, 0, negG p.gain p.gain.length, IntKind.i64.wrap (0 - IntKind.i64.wrap (gain + 1))⟩
theorem take_one_eq {α : Type} {d : α} {a b : List α} {i : Nat} (ha : i < a.length) (hb : i < b.length) (h : a.take i = b.take i) (he : a.getD i d = b.getD i d) : a.take (i + 1) = b.take (i + 1) := by
  rw [List.take_add_one, List.take_add_one, h, List.getElem?_eq_getElem ha, List.getElem?_eq_getElem hb]
  simp only [List.getD, List.getElem?_eq_getElem ha, List.getElem?_eq_getElem hb, Option.getD_some] at he
  rw [he]
theorem ne_of_getD {α : Type} {d : α} {a b : List α} {i : Nat} (h : ¬ a.getD i d = b.getD i d) : a ≠ b := fun e => h (by rw [e])
theorem eq_of_take {α : Type} {a b : List α} (hl : a.length = b.length) (h : a.take a.length = b.take a.length) : a = b := by
  rw [List.take_length] at h
  rw [h, hl, List.take_length]
/-! #### proofs -/
/-- The least sum of a row, where the first things are decided. -/
def leastT (l : List Int) (s : Int) : Nat → Int
  | 0 => s
  | n + 1 => IntKind.i64.wrap (leastT l s n + minV 0 (l.getD n 0))
def leastW (r : Rw) (d : Nat) (set : Int) : Int := leastT (r.coef.drop d) (chosenW (r.coef.take d) set) (r.coef.drop d).length
structure Stp where
  var : Int
  no : Int
  yes : Int
  leaf : Option Int
def stp0 : Stp := ⟨0, 0, 0, none⟩
def encSt (s : Stp) : List V := [.int .i64 s.var, .int .i64 s.no, .int .i64 s.yes, match s.leaf with | some i => .sl 2 [[.int .i64 i, .int .i64 1]] | none => .nsl]
def encS (l : List Stp) : List (List V) := l.map encSt
theorem encS_length (l : List Stp) : (encS l).length = l.length := by simp [encS]
theorem encS_getD (l : List Stp) (k : Nat) (h : k < l.length) : (encS l).getD k [] = encSt (l.getD k stp0) := by simp [encS, List.getD, h]
theorem encS_snoc (a : List Stp) (s : Stp) : encS (a ++ [s]) = encS a ++ [encSt s] := by simp [encS]
theorem encS_set (a : List Stp) (k : Nat) (s : Stp) : encS (a.set k s) = (encS a).set k (encSt s) := by simp [encS, List.map_set]
def overB (d : Nat) (set : Int) (r : Rw) : Bool := decide (r.most < leastW r d set)
def setBit (set : Int) (d : Nat) : Int := bitsV .or .i64 set (shlW .i64 1 d)
def growN (rows : List Rw) : Nat → Nat → Int → List Stp → List Stp
  | 0, d, set, out => out ++ [⟨-1, 0, 0, some (idxOf (overB d set) rows)⟩]
  | n + 1, d, set, out =>
    if 0 ≤ idxOf (overB d set) rows then out ++ [⟨-1, 0, 0, some (idxOf (overB d set) rows)⟩]
    else
      let o1 := growN rows n (d + 1) set (out ++ [⟨d, 0, 0, none⟩])
      (growN rows n (d + 1) (setBit set d) o1).set out.length ⟨d, out.length + 1, o1.length, none⟩
theorem growN_length (rows : List Rw) : ∀ (n d : Nat) (set : Int) (out : List Stp), out.length < (growN rows n d set out).length ∧ (growN rows n d set out).length + 1 ≤ out.length + 2 ^ (n + 1)
  | 0, d, set, out => by simp [growN]
  | n + 1, d, set, out => by
    have hp : 2 ≤ 2 ^ (n + 1) := by have := Nat.one_le_two_pow (n := n); rw [Nat.pow_succ]; omega
    have hs : 2 ^ (n + 1 + 1) = 2 * 2 ^ (n + 1) := by rw [Nat.pow_succ (n := 2) (m := n + 1)]; omega
    simp only [growN]
    split
    · simp; omega
    · have h1 := growN_length rows n (d + 1) set (out ++ [⟨d, 0, 0, none⟩])
      have h2 := growN_length rows n (d + 1) (setBit set d) (growN rows n (d + 1) set (out ++ [⟨d, 0, 0, none⟩]))
      simp only [List.length_append, List.length_cons, List.length_nil, List.length_set] at h1 h2 ⊢
      omega
theorem growN_leaf {rows : List Rw} {d : Nat} {set : Int} (h : 0 ≤ idxOf (overB d set) rows) (out : List Stp) : ∀ n, growN rows n d set out = out ++ [⟨-1, 0, 0, some (idxOf (overB d set) rows)⟩]
  | 0 => rfl
  | n + 1 => by simp only [growN, if_pos h]
/-- There is no choice that keeps all rows. -/
def infN (rows : List Rw) : Nat → Nat → Int → Prop
  | 0, d, set => 0 ≤ idxOf (overB d set) rows
  | n + 1, d, set => 0 ≤ idxOf (overB d set) rows ∨ (infN rows n (d + 1) set ∧ infN rows n (d + 1) (setBit set d))
theorem infN_step {rows : List Rw} {n d : Nat} {set : Int} (h : infN rows n d set) (hi : ¬ 0 ≤ idxOf (overB d set) rows) : ∃ m, m + 1 = n ∧ infN rows m (d + 1) set ∧ infN rows m (d + 1) (setBit set d) := by
  cases n with
  | zero => exact (hi h).elim
  | succ n =>
    rcases h with h | h
    · exact (hi h).elim
    · exact ⟨n, rfl, h.1, h.2⟩
theorem growN_pre (rows : List Rw) : ∀ (n d : Nat) (set : Int) (out : List Stp) (i : Nat), i < out.length → (growN rows n d set out).getD i stp0 = out.getD i stp0
  | 0, d, set, out, i, h => by simp [growN, List.getD, List.getElem?_append_left h]
  | n + 1, d, set, out, i, h => by
    simp only [growN]
    split
    · simp [List.getD, List.getElem?_append_left h]
    · have hne : out.length ≠ i := by omega
      have e : ∀ (l : List Stp) (s : Stp), (l.set out.length s).getD i stp0 = l.getD i stp0 := fun l s => by simp [List.getD, List.getElem?_set_ne hne]
      rw [e, growN_pre rows n _ _ _ i (by have := (growN_length rows n (d + 1) set (out ++ [⟨d, 0, 0, none⟩])).1; simp at this; omega), growN_pre rows n _ _ _ i (by simp; omega)]
      simp [List.getD, List.getElem?_append_left h]
theorem encS_one (a : List Stp) (v : Int) : encS a ++ (List.replicate 1 [V.int .i64 0, V.int .i64 0, V.int .i64 0, V.nsl]).set 0 [V.int .i64 v, V.int .i64 0, V.int .i64 0, V.nsl] = encS (a ++ [⟨v, 0, 0, none⟩]) := by rw [encS_snoc]; rfl
theorem encS_leaf (a : List Stp) (v i : Int) : encS a ++ (List.replicate 1 [V.int .i64 0, V.int .i64 0, V.int .i64 0, V.nsl]).set 0 [V.int .i64 v, V.int .i64 0, V.int .i64 0, V.sl 2 ((List.replicate 1 [V.int .i64 0, V.int .i64 0]).set 0 [V.int .i64 i, V.int .i64 1])] = encS (a ++ [⟨v, 0, 0, some i⟩]) := by rw [encS_snoc]; rfl
theorem getD_set_self {α : Type} {l : List α} {k : Nat} {a d : α} (h : k < l.length) : (l.set k a).getD k d = a := by simp [List.getD, h]
theorem grow_fin {o : List Stp} {k : Nat} {d no yes : Int} (hk : k < o.length) (h : o.getD k stp0 = ⟨d, 0, 0, none⟩) :
    (((encS o).set k (List.take 1 ((encS o).getD k []) ++ V.int .i64 no :: List.drop 2 ((encS o).getD k []))).set k
      (List.take 2 (((encS o).set k (List.take 1 ((encS o).getD k []) ++ V.int .i64 no :: List.drop 2 ((encS o).getD k []))).getD k []) ++
        V.int .i64 yes :: List.drop 3 (((encS o).set k (List.take 1 ((encS o).getD k []) ++ V.int .i64 no :: List.drop 2 ((encS o).getD k []))).getD k []))) = encS (o.set k ⟨d, no, yes, none⟩) := by
  have e : (encS o).getD k [] = [.int .i64 d, .int .i64 0, .int .i64 0, .nsl] := by rw [encS_getD o k hk, h]; rfl
  rw [e, getD_set_self (by rw [encS_length]; exact hk), List.set_set, encS_set]
  rfl
theorem growN_at {rows : List Rw} {n d : Nat} {set : Int} {out : List Stp} : (growN rows n (d + 1) (setBit set d) (growN rows n (d + 1) set (out ++ [⟨d, 0, 0, none⟩]))).getD out.length stp0 = ⟨d, 0, 0, none⟩ := by
  have h := (growN_length rows n (d + 1) set (out ++ [⟨d, 0, 0, none⟩])).1
  simp only [List.length_append, List.length_cons, List.length_nil] at h
  rw [growN_pre rows n _ _ _ _ (by omega), growN_pre rows n _ _ _ _ (by simp)]
  simp [List.getD]
def FN60 : V := .fn 60 [.ptr 1 0, .ptr 0 0, .ptr 2 0]
def sameRw (r s : Rw) : Bool := decide (r.kind = s.kind) && (decide (r.a = s.a) && (decide (r.b = s.b) && (decide (r.pl = s.pl) && (decide (r.most = s.most) && decide (r.coef = s.coef)))))
def sameTo (a b : List Rw) : Nat → Bool
  | 0 => true
  | n + 1 => sameTo a b n && sameRw (a.getD n rw0) (b.getD n rw0)
def sameB (a b : Pg) : Bool := decide (a.vars = b.vars) && (decide ((a.rows.length : Int) = b.rows.length) && (decide (a.gain = b.gain) && sameTo a.rows b.rows a.rows.length))
theorem sameTo_mono (a b : List Rw) {i : Nat} (h : sameRw (a.getD i rw0) (b.getD i rw0) = false) : ∀ n, i < n → sameTo a b n = false
  | 0, hn => by omega
  | n + 1, hn => by
    simp only [sameTo]
    by_cases e : i = n
    · subst e; rw [h]; simp
    · rw [sameTo_mono a b h n (by omega)]; rfl
theorem sameRw_ne {r s : Rw} (h : ((((¬ r.kind = s.kind ∨ ¬ r.a = s.a) ∨ ¬ r.b = s.b) ∨ ¬ r.pl = s.pl) ∨ ¬ r.most = s.most) ∨ ¬ r.coef = s.coef) : sameRw r s = false := by
  rcases h with ((((h | h) | h) | h) | h) | h <;> simp [sameRw, h]
def exP : Pg := ⟨3, [⟨0, 0, 0, 0, [2, 3, 1], 5⟩, ⟨0, 0, 0, 0, [1, 0, 1], 1⟩], [5, 4, 3]⟩
/-! #### programs that integers determine -/
structure T3 where
  p : Int
  q : Int
  r : Int
def t30 : T3 := ⟨0, 0, 0⟩
def encT (l : List T3) : List (List V) := l.map fun t => [V.int .i64 t.p, V.int .i64 t.q, V.int .i64 t.r]
theorem encT_length (l : List T3) : (encT l).length = l.length := by simp [encT]
theorem encT_getD (l : List T3) (k : Nat) (h : k < l.length) : (encT l).getD k [] = [V.int .i64 (l.getD k t30).p, V.int .i64 (l.getD k t30).q, V.int .i64 (l.getD k t30).r] := by simp [encT, List.getD, h]
def gainM (g : List Int) (n : Nat) : List Int := (List.range n).map fun j => IntKind.i64.wrap (pickW (g.getD j 0) 40 - 8)
theorem gainM_succ (g : List Int) (n : Nat) : gainM g (n + 1) = gainM g n ++ [IntKind.i64.wrap (pickW (g.getD n 0) 40 - 8)] := by simp [gainM, List.range_succ]
theorem gainM_length (g : List Int) (n : Nat) : (gainM g n).length = n := by simp [gainM]
def coefM (t : T3) (n : Nat) : List Int := (List.range n).map fun (k : Nat) => IntKind.i64.wrap (pickW (IntKind.i64.wrap (t.p.tdiv (1 + 3 * (k : Int)))) 12 - pickW (IntKind.i64.wrap (t.q.tdiv (1 + 5 * (k : Int)))) 5)
theorem coefM_succ (t : T3) (n : Nat) : coefM t (n + 1) = coefM t n ++ [IntKind.i64.wrap (pickW (IntKind.i64.wrap (t.p.tdiv (1 + 3 * (n : Int)))) 12 - pickW (IntKind.i64.wrap (t.q.tdiv (1 + 5 * (n : Int)))) 5)] := by simp [coefM, List.range_succ]
theorem coefM_length (t : T3) (n : Nat) : (coefM t n).length = n := by simp [coefM]
def rowM0 (v : Nat) (t : T3) (i : Nat) : Rw := ⟨1 + (i : Int), pickW t.p 9, 0, 0, coefM t v, IntKind.i64.wrap (pickW t.r 30 - 4)⟩
def rowsM (v : Nat) (x : List T3) (n : Nat) : List Rw := (List.range n).map fun i => rowM0 v (x.getD i t30) i
theorem rowsM_succ (v : Nat) (x : List T3) (n : Nat) : rowsM v x (n + 1) = rowsM v x n ++ [rowM0 v (x.getD n t30) n] := by simp [rowsM, List.range_succ]
theorem rowsM_length (v : Nat) (x : List T3) (n : Nat) : (rowsM v x n).length = n := by simp [rowsM]
def madeW (v : Int) (x : List T3) (g : List Int) : Pg := ⟨pickW v 9, rowsM (pickW v 9).toNat x (min x.length 8), gainM g (pickW v 9).toNat⟩
theorem encR_one (a : List Rw) (k b c d most : Int) (coef : List Int) : encR a ++ (List.replicate 1 [V.int .i64 0, V.int .i64 0, V.int .i64 0, V.int .i64 0, V.nsl, V.int .i64 0]).set 0 [V.int .i64 k, V.int .i64 b, V.int .i64 c, V.int .i64 d, V.sl 1 (encI coef), V.int .i64 most] = encR (a ++ [⟨k, b, c, d, coef, most⟩]) := by rw [encR_snoc]; rfl
/-! #### searching -/
def srt (l : List Int) : Prop := ∀ i j : Nat, i < j → j < l.length → l.getD i 0 < l.getD j 0
theorem srt_le {l : List Int} (h : srt l) {k i : Nat} (hk : k ≤ i) (hi : i < l.length) : l.getD k 0 ≤ l.getD i 0 := by
  rcases Nat.lt_or_eq_of_le hk with h1 | rfl
  · have := h k i h1 hi; omega
  · exact Int.le_refl _
def cntL (l : List Int) (t : Int) : Nat := (l.takeWhile fun x => decide (x < t)).length
theorem bs_cnt {t : Int} : ∀ {l : List Int} {i : Nat}, i ≤ l.length → (∀ k, k < i → l.getD k 0 < t) → (∀ k, i ≤ k → k < l.length → t ≤ l.getD k 0) → cntL l t = i
  | [], i, hi, _, _ => by simp at hi; subst hi; rfl
  | a :: l, 0, _, _, h2 => by
    have := h2 0 (Nat.le_refl _) (by simp)
    simp only [List.getD_cons_zero] at this
    simp [cntL, List.takeWhile, show ¬ a < t by omega]
  | a :: l, i + 1, hi, h1, h2 => by
    have h0 := h1 0 (by omega)
    simp only [List.getD_cons_zero] at h0
    have ih := bs_cnt (t := t) (l := l) (i := i) (by simpa using hi) (fun k hk => by simpa using h1 (k + 1) (by omega)) (fun k hk hl => by simpa using h2 (k + 1) (by omega) (by simpa using hl))
    unfold cntL at ih ⊢
    simp [List.takeWhile, h0, ih]
theorem bs_mem {t : Int} {l : List Int} {i : Nat} (hs : srt l) (h1 : ∀ k, k < i → l.getD k 0 < t) (h2 : ∀ k, i ≤ k → k < l.length → t ≤ l.getD k 0) : t ∈ l ↔ i < l.length ∧ l.getD i 0 = t := by
  constructor
  · intro h
    obtain ⟨k, hk, rfl⟩ := List.getElem_of_mem h
    have e : l[k] = l.getD k 0 := by simp [List.getD, hk]
    rw [e] at h1 h2 ⊢
    have hik : i ≤ k := by
      rcases Nat.lt_or_ge k i with h3 | h3
      · have := h1 k h3; omega
      · exact h3
    refine ⟨by omega, ?_⟩
    have h4 := h2 i (Nat.le_refl _) (by omega)
    have h5 := srt_le hs hik hk
    omega
  · rintro ⟨h3, h4⟩
    rw [← h4]; exact getD_mem h3
theorem bs_res {t : Int} {l : List Int} {i j : Nat} (hs : srt l) (hi : i ≤ l.length) (hj : j = i) (h1 : ∀ k, k < i → l.getD k 0 < t) (h2 : ∀ k, j ≤ k → k < l.length → t ≤ l.getD k 0) :
    V.tup [.int .i64 (i : Nat), .bool (decide ((i : Int) < (l.length : Nat)) && decide (l.getD i 0 = t))] = V.tup [.int .i64 (cntL l t : Nat), .bool (decide (t ∈ l))] := by
  subst hj
  rw [bs_cnt hi h1 h2]
  have hm := bs_mem hs h1 h2
  have : decide (t ∈ l) = (decide ((j : Int) < (l.length : Nat)) && decide (l.getD j 0 = t)) := by
    rw [Bool.eq_iff_iff, Bool.and_eq_true, decide_eq_true_eq, decide_eq_true_eq, decide_eq_true_eq]
    exact hm.trans ⟨fun ⟨a, b⟩ => ⟨by omega, b⟩, fun ⟨a, b⟩ => ⟨by omega, b⟩⟩
  rw [this]
theorem mid_u {i j : Nat} (h : i + j ≤ 100000) : IntKind.i64.wrap ((i : Int) + j) = ((i + j : Nat) : Int) ∧ IntKind.u64.wrap ((i + j : Nat) : Int) = ((i + j : Nat) : Int) ∧ shrW .u64 ((i + j : Nat) : Int) 1 = (((i + j) / 2 : Nat) : Int) ∧ IntKind.i64.wrap (((i + j) / 2 : Nat) : Int) = (((i + j) / 2 : Nat) : Int) := by
  refine ⟨by rw [w64 (by omega)]; omega, ?_, ?_, w64 (by omega)⟩
  · simp only [IntKind.wrap, IntKind.bits, IntKind.signed]
    simp only [Bool.false_eq_true, if_false, Bool.false_and, false_and]
    show ((i + j : Nat) : Int) % 2 ^ 64 = _
    exact Int.emod_eq_of_lt (by omega) (by omega)
  · show (((i + j : Nat) : Int)).fdiv (2 ^ (min (1 : Int).toNat 64)) = _
    have : (2 : Int) ^ (min (1 : Int).toNat 64) = 2 := by decide
    rw [this, Int.fdiv_eq_ediv_of_nonneg _ (by omega)]
    omega
end Go.Proofs.Ytcphhbiehaimeaa
