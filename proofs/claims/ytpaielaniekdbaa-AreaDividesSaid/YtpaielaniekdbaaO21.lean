/- What this seat's arguments stand for. -/
import Derived.Test.YtpaielaniekdbaaChecked
import Derived.Test.YtpaielaniekdbaaAi21
import Derived.Test.YtpaielaniekdbaaP21
namespace Go.Proofs.Ytpaielaniekdbaa
open Go.ChangeShapes Go.WideShapes Go.ChangeAt Go.RowKit
theorem Try.own : ownKnob Try.prog.godebug = none := by kernel_rfl
theorem Try.laidOut : laidOutB Try.prog = true := by kernel_rfl
section
variable {H : Type} {enc : TypeId × Value → H} {w : World}
theorem okI_of_wf {n : Int} (h : (Lit.int .i64 n).wf = true) : okI n := by
  simp [Lit.wf, IntKind.min, IntKind.max, IntKind.signed, IntKind.bits] at h
  unfold okI; omega
theorem dec2 : Dec enc Try.prog w 26 (fun p : Pl => [V.int .i64 p.x, V.int .i64 p.y]) okP :=
  (dec_array (n := 2) (sz := 1) Try.underlying26 (by kernel_rfl) (by kernel_rfl) (dec_int Try.underlying3)).turn (fun xs => ⟨xs.getD 0 0, xs.getD 1 0⟩) fun xs h => by
    obtain ⟨h1, h2⟩ := h
    match xs, h1 with
    | [x, y], _ => exact ⟨rfl, okI_of_wf (h2 x (by simp)), okI_of_wf (h2 y (by simp))⟩
theorem dec16 : Dec enc Try.prog w 23 (fun a : List Int => cellsI a) (fun a => a.length = 16) :=
  (dec_array (n := 16) (sz := 1) Try.underlying23 (by kernel_rfl) (by kernel_rfl) (dec_int Try.underlying3)).turn (fun xs => xs) fun xs h => ⟨by show xs.map (V.int .i64) = _; exact List.map_eq_flatMap, h.1⟩
theorem dec16x2 : Dec enc Try.prog w 24 (fun a : List Int × List Int => cellsI a.1 ++ cellsI a.2) (fun a => a.1.length = 16 ∧ a.2.length = 16) :=
  (dec_array (n := 2) (sz := 16) Try.underlying24 (by kernel_rfl) (by kernel_rfl) dec16).turn (fun xs => (xs.getD 0 [], xs.getD 1 [])) fun xs h => by
    obtain ⟨h1, h2⟩ := h
    match xs, h1 with
    | [x, y], _ => exact ⟨by simp, h2 x (by simp), h2 y (by simp)⟩
theorem decPl : Dec enc Try.prog w 29 (fun p : Pl => [V.int .i64 p.x, V.int .i64 p.y]) okP :=
  (dec_struct2 (m := 1) (n := 1) Try.underlying29 ⟨rfl, by kernel_rfl⟩ ⟨rfl, by kernel_rfl⟩ (by kernel_rfl) (dec_int Try.underlying3) (dec_int Try.underlying3)).turn (fun a => ⟨a.1, a.2⟩) fun a h => ⟨rfl, okI_of_wf h.1, okI_of_wf h.2⟩
end
end Go.Proofs.Ytpaielaniekdbaa
