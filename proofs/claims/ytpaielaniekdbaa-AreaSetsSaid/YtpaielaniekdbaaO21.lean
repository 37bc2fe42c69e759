/- What this seat's arguments stand for. -/
import Derived.Test.YtpaielaniekdbaaChecked
import Derived.Test.YtpaielaniekdbaaAi21
import Derived.Test.YtpaielaniekdbaaP21
namespace Go.Proofs.Ytpaielaniekdbaa
open Go.ChangeShapes Go.WideShapes Go.ChangeAt Go.RowKit
theorem Try.own : ownKnob Try.prog.godebug = none := by kernel_rfl
theorem Try.laidOut : laidOutB Try.prog = true := by kernel_rfl
section
variable {H : Type} {enc : TypeId × Value → H} {w : World}
theorem okI_of_wf {n : Int} (h : (Lit.int .i64 n).wf = true) : okI n := by
  simp [Lit.wf, IntKind.min, IntKind.max, IntKind.signed, IntKind.bits] at h
  unfold okI; omega
theorem dec2 : Dec enc Try.prog w 26 (fun p : Pl => [V.int .i64 p.x, V.int .i64 p.y]) okP :=
  (dec_array (n := 2) (sz := 1) Try.underlying26 (by kernel_rfl) (by kernel_rfl) (dec_int Try.underlying3)).turn (fun xs => ⟨xs.getD 0 0, xs.getD 1 0⟩) fun xs h => by
    obtain ⟨h1, h2⟩ := h
    match xs, h1 with
    | [x, y], _ => exact ⟨rfl, okI_of_wf (h2 x (by simp)), okI_of_wf (h2 y (by simp))⟩
end
end Go.Proofs.Ytpaielaniekdbaa
