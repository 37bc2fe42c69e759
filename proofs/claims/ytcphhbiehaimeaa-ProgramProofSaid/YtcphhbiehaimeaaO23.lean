/- What this seat's arguments stand for. -/
import Derived.Test.YtcphhbiehaimeaaChecked
import Derived.Test.YtcphhbiehaimeaaAi21
import Derived.Test.YtcphhbiehaimeaaPT23
namespace Go.Proofs.Ytcphhbiehaimeaa
open Go.ChangeShapes Go.WideShapes Go.ChangeAt Go.RowKit
theorem Try.own : ownKnob Try.prog.godebug = none := by kernel_rfl
theorem Try.laidOut : laidOutB Try.prog = true := by kernel_rfl
section
variable {H : Type} {enc : TypeId × Value → H} {w : World}
theorem okI_of_wf {n : Int} (h : (Lit.int .i64 n).wf = true) : okI n := by
  simp [Lit.wf, IntKind.min, IntKind.max, IntKind.signed, IntKind.bits] at h
  unfold okI; omega
theorem dec3 : Dec enc Try.prog w 59 (fun t : T3 => [V.int .i64 t.p, V.int .i64 t.q, V.int .i64 t.r]) okT :=
  (dec_array (n := 3) (sz := 1) Try.underlying59 (by kernel_rfl) (by kernel_rfl) (dec_int Try.underlying3)).turn (fun xs => ⟨xs.getD 0 0, xs.getD 1 0, xs.getD 2 0⟩) fun xs h => by
    obtain ⟨h1, h2⟩ := h
    match xs, h1 with
    | [x, y, z], _ => exact ⟨rfl, okI_of_wf (h2 x (by simp)), okI_of_wf (h2 y (by simp)), okI_of_wf (h2 z (by simp))⟩
def okG (n : Nat) (a : List Int) : Prop := a.length = n ∧ ∀ c ∈ a, okI c
theorem decG {t : TypeId} {n : Nat} (ht : Try.prog.underlying t = some (.array n 3)) (h1 : Try.prog.cellsOf 3 = 1) (h2 : Try.prog.cellsOf t = n * 1) : Dec enc Try.prog w t (fun a : List Int => cellsI a) (okG n) :=
  (dec_array (n := n) (sz := 1) ht h1 h2 (dec_int Try.underlying3)).turn (fun xs => xs) fun xs h => ⟨by show xs.map (V.int .i64) = _; exact List.map_eq_flatMap, h.1, fun c hc => okI_of_wf (h.2 c hc)⟩
theorem dec8 : Dec enc Try.prog w 23 (fun a : List Int => cellsI a) (okG 8) := decG Try.underlying23 (by kernel_rfl) (by kernel_rfl)
theorem decN4 : Dec enc Try.prog w 61 (fun a : List Int => cellsI a) (okG 4) := decG Try.underlying61 (by kernel_rfl) (by kernel_rfl)
theorem decN2 : Dec enc Try.prog w 64 (fun a : List Int => cellsI a) (okG 2) := decG Try.underlying64 (by kernel_rfl) (by kernel_rfl)
end
end Go.Proofs.Ytcphhbiehaimeaa
