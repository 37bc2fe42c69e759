/- The example, in plain Lean. -/
import Derived.Test.YtcphhbiehaimeaaPC23
namespace Go.Proofs.Ytcphhbiehaimeaa
open Go.RowKit
def tgP : Pg := ⟨3, exP.rows ++ [⟨0, 0, 0, 0, [-1, -1, -1], -3⟩], [5, 4, 3]⟩
theorem ex_v : validB exP = true := by decide +kernel
theorem tg_v : validB tgP = true := by decide +kernel
theorem e1_v : validB ⟨1, [], []⟩ = false := by decide +kernel
theorem e13_v : validB ⟨13, [], []⟩ = false := by decide +kernel
theorem ex_len : exP.rows.length ≤ maxLen ∧ exP.gain.length ≤ maxLen ∧ ∀ r ∈ exP.rows, r.coef.length ≤ maxLen := by unfold maxLen; decide +kernel
theorem tg_len : tgP.rows.length ≤ maxLen ∧ tgP.gain.length ≤ maxLen ∧ ∀ r ∈ tgP.rows, r.coef.length ≤ maxLen := by unfold maxLen; decide +kernel
theorem ex_solve : (solveW exP).found = true ∧ (solveW exP).set = 3 ∧ (solveW exP).gain = 9 ∧ 0 < (solveW exP).proof.length ∧ ((solveW exP).proof.getD 0 stp0).var = 0 := by decide +kernel
theorem tg_solve : (solveW tgP).found = false ∧ (solveW tgP).set = 0 ∧ (solveW tgP).gain = 0 ∧ 0 < (solveW tgP).proof.length := by decide +kernel
theorem ex_all : choiceL exP = [0, 1, 2, 3, 4, 6] := by decide +kernel
theorem ex_brk : brokenW exP 5 = [1] := by decide +kernel
theorem ex_sum : sumW (exP.rows.getD 0 rw0) 5 = 3 := by decide +kernel
theorem ex_sum2 : sumW (exP.rows[0]?.getD rw0) 5 = 3 := ex_sum
theorem ex_gain : gainW exP 6 = 7 := by decide +kernel
theorem ex_keep : keepsB exP 6 = true ∧ keepsB exP 5 = false := by decide +kernel
theorem ex_wth : sameB (withoutW tgP [2]) exP = true := by decide +kernel
theorem ex_w1 : wthV tgP [2] = [.agg (encPg (withoutW tgP [2])), .int .i64 0] := wthV_t (by decide +kernel) tg_v
theorem ex_w2 : wthV exP [2] = [.agg [.int .i64 0, .nsl, .nsl], .int .i64 230] := wthV_f1 (by decide +kernel)
theorem ex_wlen : (withoutW tgP [2]).rows.length ≤ maxLen ∧ (withoutW tgP [2]).gain.length ≤ maxLen ∧ ∀ r ∈ (withoutW tgP [2]).rows, r.coef.length ≤ maxLen := by unfold maxLen; decide +kernel
theorem ex_rlen : exP.rows.length = 2 ∧ ((exP.rows.getD 0 rw0).coef).length ≤ maxLen := by unfold maxLen; decide +kernel
end Go.Proofs.Ytcphhbiehaimeaa
