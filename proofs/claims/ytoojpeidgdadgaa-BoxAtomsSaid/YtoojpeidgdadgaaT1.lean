/- A part of the proof; what is proved stands in the last text. -/
import Derived.Test.YtoojpeidgdadgaaMA
namespace Go.Proofs
open Go.Vm
set_option linter.unusedSimpArgs false
theorem kHasF (lo hi kd n : Int) (s : ByteArray) : PureAt Try.prog 51 [.agg [.val (.int .i64 lo), .val (.int .i64 hi)], .rp none [.val (.int .i64 kd), .val (.int .i64 n), .val (.string s)] 0] (· = .val (.bool (decide (lo ≤ n) && decide (n ≤ hi)))) := by
  refine pure_of r51 (by kernel_rfl) ?_
  unfold m51
  simp only [go_sem, Nat.reduceEqDiff, Nat.reduceAdd, Nat.reduceLeDiff]
  repeat' (first | (apply wantE_split <;> intro h <;> simp only [h, go_sem, Nat.reduceEqDiff, Nat.reduceAdd, Nat.reduceLeDiff]))
end Go.Proofs
