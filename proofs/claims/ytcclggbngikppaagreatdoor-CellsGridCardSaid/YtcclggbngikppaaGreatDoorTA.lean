/- A part of the proof; what is proved stands in the last text. -/
import Derived.Test.YtcclggbngikppaaGreatDoorMA
set_option linter.unusedVariables false
set_option maxRecDepth 2000
namespace Go.Proofs
open Go.Vm
set_option linter.unusedSimpArgs false
end Go.Proofs

namespace Go.Proofs
open Go.Vm
set_option linter.unusedSimpArgs false
theorem wrap64 {n : Int} (h1 : -9223372036854775808 ≤ n) (h2 : n ≤ 9223372036854775807) : IntKind.i64.wrap n = n := by
 simp [IntKind.wrap, IntKind.bits, IntKind.signed]; omega
abbrev Rg := Int × Int
def encR (r : Rg) : List D := [.val (.int .i64 r.1), .val (.int .i64 r.2)]
def merge1 (out : List Rg) (r : Rg) : List Rg :=
 if r.1 > r.2 then out else match out.getLast? with
  | some l => if l.2 = 9223372036854775807 ∨ r.1 ≤ IntKind.i64.wrap (l.2 + 1) then out.dropLast ++ [(l.1, if r.2 > l.2 then r.2 else l.2)] else out ++ [r]
  | none => out ++ [r]
end Go.Proofs

namespace Go.Proofs
open Go.Vm
set_option linter.unusedSimpArgs false
theorem kHasF (lo hi kd n : Int) (s : ByteArray) : PureAt Tryz.prog 76 [.agg [.val (.int .i64 lo), .val (.int .i64 hi)], .rp none [.val (.int .i64 kd), .val (.int .i64 n), .val (.string s)] 0] (· = .val (.bool (decide (lo ≤ n) && decide (n ≤ hi)))) := by
 refine pure_of r76 (by kernel_rfl) ?_
 unfold m76
 simp only [go_sem, Nat.reduceEqDiff, Nat.reduceAdd, Nat.reduceLeDiff]
 repeat' (first | (apply wantE_split <;> intro h <;> simp only [h, go_sem, Nat.reduceEqDiff, Nat.reduceAdd, Nat.reduceLeDiff]))
end Go.Proofs
