/- A part of the proof; what is proved stands in the last text. -/
import Derived.Test.YtijhiblfdidnpaaGreatT128
set_option linter.unusedVariables false
set_option maxRecDepth 2000
namespace Go.Proofs
open Go.Vm
set_option linter.unusedSimpArgs false
theorem uintR_stop {s : Rdr} (h : s.2 ≠ 0) : uintR s = (0, s) := by
 unfold uintR; rw [if_neg h]
end Go.Proofs

namespace Go.Proofs
open Go.Vm
set_option linter.unusedSimpArgs false
theorem bxR_2 (s : Rdr) : (bxR s).2 = rdS s 4 := by rw [bxR]
end Go.Proofs
