/- A part of the proof; what is proved stands in the last text. -/
import Derived.Test.YtipppgiimemloaaGreatWG
set_option linter.unusedVariables false
set_option maxRecDepth 2000

namespace Go.Proofs
open Go.Vm
set_option linter.unusedSimpArgs false

end Go.Proofs



namespace Go.Proofs
open Go.Vm
set_option linter.unusedSimpArgs false

theorem rdRgs_head (s : Rdr) : ∀ k, rdRgs s (k + 1) = ((rgR s).1 :: (rdRgs (rgR s).2 k).1, (rdRgs (rgR s).2 k).2)
  | 0 => rfl
  | k + 1 => by
    rw [rdRgs, rdRgs_head s k]
    rfl
theorem rdStrs_head (s : Rdr) : ∀ k, rdStrs s (k + 1) = (lb (strR 8 s).1 :: (rdStrs (strR 8 s).2 k).1, (rdStrs (strR 8 s).2 k).2)
  | 0 => rfl
  | k + 1 => by
    rw [rdStrs, rdStrs_head s k]
    rfl
theorem rdBoxes_head (s : Rdr) (k : Nat) : rdBoxes s (k + 1) = ((bxR s).1 :: (rdBoxes (bxR s).2 k).1, (rdBoxes (bxR s).2 k).2) := by
  induction k with
  | zero => simp only [rdBoxes, List.nil_append]
  | succ k ih =>
    rw [rdBoxes, ih]
    simp only [rdBoxes, List.cons_append]
end Go.Proofs

