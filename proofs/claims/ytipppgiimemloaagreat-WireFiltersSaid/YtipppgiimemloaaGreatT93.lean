/- A part of the proof; what is proved stands in the last text. -/
import Derived.Test.YtipppgiimemloaaGreatTQ
import Derived.Test.YtipppgiimemloaaGreatT62
set_option linter.unusedVariables false
set_option maxRecDepth 2000
namespace Go.Proofs
open Go.Vm Go.ChangeShapes Go.WideShapes Go.ChangeAt Go.RowKit
set_option linter.unusedSimpArgs false

theorem rd_boxes {H : Type} {enc : TypeId × Value → H} {w : World} (fuel : Nat) : Rd enc Tryz.prog w fuel 31 (fun ds => ∃ l : List BoxM, ds = [.sl none (l.map boxC)] ∧ (∀ b ∈ l, BndB b) ∧ l.length ≤ maxLen) :=
  rd_rows (by exact Tryz.underlying31) (by kernel_rfl : Tryz.prog.cellsOf 49 = 16) (by omega) fun n _ => rd_box n
end Go.Proofs

