/- A part of the proof; what is proved stands in the last text. -/
import Derived.Test.YtaoppmjidjdgdaaTQ
import Derived.Test.YtaoppmjidjdgdaaT335
set_option linter.unusedVariables false
set_option maxRecDepth 2000
namespace Go.Proofs
open Go.Vm Go.ChangeShapes Go.WideShapes Go.ChangeAt Go.RowKit
set_option linter.unusedSimpArgs false
theorem rd_filter {H : Type} {enc : TypeId × Value → H} {w : World} (fuel : Nat) : Rd enc Try.prog w fuel 29 (fun ds => ∃ l : List BoxM, ds = [.sl none (l.map boxC)] ∧ (∀ b ∈ l, BndB b) ∧ l.length ≤ maxLen) :=
 rd_rows (by exact Try.underlying29) (by kernel_rfl : Try.prog.cellsOf 58 = 16) (by omega) fun n _ => rd_box n
end Go.Proofs
