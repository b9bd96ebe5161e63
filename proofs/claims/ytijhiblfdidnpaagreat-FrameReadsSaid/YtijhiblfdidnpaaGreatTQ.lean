/- A part of the proof; what is proved stands in the last text. -/
import Derived.Test.YtijhiblfdidnpaaGreatTM
import Derived.Test.YtijhiblfdidnpaaGreatVm25
import Derived.Test.YtijhiblfdidnpaaGreatRows
import Derived.WalkKit
import Derived.ProofKit
import Derived.OpenShut
import Derived.ShutString
import Derived.ChangeOld
import Derived.SizedLaws
import Derived.Test.YtijhiblfdidnpaaGreatT50
import Derived.Test.YtijhiblfdidnpaaGreatTG
set_option linter.unusedVariables false
set_option maxRecDepth 2000
namespace Go.Proofs
open Go.Vm Go.ChangeShapes Go.WideShapes Go.ChangeAt Go.RowKit
set_option linter.unusedSimpArgs false
end Go.Proofs

namespace Go.Proofs
open Go.Vm Go.ChangeShapes Go.WideShapes Go.ChangeAt Go.RowKit
set_option linter.unusedSimpArgs false
end Go.Proofs

namespace Go.Proofs
open Go.Vm Go.ChangeShapes Go.WideShapes Go.ChangeAt Go.RowKit
set_option linter.unusedSimpArgs false
theorem rd_str {H : Type} {enc : TypeId × Value → H} {w : World} (fuel : Nat) : Rd enc Tryz.prog w fuel 9 (fun ds => ∃ s : ByteArray, ds = [.val (.string s)] ∧ s.size ≤ maxLen) := Rd_string Tryz.underlying9
end Go.Proofs
