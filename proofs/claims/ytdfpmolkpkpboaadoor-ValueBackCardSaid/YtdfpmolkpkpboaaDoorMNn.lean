/- The functions, as code of the value machine (printed by program). -/
import Derived.Test.YtdfpmolkpkpboaaDoorVm24
import Derived.Test.YtdfpmolkpkpboaaDoorProg
set_option linter.unusedVariables false
set_option maxRecDepth 2000
namespace Go.Proofs
open Go.Vm
end Go.Proofs
