/- A part of the proof; what is proved stands in the last text. -/
import Derived.Test.YtaoppmjidjdgdaaGreatT348
import Derived.Test.YtaoppmjidjdgdaaGreatT349
set_option linter.unusedVariables false
set_option maxRecDepth 2000
namespace Go.Proofs
end Go.Proofs
