/- A part of the proof; what is proved stands in the last text. -/
import Derived.Test.YtcclggbngikppaaGreatDoorTA
import Derived.Test.YtcclggbngikppaaGreatDoorLA
set_option linter.unusedVariables false
set_option maxRecDepth 2000
namespace Go.Proofs
open Go.Vm Go.RowKit Go.Shelf
open Go.Sort (HoldsK flatK get_flatK size_flatK putRowK)
set_option linter.unusedSimpArgs false
end Go.Proofs
