/- A part of the proof; what is proved stands in the last text. -/
import Derived.Test.YtcclggbngikppaaGreatDoorTB
set_option linter.unusedVariables false
set_option maxRecDepth 2000
namespace Go.Proofs
open Go.Vm
set_option linter.unusedSimpArgs false
def ptI (n : Int) : ValM := ⟨1, n, ⟨#[]⟩⟩
def ptS (s : ByteArray) : ValM := ⟨2, 0, s⟩
end Go.Proofs

namespace Go.Proofs
open Go.Vm
set_option linter.unusedSimpArgs false
end Go.Proofs
