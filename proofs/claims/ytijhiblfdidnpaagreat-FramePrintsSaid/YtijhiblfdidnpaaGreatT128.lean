/- A part of the proof; what is proved stands in the last text. -/
import Derived.Test.YtijhiblfdidnpaaGreatWJ
set_option linter.unusedVariables false
set_option maxRecDepth 2000
namespace Go.Proofs
open Go.Vm
set_option linter.unusedSimpArgs false
def rg2 (s : Rd2) : Rg × Rd2 := ((unfoldN (uint2 s).1, unfoldN (uint2 (uint2 s).2).1), (uint2 (uint2 s).2).2)
def rgs2 (s : Rd2) : Nat → List Rg × Rd2
 | 0 => ([], s)
 | k + 1 => ((rgs2 s k).1 ++ [(rg2 (rgs2 s k).2).1], (rg2 (rgs2 s k).2).2)
def n2 (s : Rd2) : Nat × Rd2 := uint2 (byte2 s).2
def is2 (s : Rd2) : List Rg × Rd2 := rgs2 (n2 s).2 (n2 s).1
def m2 (s : Rd2) : Nat × Rd2 := uint2 (is2 s).2
@[go_sem] theorem one_nilV : (Value.slice none 0 0).oneCell' = true := (rfl)
end Go.Proofs
