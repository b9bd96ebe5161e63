/- A part of the proof; what is proved stands in the last text. -/
import Derived.Test.YtipppgiimemloaaGreatHA
set_option linter.unusedVariables false
set_option maxRecDepth 2000
namespace Go.Vm
open Go.RowKit
set_option linter.unusedVariables false
variable {P : Program} {w0 w w' : World} {W F0 : Reg} {V : Pins} {N : Nat} {g g' : Gh} {S S' : St} {a a' : Act} {ops : Array Oper} {σ : Type} {H : HidT σ} {B0 : Nat → Prop} {s s' : σ} {K : St → Prop}

end Go.Vm


namespace Go.Vm
open Go.RowKit
set_option linter.unusedVariables false
variable {P : Program} {w0 w w' : World} {W F0 : Reg} {V : Pins} {N : Nat} {g g' : Gh} {S S' : St} {a a' : Act} {σ : Type} {H : HidT σ} {B0 : Nat → Prop} {s s' : σ}

def finH (rs : List MOp) (R : D → σ → Prop) (e : Ex) (S : St) (s : σ) : Prop := fin rs (fun r => R r s) e S

end Go.Vm

