/- A part of the proof; what is proved stands in the last text. -/
import Derived.Test.YtipppgiimemloaaGreatTL
set_option linter.unusedVariables false
set_option maxRecDepth 2000
namespace Go.Proofs
open Go.Vm
set_option linter.unusedSimpArgs false

def candB (out : List Rg) (r : Rg) : Bool := !decide (r.1 > r.2) && !(match out.getLast? with | none => false | some q => decide (r.2 ≤ q.2))

def Best (l out : List Rg) (i : Nat) (best : Int) : Prop :=
  (best = -1 ∧ ∀ (j : Nat) (r : Rg), j < i → l[j]? = some r → candB out r = false) ∨
  ∃ (k : Nat) (q : Rg), best = k ∧ k < i ∧ l[k]? = some q ∧ candB out q = true ∧ ∀ (j : Nat) (r : Rg), j < i → l[j]? = some r → candB out r = true → q.1 < r.1 ∨ q.1 = r.1 ∧ r.2 ≤ q.2

theorem Best.zero (l out : List Rg) : Best l out 0 (-1) := .inl ⟨rfl, fun j r h => by omega⟩
end Go.Proofs

