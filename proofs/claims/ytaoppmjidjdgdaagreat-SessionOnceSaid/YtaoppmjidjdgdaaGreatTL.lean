/- A part of the proof; what is proved stands in the last text. -/
import Derived.Test.YtaoppmjidjdgdaaGreatTK
set_option linter.unusedVariables false
set_option maxRecDepth 2000
namespace Go.Proofs
open Go.Vm
set_option linter.unusedSimpArgs false
def badR (rs : List Rg) (i : Nat) : Bool := match rs[i]? with
 | some r => decide (r.1 > r.2) || (decide (0 < i) && match rs[i - 1]? with | some q => decide (q.2 ≥ r.1) || decide (IntKind.i64.wrap (q.2 + 1) ≥ r.1) | none => false)
 | none => false
theorem allF {p : Nat → Bool} {n i : Nat} (hi : i < n) (h : p i = true) : ((List.range n).all fun i => !p i) = false := by
 rw [List.all_eq_false]; exact ⟨i, List.mem_range.2 hi, by simp [h]⟩
theorem allT {p : Nat → Bool} {n : Nat} (h : ∀ j, j < n → p j = false) : ((List.range n).all fun i => !p i) = true := by
 rw [List.all_eq_true]; intro i hi; simp [h i (List.mem_range.1 hi)]
def okI (rs : List Rg) : Bool := (List.range rs.length).all fun i => !badR rs i
def badS (ss : List ByteArray) (i : Nat) : Bool := match ss[i]? with
 | some s => decide ((s.size : Int) > 8) || (decide (0 < i) && match ss[i - 1]? with | some q => !(Op.bytesLess q.toList s.toList) | none => false)
 | none => false
def okS (ss : List ByteArray) : Bool := (List.range ss.length).all fun i => !badS ss i
def rightM (s : SetM) : Bool := okI s.ints && okS s.strs
end Go.Proofs

namespace Go.Proofs
open Go.Vm
set_option linter.unusedSimpArgs false
end Go.Proofs

namespace Go.Proofs
open Go.Vm
set_option linter.unusedSimpArgs false
end Go.Proofs
