/- A part of the proof; what is proved stands in the last text. -/
import Derived.Test.YtcclggbngikppaaGreatDoorTL
import Derived.Test.YtcclggbngikppaaGreatDoorT4
set_option linter.unusedVariables false
set_option maxRecDepth 2000
namespace Go.Proofs
open Go.Vm
def Cov (rs : List Rg) (n : Int) : Prop := ∃ r ∈ rs, r.1 ≤ n ∧ n ≤ r.2
def NF (rs : List Rg) : Prop := (∀ r ∈ rs, r.1 ≤ r.2) ∧ rs.Pairwise (fun a b => a.2 + 1 < b.1)
def InB (r : Rg) : Prop := (-9223372036854775808 ≤ r.1 ∧ r.1 ≤ 9223372036854775807) ∧ -9223372036854775808 ≤ r.2 ∧ r.2 ≤ 9223372036854775807
theorem okI_NF {rs : List Rg} (h : NF rs) (hb : ∀ r ∈ rs, InB r) : okI rs = true := by
 refine allT fun i hi => ?_
 unfold badR
 rw [List.getElem?_eq_getElem hi]
 have h1 := h.1 rs[i] (List.getElem_mem hi)
 simp only [Bool.or_eq_false_iff, decide_eq_false_iff_not]
 refine ⟨by omega, ?_⟩
 by_cases h0 : 0 < i
 ·rw [List.getElem?_eq_getElem (by omega : i - 1 < rs.length)]
  have h2 := List.pairwise_iff_getElem.1 h.2 (i - 1) i (by omega) hi (by omega)
  have h3 := hb (rs[i - 1]'(by omega)) (List.getElem_mem _)
  have h4 := hb rs[i] (List.getElem_mem _)
  have hw : IntKind.i64.wrap ((rs[i - 1]'(by omega)).2 + 1) = (rs[i - 1]'(by omega)).2 + 1 := wrap64 (by have := h3.2.1; omega) (by have := h4.1.2; omega)
  simp only [hw]
  simp
  intro _
  omega
 ·simp [h0]
end Go.Proofs

namespace Go.Proofs
open Go.Vm
set_option linter.unusedSimpArgs false
end Go.Proofs
