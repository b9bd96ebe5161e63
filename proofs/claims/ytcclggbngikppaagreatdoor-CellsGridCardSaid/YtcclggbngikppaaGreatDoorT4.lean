/- A part of the proof; what is proved stands in the last text. -/
import Derived.Test.YtcclggbngikppaaGreatDoorTA
import Derived.Test.YtcclggbngikppaaGreatDoorT4r
import Derived.Test.YtcclggbngikppaaGreatDoorLA
set_option linter.unusedVariables false
set_option maxRecDepth 2000
namespace Go.Proofs
open Go.Vm Go.RowKit Go.Shelf
open Go.Sort (HoldsK flatK get_flatK size_flatK putRowK)
set_option linter.unusedSimpArgs false
def cfR (x y : Rg) : Int := if x.1 < y.1 then -1 else if y.1 < x.1 then 1 else 0
theorem ltR (x y : Rg) : ltOf cfR x y = decide (x.1 < y.1) := by
 unfold ltOf cfR
 by_cases h1 : x.1 < y.1
 ·simp [h1]
 ·by_cases h2 : y.1 < x.1 <;> simp [h1, h2]
theorem swoR : Go.Sort.SWO (ltOf cfR) where
 irrefl x := by rw [ltR]; simp
 trans x y z h1 h2 := by rw [ltR] at *; simp at *; omega
 ntrans x y z h1 h2 := by rw [ltR] at *; simp at *; omega
def sortRg (rs : List Rg) : List Rg := (Go.Sort.pdq (ltOf cfR) rs.toArray 0 rs.toArray.size (Lib.bitLen rs.toArray.size) true true).toList
theorem sortRg_spec (rs : List Rg) : (sortRg rs).length = rs.length ∧ (sortRg rs).Perm rs ∧ (sortRg rs).Pairwise (fun a b => a.1 ≤ b.1) := by
 obtain ⟨⟨h1, h2, h3⟩, h4⟩ := Go.Sort.pdq_sorts (ltOf cfR) swoR rs.toArray 0 rs.toArray.size (Lib.bitLen rs.toArray.size) true true (Nat.zero_le _) (Nat.le_refl _) (Or.inl rfl)
 have hl : (sortRg rs).length = rs.length := by simpa [sortRg] using h1
 refine ⟨hl, ?_, ?_⟩
 ·have e1 : ∀ d : Array Rg, d.size = rs.toArray.size → (d.extract 0 rs.toArray.size).toList = d.toList := fun d hd => by
    rw [← hd, Array.extract_size]
  rw [e1 _ h1, e1 _ rfl] at h3
  simpa [sortRg] using h3
 ·rw [List.pairwise_iff_getElem]
  intro i j hi hj hij
  have := h4 i j (Nat.zero_le _) hij (by simpa using (hl ▸ hj))
  rw [ltR] at this
  have hj' : j < (Go.Sort.pdq (ltOf cfR) rs.toArray 0 rs.toArray.size (Lib.bitLen rs.toArray.size) true true).size := by simpa [sortRg] using hj
  rw [getElem!_pos _ j hj', getElem!_pos _ i (by omega)] at this
  simp only [decide_eq_false_iff_not, Int.not_lt] at this
  simpa [sortRg] using this
end Go.Proofs
