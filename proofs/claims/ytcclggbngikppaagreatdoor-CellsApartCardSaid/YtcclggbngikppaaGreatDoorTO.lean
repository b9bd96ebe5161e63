/- A part of the proof; what is proved stands in the last text. -/
import Derived.Test.YtcclggbngikppaaGreatDoorT50
set_option linter.unusedVariables false
set_option maxRecDepth 2000
namespace Go.Proofs
open Go.Vm
set_option linter.unusedSimpArgs false
theorem nt {b : Bool} (h : (!b) = false) : b = true := by simpa using h
end Go.Proofs

namespace Go.Proofs
open Go.Vm
set_option linter.unusedSimpArgs false
theorem lt4 {i : Nat} (h : i < 4) : i = 0 ∨ i = 1 ∨ i = 2 ∨ i = 3 := by omega
theorem at_allB (i : Nat) : allB.at i = allM := by
 match i with
 | 0 => rfl
 | 1 => rfl
 | 2 => rfl
 | _ + 3 => rfl
theorem at_withB (b : BoxM) (n : Int) (s : SetM) {i : Nat} (h : i < 4) : (withB b n s).at i = if n = (i : Int) then s else b.at i := by
 rcases lt4 h with rfl | rfl | rfl | rfl <;> rfl
def OKB (b : BoxM) : Prop := ∀ i, i < 4 → OK (b.at i)
theorem OKB.all : OKB allB := fun i _ => by rw [at_allB]; exact OK.all
theorem OKB.with {b : BoxM} (h : OKB b) {s : SetM} (hs : OK s) (n : Int) : OKB (withB b n s) := fun i hi => by
 rw [at_withB b n s hi]; split
 ·exact hs
 ·exact h i hi
theorem FewB.all : FewB 1 allB := fun i _ => by rw [at_allB]; simp [allM]
theorem FewB.with {k : Nat} {b : BoxM} (h : FewB k b) {s : SetM} (h1 : s.ints.length ≤ k) (h2 : s.strs.length ≤ k) (n : Int) : FewB k (withB b n s) := fun i hi => by
 rw [at_withB b n s hi]; split
 ·exact ⟨h1, h2⟩
 ·exact h i hi
theorem Sub.all {a : SetM} (ha : OK a) : Sub a allM := ⟨fun _ => rfl, fun _ h => Cov_all.2 (ha.cov h), fun t _ _ => StrIn_all t⟩
def setR15 : SetM := ⟨false, [(1, 5)], false, []⟩
def boxR : BoxM := withB allB 0 setR15
theorem OK.r15 : OK setR15 := ⟨⟨by simp [setR15], by simp [setR15]⟩, by simp [setR15, InB], .nil, by simp [setR15]⟩
theorem okR : OKB boxR := OKB.all.with OK.r15 0
end Go.Proofs
