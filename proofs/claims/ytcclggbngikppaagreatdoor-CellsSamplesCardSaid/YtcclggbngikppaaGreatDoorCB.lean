/- A part of the proof; what is proved stands in the last text. -/
import Derived.Test.YtcclggbngikppaaGreatDoorCA
set_option linter.unusedVariables false
set_option maxRecDepth 2000
namespace Go.Proofs
open Go.Vm
set_option linter.unusedSimpArgs false
theorem len_sub {α : Type} [DecidableEq α] : ∀ (l m : List α), l.Nodup → (∀ x ∈ l, x ∈ m) → l.length ≤ m.length
 | [], m, _, _ => Nat.zero_le _
 | x :: l, m, hn, h => by
  obtain ⟨h1, h2⟩ := List.nodup_cons.1 hn
  have hx := h x (by simp)
  have := len_sub l (m.erase x) h2 (fun y hy => (List.mem_erase_of_ne (fun e => by subst e; exact h1 hy)).2 (h y (by simp [hy])))
  rw [List.length_erase_of_mem hx] at this
  have : 0 < m.length := List.length_pos_of_mem hx
  simp only [List.length_cons]; omega
theorem cellsI_len : ∀ (E : List Int) (lo : Int), (cellsI lo E).length = E.length
 | [], _ => rfl
 | hi :: t, lo => by rw [cellsI_cons, List.length_cons, List.length_cons, cellsI_len]
theorem cut_len (r : List SetM) : (cutR r).length = (endsM r).length + (namesM r).length + 2 := by
 unfold cutR
 simp [cellsI_len]; omega
end Go.Proofs

namespace Go.Proofs
open Go.Vm
set_option linter.unusedSimpArgs false
def rgsOf (r : List SetM) : List Rg := r.flatMap (·.ints)
def loAt (E : List Int) (j : Nat) : Int := if j = 0 then minI else E.getD (j - 1) 0 + 1
theorem incr_get {E : List Int} (h : Incr E) {i j : Nat} (hij : i < j) (hj : j < E.length) : E.getD i 0 < E.getD j 0 := by
 have := List.pairwise_iff_getElem.1 h i j (by omega) hj hij
 simpa [hj, show i < E.length by omega] using this
theorem getD_in {E : List Int} {j : Nat} (h : j < E.length) : E.getD j 0 ∈ E := by simp [h]
theorem cellsI_snoc : ∀ (E : List Int) (lo e : Int), cellsI lo (E ++ [e]) = cellsI lo E ++ [cellN (E.foldl (fun _ x => x + 1) lo) e]
 | [], lo, e => rfl
 | a :: E, lo, e => by
  rw [List.cons_append, cellsI_cons, cellsI_cons, cellsI_snoc]
  rfl
theorem fold_lo (E : List Int) (j : Nat) (hj : j ≤ E.length) : (E.take j).foldl (fun _ x => x + 1) minI = loAt E j := by
 cases j with
 | zero => rfl
 | succ j =>
  rw [List.take_succ_eq_append_getElem (by omega), List.foldl_append]
  unfold loAt
  simp [show j < E.length by omega]
theorem cellsI_take (E : List Int) {j : Nat} (hj : j < E.length) : cellsI minI (E.take (j + 1)) = cellsI minI (E.take j) ++ [cellN (loAt E j) (E.getD j 0)] := by
 rw [List.take_succ_eq_append_getElem hj, cellsI_snoc, fold_lo E j (by omega)]
 simp [hj]
def strsOf (r : List SetM) : List ByteArray := r.flatMap (·.strs)
theorem mem_strsOf {r : List SetM} {t : ByteArray} : t ∈ strsOf r ↔ t ∈ namesM r := by
 rw [mem_namesM]; simp [strsOf]
end Go.Proofs

namespace Go.Proofs
open Go.Vm
set_option linter.unusedSimpArgs false
end Go.Proofs
