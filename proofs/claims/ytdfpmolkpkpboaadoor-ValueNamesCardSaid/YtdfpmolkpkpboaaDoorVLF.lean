/- A part of the proof; what is proved stands in the last text. -/
import Derived.Test.YtdfpmolkpkpboaaDoorVLE
import Derived.Test.YtdfpmolkpkpboaaDoorT300
set_option linter.unusedVariables false
set_option maxRecDepth 2000
namespace Go.Proofs
open Go.Vm
set_option linter.unusedSimpArgs false
theorem rd7 : read1 (bl ⟨#[45, 55, 93]⟩) = (⟨1, -7, lb []⟩, 2, true) := rfl
theorem rdm : read1 (bl ⟨#[45, 93]⟩) = (⟨0, 0, lb []⟩, 1, true) := rfl
theorem rd0 : read1 (bl ⟨#[48, 55]⟩) = (⟨0, 0, lb []⟩, 0, false) := rfl
theorem qt : lb (quoteL (bl ⟨#[97, 39, 98]⟩)) = ⟨#[39, 97, 92, 50, 55, 98, 39]⟩ := rfl
set_option maxHeartbeats 4000000 in
theorem kawake01 : PureAt Tryd.prog 9 [] (· = .val (.bool true)) := by
 refine pure_of r9f (by kernel_rfl) ?_
 unfold m9f
 simp only [go_sem, Nat.reduceEqDiff, Nat.reduceAdd, Nat.reduceLeDiff, List.length_map, Int.reduceLT, Int.reduceLE, Int.reduceToNat, Int.toNat_zero, Int.le_refl, Int.reduceAdd, decide_true, decide_false, Nat.reduceMul, Nat.reduceLT, Nat.lt_irrefl, true_and, and_self, ↓reduceIte]
 refine callP_eq rfl rfl (kRead ⟨#[45, 55, 93]⟩ (by decide)) ?_
 simp only [rd7, triV, valC, go_sem, Nat.reduceEqDiff, Nat.reduceAdd, Nat.reduceLeDiff, List.length_map, Int.reduceLT, Int.reduceLE, Int.reduceToNat, Int.toNat_zero, Int.le_refl, Int.reduceAdd, decide_true, decide_false, Nat.reduceMul, Nat.reduceLT, Nat.lt_irrefl, true_and, and_self, ↓reduceIte]
 refine callP_eq rfl rfl (kRead ⟨#[45, 93]⟩ (by decide)) ?_
 simp only [rdm, triV, valC, go_sem, Nat.reduceEqDiff, Nat.reduceAdd, Nat.reduceLeDiff, List.length_map, Int.reduceLT, Int.reduceLE, Int.reduceToNat, Int.toNat_zero, Int.le_refl, Int.reduceAdd, decide_true, decide_false, Nat.reduceMul, Nat.reduceLT, Nat.lt_irrefl, true_and, and_self, ↓reduceIte]
 refine callP_eq rfl rfl (kRead ⟨#[48, 55]⟩ (by decide)) ?_
 simp only [rd0, triV, valC, go_sem, Nat.reduceEqDiff, Nat.reduceAdd, Nat.reduceLeDiff, List.length_map, Int.reduceLT, Int.reduceLE, Int.reduceToNat, Int.toNat_zero, Int.le_refl, Int.reduceAdd, decide_true, decide_false, Nat.reduceMul, Nat.reduceLT, Nat.lt_irrefl, true_and, and_self, ↓reduceIte]
 refine callP_eq rfl rfl (kQuote ⟨#[97, 39, 98]⟩ (by decide)) ?_
 have lb0 : lb [] = ⟨#[]⟩ := rfl
 have n1 : ((1 : Nat) : Int) = 1 := rfl
 have n2 : ((2 : Nat) : Int) = 2 := rfl
 have b3 : attrN ⟨#[100]⟩ = 3 := by simp [attrN, ByteArray.toList_eq]
 have b4 : attrN ⟨#[101]⟩ = -1 := by simp [attrN, ByteArray.toList_eq]
 simp only [qt, lb0, beq_self_eq_true, n1, n2, Bool.and_self, Bool.not_false, go_sem, Nat.reduceEqDiff, Nat.reduceAdd, Nat.reduceLeDiff, List.length_map, Int.reduceLT, Int.reduceLE, Int.reduceToNat, Int.toNat_zero, Int.le_refl, Int.reduceAdd, decide_true, decide_false, Nat.reduceMul, Nat.reduceLT, Nat.lt_irrefl, true_and, and_self, ↓reduceIte]
 refine callO_eq rfl rfl rfl rfl rfl kNameF2 ?_
 simp only [nmsL, nmB, nmC, nmR, beq_self_eq_true, go_sem, Nat.reduceEqDiff, Nat.reduceAdd, Nat.reduceLeDiff, List.length_map, Int.reduceLT, Int.reduceLE, Int.reduceToNat, Int.toNat_zero, Int.le_refl, Int.reduceAdd, decide_true, decide_false, Nat.reduceMul, Nat.reduceLT, Nat.lt_irrefl, true_and, and_self, ↓reduceIte]
 refine callO_eq rfl rfl rfl rfl rfl (kAttrA ⟨#[100]⟩) ?_
 simp only [b3, nmsL, nmB, nmC, nmR, beq_self_eq_true, go_sem, Nat.reduceEqDiff, Nat.reduceAdd, Nat.reduceLeDiff, List.length_map, Int.reduceLT, Int.reduceLE, Int.reduceToNat, Int.toNat_zero, Int.le_refl, Int.reduceAdd, decide_true, decide_false, Nat.reduceMul, Nat.reduceLT, Nat.lt_irrefl, true_and, and_self, ↓reduceIte]
 refine callO_eq rfl rfl rfl rfl rfl (kAttrA ⟨#[101]⟩) ?_
 simp only [b4, nmsL, nmB, nmC, nmR, beq_self_eq_true, go_sem, Nat.reduceEqDiff, Nat.reduceAdd, Nat.reduceLeDiff, List.length_map, Int.reduceLT, Int.reduceLE, Int.reduceToNat, Int.toNat_zero, Int.le_refl, Int.reduceAdd, decide_true, decide_false, Nat.reduceMul, Nat.reduceLT, Nat.lt_irrefl, true_and, and_self, ↓reduceIte]
 refine callP_eq rfl rfl (kvalRight ⟨1, -7, ⟨#[]⟩⟩) ?_
 have r1 : rightV ⟨1, -7, ⟨#[]⟩⟩ = true := by simp [rightV, ByteArray.toList_eq]
 simp only [r1, go_sem, Nat.reduceEqDiff, Nat.reduceAdd, Nat.reduceLeDiff, List.length_map, Int.reduceLT, Int.reduceLE, Int.reduceToNat, Int.toNat_zero, Int.le_refl, Int.reduceAdd, decide_true, decide_false, Nat.reduceMul, Nat.reduceLT, Nat.lt_irrefl, true_and, and_self, ↓reduceIte]
 refine callP_eq rfl rfl (kvOrder ⟨0, 0, ⟨#[]⟩⟩ ⟨1, -7, ⟨#[]⟩⟩) ?_
 have r2 : ordV ⟨0, 0, ⟨#[]⟩⟩ ⟨1, -7, ⟨#[]⟩⟩ = -1 := by simp [ordV, cmpI]
 simp only [r2, beq_self_eq_true, go_sem, Nat.reduceEqDiff, Nat.reduceAdd, Nat.reduceLeDiff, List.length_map, Int.reduceLT, Int.reduceLE, Int.reduceToNat, Int.toNat_zero, Int.le_refl, Int.reduceAdd, decide_true, decide_false, Nat.reduceMul, Nat.reduceLT, Nat.lt_irrefl, true_and, and_self, ↓reduceIte]
end Go.Proofs

namespace Go.Proofs
open Go.Vm
set_option linter.unusedSimpArgs false
end Go.Proofs

namespace Go.Proofs
open Go.Vm
set_option linter.unusedSimpArgs false
end Go.Proofs

namespace Go.Proofs
open Go.Vm
set_option linter.unusedSimpArgs false
end Go.Proofs
