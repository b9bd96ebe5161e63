/- A part of the proof; what is proved stands in the last text. -/
import Derived.Test.YtdfpmolkpkpboaaDoorVLE
import Derived.Test.YtdfpmolkpkpboaaDoorT300
set_option linter.unusedVariables false
set_option maxRecDepth 2000
namespace Go.Proofs
open Go.Vm
set_option linter.unusedSimpArgs false
theorem rd7 : read1 (bl ⟨#[45, 55, 93]⟩) = (⟨1, -7, lb []⟩, 2, true) := rfl
theorem rdm : read1 (bl ⟨#[45, 93]⟩) = (⟨0, 0, lb []⟩, 1, true) := rfl
theorem rd0 : read1 (bl ⟨#[48, 55]⟩) = (⟨0, 0, lb []⟩, 0, false) := rfl
theorem qt : lb (quoteL (bl ⟨#[97, 39, 98]⟩)) = ⟨#[39, 97, 92, 50, 55, 98, 39]⟩ := rfl
set_option maxHeartbeats 4000000 in
theorem kawake01 : PureAt Tryd.prog 9 [] (· = .val (.bool true)) := by
 refine pure_of r9f (by kernel_rfl) ?_
 unfold m9f
 simp only [go_sem, Nat.reduceEqDiff, Nat.reduceAdd, Nat.reduceLeDiff, List.length_map, Int.reduceLT, Int.reduceLE, Int.reduceToNat, Int.toNat_zero, Int.le_refl, Int.reduceAdd, decide_true, decide_false, Nat.reduceMul, Nat.reduceLT, Nat.lt_irrefl, true_and, and_self, ↓reduceIte]
 refine callP_eq rfl rfl (kRead ⟨#[45, 55, 93]⟩ (by decide)) ?_
 simp only [rd7, triV, valC, go_sem, Nat.reduceEqDiff, Nat.reduceAdd, Nat.reduceLeDiff, List.length_map, Int.reduceLT, Int.reduceLE, Int.reduceToNat, Int.toNat_zero, Int.le_refl, Int.reduceAdd, decide_true, decide_false, Nat.reduceMul, Nat.reduceLT, Nat.lt_irrefl, true_and, and_self, ↓reduceIte]
 refine callP_eq rfl rfl (kRead ⟨#[45, 93]⟩ (by decide)) ?_
 simp only [rdm, triV, valC, go_sem, Nat.reduceEqDiff, Nat.reduceAdd, Nat.reduceLeDiff, List.length_map, Int.reduceLT, Int.reduceLE, Int.reduceToNat, Int.toNat_zero, Int.le_refl, Int.reduceAdd, decide_true, decide_false, Nat.reduceMul, Nat.reduceLT, Nat.lt_irrefl, true_and, and_self, ↓reduceIte]
 refine callP_eq rfl rfl (kRead ⟨#[48, 55]⟩ (by decide)) ?_
 simp only [rd0, triV, valC, go_sem, Nat.reduceEqDiff, Nat.reduceAdd, Nat.reduceLeDiff, List.length_map, Int.reduceLT, Int.reduceLE, Int.reduceToNat, Int.toNat_zero, Int.le_refl, Int.reduceAdd, decide_true, decide_false, Nat.reduceMul, Nat.reduceLT, Nat.lt_irrefl, true_and, and_self, ↓reduceIte]
 refine callP_eq rfl rfl (kQuote ⟨#[97, 39, 98]⟩ (by decide)) ?_
 have lb0 : lb [] = ⟨#[]⟩ := rfl
 have n1 : ((1 : Nat) : Int) = 1 := rfl
 have n2 : ((2 : Nat) : Int) = 2 := rfl
 have b3 : attrN ⟨#[100]⟩ = 3 := by simp [attrN, ByteArray.toList_eq]
 have b4 : attrN ⟨#[101]⟩ = -1 := by simp [attrN, ByteArray.toList_eq]
 simp only [qt, lb0, beq_self_eq_true, n1, n2, Bool.and_self, Bool.not_false, go_sem, Nat.reduceEqDiff, Nat.reduceAdd, Nat.reduceLeDiff, List.length_map, Int.reduceLT, Int.reduceLE, Int.reduceToNat, Int.toNat_zero, Int.le_refl, Int.reduceAdd, decide_true, decide_false, Nat.reduceMul, Nat.reduceLT, Nat.lt_irrefl, true_and, and_self, ↓reduceIte]
 refine callO_eq rfl rfl rfl rfl rfl kNameF2 ?_
 simp only [nmsL, nmB, nmC, nmR, beq_self_eq_true, go_sem, Nat.reduceEqDiff, Nat.reduceAdd, Nat.reduceLeDiff, List.length_map, Int.reduceLT, Int.reduceLE, Int.reduceToNat, Int.toNat_zero, Int.le_refl, Int.reduceAdd, decide_true, decide_false, Nat.reduceMul, Nat.reduceLT, Nat.lt_irrefl, true_and, and_self, ↓reduceIte]
 refine callO_eq rfl rfl rfl rfl rfl (kAttrA ⟨#[100]⟩) ?_
 simp only [b3, nmsL, nmB, nmC, nmR, beq_self_eq_true, go_sem, Nat.reduceEqDiff, Nat.reduceAdd, Nat.reduceLeDiff, List.length_map, Int.reduceLT, Int.reduceLE, Int.reduceToNat, Int.toNat_zero, Int.le_refl, Int.reduceAdd, decide_true, decide_false, Nat.reduceMul, Nat.reduceLT, Nat.lt_irrefl, true_and, and_self, ↓reduceIte]
 refine callO_eq rfl rfl rfl rfl rfl (kAttrA ⟨#[101]⟩) ?_
 simp only [b4, nmsL, nmB, nmC, nmR, beq_self_eq_true, go_sem, Nat.reduceEqDiff, Nat.reduceAdd, Nat.reduceLeDiff, List.length_map, Int.reduceLT, Int.reduceLE, Int.reduceToNat, Int.toNat_zero, Int.le_refl, Int.reduceAdd, decide_true, decide_false, Nat.reduceMul, Nat.reduceLT, Nat.lt_irrefl, true_and, and_self, ↓reduceIte]
 refine callP_eq rfl rfl (kvalRight ⟨1, -7, ⟨#[]⟩⟩) ?_
 have r1 : rightV ⟨1, -7, ⟨#[]⟩⟩ = true := by simp [rightV, ByteArray.toList_eq]
 simp only [r1, go_sem, Nat.reduceEqDiff, Nat.reduceAdd, Nat.reduceLeDiff, List.length_map, Int.reduceLT, Int.reduceLE, Int.reduceToNat, Int.toNat_zero, Int.le_refl, Int.reduceAdd, decide_true, decide_false, Nat.reduceMul, Nat.reduceLT, Nat.lt_irrefl, true_and, and_self, ↓reduceIte]
 refine callP_eq rfl rfl (kvOrder ⟨0, 0, ⟨#[]⟩⟩ ⟨1, -7, ⟨#[]⟩⟩) ?_
 have r2 : ordV ⟨0, 0, ⟨#[]⟩⟩ ⟨1, -7, ⟨#[]⟩⟩ = -1 := by simp [ordV, cmpI]
 simp only [r2, beq_self_eq_true, go_sem, Nat.reduceEqDiff, Nat.reduceAdd, Nat.reduceLeDiff, List.length_map, Int.reduceLT, Int.reduceLE, Int.reduceToNat, Int.toNat_zero, Int.le_refl, Int.reduceAdd, decide_true, decide_false, Nat.reduceMul, Nat.reduceLT, Nat.lt_irrefl, true_and, and_self, ↓reduceIte]
end Go.Proofs

namespace Go.Proofs
open Go.Vm
set_option linter.unusedSimpArgs false
set_option maxHeartbeats 2000000 in
theorem kValueReads (s : ByteArray) : PureAt Tryd.prog 3 [.val (.string s)] (· = .val (.bool true)) := by
 refine pure_of r3 (by kernel_rfl) ?_
 unfold m3
 simp only [go_sem, Nat.reduceEqDiff, Nat.reduceAdd, Nat.reduceLeDiff, List.length_map, Int.reduceLT, Int.reduceLE, Int.reduceToNat, Int.toNat_zero, Int.le_refl, Int.reduceAdd, decide_true, decide_false, Nat.reduceMul, Nat.reduceLT, Nat.lt_irrefl, true_and, and_self, ↓reduceIte]
 refine callP_eq rfl rfl kawake01 ?_
 have d300 : decide ((s.size : Int) > 300) = decide (300 < s.size) := by rw [decide_eq_decide]; omega
 simp only [Bool.not_true, d300, go_sem, Nat.reduceEqDiff, Nat.reduceAdd, Nat.reduceLeDiff, List.length_map, Int.reduceLT, Int.reduceLE, Int.reduceToNat, Int.toNat_zero, Int.le_refl, Int.reduceAdd, decide_true, decide_false, Nat.reduceMul, Nat.reduceLT, Nat.lt_irrefl, true_and, and_self, ↓reduceIte]
 cases h : decide (300 < s.size) with
 | true =>
  simp only [go_sem, Nat.reduceEqDiff, Nat.reduceAdd, Nat.reduceLeDiff, List.length_map, Int.reduceLT, Int.reduceLE, Int.reduceToNat, Int.toNat_zero, Int.le_refl, Int.reduceAdd, decide_true, decide_false, Nat.reduceMul, Nat.reduceLT, Nat.lt_irrefl, true_and, and_self, ↓reduceIte]
  refine callP_eq rfl rfl kawake01 ?_
  simp only [go_sem, Nat.reduceEqDiff, Nat.reduceAdd, Nat.reduceLeDiff, List.length_map, Int.reduceLT, Int.reduceLE, Int.reduceToNat, Int.toNat_zero, Int.le_refl, Int.reduceAdd, decide_true, decide_false, Nat.reduceMul, Nat.reduceLT, Nat.lt_irrefl, true_and, and_self, ↓reduceIte]
 | false =>
  have h' := of_decide_eq_false h
  simp only [go_sem, Nat.reduceEqDiff, Nat.reduceAdd, Nat.reduceLeDiff, List.length_map, Int.reduceLT, Int.reduceLE, Int.reduceToNat, Int.toNat_zero, Int.le_refl, Int.reduceAdd, decide_true, decide_false, Nat.reduceMul, Nat.reduceLT, Nat.lt_irrefl, true_and, and_self, ↓reduceIte]
  refine callP_eq rfl rfl (kRead s (by omega)) ?_
  simp only [triV, valC, go_sem, Nat.reduceEqDiff, Nat.reduceAdd, Nat.reduceLeDiff, List.length_map, Int.reduceLT, Int.reduceLE, Int.reduceToNat, Int.toNat_zero, Int.le_refl, Int.reduceAdd, decide_true, decide_false, Nat.reduceMul, Nat.reduceLT, Nat.lt_irrefl, true_and, and_self, ↓reduceIte]
  refine callP_eq rfl rfl (kref1Read s (by omega)) ?_
  rw [← read_same]
  generalize read1 (bl s) = r
  simp only [triV, valC, beq_self_eq_true, Bool.and_self, go_sem, Nat.reduceEqDiff, Nat.reduceAdd, Nat.reduceLeDiff, List.length_map, Int.reduceLT, Int.reduceLE, Int.reduceToNat, Int.toNat_zero, Int.le_refl, Int.reduceAdd, decide_true, decide_false, Nat.reduceMul, Nat.reduceLT, Nat.lt_irrefl, true_and, and_self, ↓reduceIte]
end Go.Proofs

namespace Go.Proofs
open Go.Vm
set_option linter.unusedSimpArgs false
set_option maxHeartbeats 4000000 in
theorem kValueTells (a b : ValM) (e : EvM) (ha : ValIn a) : PureAt Tryd.prog 8 [.agg (valC a), .agg (valC b), .agg (evC e)] (· = .val (.bool true)) := by
 have p1 := kvalRight a
 have p2 := kref1Right a
 have p3 := kvalEvent e
 have p4 := kref1Event e
 have p5 := kvOrder a b
 have p6 := kref1Order a b
 have p7 := kText a ha
 have p8 := kref1Text a ha
 refine pure_of r8 (by kernel_rfl) ?_
 unfold m8
 have da : decide ((a.s.size : Int) > 200) = decide (200 < a.s.size) := by rw [decide_eq_decide]; omega
 have db : decide ((b.s.size : Int) > 200) = decide (200 < b.s.size) := by rw [decide_eq_decide]; omega
 unfold valC at *
 unfold evC at *
 simp only [go_sem, Nat.reduceEqDiff, Nat.reduceAdd, Nat.reduceLeDiff, List.length_map, Int.reduceLT, Int.reduceLE, Int.reduceToNat, Int.toNat_zero, Int.le_refl, Int.reduceAdd, decide_true, decide_false, Nat.reduceMul, Nat.reduceLT, Nat.lt_irrefl, true_and, and_self, ↓reduceIte]
 refine callP_eq rfl rfl kawake01 ?_
 simp only [Bool.not_true, da, go_sem, Nat.reduceEqDiff, Nat.reduceAdd, Nat.reduceLeDiff, List.length_map, Int.reduceLT, Int.reduceLE, Int.reduceToNat, Int.toNat_zero, Int.le_refl, Int.reduceAdd, decide_true, decide_false, Nat.reduceMul, Nat.reduceLT, Nat.lt_irrefl, true_and, and_self, ↓reduceIte]
 cases h1 : decide (200 < a.s.size) with
 | true =>
  simp only [go_sem, Nat.reduceEqDiff, Nat.reduceAdd, Nat.reduceLeDiff, List.length_map, Int.reduceLT, Int.reduceLE, Int.reduceToNat, Int.toNat_zero, Int.le_refl, Int.reduceAdd, decide_true, decide_false, Nat.reduceMul, Nat.reduceLT, Nat.lt_irrefl, true_and, and_self, ↓reduceIte]
  refine callP_eq rfl rfl kawake01 ?_
  simp only [go_sem, Nat.reduceEqDiff, Nat.reduceAdd, Nat.reduceLeDiff, List.length_map, Int.reduceLT, Int.reduceLE, Int.reduceToNat, Int.toNat_zero, Int.le_refl, Int.reduceAdd, decide_true, decide_false, Nat.reduceMul, Nat.reduceLT, Nat.lt_irrefl, true_and, and_self, ↓reduceIte]
 | false =>
  simp only [db, go_sem, Nat.reduceEqDiff, Nat.reduceAdd, Nat.reduceLeDiff, List.length_map, Int.reduceLT, Int.reduceLE, Int.reduceToNat, Int.toNat_zero, Int.le_refl, Int.reduceAdd, decide_true, decide_false, Nat.reduceMul, Nat.reduceLT, Nat.lt_irrefl, true_and, and_self, ↓reduceIte]
  cases h2 : decide (200 < b.s.size) with
  | true =>
   simp only [go_sem, Nat.reduceEqDiff, Nat.reduceAdd, Nat.reduceLeDiff, List.length_map, Int.reduceLT, Int.reduceLE, Int.reduceToNat, Int.toNat_zero, Int.le_refl, Int.reduceAdd, decide_true, decide_false, Nat.reduceMul, Nat.reduceLT, Nat.lt_irrefl, true_and, and_self, ↓reduceIte]
   refine callP_eq rfl rfl kawake01 ?_
   simp only [go_sem, Nat.reduceEqDiff, Nat.reduceAdd, Nat.reduceLeDiff, List.length_map, Int.reduceLT, Int.reduceLE, Int.reduceToNat, Int.toNat_zero, Int.le_refl, Int.reduceAdd, decide_true, decide_false, Nat.reduceMul, Nat.reduceLT, Nat.lt_irrefl, true_and, and_self, ↓reduceIte]
  | false =>
   have h2' := of_decide_eq_false h2
   simp only [go_sem, Nat.reduceEqDiff, Nat.reduceAdd, Nat.reduceLeDiff, List.length_map, Int.reduceLT, Int.reduceLE, Int.reduceToNat, Int.toNat_zero, Int.le_refl, Int.reduceAdd, decide_true, decide_false, Nat.reduceMul, Nat.reduceLT, Nat.lt_irrefl, true_and, and_self, ↓reduceIte]
   refine callQ_by _ rfl rfl p1 ?_
   simp only [go_sem, Nat.reduceEqDiff, Nat.reduceAdd, Nat.reduceLeDiff, List.length_map, Int.reduceLT, Int.reduceLE, Int.reduceToNat, Int.toNat_zero, Int.le_refl, Int.reduceAdd, decide_true, decide_false, Nat.reduceMul, Nat.reduceLT, Nat.lt_irrefl, true_and, and_self, ↓reduceIte]
   refine callQ_by _ rfl rfl p2 ?_
   simp only [beq_self_eq_true, go_sem, Nat.reduceEqDiff, Nat.reduceAdd, Nat.reduceLeDiff, List.length_map, Int.reduceLT, Int.reduceLE, Int.reduceToNat, Int.toNat_zero, Int.le_refl, Int.reduceAdd, decide_true, decide_false, Nat.reduceMul, Nat.reduceLT, Nat.lt_irrefl, true_and, and_self, ↓reduceIte]
   refine callQ_by _ rfl rfl p3 ?_
   simp only [go_sem, Nat.reduceEqDiff, Nat.reduceAdd, Nat.reduceLeDiff, List.length_map, Int.reduceLT, Int.reduceLE, Int.reduceToNat, Int.toNat_zero, Int.le_refl, Int.reduceAdd, decide_true, decide_false, Nat.reduceMul, Nat.reduceLT, Nat.lt_irrefl, true_and, and_self, ↓reduceIte]
   refine callQ_by _ rfl rfl p4 ?_
   simp only [beq_self_eq_true, go_sem, Nat.reduceEqDiff, Nat.reduceAdd, Nat.reduceLeDiff, List.length_map, Int.reduceLT, Int.reduceLE, Int.reduceToNat, Int.toNat_zero, Int.le_refl, Int.reduceAdd, decide_true, decide_false, Nat.reduceMul, Nat.reduceLT, Nat.lt_irrefl, true_and, and_self, ↓reduceIte]
   refine callQ_by _ rfl rfl p5 ?_
   simp only [go_sem, Nat.reduceEqDiff, Nat.reduceAdd, Nat.reduceLeDiff, List.length_map, Int.reduceLT, Int.reduceLE, Int.reduceToNat, Int.toNat_zero, Int.le_refl, Int.reduceAdd, decide_true, decide_false, Nat.reduceMul, Nat.reduceLT, Nat.lt_irrefl, true_and, and_self, ↓reduceIte]
   refine callQ_by _ rfl rfl p6 ?_
   simp only [beq_self_eq_true, go_sem, Nat.reduceEqDiff, Nat.reduceAdd, Nat.reduceLeDiff, List.length_map, Int.reduceLT, Int.reduceLE, Int.reduceToNat, Int.toNat_zero, Int.le_refl, Int.reduceAdd, decide_true, decide_false, Nat.reduceMul, Nat.reduceLT, Nat.lt_irrefl, true_and, and_self, ↓reduceIte]
   refine callQ_by _ rfl rfl p7 ?_
   simp only [go_sem, Nat.reduceEqDiff, Nat.reduceAdd, Nat.reduceLeDiff, List.length_map, Int.reduceLT, Int.reduceLE, Int.reduceToNat, Int.toNat_zero, Int.le_refl, Int.reduceAdd, decide_true, decide_false, Nat.reduceMul, Nat.reduceLT, Nat.lt_irrefl, true_and, and_self, ↓reduceIte]
   refine callQ_by _ rfl rfl p8 ?_
   simp only [beq_self_eq_true, go_sem, Nat.reduceEqDiff, Nat.reduceAdd, Nat.reduceLeDiff, List.length_map, Int.reduceLT, Int.reduceLE, Int.reduceToNat, Int.toNat_zero, Int.le_refl, Int.reduceAdd, decide_true, decide_false, Nat.reduceMul, Nat.reduceLT, Nat.lt_irrefl, true_and, and_self, ↓reduceIte]
   refine callQ_by _ rfl rfl (kQuote b.s (by omega)) ?_
   simp only [go_sem, Nat.reduceEqDiff, Nat.reduceAdd, Nat.reduceLeDiff, List.length_map, Int.reduceLT, Int.reduceLE, Int.reduceToNat, Int.toNat_zero, Int.le_refl, Int.reduceAdd, decide_true, decide_false, Nat.reduceMul, Nat.reduceLT, Nat.lt_irrefl, true_and, and_self, ↓reduceIte]
   refine callQ_by _ rfl rfl (kref1Quote b.s (by omega)) ?_
   simp only [beq_self_eq_true, go_sem, Nat.reduceEqDiff, Nat.reduceAdd, Nat.reduceLeDiff, List.length_map, Int.reduceLT, Int.reduceLE, Int.reduceToNat, Int.toNat_zero, Int.le_refl, Int.reduceAdd, decide_true, decide_false, Nat.reduceMul, Nat.reduceLT, Nat.lt_irrefl, true_and, and_self, ↓reduceIte]
theorem cmpI_anti (x y : Int) : cmpI x y = -cmpI y x := by unfold cmpI; split <;> (try split) <;> omega
theorem cmpI_zero (x y : Int) : cmpI x y = 0 ↔ x = y := by unfold cmpI; split <;> (try split) <;> omega
theorem cmpI_trans {x y z : Int} (h1 : cmpI x y ≤ 0) (h2 : cmpI y z ≤ 0) : cmpI x z ≤ 0 := by
 unfold cmpI at *
 split at h1 <;> (try split at h1) <;> (split at h2) <;> (try split at h2) <;> split <;> (try split) <;> omega
theorem cmpB_zero : ∀ a b : List UInt8, Lib.compareBytes a b = 0 ↔ a = b
 | [], [] => by simp [Lib.compareBytes]
 | [], y :: b => by simp [Lib.compareBytes]
 | x :: a, [] => by simp [Lib.compareBytes]
 | x :: a, y :: b => by
  have ih := cmpB_zero a b
  simp only [Lib.compareBytes]
  by_cases h1 : x < y
  ·have hne : ¬ x = y := fun e => by subst e; exact absurd h1 (by simp)
   simp [h1, hne]
  ·by_cases h2 : y < x
   ·have hne : ¬ x = y := fun e => by subst e; exact absurd h2 (by simp)
    simp [h1, h2, hne]
   ·have he : x = y := by
      apply UInt8.toNat_inj.1
      have a1 : ¬ x.toNat < y.toNat := h1
      have a2 : ¬ y.toNat < x.toNat := h2
      omega
    subst he
    simp [ih]
theorem cmpB_anti : ∀ a b : List UInt8, Lib.compareBytes a b = -Lib.compareBytes b a
 | [], [] => by simp [Lib.compareBytes]
 | [], y :: b => by simp [Lib.compareBytes]
 | x :: a, [] => by simp [Lib.compareBytes]
 | x :: a, y :: b => by
  have ih := cmpB_anti a b
  simp only [Lib.compareBytes]
  by_cases h1 : x < y
  ·have h2 : ¬ y < x := fun h2 => by have a1 : x.toNat < y.toNat := h1; have a2 : y.toNat < x.toNat := h2; omega
   simp [h1, h2]
  ·by_cases h2 : y < x
   ·simp [h1, h2]
   ·simp [h1, h2, ih]
theorem cmpB_trans : ∀ a b c : List UInt8, Lib.compareBytes a b ≤ 0 → Lib.compareBytes b c ≤ 0 → Lib.compareBytes a c ≤ 0
 | [], b, [], _, _ => by simp [Lib.compareBytes]
 | [], b, z :: c, _, _ => by simp [Lib.compareBytes]
 | x :: a, [], c, h, _ => by simp [Lib.compareBytes] at h
 | x :: a, y :: b, [], _, h => by simp [Lib.compareBytes] at h
 | x :: a, y :: b, z :: c, h1, h2 => by
  have ih := cmpB_trans a b c
  simp only [Lib.compareBytes] at h1 h2 ⊢
  have lt : ∀ p q : UInt8, p < q ↔ p.toNat < q.toNat := fun p q => Iff.rfl
  simp only [lt] at h1 h2 ⊢
  split at h1
  ·split at h2
   ·rw [if_pos (by omega)]; omega
   ·split at h2
    ·omega
    ·rw [if_pos (by omega)]; omega
  ·split at h1
   ·omega
   ·split at h2
    ·rw [if_pos (by omega)]; omega
    ·split at h2
     ·omega
     ·rw [if_neg (by omega), if_neg (by omega)]; exact ih h1 h2
end Go.Proofs

namespace Go.Proofs
open Go.Vm
set_option linter.unusedSimpArgs false
theorem right_0 {v : ValM} (h : rightV v = true) (hk : v.kind = 0) : v.n = 0 ∧ v.s.toList = [] := by
 unfold rightV at h; rw [if_pos hk] at h; simpa using h
theorem right_1 {v : ValM} (h : rightV v = true) (hk : v.kind = 1) : v.s.toList = [] := by
 unfold rightV at h; rw [if_neg (by omega), if_pos hk] at h; simpa using h
theorem right_2 {v : ValM} (h : rightV v = true) (hk : v.kind = 2) : v.n = 0 := by
 unfold rightV at h; rw [if_neg (by omega), if_neg (by omega), if_pos hk] at h
 simp at h; exact h.1
theorem cmpI_rng (x y : Int) : -1 ≤ cmpI x y ∧ cmpI x y ≤ 1 := by unfold cmpI; split <;> (try split) <;> omega
theorem cmpB_rng (a b : List UInt8) : -1 ≤ Lib.compareBytes a b ∧ Lib.compareBytes a b ≤ 1 := by
 rw [cmp_less]; split <;> (try split) <;> omega
theorem ordV_rng (a b : ValM) : -1 ≤ ordV a b ∧ ordV a b ≤ 1 := by
 unfold ordV
 split
 ·split
  ·exact cmpI_rng _ _
  ·split
   ·exact cmpB_rng _ _
   ·omega
 ·exact cmpI_rng _ _
theorem ordV_anti (a b : ValM) : ordV a b = -ordV b a := by
 unfold ordV
 by_cases hk : a.kind = b.kind
 ·rw [if_pos hk, if_pos hk.symm, ← hk]
  split
  ·exact cmpI_anti _ _
  ·split
   ·exact cmpB_anti _ _
   ·rfl
 ·rw [if_neg hk, if_neg (fun h => hk h.symm)]; exact cmpI_anti _ _
def eqV3 (a b : ValM) : Bool := (a.kind == b.kind) && ((a.n == b.n) && (a.s.toList == b.s.toList))
theorem ordV_zero {a b : ValM} (ha : rightV a = true) (hb : rightV b = true) : (ordV a b == 0) = eqV3 a b := by
 rw [Bool.eq_iff_iff, beq_iff_eq]
 unfold eqV3 ordV
 simp only [Bool.and_eq_true, beq_iff_eq]
 by_cases hk : a.kind = b.kind
 ·rw [if_pos hk]
  rcases right_kind ha with h | h | h
  ·have h1 := right_0 ha h
   have h2 := right_0 hb (by omega)
   rw [if_neg (by omega), if_neg (by omega), h1.1, h1.2, h2.1, h2.2]; simp [hk]
  ·have h1 := right_1 ha h
   have h2 := right_1 hb (by omega)
   rw [if_pos h, h1, h2, cmpI_zero]; simp [hk]
  ·have h1 := right_2 ha h
   have h2 := right_2 hb (by omega)
   rw [if_neg (by omega), if_pos h, h1, h2, cmpB_zero, ByteArray.toList_eq, ByteArray.toList_eq]; simp [hk]
 ·rw [if_neg hk, cmpI_zero]; simp [hk]
theorem ordV_trans {a b c : ValM} (h1 : ordV a b ≤ 0) (h2 : ordV b c ≤ 0) : ordV a c ≤ 0 := by
 unfold ordV at *
 by_cases k1 : a.kind = b.kind
 ·rw [if_pos k1] at h1
  by_cases k2 : b.kind = c.kind
  ·rw [if_pos k2] at h2
   rw [if_pos (k1.trans k2)]
   by_cases i1 : a.kind = 1
   ·rw [if_pos i1] at h1 ⊢
    rw [if_pos (by omega)] at h2
    exact cmpI_trans h1 h2
   ·rw [if_neg i1] at h1 ⊢
    rw [if_neg (by omega)] at h2
    by_cases i2 : a.kind = 2
    ·rw [if_pos i2] at h1 ⊢
     rw [if_pos (by omega)] at h2
     exact cmpB_trans _ _ _ h1 h2
    ·rw [if_neg i2]; omega
  ·rw [if_neg k2] at h2
   rw [if_neg (by omega), k1]; exact h2
 ·rw [if_neg k1] at h1
  by_cases k2 : b.kind = c.kind
  ·rw [if_neg (by omega), ← k2]; exact h1
  ·rw [if_neg k2] at h2
   have h3 := cmpI_trans h1 h2
   by_cases k3 : a.kind = c.kind
   ·exfalso
    rw [k3] at h1
    have := cmpI_anti c.kind b.kind
    have h0 : cmpI b.kind c.kind = 0 := by omega
    exact k2 ((cmpI_zero _ _).1 h0)
   ·rw [if_neg k3]; exact h3
set_option maxHeartbeats 4000000 in
theorem kValueOrder (a b c : ValM) : PureAt Tryd.prog 4 [.agg (valC a), .agg (valC b), .agg (valC c)] (· = .val (.bool true)) := by
 have pa := kvalRight a
 have pb := kvalRight b
 have pc := kvalRight c
 have p1 := kvOrder a b
 have p2 := kvOrder b a
 have p3 := kvOrder b c
 have p4 := kvOrder a c
 have w1 : IntKind.i64.wrap (0 - ordV b a) = ordV a b := by
  have := ordV_rng b a
  have := ordV_anti a b
  rw [wrap64 (by omega) (by omega)]; omega
 refine pure_of r4 (by kernel_rfl) ?_
 unfold m4
 have hz := @ordV_zero a b
 have ht := @ordV_trans a b c
 unfold eqV3 at hz
 unfold valC at *
 simp only [go_sem, Nat.reduceEqDiff, Nat.reduceAdd, Nat.reduceLeDiff, List.length_map, Int.reduceLT, Int.reduceLE, Int.reduceToNat, Int.toNat_zero, Int.le_refl, Int.reduceAdd, decide_true, decide_false, Nat.reduceMul, Nat.reduceLT, Nat.lt_irrefl, true_and, and_self, ↓reduceIte]
 refine callP_eq rfl rfl kawake01 ?_
 simp only [Bool.not_true, go_sem, Nat.reduceEqDiff, Nat.reduceAdd, Nat.reduceLeDiff, List.length_map, Int.reduceLT, Int.reduceLE, Int.reduceToNat, Int.toNat_zero, Int.le_refl, Int.reduceAdd, decide_true, decide_false, Nat.reduceMul, Nat.reduceLT, Nat.lt_irrefl, true_and, and_self, ↓reduceIte]
 refine callP_eq rfl rfl pa ?_
 cases ha : rightV a with
 | false =>
  simp only [Bool.not_false, go_sem, Nat.reduceEqDiff, Nat.reduceAdd, Nat.reduceLeDiff, List.length_map, Int.reduceLT, Int.reduceLE, Int.reduceToNat, Int.toNat_zero, Int.le_refl, Int.reduceAdd, decide_true, decide_false, Nat.reduceMul, Nat.reduceLT, Nat.lt_irrefl, true_and, and_self, ↓reduceIte]
  refine callP_eq rfl rfl kawake01 ?_
  simp only [go_sem, Nat.reduceEqDiff, Nat.reduceAdd, Nat.reduceLeDiff, List.length_map, Int.reduceLT, Int.reduceLE, Int.reduceToNat, Int.toNat_zero, Int.le_refl, Int.reduceAdd, decide_true, decide_false, Nat.reduceMul, Nat.reduceLT, Nat.lt_irrefl, true_and, and_self, ↓reduceIte]
 | true =>
  simp only [Bool.not_true, go_sem, Nat.reduceEqDiff, Nat.reduceAdd, Nat.reduceLeDiff, List.length_map, Int.reduceLT, Int.reduceLE, Int.reduceToNat, Int.toNat_zero, Int.le_refl, Int.reduceAdd, decide_true, decide_false, Nat.reduceMul, Nat.reduceLT, Nat.lt_irrefl, true_and, and_self, ↓reduceIte]
  refine callP_eq rfl rfl pb ?_
  cases hb : rightV b with
  | false =>
   simp only [Bool.not_false, go_sem, Nat.reduceEqDiff, Nat.reduceAdd, Nat.reduceLeDiff, List.length_map, Int.reduceLT, Int.reduceLE, Int.reduceToNat, Int.toNat_zero, Int.le_refl, Int.reduceAdd, decide_true, decide_false, Nat.reduceMul, Nat.reduceLT, Nat.lt_irrefl, true_and, and_self, ↓reduceIte]
   refine callP_eq rfl rfl kawake01 ?_
   simp only [go_sem, Nat.reduceEqDiff, Nat.reduceAdd, Nat.reduceLeDiff, List.length_map, Int.reduceLT, Int.reduceLE, Int.reduceToNat, Int.toNat_zero, Int.le_refl, Int.reduceAdd, decide_true, decide_false, Nat.reduceMul, Nat.reduceLT, Nat.lt_irrefl, true_and, and_self, ↓reduceIte]
  | true =>
   simp only [Bool.not_true, go_sem, Nat.reduceEqDiff, Nat.reduceAdd, Nat.reduceLeDiff, List.length_map, Int.reduceLT, Int.reduceLE, Int.reduceToNat, Int.toNat_zero, Int.le_refl, Int.reduceAdd, decide_true, decide_false, Nat.reduceMul, Nat.reduceLT, Nat.lt_irrefl, true_and, and_self, ↓reduceIte]
   refine callP_eq rfl rfl pc ?_
   cases hc : rightV c with
   | false =>
    simp only [Bool.not_false, go_sem, Nat.reduceEqDiff, Nat.reduceAdd, Nat.reduceLeDiff, List.length_map, Int.reduceLT, Int.reduceLE, Int.reduceToNat, Int.toNat_zero, Int.le_refl, Int.reduceAdd, decide_true, decide_false, Nat.reduceMul, Nat.reduceLT, Nat.lt_irrefl, true_and, and_self, ↓reduceIte]
    refine callP_eq rfl rfl kawake01 ?_
    simp only [go_sem, Nat.reduceEqDiff, Nat.reduceAdd, Nat.reduceLeDiff, List.length_map, Int.reduceLT, Int.reduceLE, Int.reduceToNat, Int.toNat_zero, Int.le_refl, Int.reduceAdd, decide_true, decide_false, Nat.reduceMul, Nat.reduceLT, Nat.lt_irrefl, true_and, and_self, ↓reduceIte]
   | true =>
    have hz' := hz ha hb
    simp only [Bool.not_true, go_sem, Nat.reduceEqDiff, Nat.reduceAdd, Nat.reduceLeDiff, List.length_map, Int.reduceLT, Int.reduceLE, Int.reduceToNat, Int.toNat_zero, Int.le_refl, Int.reduceAdd, decide_true, decide_false, Nat.reduceMul, Nat.reduceLT, Nat.lt_irrefl, true_and, and_self, ↓reduceIte]
    refine callQ_by _ rfl rfl p1 ?_
    simp only [go_sem, Nat.reduceEqDiff, Nat.reduceAdd, Nat.reduceLeDiff, List.length_map, Int.reduceLT, Int.reduceLE, Int.reduceToNat, Int.toNat_zero, Int.le_refl, Int.reduceAdd, decide_true, decide_false, Nat.reduceMul, Nat.reduceLT, Nat.lt_irrefl, true_and, and_self, ↓reduceIte]
    refine callQ_by _ rfl rfl p2 ?_
    simp only [w1, beq_self_eq_true, go_sem, Nat.reduceEqDiff, Nat.reduceAdd, Nat.reduceLeDiff, List.length_map, Int.reduceLT, Int.reduceLE, Int.reduceToNat, Int.toNat_zero, Int.le_refl, Int.reduceAdd, decide_true, decide_false, Nat.reduceMul, Nat.reduceLT, Nat.lt_irrefl, true_and, and_self, ↓reduceIte]
    refine callQ_by _ rfl rfl p1 ?_
    simp only [hz', beq_self_eq_true, go_sem, Nat.reduceEqDiff, Nat.reduceAdd, Nat.reduceLeDiff, List.length_map, Int.reduceLT, Int.reduceLE, Int.reduceToNat, Int.toNat_zero, Int.le_refl, Int.reduceAdd, decide_true, decide_false, Nat.reduceMul, Nat.reduceLT, Nat.lt_irrefl, true_and, and_self, ↓reduceIte]
    refine callQ_by _ rfl rfl p1 ?_
    simp only [go_sem, Nat.reduceEqDiff, Nat.reduceAdd, Nat.reduceLeDiff, List.length_map, Int.reduceLT, Int.reduceLE, Int.reduceToNat, Int.toNat_zero, Int.le_refl, Int.reduceAdd, decide_true, decide_false, Nat.reduceMul, Nat.reduceLT, Nat.lt_irrefl, true_and, and_self, ↓reduceIte]
    cases h1 : decide (ordV a b > 0) with
    | true => simp only [go_sem, Nat.reduceEqDiff, Nat.reduceAdd, Nat.reduceLeDiff, List.length_map, Int.reduceLT, Int.reduceLE, Int.reduceToNat, Int.toNat_zero, Int.le_refl, Int.reduceAdd, decide_true, decide_false, Nat.reduceMul, Nat.reduceLT, Nat.lt_irrefl, true_and, and_self, ↓reduceIte]
    | false =>
     simp only [go_sem, Nat.reduceEqDiff, Nat.reduceAdd, Nat.reduceLeDiff, List.length_map, Int.reduceLT, Int.reduceLE, Int.reduceToNat, Int.toNat_zero, Int.le_refl, Int.reduceAdd, decide_true, decide_false, Nat.reduceMul, Nat.reduceLT, Nat.lt_irrefl, true_and, and_self, ↓reduceIte]
     refine callQ_by _ rfl rfl p3 ?_
     simp only [go_sem, Nat.reduceEqDiff, Nat.reduceAdd, Nat.reduceLeDiff, List.length_map, Int.reduceLT, Int.reduceLE, Int.reduceToNat, Int.toNat_zero, Int.le_refl, Int.reduceAdd, decide_true, decide_false, Nat.reduceMul, Nat.reduceLT, Nat.lt_irrefl, true_and, and_self, ↓reduceIte]
     cases h2 : decide (ordV b c > 0) with
     | true => simp only [go_sem, Nat.reduceEqDiff, Nat.reduceAdd, Nat.reduceLeDiff, List.length_map, Int.reduceLT, Int.reduceLE, Int.reduceToNat, Int.toNat_zero, Int.le_refl, Int.reduceAdd, decide_true, decide_false, Nat.reduceMul, Nat.reduceLT, Nat.lt_irrefl, true_and, and_self, ↓reduceIte]
     | false =>
      simp only [go_sem, Nat.reduceEqDiff, Nat.reduceAdd, Nat.reduceLeDiff, List.length_map, Int.reduceLT, Int.reduceLE, Int.reduceToNat, Int.toNat_zero, Int.le_refl, Int.reduceAdd, decide_true, decide_false, Nat.reduceMul, Nat.reduceLT, Nat.lt_irrefl, true_and, and_self, ↓reduceIte]
      refine callQ_by _ rfl rfl p4 ?_
      have h1' := of_decide_eq_false h1
      have h2' := of_decide_eq_false h2
      have h3 : decide (ordV a c ≤ 0) = true := decide_eq_true (ht (by omega) (by omega))
      simp only [h3, go_sem, Nat.reduceEqDiff, Nat.reduceAdd, Nat.reduceLeDiff, List.length_map, Int.reduceLT, Int.reduceLE, Int.reduceToNat, Int.toNat_zero, Int.le_refl, Int.reduceAdd, decide_true, decide_false, Nat.reduceMul, Nat.reduceLT, Nat.lt_irrefl, true_and, and_self, ↓reduceIte]
end Go.Proofs
