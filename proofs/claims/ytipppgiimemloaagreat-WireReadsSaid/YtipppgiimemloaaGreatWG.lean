/- A part of the proof; what is proved stands in the last text. -/
import Derived.Test.YtipppgiimemloaaGreatWF
set_option linter.unusedVariables false
set_option maxRecDepth 2000

namespace Go.Proofs
open Go.Vm
set_option linter.unusedSimpArgs false

def e1M : EvM := ⟨⟨1, 1, ⟨#[]⟩⟩, zV, zV, zV⟩
def e3M : EvM := ⟨⟨3, 0, ⟨#[]⟩⟩, zV, zV, zV⟩
theorem encB_2 : encB (foldN 1) = [2] := by
  have : foldN 1 = 2 := rfl
  rw [this, encB, encN, encHi]; rfl
theorem event1 : eventB e1M = [1, 2, 0, 0, 0] := by
  simp [eventB, valsB, List.range_succ, valB, EvM.at, at4, e1M, zV, encB_2]
theorem rightE1 : rightE e1M = true := by
  simp [rightE, all4, EvM.at, at4, e1M, zV, rightV]
theorem filter0 : wfilX [] = ([0], 0) := by
  have h : rightF [] = true := by rfl
  rw [wfilX, if_pos h]
  simp [filterB, encB, encN, encHi]
theorem wev1 : wevX e1M = ([1, 2, 0, 0, 0], 0) := by
  rw [wevX, if_pos rightE1, event1]
theorem wev3 : wevX e3M = ([], 1) := by
  have h : ¬ rightE e3M = true := by simp [rightE, all4, EvM.at, at4, e3M, zV, rightV]
  rw [wevX, if_neg h]
theorem read1 : readEX [1, 2, 0, 0, 0] = (e1M, 0) := by
  have h1 : evK ([1, 2, 0, 0, 0], 0) 4 = e1M := rfl
  have h2 : rdK ([1, 2, 0, 0, 0], 0) 4 = ([], 0) := rfl
  have h3 : takeEX ([1, 2, 0, 0, 0], 0) = (e1M, ([], 0)) := by
    unfold takeEX
    rw [h1, h2, if_pos rightE1]; rfl
  unfold readEX
  rw [h3]; rfl
theorem readF1 : readFX [1] = ([], 2) := by
  have h1 : (filR ([1], 0)).2 = ([], 3) := rfl
  have h2 : takeFR ([1], 0) = ([], 3) := by
    unfold takeFR
    rw [h1, if_neg (by rintro ⟨h, -⟩; cases h)]
  have h3 : takeFX ([1], 0) = ([], ([], 3)) := by
    unfold takeFX
    rw [h2]; rfl
  unfold readFX
  rw [h3]; rfl
set_option maxHeartbeats 1000000 in
theorem kawake08 : PureAt Tryz.prog 27 [] (· = .val (.bool true)) := by
  have p1 := kwFilter [] (by simp) (by simp) (by simp)
  rw [filter0] at p1
  have i1 : InE e1M := by intro i hi; rcases lt4 hi with rfl | rfl | rfl | rfl <;> exact ⟨by decide, by decide⟩
  have i3 : InE e3M := by intro i hi; rcases lt4 hi with rfl | rfl | rfl | rfl <;> exact ⟨by decide, by decide⟩
  have p2 := kwEvent e1M i1
  rw [wev1] at p2
  have p3 := kwEvent e3M i3
  rw [wev3] at p3
  have p4 := kReadFilter (lb [1]) (by rw [size_lb]; simp)
  rw [show bl (lb [1]) = [1] from rfl, readF1] at p4
  have p5 := kReadEvent (lb [1, 2, 0, 0, 0]) (by rw [size_lb]; simp)
  rw [show bl (lb [1, 2, 0, 0, 0]) = [1, 2, 0, 0, 0] from rfl, read1] at p5
  refine pure_of r27 (by kernel_rfl) ?_
  unfold m27
  simp only [go_sem]
  refine callP_eq rfl rfl p1 ?_
  simp only [encP, go_sem, Nat.reduceEqDiff, Nat.reduceAdd, Nat.reduceLeDiff]
  refine callP_eq rfl rfl p2 ?_
  simp only [encP, go_sem, Nat.reduceEqDiff, Nat.reduceAdd, Nat.reduceLeDiff]
  refine callP_eq rfl rfl p3 ?_
  simp only [encP, go_sem, Nat.reduceEqDiff]
  refine callP_eq rfl rfl p4 ?_
  simp only [go_sem, Nat.reduceEqDiff]
  refine callP_eq rfl rfl p5 ?_
  have q0 : ((lb [0]).toList == (⟨#[0]⟩ : ByteArray).toList) = true := beq_self_eq_true (lb [0]).toList
  have q1 : ((lb [1, 2, 0, 0, 0]).toList == (⟨#[1, 2, 0, 0, 0]⟩ : ByteArray).toList) = true := beq_self_eq_true (lb [1, 2, 0, 0, 0]).toList
  have n1 : e1M.v0.n = 1 := rfl
  have z4b : (0 ≤ (0 : Int) ∧ (0 : Int) < ((4 : Nat) : Int)) = True := by simp
  simp only [evC, q0, q1, n1, beq_self_eq_true, go_sem, Nat.reduceEqDiff, Nat.reduceAdd, Nat.reduceLeDiff, Int.reduceLT, Int.toNat_zero, Int.le_refl, c4, Nat.reduceMul, and_self, ↓reduceIte]
end Go.Proofs



namespace Go.Proofs
open Go.Vm
set_option linter.unusedSimpArgs false

end Go.Proofs



namespace Go.Proofs
open Go.Vm
set_option linter.unusedSimpArgs false

end Go.Proofs



namespace Go.Proofs
open Go.Vm
set_option linter.unusedSimpArgs false

theorem boxB_four (b : BoxM) : boxB b = setB b.s0 ++ (setB b.s1 ++ (setB b.s2 ++ setB b.s3)) := by
  simp [boxB, setsB, List.range_succ, BoxM.at, at4]
theorem boxSame_iff {a b : BoxM} : boxSame a b = true ↔ a = b := by
  obtain ⟨x0, x1, x2, x3⟩ := a
  obtain ⟨y0, y1, y2, y3⟩ := b
  simp [boxSame, all4, sameB, BoxM.at, at4, sameM_iff, and_assoc]
theorem sameF_iff {l m : List BoxM} : sameF l m = true ↔ l = m := by
  simp only [sameF, Bool.and_eq_true, decide_eq_true_eq, List.all_eq_true, List.mem_range, boxSame_iff]
  constructor
  · rintro ⟨h1, h2⟩
    refine List.ext_getElem h1 fun i hi hj => ?_
    have := h2 i hi
    simpa [List.getD_eq_getElem?_getD, List.getElem?_eq_getElem hi, List.getElem?_eq_getElem hj] using this
  · rintro rfl; exact ⟨rfl, fun i _ => rfl⟩
end Go.Proofs



namespace Go.Proofs
open Go.Vm
set_option linter.unusedSimpArgs false

end Go.Proofs

