/- A part of the proof; what is proved stands in the last text. -/
import Derived.Test.YtcclggbngikppaaGreatDoorCE
set_option linter.unusedVariables false
set_option maxRecDepth 2000
namespace Go.Proofs
open Go.Vm
set_option linter.unusedSimpArgs false
set_option maxHeartbeats 4000000 in
theorem kCellsSamples (s : SetM) (hb : Bnd s) : PureAt Tryz.prog 4 [.agg (setC s)] (· = .val (.bool true)) := by
 refine pure_of r4 (by kernel_rfl) ?_
 unfold m4
 simp only [setC, go_sem, Nat.reduceEqDiff, Nat.reduceAdd, Nat.reduceLeDiff, List.length_map]
 refine callP_eq rfl rfl (kawake09) ?_
 simp only [go_sem, Nat.reduceEqDiff, Nat.reduceAdd, Nat.reduceLeDiff, List.length_map]
 refine callP_by rfl rfl (krefFew3 [s] (by simp)) ?_
 rintro d ⟨bf, rfl, hf⟩
 simp only [go_sem, Nat.reduceEqDiff, Nat.reduceAdd, Nat.reduceLeDiff, List.length_map]
 cases bf
 ·simp only [go_sem, Nat.reduceEqDiff, Nat.reduceAdd, Nat.reduceLeDiff, List.length_map]
  refine callP_eq rfl rfl (kawake09) ?_
  simp only [go_sem, Nat.reduceEqDiff, Nat.reduceAdd, Nat.reduceLeDiff, List.length_map]
 ·have hl := hf rfl s (by simp)
  have p1 := kSample s (by omega) (by omega) hb
  have p2 := kSample9 s (by omega) (by omega)
  generalize sampleM s = x at p1 p2
  obtain ⟨⟨kd, n, t⟩, b⟩ := x
  unfold setC at p1 p2
  simp only [go_sem, Nat.reduceEqDiff, Nat.reduceAdd, Nat.reduceLeDiff, List.length_map]
  refine callP_eq rfl rfl p1 ?_
  simp only [valC, go_sem, Nat.reduceEqDiff, Nat.reduceAdd, Nat.reduceLeDiff, List.length_map]
  refine callP_eq rfl rfl p2 ?_
  have e1 : (kd == kd && (n == n && t.toList == t.toList)) = true := by simp
  simp only [valC, e1, go_sem, Nat.reduceEqDiff, Nat.reduceAdd, Nat.reduceLeDiff, List.length_map]
  cases b <;> rfl
end Go.Proofs
