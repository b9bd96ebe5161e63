/- A part of the proof; what is proved stands in the last text. -/
import Derived.Test.YtoojpeidgdadgaaMA
namespace Go.Proofs
open Go.Vm
set_option linter.unusedSimpArgs false

theorem kisNaN (x : Int) : PureAt Try.prog 66 [.val (.int .i64 x)] (· = .val (.bool false)) := by
  refine pure_of r66 (by kernel_rfl) ?_
  unfold m66
  simp only [go_sem, Nat.reduceEqDiff, Nat.reduceAdd, Nat.reduceLeDiff]
  simp

theorem kcmpInt (x y : Int) : PureAt Try.prog 58 [.val (.int .i64 x), .val (.int .i64 y)] (· = .val (.int .i64 (if x < y then -1 else if y < x then 1 else 0))) := by
  refine pure_of r58 (by kernel_rfl) ?_
  unfold m58
  simp only [go_sem, Nat.reduceEqDiff, Nat.reduceAdd, Nat.reduceLeDiff]
  refine callP_eq rfl rfl (kisNaN _) ?_
  simp only [go_sem, Nat.reduceEqDiff, Nat.reduceAdd, Nat.reduceLeDiff]
  refine callP_eq rfl rfl (kisNaN _) ?_
  simp only [go_sem, Nat.reduceEqDiff, Nat.reduceAdd, Nat.reduceLeDiff]
  refine condE_split (fun h => ?_) (fun h => ?_)
  · simp only [go_sem, Nat.reduceEqDiff, Nat.reduceAdd, Nat.reduceLeDiff]; simp_all
  · simp only [go_sem, Nat.reduceEqDiff, Nat.reduceAdd, Nat.reduceLeDiff]
    refine condE_split (fun h' => ?_) (fun h' => ?_)
    · simp only [go_sem, Nat.reduceEqDiff, Nat.reduceAdd, Nat.reduceLeDiff]
      rw [if_neg (by simpa using h), if_pos (by simpa using h')]
    · simp only [go_sem, Nat.reduceEqDiff, Nat.reduceAdd, Nat.reduceLeDiff]
      rw [if_neg (by simpa using h), if_neg (by simpa using h')]

theorem kRangesF (a b c d : Int) : PureAt Try.prog 57 [.agg [.val (.int .i64 a), .val (.int .i64 b)], .agg [.val (.int .i64 c), .val (.int .i64 d)]] (· = .val (.int .i64 (if a < c then -1 else if c < a then 1 else 0))) := by
  refine pure_of r57 (by kernel_rfl) ?_
  unfold m57
  simp only [go_sem, Nat.reduceEqDiff, Nat.reduceAdd, Nat.reduceLeDiff]
  refine callP_eq rfl rfl (kcmpInt _ _) ?_
  simp only [go_sem, Nat.reduceEqDiff, Nat.reduceAdd, Nat.reduceLeDiff]

theorem kCloneR (es : List (List D)) (h2 : ∀ e ∈ es, e.length = 2) (hl : es.length ≤ 1000000) : FreshAt Try.prog 40 [.sl none es] 63 2 (· = es) := by
  refine fresh_of r40 (by kernel_rfl) ?_
  unfold m40
  simp only [go_sem, Nat.reduceEqDiff, Nat.reduceAdd, Nat.reduceLeDiff]
  intro b hb
  refine condE_split (fun h => ?_) (fun h => ?_)
  · simp only [go_sem, Nat.reduceEqDiff, Nat.reduceAdd, Nat.reduceLeDiff]
    simp_all
  · simp only [go_sem, Nat.reduceEqDiff, Nat.reduceAdd, Nat.reduceLeDiff, List.length_append, List.nil_append]
    simp only [Nat.zero_add]
    refine ⟨h2, by omega, by omega⟩
end Go.Proofs
