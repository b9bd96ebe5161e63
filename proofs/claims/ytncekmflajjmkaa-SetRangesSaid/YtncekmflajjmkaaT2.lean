/- A part of the proof; what is proved stands in the last text. -/
import Derived.Test.YtncekmflajjmkaaMA
namespace Go.Proofs
open Go.Vm
set_option linter.unusedSimpArgs false

theorem k28 (x : Int) : PureAt Try.prog 28 [.val (.int .i64 x)] (· = .val (.bool false)) := by
  refine pure_of r28 (by kernel_rfl) ?_
  unfold m28
  simp only [go_sem, Nat.reduceEqDiff, Nat.reduceAdd, Nat.reduceLeDiff]
  simp

theorem k17 (x y : Int) : PureAt Try.prog 17 [.val (.int .i64 x), .val (.int .i64 y)] (· = .val (.int .i64 (if x < y then -1 else if y < x then 1 else 0))) := by
  refine pure_of r17 (by kernel_rfl) ?_
  unfold m17
  simp only [go_sem, Nat.reduceEqDiff, Nat.reduceAdd, Nat.reduceLeDiff]
  refine callP_eq rfl rfl (k28 _) ?_
  simp only [go_sem, Nat.reduceEqDiff, Nat.reduceAdd, Nat.reduceLeDiff]
  refine callP_eq rfl rfl (k28 _) ?_
  simp only [go_sem, Nat.reduceEqDiff, Nat.reduceAdd, Nat.reduceLeDiff]
  refine condE_split (fun h => ?_) (fun h => ?_)
  · simp only [go_sem, Nat.reduceEqDiff, Nat.reduceAdd, Nat.reduceLeDiff]; simp_all
  · simp only [go_sem, Nat.reduceEqDiff, Nat.reduceAdd, Nat.reduceLeDiff]
    refine condE_split (fun h' => ?_) (fun h' => ?_)
    · simp only [go_sem, Nat.reduceEqDiff, Nat.reduceAdd, Nat.reduceLeDiff]
      rw [if_neg (by simpa using h), if_pos (by simpa using h')]
    · simp only [go_sem, Nat.reduceEqDiff, Nat.reduceAdd, Nat.reduceLeDiff]
      rw [if_neg (by simpa using h), if_neg (by simpa using h')]

theorem k16 (a b c d : Int) : PureAt Try.prog 16 [.agg [.val (.int .i64 a), .val (.int .i64 b)], .agg [.val (.int .i64 c), .val (.int .i64 d)]] (· = .val (.int .i64 (if a < c then -1 else if c < a then 1 else 0))) := by
  refine pure_of r16 (by kernel_rfl) ?_
  unfold m16
  simp only [go_sem, Nat.reduceEqDiff, Nat.reduceAdd, Nat.reduceLeDiff]
  refine callP_eq rfl rfl (k17 _ _) ?_
  simp only [go_sem, Nat.reduceEqDiff, Nat.reduceAdd, Nat.reduceLeDiff]

theorem k14 (es : List (List D)) (h2 : ∀ e ∈ es, e.length = 2) (hl : es.length ≤ 1000000) : FreshAt Try.prog 14 [.sl none es] 33 2 (· = es) := by
  refine fresh_of r14 (by kernel_rfl) ?_
  unfold m14
  simp only [go_sem, Nat.reduceEqDiff, Nat.reduceAdd, Nat.reduceLeDiff]
  intro b hb
  refine condE_split (fun h => ?_) (fun h => ?_)
  · simp only [go_sem, Nat.reduceEqDiff, Nat.reduceAdd, Nat.reduceLeDiff]
    simp_all
  · simp only [go_sem, Nat.reduceEqDiff, Nat.reduceAdd, Nat.reduceLeDiff, List.length_append, List.nil_append]
    simp only [Nat.zero_add]
    refine ⟨h2, by omega, by omega⟩
end Go.Proofs
