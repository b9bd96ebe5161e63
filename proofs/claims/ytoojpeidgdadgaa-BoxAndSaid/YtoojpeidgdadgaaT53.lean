/- A part of the proof; what is proved stands in the last text. -/
import Derived.Test.YtoojpeidgdadgaaT52
namespace Go.Proofs
open Go.Vm
set_option linter.unusedSimpArgs false

set_option maxHeartbeats 4000000 in
theorem kBoxAnd (a b : BoxM) (e : EvM) (ba : BndB a) (bb : BndB b) : PureAt Try.prog 7 [.agg (boxC a), .agg (boxC b), .agg (evC e)] (· = .val (.bool true)) := by
  refine pure_of r7 (by kernel_rfl) ?_
  unfold m7
  simp only [boxC, evC, go_sem, Nat.reduceEqDiff, Nat.reduceAdd, Nat.reduceLeDiff, List.length_map]
  refine callP_eq rfl rfl (kawake04) ?_
  simp only [go_sem, Nat.reduceEqDiff, Nat.reduceAdd, Nat.reduceLeDiff, List.length_map]
  refine callP_eq rfl rfl (krefFew4 [a, b] (by simp)) ?_
  simp only [go_sem, Nat.reduceEqDiff, Nat.reduceAdd, Nat.reduceLeDiff, List.length_map]
  first | refine condE_split (fun h1 => ?_) (fun h1 => ?_) | refine wantE_split (fun h1 => ?_) (fun h1 => ?_) | refine wantQ_split (fun h1 => ?_) (fun h1 => ?_)
  · simp only [h1, go_sem, Nat.reduceEqDiff, Nat.reduceAdd, Nat.reduceLeDiff, List.length_map]
    refine callP_eq rfl rfl (kawake04) ?_
    simp only [go_sem, Nat.reduceEqDiff, Nat.reduceAdd, Nat.reduceLeDiff, List.length_map]
  have hf := few4_of (l := [a, b]) (nt h1)
  have fa := hf a (by simp)
  have fb := hf b (by simp)
  clear hf
  simp only [h1, go_sem, Nat.reduceEqDiff, Nat.reduceAdd, Nat.reduceLeDiff, List.length_map]
  refine callP_eq rfl rfl (krefRight4 a (fa.mono (by omega))) ?_
  simp only [go_sem, Nat.reduceEqDiff, Nat.reduceAdd, Nat.reduceLeDiff, List.length_map]
  first | refine condE_split (fun h2 => ?_) (fun h2 => ?_) | refine wantE_split (fun h2 => ?_) (fun h2 => ?_) | refine wantQ_split (fun h2 => ?_) (fun h2 => ?_)
  · simp only [h2, go_sem, Nat.reduceEqDiff, Nat.reduceAdd, Nat.reduceLeDiff, List.length_map]
    refine callP_eq rfl rfl (kawake04) ?_
    simp only [go_sem, Nat.reduceEqDiff, Nat.reduceAdd, Nat.reduceLeDiff, List.length_map]
  have oa : OKB a := (rightB_iff ba).1 (nt h2)
  simp only [h2, go_sem, Nat.reduceEqDiff, Nat.reduceAdd, Nat.reduceLeDiff, List.length_map]
  refine callP_eq rfl rfl (krefRight4 b (fb.mono (by omega))) ?_
  simp only [go_sem, Nat.reduceEqDiff, Nat.reduceAdd, Nat.reduceLeDiff, List.length_map]
  refine condE_split (fun h3 => ?_) (fun h3 => ?_)
  · simp only [go_sem, Nat.reduceEqDiff, Nat.reduceAdd, Nat.reduceLeDiff, List.length_map]
    refine callP_eq rfl rfl (kawake04) ?_
    simp only [go_sem, Nat.reduceEqDiff, Nat.reduceAdd, Nat.reduceLeDiff, List.length_map]
  have ob : OKB b := (rightB_iff bb).1 (nt h3)
  simp only [go_sem, Nat.reduceEqDiff, Nat.reduceAdd, Nat.reduceLeDiff, List.length_map]
  have fc := fa.and fb
  have oc := oa.and ob
  have p1 := kboxAnd a b (fa.mono (by omega)) (fb.mono (by omega))
  have p2 := krefRight4 (andB a b) (fc.mono (by omega))
  rw [oc.right] at p2
  have p3 := krefHas4 (andB a b) e (fc.mono (by omega))
  rw [hasB_and oa ob] at p3
  have p4 := krefHas4 a e (fa.mono (by omega))
  have p5 := krefHas4 b e (fb.mono (by omega))
  have p6 := kboxIn (andB a b) a (fc.mono (by omega)) (fa.mono (by omega))
  rw [inB4_of oc oa (fc.mono (by omega)) (fa.mono (by omega)) (fun i hi => by rw [at_andB]; exact ((sub_and (oa i hi) (ob i hi)).1 (Sub.refl _)).1)] at p6
  have p7 := kboxIn (andB a b) b (fc.mono (by omega)) (fb.mono (by omega))
  rw [inB4_of oc ob (fc.mono (by omega)) (fb.mono (by omega)) (fun i hi => by rw [at_andB]; exact ((sub_and (oa i hi) (ob i hi)).1 (Sub.refl _)).2)] at p7
  clear fc oc oa ob fa fb h1 h2 h3
  generalize andB a b = c at *
  generalize hasB a e = x at *
  generalize hasB b e = y at *
  refine callP_eq rfl rfl (p1) ?_
  simp only [go_sem, Nat.reduceEqDiff, Nat.reduceAdd, Nat.reduceLeDiff, List.length_map]
  simp only [boxC, go_sem, Nat.reduceEqDiff, Nat.reduceAdd, Nat.reduceLeDiff, List.length_map]
  refine callQ_by _ rfl rfl (p2) ?_
  simp only [go_sem, Nat.reduceEqDiff, Nat.reduceAdd, Nat.reduceLeDiff, List.length_map]
  cases x <;> cases y
  all_goals
    simp only [Bool.and_self, Bool.and_true, Bool.and_false] at p3
    refine callQ_by _ rfl rfl p3 ?_
    simp only [go_sem, Nat.reduceEqDiff, Nat.reduceAdd, Nat.reduceLeDiff, List.length_map]
    refine callQ_by _ rfl rfl p4 ?_
    simp only [beq_self_eq_true, go_sem, Nat.reduceEqDiff, Nat.reduceAdd, Nat.reduceLeDiff, List.length_map]
    try
      refine callQ_by _ rfl rfl p5 ?_
      simp only [beq_self_eq_true, go_sem, Nat.reduceEqDiff, Nat.reduceAdd, Nat.reduceLeDiff, List.length_map]
    refine callQ_by _ rfl rfl p6 ?_
    simp only [go_sem, Nat.reduceEqDiff, Nat.reduceAdd, Nat.reduceLeDiff, List.length_map]
    refine callQ_by _ rfl rfl p7 ?_
    simp only [go_sem, Nat.reduceEqDiff, Nat.reduceAdd, Nat.reduceLeDiff, List.length_map]

set_option maxHeartbeats 4000000 in
theorem kBoxOrder (a b c : BoxM) (ba : BndB a) (bb : BndB b) (bc : BndB c) : PureAt Try.prog 10 [.agg (boxC a), .agg (boxC b), .agg (boxC c)] (· = .val (.bool true)) := by
  refine pure_of r10 (by kernel_rfl) ?_
  unfold m10
  simp only [boxC, go_sem, Nat.reduceEqDiff, Nat.reduceAdd, Nat.reduceLeDiff, List.length_map]
  refine callP_eq rfl rfl (kawake04) ?_
  simp only [go_sem, Nat.reduceEqDiff, Nat.reduceAdd, Nat.reduceLeDiff, List.length_map]
  refine callP_eq rfl rfl (krefFew4 [a, b, c] (by simp)) ?_
  simp only [go_sem, Nat.reduceEqDiff, Nat.reduceAdd, Nat.reduceLeDiff, List.length_map]
  first | refine condE_split (fun h1 => ?_) (fun h1 => ?_) | refine wantE_split (fun h1 => ?_) (fun h1 => ?_) | refine wantQ_split (fun h1 => ?_) (fun h1 => ?_)
  · simp only [h1, go_sem, Nat.reduceEqDiff, Nat.reduceAdd, Nat.reduceLeDiff, List.length_map]
    refine callP_eq rfl rfl (kawake04) ?_
    simp only [go_sem, Nat.reduceEqDiff, Nat.reduceAdd, Nat.reduceLeDiff, List.length_map]
  have hf := few4_of (l := [a, b, c]) (nt h1)
  have fa := hf a (by simp)
  have fb := hf b (by simp)
  have fc := hf c (by simp)
  clear hf
  simp only [h1, go_sem, Nat.reduceEqDiff, Nat.reduceAdd, Nat.reduceLeDiff, List.length_map]
  refine callP_eq rfl rfl (krefRight4 a (fa.mono (by omega))) ?_
  simp only [go_sem, Nat.reduceEqDiff, Nat.reduceAdd, Nat.reduceLeDiff, List.length_map]
  first | refine condE_split (fun h2 => ?_) (fun h2 => ?_) | refine wantE_split (fun h2 => ?_) (fun h2 => ?_) | refine wantQ_split (fun h2 => ?_) (fun h2 => ?_)
  · simp only [h2, go_sem, Nat.reduceEqDiff, Nat.reduceAdd, Nat.reduceLeDiff, List.length_map]
    refine callP_eq rfl rfl (kawake04) ?_
    simp only [go_sem, Nat.reduceEqDiff, Nat.reduceAdd, Nat.reduceLeDiff, List.length_map]
  have oa : OKB a := (rightB_iff ba).1 (nt h2)
  simp only [h2, go_sem, Nat.reduceEqDiff, Nat.reduceAdd, Nat.reduceLeDiff, List.length_map]
  refine callP_eq rfl rfl (krefRight4 b (fb.mono (by omega))) ?_
  simp only [go_sem, Nat.reduceEqDiff, Nat.reduceAdd, Nat.reduceLeDiff, List.length_map]
  first | refine condE_split (fun h3 => ?_) (fun h3 => ?_) | refine wantE_split (fun h3 => ?_) (fun h3 => ?_) | refine wantQ_split (fun h3 => ?_) (fun h3 => ?_)
  · simp only [h3, go_sem, Nat.reduceEqDiff, Nat.reduceAdd, Nat.reduceLeDiff, List.length_map]
    refine callP_eq rfl rfl (kawake04) ?_
    simp only [go_sem, Nat.reduceEqDiff, Nat.reduceAdd, Nat.reduceLeDiff, List.length_map]
  have ob : OKB b := (rightB_iff bb).1 (nt h3)
  simp only [h3, go_sem, Nat.reduceEqDiff, Nat.reduceAdd, Nat.reduceLeDiff, List.length_map]
  refine callP_eq rfl rfl (krefRight4 c (fc.mono (by omega))) ?_
  simp only [go_sem, Nat.reduceEqDiff, Nat.reduceAdd, Nat.reduceLeDiff, List.length_map]
  refine condE_split (fun h4 => ?_) (fun h4 => ?_)
  · simp only [go_sem, Nat.reduceEqDiff, Nat.reduceAdd, Nat.reduceLeDiff, List.length_map]
    refine callP_eq rfl rfl (kawake04) ?_
    simp only [go_sem, Nat.reduceEqDiff, Nat.reduceAdd, Nat.reduceLeDiff, List.length_map]
  have oc : OKB c := (rightB_iff bc).1 (nt h4)
  simp only [go_sem, Nat.reduceEqDiff, Nat.reduceAdd, Nat.reduceLeDiff, List.length_map]
  have fd := fb.and fc
  have p1 := kboxIn a b (fa.mono (by omega)) (fb.mono (by omega))
  have p2 := kboxIn b c (fb.mono (by omega)) (fc.mono (by omega))
  have p3 := kboxIn a c (fa.mono (by omega)) (fc.mono (by omega))
  have p4 := kboxAnd b c (fb.mono (by omega)) (fc.mono (by omega))
  have p5 := kboxIn a (andB b c) (fa.mono (by omega)) (fd.mono (by omega))
  rw [box_and oa ob oc fa fb fc] at p5
  have p6 := kboxIn a a (fa.mono (by omega)) (fa.mono (by omega))
  rw [inB4_of oa oa (fa.mono (by omega)) (fa.mono (by omega)) (fun i hi => Sub.refl _)] at p6
  have p7 := kboxIn a allB (fa.mono (by omega)) (FewB.all.mono (by omega))
  rw [inB4_of oa OKB.all (fa.mono (by omega)) (FewB.all.mono (by omega)) (fun i hi => by rw [at_allB]; exact Sub.all (oa i hi))] at p7
  have p8 := kboxAnd a allB (fa.mono (by omega)) (FewB.all.mono (by omega))
  rw [and_allB oa fa] at p8
  have p9 := kboxSame a a (fa.mono (by omega))
  rw [sameB_self] at p9
  have hx : inB4 a b = false ∨ inB4 b c = false ∨ inB4 a c = true := by
    cases h1 : inB4 a b
    · exact .inl rfl
    · cases h2 : inB4 b c
      · exact .inr (.inl rfl)
      · exact .inr (.inr (box_order oa ob oc fa fb fc h1 h2))
  clear fd oa ob oc fa fb fc h1 h2 h3 h4
  generalize andB b c = d at *
  generalize inB4 a b = x at *
  generalize inB4 b c = y at *
  generalize inB4 a c = z at *
  cases x <;> cases y <;> cases z
  all_goals first
    | (exfalso; simp at hx; done)
    | skip
  all_goals
    clear hx
    simp only [Bool.and_self, Bool.and_true, Bool.and_false, Bool.false_and] at p5
    refine callQ_by _ rfl rfl p1 ?_
    simp only [go_sem, Nat.reduceEqDiff, Nat.reduceAdd, Nat.reduceLeDiff, List.length_map]
    try
      refine callQ_by _ rfl rfl p2 ?_
      simp only [go_sem, Nat.reduceEqDiff, Nat.reduceAdd, Nat.reduceLeDiff, List.length_map]
    try
      refine callQ_by _ rfl rfl p3 ?_
      simp only [go_sem, Nat.reduceEqDiff, Nat.reduceAdd, Nat.reduceLeDiff, List.length_map]
    try
      refine callQ_by _ rfl rfl p1 ?_
      simp only [go_sem, Nat.reduceEqDiff, Nat.reduceAdd, Nat.reduceLeDiff, List.length_map]
    try
      refine callQ_by _ rfl rfl p3 ?_
      simp only [go_sem, Nat.reduceEqDiff, Nat.reduceAdd, Nat.reduceLeDiff, List.length_map]
    refine callQ_by _ rfl rfl p4 ?_
    simp only [go_sem, Nat.reduceEqDiff, Nat.reduceAdd, Nat.reduceLeDiff, List.length_map]
    refine callQ_by _ rfl rfl p5 ?_
    simp only [beq_self_eq_true, go_sem, Nat.reduceEqDiff, Nat.reduceAdd, Nat.reduceLeDiff, List.length_map]
    refine callQ_by _ rfl rfl p6 ?_
    simp only [go_sem, Nat.reduceEqDiff, Nat.reduceAdd, Nat.reduceLeDiff, List.length_map]
    refine callQ_by _ rfl rfl kboxAll ?_
    simp only [go_sem, Nat.reduceEqDiff, Nat.reduceAdd, Nat.reduceLeDiff, List.length_map]
    refine callQ_by _ rfl rfl p7 ?_
    simp only [go_sem, Nat.reduceEqDiff, Nat.reduceAdd, Nat.reduceLeDiff, List.length_map]
    refine callQ_by _ rfl rfl kboxAll ?_
    simp only [go_sem, Nat.reduceEqDiff, Nat.reduceAdd, Nat.reduceLeDiff, List.length_map]
    refine callQ_by _ rfl rfl p8 ?_
    simp only [go_sem, Nat.reduceEqDiff, Nat.reduceAdd, Nat.reduceLeDiff, List.length_map]
    refine callQ_by _ rfl rfl p9 ?_
    simp only [go_sem, Nat.reduceEqDiff, Nat.reduceAdd, Nat.reduceLeDiff, List.length_map]
end Go.Proofs
