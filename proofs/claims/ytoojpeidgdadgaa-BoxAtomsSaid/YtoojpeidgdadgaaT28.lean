/- A part of the proof; what is proved stands in the last text. -/
import Derived.Test.YtoojpeidgdadgaaT27
namespace Go.Proofs
open Go.Vm
set_option linter.unusedSimpArgs false

/-- What the law's arguments are: sets whose ranges are numbers. -/
def Bnd (s : SetM) : Prop := ∀ r ∈ s.ints, InB r
theorem Few1.ok {s : SetM} (hb : Bnd s) (h : rightM s = true) : OK s := (right_iff hb).1 h

set_option maxHeartbeats 4000000 in
theorem kSetIn (a b : SetM) (ba : Bnd a) (bb : Bnd b) : PureAt Try.prog 6 [.agg (setC a), .agg (setC b)] (· = .val (.bool true)) := by
  refine pure_of r6 (by kernel_rfl) ?_
  unfold m6
  simp only [setC, go_sem, Nat.reduceEqDiff, Nat.reduceAdd, Nat.reduceLeDiff, List.length_map]
  refine callP_eq rfl rfl (kawake03) ?_
  simp only [go_sem, Nat.reduceEqDiff, Nat.reduceAdd, Nat.reduceLeDiff, List.length_map]
  refine callP_by rfl rfl (krefFew3 [a, b] (by simp)) ?_
  rintro d ⟨bf, rfl, hf⟩
  simp only [go_sem, Nat.reduceEqDiff, Nat.reduceAdd, Nat.reduceLeDiff, List.length_map]
  first | refine condE_split (fun h1 => ?_) (fun h1 => ?_) | refine wantE_split (fun h1 => ?_) (fun h1 => ?_) | refine wantQ_split (fun h1 => ?_) (fun h1 => ?_)
  · simp only [h1, go_sem, Nat.reduceEqDiff, Nat.reduceAdd, Nat.reduceLeDiff, List.length_map]
    refine callP_eq rfl rfl (kawake03) ?_
    simp only [go_sem, Nat.reduceEqDiff, Nat.reduceAdd, Nat.reduceLeDiff, List.length_map]
  have hbf : bf = true := by simpa using h1
  have fa := hf hbf a (by simp)
  have fb := hf hbf b (by simp)
  clear hf
  simp only [h1, go_sem, Nat.reduceEqDiff, Nat.reduceAdd, Nat.reduceLeDiff, List.length_map]
  refine callP_eq rfl rfl (krefRight3 a (by omega) (by omega)) ?_
  simp only [go_sem, Nat.reduceEqDiff, Nat.reduceAdd, Nat.reduceLeDiff, List.length_map]
  first | refine condE_split (fun h2 => ?_) (fun h2 => ?_) | refine wantE_split (fun h2 => ?_) (fun h2 => ?_) | refine wantQ_split (fun h2 => ?_) (fun h2 => ?_)
  · simp only [h2, go_sem, Nat.reduceEqDiff, Nat.reduceAdd, Nat.reduceLeDiff, List.length_map]
    refine callP_eq rfl rfl (kawake03) ?_
    simp only [go_sem, Nat.reduceEqDiff, Nat.reduceAdd, Nat.reduceLeDiff, List.length_map]
  have oa : OK a := Few1.ok ba (by simpa using h2)
  simp only [h2, go_sem, Nat.reduceEqDiff, Nat.reduceAdd, Nat.reduceLeDiff, List.length_map]
  refine callP_eq rfl rfl (krefRight3 b (by omega) (by omega)) ?_
  simp only [go_sem, Nat.reduceEqDiff, Nat.reduceAdd, Nat.reduceLeDiff, List.length_map]
  first | refine condE_split (fun h3 => ?_) (fun h3 => ?_) | refine wantE_split (fun h3 => ?_) (fun h3 => ?_) | refine wantQ_split (fun h3 => ?_) (fun h3 => ?_)
  · simp only [h3, go_sem, Nat.reduceEqDiff, Nat.reduceAdd, Nat.reduceLeDiff, List.length_map]
    refine callP_eq rfl rfl (kawake03) ?_
    simp only [go_sem, Nat.reduceEqDiff, Nat.reduceAdd, Nat.reduceLeDiff, List.length_map]
  have ob : OK b := Few1.ok bb (by simpa using h3)
  simp only [h3, go_sem, Nat.reduceEqDiff, Nat.reduceAdd, Nat.reduceLeDiff, List.length_map]
  have oo := oa.or ob
  have oand := oa.and ob
  have onot := oa.not
  have l1 := orM_ints a b
  have l2 := orM_strs a b
  have l3 := andM_ints a b
  have l4 := andM_strs a b
  have l5 := notM_ints a
  have l6 := notM_strs a
  have l7 := andM_ints a (notM normR a)
  have e1 : sameM a b = (inM a b && inM b a) := sameM_in oa ob (by omega) (by omega)
  have e2 : inM (andM normR a b) a = true := (inM_iff oand.1 oa (by omega) (by omega)).2 ⟨fun h => by rw [oand.2.2.2] at h; simp at h; exact h.1, fun n h => ((oand.2.1 n).1 h).1, fun t _ h => ((oand.2.2.1 t).1 h).1⟩
  have e3 : inM a (orM normR a b) = true := (inM_iff oa oo.1 (by omega) (by omega)).2 ⟨fun h => by rw [oo.2.2.2, h]; rfl, fun n h => (oo.2.1 n).2 (.inl h), fun t _ h => (oo.2.2.1 t).2 (.inl h)⟩
  have e4 : inM a allM = true := (inM_iff oa OK.all (by omega) (by simp [allM])).2 ⟨fun _ => rfl, fun n h => Cov_all.2 (oa.cov h), fun t _ _ => StrIn_all t⟩
  have e5 : emptyM (andM normR a (notM normR a)) = true := by rw [and_not oa (by omega)]; rfl
  have p0 := kSame a b (by omega) (by omega)
  rw [e1] at p0
  have p1 := kIn a b (by omega) (by omega) (by omega) (by omega)
  have p2 := kIn b a (by omega) (by omega) (by omega) (by omega)
  have p3 := krefIn3' oa ob fa fb
  generalize inM a b = i at p0 p1 p3
  generalize inM b a = k at p0 p2
  refine callQ_by _ rfl rfl (p1) ?_
  simp only [go_sem, Nat.reduceEqDiff, Nat.reduceAdd, Nat.reduceLeDiff, List.length_map]
  refine callQ_by _ rfl rfl (p2) ?_
  simp only [go_sem, Nat.reduceEqDiff, Nat.reduceAdd, Nat.reduceLeDiff, List.length_map]
  refine callQ_by _ rfl rfl (p3) ?_
  simp only [go_sem, Nat.reduceEqDiff, Nat.reduceAdd, Nat.reduceLeDiff, List.length_map]
  have p4 := kAnd a b (by omega) (by omega) (by omega) (by omega)
  have p5 := kIn (andM normR a b) a (by omega) (by omega) (by omega) (by omega)
  rw [e2] at p5
  have p6 := kOr a b (by omega) (by omega) (by omega) (by omega)
  have p7 := kIn a (orM normR a b) (by omega) (by omega) (by omega) (by omega)
  rw [e3] at p7
  have p8 := kIn a allM (by omega) (by simp [allM]) (by omega) (by simp [allM])
  rw [e4] at p8
  have p9 := kNot' a (by omega) (by omega)
  have p10 := kAnd a (notM normR a) (by omega) (by omega) (by omega) (by omega)
  have p11 := kEmpty' (andM normR a (notM normR a))
  rw [e5] at p11
  cases i <;> cases k
  all_goals
    simp only [beq_self_eq_true, go_sem, Nat.reduceEqDiff, Nat.reduceAdd, Nat.reduceLeDiff, List.length_map]
    refine callQ_by _ rfl rfl p0 ?_
    simp only [beq_self_eq_true, Bool.and_self, Bool.and_false, Bool.false_and, go_sem, Nat.reduceEqDiff, Nat.reduceAdd, Nat.reduceLeDiff, List.length_map]
    refine callQ_by _ rfl rfl p4 ?_
    simp only [go_sem, Nat.reduceEqDiff, Nat.reduceAdd, Nat.reduceLeDiff, List.length_map]
    refine callQ_by _ rfl rfl p5 ?_
    simp only [go_sem, Nat.reduceEqDiff, Nat.reduceAdd, Nat.reduceLeDiff, List.length_map]
    refine callQ_by _ rfl rfl p6 ?_
    simp only [go_sem, Nat.reduceEqDiff, Nat.reduceAdd, Nat.reduceLeDiff, List.length_map]
    refine callQ_by _ rfl rfl p7 ?_
    simp only [go_sem, Nat.reduceEqDiff, Nat.reduceAdd, Nat.reduceLeDiff, List.length_map]
    refine callQ_by _ rfl rfl kAll' ?_
    simp only [go_sem, Nat.reduceEqDiff, Nat.reduceAdd, Nat.reduceLeDiff, List.length_map]
    refine callQ_by _ rfl rfl p8 ?_
    simp only [go_sem, Nat.reduceEqDiff, Nat.reduceAdd, Nat.reduceLeDiff, List.length_map]
    refine callQ_by _ rfl rfl p9 ?_
    simp only [go_sem, Nat.reduceEqDiff, Nat.reduceAdd, Nat.reduceLeDiff, List.length_map]
    refine callQ_by _ rfl rfl p10 ?_
    simp only [go_sem, Nat.reduceEqDiff, Nat.reduceAdd, Nat.reduceLeDiff, List.length_map]
    refine callQ_by _ rfl rfl p11 ?_
    simp only [go_sem, Nat.reduceEqDiff, Nat.reduceAdd, Nat.reduceLeDiff, List.length_map]
end Go.Proofs
