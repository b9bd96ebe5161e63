/- A part of the proof; what is proved stands in the last text. -/
import Derived.Test.YtaoppmjidjdgdaaGreatT7
import Derived.Test.YtaoppmjidjdgdaaGreatTA
set_option linter.unusedVariables false
set_option maxRecDepth 2000
namespace Go.Proofs
open Go.Vm
set_option linter.unusedSimpArgs false
theorem kHas (s : SetM) (hi : s.ints.length ≤ 1000000) (hs : s.strs.length ≤ 1000000) (v : ValM) : PureAt Tryz.prog 66 [.agg (setC s), .agg (valC v)] (· = .val (.bool (hasM s v))) := by
 have hc := kvalRight v
 have h21 := kContainsFuncR 74 [.rp none (valC v) 0] rfl rfl s.ints hi (fun r => decide (r.1 ≤ v.n) && decide (v.n ≤ r.2)) (fun r _ => kHasF r.1 r.2 v.kind v.n v.s)
 have h23 := kContainsS s.strs hs v.s
 obtain ⟨ab, is, co, ss⟩ := s
 obtain ⟨kd, n, b⟩ := v
 refine pure_of r66 (by kernel_rfl) ?_
 unfold m66 setC valC
 simp only [go_sem, Nat.reduceEqDiff, Nat.reduceAdd, Nat.reduceLeDiff, List.length_map]
 refine callP_eq rfl rfl hc ?_
 simp only [go_sem, Nat.reduceEqDiff, Nat.reduceAdd, Nat.reduceLeDiff, List.length_map]
 refine condE_split (fun h => ?_) (fun h => ?_)
 ·simp only [go_sem, Nat.reduceEqDiff, Nat.reduceAdd, Nat.reduceLeDiff, List.length_map]
  simp_all [hasM]
 ·simp only [go_sem, Nat.reduceEqDiff, Nat.reduceAdd, Nat.reduceLeDiff, List.length_map]
  refine condE_split (fun h1 => ?_) (fun h1 => ?_)
  ·simp only [go_sem, Nat.reduceEqDiff, Nat.reduceAdd, Nat.reduceLeDiff, List.length_map]
   refine callP_eq rfl rfl h21 ?_
   simp only [go_sem, Nat.reduceEqDiff, Nat.reduceAdd, Nat.reduceLeDiff, List.length_map]
   simp_all [hasM]
  ·simp only [go_sem, Nat.reduceEqDiff, Nat.reduceAdd, Nat.reduceLeDiff, List.length_map]
   refine condE_split (fun h2 => ?_) (fun h2 => ?_)
   ·simp only [go_sem, Nat.reduceEqDiff, Nat.reduceAdd, Nat.reduceLeDiff, List.length_map]
    refine callQ_by _ rfl rfl h23 ?_
    simp only [go_sem, Nat.reduceEqDiff, Nat.reduceAdd, Nat.reduceLeDiff, List.length_map]
    have hkd : kd = 2 := by simpa using h2
    subst hkd
    simp only [hasM, setC, valC] at h ⊢
    have hr : rightV ⟨2, n, b⟩ = true := by simpa using h
    rw [hr]
    simp
    cases (ss.any fun x => decide (b = x)) <;> cases co <;> rfl
   ·simp only [go_sem, Nat.reduceEqDiff, Nat.reduceAdd, Nat.reduceLeDiff, List.length_map]
    simp_all [hasM]
end Go.Proofs

namespace Go.Proofs
open Go.Vm
set_option linter.unusedSimpArgs false
end Go.Proofs
