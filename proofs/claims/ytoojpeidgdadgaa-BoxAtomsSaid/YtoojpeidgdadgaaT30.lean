/- A part of the proof; what is proved stands in the last text. -/
import Derived.Test.YtoojpeidgdadgaaT28
namespace Go.Proofs
open Go.Vm
set_option linter.unusedSimpArgs false

theorem hasM_val (s : SetM) (v : ValM) : hasM s v = (rightV v && hasM s v) := by
  cases h : rightV v
  · rw [has_no s h]; rfl
  · simp
theorem hasM_all (v : ValM) (hv : InRange v.n) : hasM allM v = rightV v := by
  cases h : rightV v
  · exact has_no _ h
  · rw [has_iff _ h]
    have h3 : v.kind = 0 ∨ v.kind = 1 ∨ v.kind = 2 := by unfold rightV at h; grind
    rcases h3 with e | e | e
    · exact .inl ⟨e, rfl⟩
    · exact .inr (.inl ⟨e, Cov_all.2 hv⟩)
    · exact .inr (.inr ⟨e, StrIn_all _⟩)
theorem hasM_not {a : SetM} (ha : OK a) {v : ValM} (hv : InRange v.n) (hr : rightV v = true) : hasM (notM normR a) v = !hasM a v := by
  obtain ⟨n1, n2, n3, n4⟩ := ha.not
  have h1 := has_iff a hr
  have h2 := has_iff (notM normR a) hr
  have h3 : v.kind = 0 ∨ v.kind = 1 ∨ v.kind = 2 := by unfold rightV at hr; grind
  rw [Bool.eq_iff_iff, h2, Bool.not_eq_true', ← Bool.not_eq_true, h1, n2, n3, n4]
  rcases h3 with e | e | e <;> simp [e, hv]
theorem hasM_or {a b : SetM} (ha : OK a) (hb : OK b) {v : ValM} (hr : rightV v = true) : hasM (orM normR a b) v = (hasM a v || hasM b v) := by
  obtain ⟨n1, n2, n3, n4⟩ := ha.or hb
  have h1 := has_iff a hr
  have h1' := has_iff b hr
  have h2 := has_iff (orM normR a b) hr
  rw [Bool.eq_iff_iff, h2, Bool.or_eq_true, h1, h1', n2, n3, n4, Bool.or_eq_true]
  grind
theorem hasM_and {a b : SetM} (ha : OK a) (hb : OK b) {v : ValM} (hr : rightV v = true) : hasM (andM normR a b) v = (hasM a v && hasM b v) := by
  obtain ⟨n1, n2, n3, n4⟩ := ha.and hb
  have h1 := has_iff a hr
  have h1' := has_iff b hr
  have h2 := has_iff (andM normR a b) hr
  have h3 : v.kind = 0 ∨ v.kind = 1 ∨ v.kind = 2 := by unfold rightV at hr; grind
  rw [Bool.eq_iff_iff, h2, Bool.and_eq_true, h1, h1', n2, n3, n4, Bool.and_eq_true]
  rcases h3 with e | e | e <;> simp [e]

set_option maxHeartbeats 8000000 in
theorem kSetEnds (a : SetM) (v : ValM) (ba : Bnd a) (bv : InRange v.n) : PureAt Try.prog 5 [.agg (setC a), .agg (valC v)] (· = .val (.bool true)) := by
  refine pure_of r5 (by kernel_rfl) ?_
  unfold m5
  simp only [setC, valC, go_sem, Nat.reduceEqDiff, Nat.reduceAdd, Nat.reduceLeDiff, List.length_map]
  refine callP_eq rfl rfl (kawake03) ?_
  simp only [go_sem, Nat.reduceEqDiff, Nat.reduceAdd, Nat.reduceLeDiff, List.length_map]
  refine callP_by rfl rfl (krefFew3 [a] (by simp)) ?_
  rintro d ⟨bf, rfl, hf⟩
  simp only [go_sem, Nat.reduceEqDiff, Nat.reduceAdd, Nat.reduceLeDiff, List.length_map]
  first | refine condE_split (fun h1 => ?_) (fun h1 => ?_) | refine wantE_split (fun h1 => ?_) (fun h1 => ?_) | refine wantQ_split (fun h1 => ?_) (fun h1 => ?_)
  · simp only [h1, go_sem, Nat.reduceEqDiff, Nat.reduceAdd, Nat.reduceLeDiff, List.length_map]
    refine callP_eq rfl rfl (kawake03) ?_
    simp only [go_sem, Nat.reduceEqDiff, Nat.reduceAdd, Nat.reduceLeDiff, List.length_map]
  have hbf : bf = true := by simpa using h1
  have fa := hf hbf a (by simp)
  clear hf
  simp only [h1, go_sem, Nat.reduceEqDiff, Nat.reduceAdd, Nat.reduceLeDiff, List.length_map]
  refine callP_eq rfl rfl (krefRight3 a (by omega) (by omega)) ?_
  simp only [go_sem, Nat.reduceEqDiff, Nat.reduceAdd, Nat.reduceLeDiff, List.length_map]
  first | refine condE_split (fun h2 => ?_) (fun h2 => ?_) | refine wantE_split (fun h2 => ?_) (fun h2 => ?_) | refine wantQ_split (fun h2 => ?_) (fun h2 => ?_)
  · simp only [h2, go_sem, Nat.reduceEqDiff, Nat.reduceAdd, Nat.reduceLeDiff, List.length_map]
    refine callP_eq rfl rfl (kawake03) ?_
    simp only [go_sem, Nat.reduceEqDiff, Nat.reduceAdd, Nat.reduceLeDiff, List.length_map]
  have oa : OK a := Few1.ok ba (by simpa using h2)
  simp only [h2, go_sem, Nat.reduceEqDiff, Nat.reduceAdd, Nat.reduceLeDiff, List.length_map]
  first | refine condE_split (fun h4 => ?_) (fun h4 => ?_) | refine wantE_split (fun h4 => ?_) (fun h4 => ?_) | refine wantQ_split (fun h4 => ?_) (fun h4 => ?_)
  · simp only [go_sem, Nat.reduceEqDiff, Nat.reduceAdd, Nat.reduceLeDiff, List.length_map]
    refine callP_eq rfl rfl (kawake03) ?_
    simp only [go_sem, Nat.reduceEqDiff, Nat.reduceAdd, Nat.reduceLeDiff, List.length_map]
  simp only [go_sem, Nat.reduceEqDiff, Nat.reduceAdd, Nat.reduceLeDiff, List.length_map]
  have i1 := notM_ints a
  have i2 := notM_strs a
  have i3 := orM_ints a (notM normR a)
  have i4 := orM_strs a (notM normR a)
  have p1 := kNot' a (by omega) (by omega)
  have p2 := kHas a (by omega) (by omega) v
  have p3 := kHas (notM normR a) (by omega) (by omega) v
  have p4 := kHas allM (by simp [allM]) (by simp [allM]) v
  have p5 := kOr a (notM normR a) (by omega) (by omega) (by omega) (by omega)
  have p6 := kSame' (or_not oa (by omega)) (by omega) (by omega)
  have p7 := kAnd a (notM normR a) (by omega) (by omega) (by omega) (by omega)
  have p8 := kEmpty' (andM normR a (notM normR a))
  rw [show emptyM (andM normR a (notM normR a)) = true by rw [and_not oa (by omega)]; rfl] at p8
  have p9 := kNot' allM (by simp [allM]) (by simp [allM])
  have p10 := kEmpty' (notM normR allM)
  rw [show emptyM (notM normR allM) = true by rw [not_all]; rfl] at p10
  rw [hasM_all v bv] at p4
  have hx : (rightV v = false ∧ hasM a v = false ∧ hasM (notM normR a) v = false) ∨ rightV v = true ∧ ((hasM a v = true ∧ hasM (notM normR a) v = false) ∨ (hasM a v = false ∧ hasM (notM normR a) v = true)) := by
    cases h : rightV v
    · left; exact ⟨rfl, has_no _ h, has_no _ h⟩
    · right
      rw [hasM_not oa bv h]
      cases hasM a v <;> simp
  clear i1 i2 i3 i4 fa h1 h2 oa
  refine callP_eq rfl rfl (p1) ?_
  simp only [go_sem, Nat.reduceEqDiff, Nat.reduceAdd, Nat.reduceLeDiff, List.length_map]
  simp only [setC, go_sem, Nat.reduceEqDiff, Nat.reduceAdd, Nat.reduceLeDiff, List.length_map]
  rcases hx with ⟨x1, x2, x3⟩ | ⟨x1, ⟨x2, x3⟩ | ⟨x2, x3⟩⟩
  · rw [x1] at p4
    rw [x2] at p2
    rw [x3] at p3
    refine callQ_by _ rfl rfl (kAll') ?_
    simp only [go_sem, Nat.reduceEqDiff, Nat.reduceAdd, Nat.reduceLeDiff, List.length_map]
    refine callQ_by _ rfl rfl (p4) ?_
    simp only [go_sem, Nat.reduceEqDiff, Nat.reduceAdd, Nat.reduceLeDiff, List.length_map]
    refine callP_eq rfl rfl (p2) ?_
    simp only [go_sem, Nat.reduceEqDiff, Nat.reduceAdd, Nat.reduceLeDiff, List.length_map]
    refine callP_eq rfl rfl (p3) ?_
    simp only [beq_self_eq_true, go_sem, Nat.reduceEqDiff, Nat.reduceAdd, Nat.reduceLeDiff, List.length_map]
    refine callP_eq rfl rfl (p2) ?_
    simp only [beq_self_eq_true, go_sem, Nat.reduceEqDiff, Nat.reduceAdd, Nat.reduceLeDiff, List.length_map]
    refine callP_eq rfl rfl (p5) ?_
    simp only [go_sem, Nat.reduceEqDiff, Nat.reduceAdd, Nat.reduceLeDiff, List.length_map]
    refine callP_eq rfl rfl (kAll') ?_
    simp only [go_sem, Nat.reduceEqDiff, Nat.reduceAdd, Nat.reduceLeDiff, List.length_map]
    refine callP_eq rfl rfl (p6) ?_
    simp only [go_sem, Nat.reduceEqDiff, Nat.reduceAdd, Nat.reduceLeDiff, List.length_map]
    refine callP_eq rfl rfl (p7) ?_
    simp only [go_sem, Nat.reduceEqDiff, Nat.reduceAdd, Nat.reduceLeDiff, List.length_map]
    refine callP_eq rfl rfl (p8) ?_
    simp only [go_sem, Nat.reduceEqDiff, Nat.reduceAdd, Nat.reduceLeDiff, List.length_map]
    refine callP_eq rfl rfl (kAll') ?_
    simp only [go_sem, Nat.reduceEqDiff, Nat.reduceAdd, Nat.reduceLeDiff, List.length_map]
    refine callP_eq rfl rfl (p9) ?_
    simp only [go_sem, Nat.reduceEqDiff, Nat.reduceAdd, Nat.reduceLeDiff, List.length_map]
    refine callP_eq rfl rfl (p10) ?_
    simp only [go_sem, Nat.reduceEqDiff, Nat.reduceAdd, Nat.reduceLeDiff, List.length_map]
  · rw [x1] at p4
    rw [x2] at p2
    rw [x3] at p3
    refine callQ_by _ rfl rfl (kAll') ?_
    simp only [go_sem, Nat.reduceEqDiff, Nat.reduceAdd, Nat.reduceLeDiff, List.length_map]
    refine callQ_by _ rfl rfl (p4) ?_
    simp only [go_sem, Nat.reduceEqDiff, Nat.reduceAdd, Nat.reduceLeDiff, List.length_map]
    refine callP_eq rfl rfl (p2) ?_
    simp only [beq_self_eq_true, go_sem, Nat.reduceEqDiff, Nat.reduceAdd, Nat.reduceLeDiff, List.length_map]
    refine callP_eq rfl rfl (p2) ?_
    simp only [beq_self_eq_true, go_sem, Nat.reduceEqDiff, Nat.reduceAdd, Nat.reduceLeDiff, List.length_map]
    refine callP_eq rfl rfl (p3) ?_
    simp only [go_sem, Nat.reduceEqDiff, Nat.reduceAdd, Nat.reduceLeDiff, List.length_map]
    refine callP_eq rfl rfl (p5) ?_
    simp only [go_sem, Nat.reduceEqDiff, Nat.reduceAdd, Nat.reduceLeDiff, List.length_map]
    refine callP_eq rfl rfl (kAll') ?_
    simp only [go_sem, Nat.reduceEqDiff, Nat.reduceAdd, Nat.reduceLeDiff, List.length_map]
    refine callP_eq rfl rfl (p6) ?_
    simp only [go_sem, Nat.reduceEqDiff, Nat.reduceAdd, Nat.reduceLeDiff, List.length_map]
    refine callP_eq rfl rfl (p7) ?_
    simp only [go_sem, Nat.reduceEqDiff, Nat.reduceAdd, Nat.reduceLeDiff, List.length_map]
    refine callP_eq rfl rfl (p8) ?_
    simp only [go_sem, Nat.reduceEqDiff, Nat.reduceAdd, Nat.reduceLeDiff, List.length_map]
    refine callP_eq rfl rfl (kAll') ?_
    simp only [go_sem, Nat.reduceEqDiff, Nat.reduceAdd, Nat.reduceLeDiff, List.length_map]
    refine callP_eq rfl rfl (p9) ?_
    simp only [go_sem, Nat.reduceEqDiff, Nat.reduceAdd, Nat.reduceLeDiff, List.length_map]
    refine callP_eq rfl rfl (p10) ?_
    simp only [go_sem, Nat.reduceEqDiff, Nat.reduceAdd, Nat.reduceLeDiff, List.length_map]
  · rw [x1] at p4
    rw [x2] at p2
    rw [x3] at p3
    refine callQ_by _ rfl rfl (kAll') ?_
    simp only [go_sem, Nat.reduceEqDiff, Nat.reduceAdd, Nat.reduceLeDiff, List.length_map]
    refine callQ_by _ rfl rfl (p4) ?_
    simp only [go_sem, Nat.reduceEqDiff, Nat.reduceAdd, Nat.reduceLeDiff, List.length_map]
    refine callP_eq rfl rfl (p2) ?_
    simp only [go_sem, Nat.reduceEqDiff, Nat.reduceAdd, Nat.reduceLeDiff, List.length_map]
    refine callP_eq rfl rfl (p3) ?_
    simp only [beq_self_eq_true, go_sem, Nat.reduceEqDiff, Nat.reduceAdd, Nat.reduceLeDiff, List.length_map]
    refine callP_eq rfl rfl (p2) ?_
    simp only [beq_self_eq_true, go_sem, Nat.reduceEqDiff, Nat.reduceAdd, Nat.reduceLeDiff, List.length_map]
    refine callP_eq rfl rfl (p5) ?_
    simp only [go_sem, Nat.reduceEqDiff, Nat.reduceAdd, Nat.reduceLeDiff, List.length_map]
    refine callP_eq rfl rfl (kAll') ?_
    simp only [go_sem, Nat.reduceEqDiff, Nat.reduceAdd, Nat.reduceLeDiff, List.length_map]
    refine callP_eq rfl rfl (p6) ?_
    simp only [go_sem, Nat.reduceEqDiff, Nat.reduceAdd, Nat.reduceLeDiff, List.length_map]
    refine callP_eq rfl rfl (p7) ?_
    simp only [go_sem, Nat.reduceEqDiff, Nat.reduceAdd, Nat.reduceLeDiff, List.length_map]
    refine callP_eq rfl rfl (p8) ?_
    simp only [go_sem, Nat.reduceEqDiff, Nat.reduceAdd, Nat.reduceLeDiff, List.length_map]
    refine callP_eq rfl rfl (kAll') ?_
    simp only [go_sem, Nat.reduceEqDiff, Nat.reduceAdd, Nat.reduceLeDiff, List.length_map]
    refine callP_eq rfl rfl (p9) ?_
    simp only [go_sem, Nat.reduceEqDiff, Nat.reduceAdd, Nat.reduceLeDiff, List.length_map]
    refine callP_eq rfl rfl (p10) ?_
    simp only [go_sem, Nat.reduceEqDiff, Nat.reduceAdd, Nat.reduceLeDiff, List.length_map]
end Go.Proofs
