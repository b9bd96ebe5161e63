/- A part of the proof; what is proved stands in the last text. -/
import Derived.Test.YtoojpeidgdadgaaT28
namespace Go.Proofs
open Go.Vm
set_option linter.unusedSimpArgs false

/-! ### the laws of sets, in plain Lean -/
theorem not_or {a b : SetM} (ha : OK a) (hb : OK b) (la : a.strs.length ≤ 200) (l' : b.strs.length ≤ 200) : notM normR (orM normR a b) = andM normR (notM normR a) (notM normR b) := by
  obtain ⟨a1, a2, a3, a4⟩ := ha.not
  obtain ⟨b1, b2, b3, b4⟩ := hb.not
  obtain ⟨o1, o2, o3, o4⟩ := ha.or hb
  obtain ⟨x1, x2, x3, x4⟩ := o1.not
  obtain ⟨y1, y2, y3, y4⟩ := a1.and b1
  have l1 := orM_strs a b
  have l2 := andM_strs (notM normR a) (notM normR b)
  have l3 := notM_strs a
  have l4 := notM_strs b
  have l5 := notM_strs (orM normR a b)
  refine x1.ext y1 (by omega) (by omega) ?_ (fun n hn => ?_) (fun t _ => ?_)
  · rw [x4, y4, a4, b4, o4]; simp
  · rw [x2, y2, a2, b2, o2]; grind
  · rw [x3, y3, a3, b3, o3]; grind
theorem not_and {a b : SetM} (ha : OK a) (hb : OK b) (la : a.strs.length ≤ 200) (l' : b.strs.length ≤ 200) : notM normR (andM normR a b) = orM normR (notM normR a) (notM normR b) := by
  obtain ⟨a1, a2, a3, a4⟩ := ha.not
  obtain ⟨b1, b2, b3, b4⟩ := hb.not
  obtain ⟨o1, o2, o3, o4⟩ := ha.and hb
  obtain ⟨x1, x2, x3, x4⟩ := o1.not
  obtain ⟨y1, y2, y3, y4⟩ := a1.or b1
  have l1 := andM_strs a b
  have l2 := orM_strs (notM normR a) (notM normR b)
  have l3 := notM_strs a
  have l4 := notM_strs b
  have l5 := notM_strs (andM normR a b)
  refine x1.ext y1 (by omega) (by omega) ?_ (fun n hn => ?_) (fun t _ => ?_)
  · rw [x4, y4, a4, b4, o4]; simp
  · rw [x2, y2, a2, b2, o2]; grind
  · rw [x3, y3, a3, b3, o3]; grind
theorem or_comm' {a b : SetM} (ha : OK a) (hb : OK b) (la : a.strs.length ≤ 200) (l' : b.strs.length ≤ 200) : orM normR a b = orM normR b a := by
  obtain ⟨x1, x2, x3, x4⟩ := ha.or hb
  obtain ⟨y1, y2, y3, y4⟩ := hb.or ha
  have l1 := orM_strs a b
  have l2 := orM_strs b a
  refine x1.ext y1 (by omega) (by omega) ?_ (fun n hn => ?_) (fun t _ => ?_)
  · rw [x4, y4, Bool.or_comm]
  · rw [x2, y2]; grind
  · rw [x3, y3]; grind
theorem and_comm' {a b : SetM} (ha : OK a) (hb : OK b) (la : a.strs.length ≤ 200) (l' : b.strs.length ≤ 200) : andM normR a b = andM normR b a := by
  obtain ⟨x1, x2, x3, x4⟩ := ha.and hb
  obtain ⟨y1, y2, y3, y4⟩ := hb.and ha
  have l1 := andM_strs a b
  have l2 := andM_strs b a
  refine x1.ext y1 (by omega) (by omega) ?_ (fun n hn => ?_) (fun t _ => ?_)
  · rw [x4, y4, Bool.and_comm]
  · rw [x2, y2]; grind
  · rw [x3, y3]; grind
theorem or_assoc' {a b c : SetM} (ha : OK a) (hb : OK b) (hc : OK c) (la : a.strs.length ≤ 200) (l' : b.strs.length ≤ 200) (l'' : c.strs.length ≤ 200) : orM normR a (orM normR b c) = orM normR (orM normR a b) c := by
  obtain ⟨o1, o2, o3, o4⟩ := ha.or hb
  obtain ⟨p1, p2, p3, p4⟩ := hb.or hc
  obtain ⟨x1, x2, x3, x4⟩ := ha.or p1
  obtain ⟨y1, y2, y3, y4⟩ := o1.or hc
  have l1 := orM_strs a b
  have l2 := orM_strs b c
  have l3 := orM_strs a (orM normR b c)
  have l4 := orM_strs (orM normR a b) c
  refine x1.ext y1 (by omega) (by omega) ?_ (fun n hn => ?_) (fun t _ => ?_)
  · rw [x4, y4, o4, p4, Bool.or_assoc]
  · rw [x2, y2, o2, p2]; grind
  · rw [x3, y3, o3, p3]; grind
theorem and_or' {a b c : SetM} (ha : OK a) (hb : OK b) (hc : OK c) (la : a.strs.length ≤ 200) (l' : b.strs.length ≤ 200) (l'' : c.strs.length ≤ 200) : andM normR a (orM normR b c) = orM normR (andM normR a b) (andM normR a c) := by
  obtain ⟨o1, o2, o3, o4⟩ := ha.and hb
  obtain ⟨q1, q2, q3, q4⟩ := ha.and hc
  obtain ⟨p1, p2, p3, p4⟩ := hb.or hc
  obtain ⟨x1, x2, x3, x4⟩ := ha.and p1
  obtain ⟨y1, y2, y3, y4⟩ := o1.or q1
  have l1 := andM_strs a b
  have l1' := andM_strs a c
  have l2 := orM_strs b c
  have l3 := andM_strs a (orM normR b c)
  have l4 := orM_strs (andM normR a b) (andM normR a c)
  refine x1.ext y1 (by omega) (by omega) ?_ (fun n hn => ?_) (fun t _ => ?_)
  · rw [x4, y4, o4, p4, q4]; cases a.absent <;> cases b.absent <;> cases c.absent <;> rfl
  · rw [x2, y2, o2, p2, q2]; grind
  · rw [x3, y3, o3, p3, q3]; grind
set_option maxHeartbeats 8000000 in
theorem kSetMorgan (a b c : SetM) (ba : Bnd a) (bb : Bnd b) (bc : Bnd c) : PureAt Try.prog 4 [.agg (setC a), .agg (setC b), .agg (setC c)] (· = .val (.bool true)) := by
  refine pure_of r4 (by kernel_rfl) ?_
  unfold m4
  simp only [setC, go_sem, Nat.reduceEqDiff, Nat.reduceAdd, Nat.reduceLeDiff, List.length_map]
  refine callP_eq rfl rfl (kawake03) ?_
  simp only [go_sem, Nat.reduceEqDiff, Nat.reduceAdd, Nat.reduceLeDiff, List.length_map]
  refine callP_by rfl rfl (krefFew3 [a, b, c] (by simp)) ?_
  rintro d ⟨bf, rfl, hf⟩
  simp only [go_sem, Nat.reduceEqDiff, Nat.reduceAdd, Nat.reduceLeDiff, List.length_map]
  first | refine condE_split (fun h1 => ?_) (fun h1 => ?_) | refine wantE_split (fun h1 => ?_) (fun h1 => ?_) | refine wantQ_split (fun h1 => ?_) (fun h1 => ?_)
  · simp only [h1, go_sem, Nat.reduceEqDiff, Nat.reduceAdd, Nat.reduceLeDiff, List.length_map]
    refine callP_eq rfl rfl (kawake03) ?_
    simp only [go_sem, Nat.reduceEqDiff, Nat.reduceAdd, Nat.reduceLeDiff, List.length_map]
  have hbf : bf = true := by simpa using h1
  have fa := hf hbf a (by simp)
  have fb := hf hbf b (by simp)
  have fc := hf hbf c (by simp)
  clear hf
  simp only [h1, go_sem, Nat.reduceEqDiff, Nat.reduceAdd, Nat.reduceLeDiff, List.length_map]
  refine callP_eq rfl rfl (krefRight3 a (by omega) (by omega)) ?_
  simp only [go_sem, Nat.reduceEqDiff, Nat.reduceAdd, Nat.reduceLeDiff, List.length_map]
  first | refine condE_split (fun h2 => ?_) (fun h2 => ?_) | refine wantE_split (fun h2 => ?_) (fun h2 => ?_) | refine wantQ_split (fun h2 => ?_) (fun h2 => ?_)
  · simp only [h2, go_sem, Nat.reduceEqDiff, Nat.reduceAdd, Nat.reduceLeDiff, List.length_map]
    refine callP_eq rfl rfl (kawake03) ?_
    simp only [go_sem, Nat.reduceEqDiff, Nat.reduceAdd, Nat.reduceLeDiff, List.length_map]
  have oa : OK a := Few1.ok ba (by simpa using h2)
  simp only [h2, go_sem, Nat.reduceEqDiff, Nat.reduceAdd, Nat.reduceLeDiff, List.length_map]
  refine callP_eq rfl rfl (krefRight3 b (by omega) (by omega)) ?_
  simp only [go_sem, Nat.reduceEqDiff, Nat.reduceAdd, Nat.reduceLeDiff, List.length_map]
  first | refine condE_split (fun h3 => ?_) (fun h3 => ?_) | refine wantE_split (fun h3 => ?_) (fun h3 => ?_) | refine wantQ_split (fun h3 => ?_) (fun h3 => ?_)
  · simp only [h3, go_sem, Nat.reduceEqDiff, Nat.reduceAdd, Nat.reduceLeDiff, List.length_map]
    refine callP_eq rfl rfl (kawake03) ?_
    simp only [go_sem, Nat.reduceEqDiff, Nat.reduceAdd, Nat.reduceLeDiff, List.length_map]
  have ob : OK b := Few1.ok bb (by simpa using h3)
  simp only [h3, go_sem, Nat.reduceEqDiff, Nat.reduceAdd, Nat.reduceLeDiff, List.length_map]
  refine callP_eq rfl rfl (krefRight3 c (by omega) (by omega)) ?_
  simp only [go_sem, Nat.reduceEqDiff, Nat.reduceAdd, Nat.reduceLeDiff, List.length_map]
  first | refine condE_split (fun h4 => ?_) (fun h4 => ?_) | refine wantE_split (fun h4 => ?_) (fun h4 => ?_) | refine wantQ_split (fun h4 => ?_) (fun h4 => ?_)
  · simp only [h4, go_sem, Nat.reduceEqDiff, Nat.reduceAdd, Nat.reduceLeDiff, List.length_map]
    refine callP_eq rfl rfl (kawake03) ?_
    simp only [go_sem, Nat.reduceEqDiff, Nat.reduceAdd, Nat.reduceLeDiff, List.length_map]
  have oc : OK c := Few1.ok bc (by simpa using h4)
  simp only [h4, go_sem, Nat.reduceEqDiff, Nat.reduceAdd, Nat.reduceLeDiff, List.length_map]
  have e1 := not_or oa ob (by omega) (by omega)
  have e2 := not_and oa ob (by omega) (by omega)
  have e3 := or_comm' oa ob (by omega) (by omega)
  have e4 := and_comm' oa ob (by omega) (by omega)
  have e5 := or_assoc' oa ob oc (by omega) (by omega) (by omega)
  have e6 := and_or' oa ob oc (by omega) (by omega) (by omega)
  have i1 := orM_ints a b
  have i2 := orM_strs a b
  have i3 := andM_ints a b
  have i4 := andM_strs a b
  have i5 := notM_ints a
  have i6 := notM_strs a
  have i7 := notM_ints b
  have i8 := notM_strs b
  have i9 := notM_ints (orM normR a b)
  have i10 := notM_strs (orM normR a b)
  have i11 := notM_ints (andM normR a b)
  have i12 := notM_strs (andM normR a b)
  have i13 := orM_ints b c
  have i14 := orM_strs b c
  have i15 := orM_ints a (orM normR b c)
  have i16 := orM_strs a (orM normR b c)
  have i17 := andM_ints a (orM normR b c)
  have i18 := andM_strs a (orM normR b c)
  have i19 := andM_ints a c
  have i20 := andM_strs a c
  have p1 := kOr a b (by omega) (by omega) (by omega) (by omega)
  have p2 := kNot' (orM normR a b) (by omega) (by omega)
  have p3 := kNot' a (by omega) (by omega)
  have p4 := kNot' b (by omega) (by omega)
  have p5 := kAnd (notM normR a) (notM normR b) (by omega) (by omega) (by omega) (by omega)
  have p6 := kSame' e1 (by omega) (by omega)
  have p7 := kAnd a b (by omega) (by omega) (by omega) (by omega)
  have p8 := kNot' (andM normR a b) (by omega) (by omega)
  have p9 := kOr (notM normR a) (notM normR b) (by omega) (by omega) (by omega) (by omega)
  have p10 := kSame' e2 (by omega) (by omega)
  have p11 := kOr b a (by omega) (by omega) (by omega) (by omega)
  have p12 := kSame' e3 (by omega) (by omega)
  have p13 := kAnd b a (by omega) (by omega) (by omega) (by omega)
  have p14 := kSame' e4 (by omega) (by omega)
  have p15 := kOr b c (by omega) (by omega) (by omega) (by omega)
  have p16 := kOr a (orM normR b c) (by omega) (by omega) (by omega) (by omega)
  have p17 := kOr (orM normR a b) c (by omega) (by omega) (by omega) (by omega)
  have p18 := kSame' e5 (by omega) (by omega)
  have p19 := kAnd a (orM normR b c) (by omega) (by omega) (by omega) (by omega)
  have p20 := kAnd a c (by omega) (by omega) (by omega) (by omega)
  have p21 := kOr (andM normR a b) (andM normR a c) (by omega) (by omega) (by omega) (by omega)
  have p22 := kSame' e6 (by omega) (by omega)
  clear i1 i2 i3 i4 i5 i6 i7 i8 i9 i10 i11 i12 i13 i14 i15 i16 i17 i18 i19 i20 e1 e2 e3 e4 e5 e6 oa ob oc fa fb fc
  refine callQ_by _ rfl rfl (p1) ?_
  simp only [go_sem, Nat.reduceEqDiff, Nat.reduceAdd, Nat.reduceLeDiff, List.length_map]
  refine callQ_by _ rfl rfl (p2) ?_
  simp only [go_sem, Nat.reduceEqDiff, Nat.reduceAdd, Nat.reduceLeDiff, List.length_map]
  refine callQ_by _ rfl rfl (p3) ?_
  simp only [go_sem, Nat.reduceEqDiff, Nat.reduceAdd, Nat.reduceLeDiff, List.length_map]
  refine callQ_by _ rfl rfl (p4) ?_
  simp only [go_sem, Nat.reduceEqDiff, Nat.reduceAdd, Nat.reduceLeDiff, List.length_map]
  refine callQ_by _ rfl rfl (p5) ?_
  simp only [go_sem, Nat.reduceEqDiff, Nat.reduceAdd, Nat.reduceLeDiff, List.length_map]
  refine callQ_by _ rfl rfl (p6) ?_
  simp only [go_sem, Nat.reduceEqDiff, Nat.reduceAdd, Nat.reduceLeDiff, List.length_map]
  refine callQ_by _ rfl rfl (p7) ?_
  simp only [go_sem, Nat.reduceEqDiff, Nat.reduceAdd, Nat.reduceLeDiff, List.length_map]
  refine callQ_by _ rfl rfl (p8) ?_
  simp only [go_sem, Nat.reduceEqDiff, Nat.reduceAdd, Nat.reduceLeDiff, List.length_map]
  refine callQ_by _ rfl rfl (p3) ?_
  simp only [go_sem, Nat.reduceEqDiff, Nat.reduceAdd, Nat.reduceLeDiff, List.length_map]
  refine callQ_by _ rfl rfl (p4) ?_
  simp only [go_sem, Nat.reduceEqDiff, Nat.reduceAdd, Nat.reduceLeDiff, List.length_map]
  refine callQ_by _ rfl rfl (p9) ?_
  simp only [go_sem, Nat.reduceEqDiff, Nat.reduceAdd, Nat.reduceLeDiff, List.length_map]
  refine callQ_by _ rfl rfl (p10) ?_
  simp only [go_sem, Nat.reduceEqDiff, Nat.reduceAdd, Nat.reduceLeDiff, List.length_map]
  refine callQ_by _ rfl rfl (p1) ?_
  simp only [go_sem, Nat.reduceEqDiff, Nat.reduceAdd, Nat.reduceLeDiff, List.length_map]
  refine callQ_by _ rfl rfl (p11) ?_
  simp only [go_sem, Nat.reduceEqDiff, Nat.reduceAdd, Nat.reduceLeDiff, List.length_map]
  refine callQ_by _ rfl rfl (p12) ?_
  simp only [go_sem, Nat.reduceEqDiff, Nat.reduceAdd, Nat.reduceLeDiff, List.length_map]
  refine callQ_by _ rfl rfl (p7) ?_
  simp only [go_sem, Nat.reduceEqDiff, Nat.reduceAdd, Nat.reduceLeDiff, List.length_map]
  refine callQ_by _ rfl rfl (p13) ?_
  simp only [go_sem, Nat.reduceEqDiff, Nat.reduceAdd, Nat.reduceLeDiff, List.length_map]
  refine callQ_by _ rfl rfl (p14) ?_
  simp only [go_sem, Nat.reduceEqDiff, Nat.reduceAdd, Nat.reduceLeDiff, List.length_map]
  refine callQ_by _ rfl rfl (p15) ?_
  simp only [go_sem, Nat.reduceEqDiff, Nat.reduceAdd, Nat.reduceLeDiff, List.length_map]
  refine callQ_by _ rfl rfl (p16) ?_
  simp only [go_sem, Nat.reduceEqDiff, Nat.reduceAdd, Nat.reduceLeDiff, List.length_map]
  refine callQ_by _ rfl rfl (p1) ?_
  simp only [go_sem, Nat.reduceEqDiff, Nat.reduceAdd, Nat.reduceLeDiff, List.length_map]
  refine callQ_by _ rfl rfl (p17) ?_
  simp only [go_sem, Nat.reduceEqDiff, Nat.reduceAdd, Nat.reduceLeDiff, List.length_map]
  refine callQ_by _ rfl rfl (p18) ?_
  simp only [go_sem, Nat.reduceEqDiff, Nat.reduceAdd, Nat.reduceLeDiff, List.length_map]
  refine callQ_by _ rfl rfl (p15) ?_
  simp only [go_sem, Nat.reduceEqDiff, Nat.reduceAdd, Nat.reduceLeDiff, List.length_map]
  refine callQ_by _ rfl rfl (p19) ?_
  simp only [go_sem, Nat.reduceEqDiff, Nat.reduceAdd, Nat.reduceLeDiff, List.length_map]
  refine callQ_by _ rfl rfl (p7) ?_
  simp only [go_sem, Nat.reduceEqDiff, Nat.reduceAdd, Nat.reduceLeDiff, List.length_map]
  refine callQ_by _ rfl rfl (p20) ?_
  simp only [go_sem, Nat.reduceEqDiff, Nat.reduceAdd, Nat.reduceLeDiff, List.length_map]
  refine callQ_by _ rfl rfl (p21) ?_
  simp only [go_sem, Nat.reduceEqDiff, Nat.reduceAdd, Nat.reduceLeDiff, List.length_map]
  refine callQ_by _ rfl rfl (p22) ?_
  simp only [go_sem, Nat.reduceEqDiff, Nat.reduceAdd, Nat.reduceLeDiff, List.length_map]
end Go.Proofs
