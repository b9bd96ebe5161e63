/- A part of the proof; what is proved stands in the last text. -/
import Derived.Test.YtoojpeidgdadgaaT52
namespace Go.Proofs
open Go.Vm
set_option linter.unusedSimpArgs false

theorem hasB_join {a : BoxM} {s : SetM} (oa : OKB a) (os : OK s) {k : Nat} (hk : k < 4) (e : EvM) : hasB (withB a k (orM normR (a.at k) s)) e = (hasB a e || hasB (withB a k s) e) := by
  unfold hasB
  cases hr : rightE e
  · rfl
  · have hri := all4_iff.1 hr
    rw [Bool.eq_iff_iff]
    simp only [Bool.true_and, Bool.or_eq_true, all4_iff]
    have e1 : ∀ (t : SetM) i, i < 4 → i ≠ k → (withB a (k : Int) t).at i = a.at i := fun t i hi h => by rw [at_withB a k t hi, if_neg (by omega)]
    have e2 : ∀ t : SetM, (withB a (k : Int) t).at k = t := fun t => by rw [at_withB a k t hk, if_pos rfl]
    constructor
    · intro h
      have h1 := h k hk
      rw [e2, hasM_or (oa k hk) os (hri k hk), Bool.or_eq_true] at h1
      have h2 : ∀ i, i < 4 → i ≠ k → hasM (a.at i) (e.at i) = true := fun i hi hik => by
        have := h i hi
        rwa [e1 _ i hi hik] at this
      rcases h1 with h1 | h1
      · left; intro i hi
        by_cases hik : i = k
        · subst hik; exact h1
        · exact h2 i hi hik
      · right; intro i hi
        by_cases hik : i = k
        · subst hik; rw [e2]; exact h1
        · rw [e1 _ i hi hik]; exact h2 i hi hik
    · rintro (h | h) i hi
      · by_cases hik : i = k
        · subst hik; rw [e2, hasM_or (oa i hk) os (hri i hk), h i hi]; rfl
        · rw [e1 _ i hi hik]; exact h i hi
      · by_cases hik : i = k
        · subst hik
          have := h i hi
          rw [e2] at this
          rw [e2, hasM_or (oa i hk) os (hri i hk), this, Bool.or_true]
        · have := h i hi
          rw [e1 _ i hi hik] at this
          rw [e1 _ i hi hik]; exact this
theorem hasB_atom {s : SetM} {k : Nat} (hk : k < 4) {e : EvM} (he : InE e) : hasB (withB allB k s) e = (rightE e && hasM s (e.at k)) := by
  unfold hasB
  cases hr : rightE e
  · rfl
  · have hri := all4_iff.1 hr
    rw [Bool.eq_iff_iff]
    simp only [Bool.true_and, all4_iff]
    constructor
    · intro h
      have := h k hk
      rwa [at_withB _ _ _ hk, if_pos rfl] at this
    · intro h i hi
      rw [at_withB _ _ _ hi, at_allB]
      by_cases hik : (k : Int) = i
      · have : k = i := by omega
        subst this
        rw [if_pos rfl]; exact h
      · rw [if_neg hik, hasM_all _ (he i hi)]; exact hri i hi
theorem dif_with (a : BoxM) (s : SetM) {k : Nat} (hk : k < 4) : (dif (sameB a (withB a k s)) 4).1 ≤ 1 := by
  have h : ∀ i, i < 4 → i ≠ k → sameB a (withB a k s) i = true := fun i hi hik => by
    rw [sameB, at_withB _ _ _ hi, if_neg (by omega)]; exact sameM_self _
  rcases lt4 hk with rfl | rfl | rfl | rfl
  · have h1 := h 1 (by omega) (by omega); have h2 := h 2 (by omega) (by omega); have h3 := h 3 (by omega) (by omega)
    simp only [dif, h1, h2, h3]; cases sameB a (withB a _ s) 0 <;> simp
  · have h1 := h 0 (by omega) (by omega); have h2 := h 2 (by omega) (by omega); have h3 := h 3 (by omega) (by omega)
    simp only [dif, h1, h2, h3]; cases sameB a (withB a _ s) 1 <;> simp
  · have h1 := h 0 (by omega) (by omega); have h2 := h 1 (by omega) (by omega); have h3 := h 3 (by omega) (by omega)
    simp only [dif, h1, h2, h3]; cases sameB a (withB a _ s) 2 <;> simp
  · have h1 := h 0 (by omega) (by omega); have h2 := h 1 (by omega) (by omega); have h3 := h 2 (by omega) (by omega)
    simp only [dif, h1, h2, h3]; cases sameB a (withB a _ s) 3 <;> simp
theorem kWith' (b : BoxM) (n : Int) (s : SetM) : PureAt Try.prog 31 [.agg (boxC b), .val (.int .i64 n), .agg (setC s)] (· = .agg (boxC (withB b n s))) := kWith b n s
theorem uint4 (n : Int) : ∃ k : Nat, k < 4 ∧ (IntKind.u64.wrap n).tmod 4 = (k : Int) := by
  have : IntKind.u64.wrap n = n % 18446744073709551616 := rfl
  refine ⟨((n % 18446744073709551616) % 4).toNat, by omega, ?_⟩
  rw [this, Int.tmod_eq_emod_of_nonneg (by omega)]
  omega
theorem four0 : ((4 : Int) = 0) = False := by simp
theorem wrapk {k : Nat} (hk : k < 4) : IntKind.i64.wrap (k : Int) = k := wrap64 (by omega) (by omega)

set_option maxHeartbeats 4000000 in
/-- What comes behind the checks of BoxJoins. -/
theorem joins_rest {a : BoxM} {s : SetM} {k : Nat} (hk : k < 4) (oa : OKB a) (os : OK s) (fa : FewB 40 a) (fs : Few1 s) (e : EvM) :
    PureAt Try.prog 31 [.agg (boxC a), .val (.int .i64 k), .agg (setC s)] (· = .agg (boxC (withB a k s))) ∧
    PureAt Try.prog 31 [.agg (boxC a), .val (.int .i64 k), .agg (setC (orM normR (a.at k) s))] (· = .agg (boxC (withB a k (orM normR (a.at k) s)))) ∧
    PureAt Try.prog 15 [.agg (setC (a.at k)), .agg (setC s)] (· = .agg (setC (orM normR (a.at k) s))) ∧
    PureAt Try.prog 32 [.agg (boxC a), .agg (boxC (withB a k s))] (· = .tup [.val (.int .i64 (dif (sameB a (withB a k s)) 4).1), .val (.int .i64 (dif (sameB a (withB a k s)) 4).2)]) ∧
    PureAt Try.prog 29 [.agg (boxC (withB a k (orM normR (a.at k) s))), .agg (evC e)] (· = .val (.bool (hasB a e || hasB (withB a k s) e))) ∧
    PureAt Try.prog 29 [.agg (boxC a), .agg (evC e)] (· = .val (.bool (hasB a e))) ∧
    PureAt Try.prog 29 [.agg (boxC (withB a k s)), .agg (evC e)] (· = .val (.bool (hasB (withB a k s) e))) ∧
    PureAt Try.prog 30 [.agg (boxC a), .agg (boxC (withB a k (orM normR (a.at k) s)))] (· = .val (.bool true)) ∧
    PureAt Try.prog 30 [.agg (boxC (withB a k s)), .agg (boxC (withB a k (orM normR (a.at k) s)))] (· = .val (.bool true)) := by
  have l1 := orM_ints (a.at k) s
  have l2 := orM_strs (a.at k) s
  have f1 := fa k hk
  have f2 := fs
  unfold Few1 at f2
  have oo := ((oa k hk).or os).1
  have fb : FewB 40 (withB a k s) := fa.with f2.1 f2.2 k
  have fc : FewB 80 (withB a k (orM normR (a.at k) s)) := (fa.mono (by omega)).with (by omega) (by omega) k
  have ob : OKB (withB a k s) := oa.with os k
  have oc : OKB (withB a k (orM normR (a.at k) s)) := oa.with oo k
  refine ⟨kWith' a k s, kWith' a k _, kOr (a.at k) s (by omega) (by omega) (by omega) (by omega), kDiffer a _ (fa.mono (by omega)), ?_, krefHas4 a e (fa.mono (by omega)), krefHas4 _ e (fb.mono (by omega)), ?_, ?_⟩
  · have := krefHas4 (withB a k (orM normR (a.at k) s)) e (fc.mono (by omega))
    rwa [hasB_join oa os hk] at this
  · have := kboxIn a (withB a k (orM normR (a.at k) s)) (fa.mono (by omega)) (fc.mono (by omega))
    rwa [inB4_of oa oc (fa.mono (by omega)) (fc.mono (by omega)) (fun i hi => ?_)] at this
    rw [at_withB _ _ _ hi]
    by_cases h : (k : Int) = i
    · have : k = i := by omega
      subst this
      rw [if_pos rfl]; exact sub_or_l (oa k hk) os
    · rw [if_neg h]; exact Sub.refl _
  · have := kboxIn (withB a k s) (withB a k (orM normR (a.at k) s)) (fb.mono (by omega)) (fc.mono (by omega))
    rwa [inB4_of ob oc (fb.mono (by omega)) (fc.mono (by omega)) (fun i hi => ?_)] at this
    rw [at_withB _ _ _ hi, at_withB _ _ _ hi]
    by_cases h : (k : Int) = i
    · have : k = i := by omega
      subst this
      rw [if_pos rfl, if_pos rfl]; exact sub_or_r (oa k hk) os
    · rw [if_neg h, if_neg h]; exact Sub.refl _

set_option maxHeartbeats 8000000 in
theorem kBoxJoins (a : BoxM) (n : Int) (s : SetM) (e : EvM) (ba : BndB a) (bs : Bnd s) : PureAt Try.prog 8 [.agg (boxC a), .val (.int .i64 n), .agg (setC s), .agg (evC e)] (· = .val (.bool true)) := by
  obtain ⟨k, hk, hn⟩ := uint4 n
  have hwk := wrapk hk
  refine pure_of r8 (by kernel_rfl) ?_
  unfold m8
  simp only [boxC, evC, setC, four0, ↓reduceIte, hn, hwk, go_sem, Nat.reduceEqDiff, Nat.reduceAdd, Nat.reduceLeDiff, List.length_map]
  clear hn hwk
  refine callP_eq rfl rfl (kawake04) ?_
  simp only [go_sem, Nat.reduceEqDiff, Nat.reduceAdd, Nat.reduceLeDiff, List.length_map]
  refine callP_eq rfl rfl (krefFew4 [a] (by simp)) ?_
  simp only [go_sem, Nat.reduceEqDiff, Nat.reduceAdd, Nat.reduceLeDiff, List.length_map]
  first | refine condE_split (fun h1 => ?_) (fun h1 => ?_) | refine wantE_split (fun h1 => ?_) (fun h1 => ?_) | refine wantQ_split (fun h1 => ?_) (fun h1 => ?_)
  · simp only [h1, go_sem, Nat.reduceEqDiff, Nat.reduceAdd, Nat.reduceLeDiff, List.length_map]
    refine callP_eq rfl rfl (kawake04) ?_
    simp only [go_sem, Nat.reduceEqDiff, Nat.reduceAdd, Nat.reduceLeDiff, List.length_map]
  have fa := few4_of (l := [a]) (nt h1) a (by simp)
  simp only [h1, go_sem, Nat.reduceEqDiff, Nat.reduceAdd, Nat.reduceLeDiff, List.length_map]
  refine callP_eq rfl rfl (krefFew3x [s] (by simp)) ?_
  simp only [go_sem, Nat.reduceEqDiff, Nat.reduceAdd, Nat.reduceLeDiff, List.length_map]
  first | refine condE_split (fun h2 => ?_) (fun h2 => ?_) | refine wantE_split (fun h2 => ?_) (fun h2 => ?_) | refine wantQ_split (fun h2 => ?_) (fun h2 => ?_)
  · simp only [h2, go_sem, Nat.reduceEqDiff, Nat.reduceAdd, Nat.reduceLeDiff, List.length_map]
    refine callP_eq rfl rfl (kawake04) ?_
    simp only [go_sem, Nat.reduceEqDiff, Nat.reduceAdd, Nat.reduceLeDiff, List.length_map]
  have fs : Few1 s := fewM_of (l := [s]) (nt h2) s (by simp)
  have fs' := fs
  unfold Few1 at fs'
  simp only [h2, go_sem, Nat.reduceEqDiff, Nat.reduceAdd, Nat.reduceLeDiff, List.length_map]
  refine callP_eq rfl rfl (krefRight4 a (fa.mono (by omega))) ?_
  simp only [go_sem, Nat.reduceEqDiff, Nat.reduceAdd, Nat.reduceLeDiff, List.length_map]
  first | refine condE_split (fun h3 => ?_) (fun h3 => ?_) | refine wantE_split (fun h3 => ?_) (fun h3 => ?_) | refine wantQ_split (fun h3 => ?_) (fun h3 => ?_)
  · simp only [h3, go_sem, Nat.reduceEqDiff, Nat.reduceAdd, Nat.reduceLeDiff, List.length_map]
    refine callP_eq rfl rfl (kawake04) ?_
    simp only [go_sem, Nat.reduceEqDiff, Nat.reduceAdd, Nat.reduceLeDiff, List.length_map]
  have oa : OKB a := (rightB_iff ba).1 (nt h3)
  simp only [h3, go_sem, Nat.reduceEqDiff, Nat.reduceAdd, Nat.reduceLeDiff, List.length_map]
  refine callP_eq rfl rfl (krefRight3 s (by omega) (by omega)) ?_
  simp only [go_sem, Nat.reduceEqDiff, Nat.reduceAdd, Nat.reduceLeDiff, List.length_map]
  refine condE_split (fun h4 => ?_) (fun h4 => ?_)
  · simp only [go_sem, Nat.reduceEqDiff, Nat.reduceAdd, Nat.reduceLeDiff, List.length_map]
    refine callP_eq rfl rfl (kawake04) ?_
    simp only [go_sem, Nat.reduceEqDiff, Nat.reduceAdd, Nat.reduceLeDiff, List.length_map]
  have os : OK s := Few1.ok bs (nt h4)
  simp only [go_sem, Nat.reduceEqDiff, Nat.reduceAdd, Nat.reduceLeDiff, List.length_map]
  clear h1 h2 h3 h4 fs'
  rcases lt4 hk with rfl | rfl | rfl | rfl
  · have hd := dif_with a s hk
    obtain ⟨p1, p2, p3, p4, p5, p6, p7, p8, p9⟩ := joins_rest hk oa os fa fs e
    clear oa os fa fs
    generalize withB a ((0 : Nat) : Int) (orM normR (a.at 0) s) = c at *
    generalize withB a ((0 : Nat) : Int) s = b at *
    generalize hor : orM normR (a.at 0) s = o at *
    generalize dif (sameB a b) 4 = dn at *
    generalize hasB a e = x at *
    generalize hasB b e = y at *
    simp only [go_sem, Nat.reduceEqDiff, Nat.reduceAdd, Nat.reduceLeDiff, List.length_map, z4, at4, BoxM.at, EvM.at, fillB, Int.reduceLT, Int.reduceLE, Int.reduceToNat, Int.toNat_zero, Int.le_refl, Int.reduceAdd, decide_true, decide_false, wr1, wr2, wr3, wr4, c0, c1, c2, c3, c4, Nat.reduceMul, Nat.reduceLT, Nat.lt_irrefl, true_and, and_self, ↓reduceIte]
    refine callP_eq rfl rfl p1 ?_
    simp only [boxC, go_sem, Nat.reduceEqDiff, Nat.reduceAdd, Nat.reduceLeDiff, List.length_map, z4, at4, BoxM.at, EvM.at, fillB, Int.reduceLT, Int.reduceLE, Int.reduceToNat, Int.toNat_zero, Int.le_refl, Int.reduceAdd, decide_true, decide_false, wr1, wr2, wr3, wr4, c0, c1, c2, c3, c4, Nat.reduceMul, Nat.reduceLT, Nat.lt_irrefl, true_and, and_self, ↓reduceIte]
    refine callQ_by _ rfl rfl p3 ?_
    simp only [go_sem, Nat.reduceEqDiff, Nat.reduceAdd, Nat.reduceLeDiff, List.length_map, z4, at4, BoxM.at, EvM.at, fillB, Int.reduceLT, Int.reduceLE, Int.reduceToNat, Int.toNat_zero, Int.le_refl, Int.reduceAdd, decide_true, decide_false, wr1, wr2, wr3, wr4, c0, c1, c2, c3, c4, Nat.reduceMul, Nat.reduceLT, Nat.lt_irrefl, true_and, and_self, ↓reduceIte]
    refine callQ_by _ rfl rfl p2 ?_
    simp only [boxC, go_sem, Nat.reduceEqDiff, Nat.reduceAdd, Nat.reduceLeDiff, List.length_map, z4, at4, BoxM.at, EvM.at, fillB, Int.reduceLT, Int.reduceLE, Int.reduceToNat, Int.toNat_zero, Int.le_refl, Int.reduceAdd, decide_true, decide_false, wr1, wr2, wr3, wr4, c0, c1, c2, c3, c4, Nat.reduceMul, Nat.reduceLT, Nat.lt_irrefl, true_and, and_self, ↓reduceIte]
    refine callP_eq rfl rfl p4 ?_
    simp only [hd, go_sem, Nat.reduceEqDiff, Nat.reduceAdd, Nat.reduceLeDiff, List.length_map, z4, at4, BoxM.at, EvM.at, fillB, Int.reduceLT, Int.reduceLE, Int.reduceToNat, Int.toNat_zero, Int.le_refl, Int.reduceAdd, decide_true, decide_false, wr1, wr2, wr3, wr4, c0, c1, c2, c3, c4, Nat.reduceMul, Nat.reduceLT, Nat.lt_irrefl, true_and, and_self, ↓reduceIte]
    refine callQ_by _ rfl rfl p5 ?_
    simp only [go_sem, Nat.reduceEqDiff, Nat.reduceAdd, Nat.reduceLeDiff, List.length_map]
    refine callQ_by _ rfl rfl p6 ?_
    simp only [go_sem, Nat.reduceEqDiff, Nat.reduceAdd, Nat.reduceLeDiff, List.length_map]
    cases x <;> cases y
    all_goals
      simp only [Bool.or_self, Bool.or_true, Bool.or_false, beq_self_eq_true, go_sem, Nat.reduceEqDiff, Nat.reduceAdd, Nat.reduceLeDiff, List.length_map]
      try
        refine callQ_by _ rfl rfl p7 ?_
        simp only [Bool.or_self, Bool.or_true, Bool.or_false, beq_self_eq_true, go_sem, Nat.reduceEqDiff, Nat.reduceAdd, Nat.reduceLeDiff, List.length_map]
      refine callQ_by _ rfl rfl p8 ?_
      simp only [go_sem, Nat.reduceEqDiff, Nat.reduceAdd, Nat.reduceLeDiff, List.length_map]
      refine callQ_by _ rfl rfl p9 ?_
      simp only [go_sem, Nat.reduceEqDiff, Nat.reduceAdd, Nat.reduceLeDiff, List.length_map]
  · have hd := dif_with a s hk
    obtain ⟨p1, p2, p3, p4, p5, p6, p7, p8, p9⟩ := joins_rest hk oa os fa fs e
    clear oa os fa fs
    generalize withB a ((1 : Nat) : Int) (orM normR (a.at 1) s) = c at *
    generalize withB a ((1 : Nat) : Int) s = b at *
    generalize hor : orM normR (a.at 1) s = o at *
    generalize dif (sameB a b) 4 = dn at *
    generalize hasB a e = x at *
    generalize hasB b e = y at *
    simp only [go_sem, Nat.reduceEqDiff, Nat.reduceAdd, Nat.reduceLeDiff, List.length_map, z4, at4, BoxM.at, EvM.at, fillB, Int.reduceLT, Int.reduceLE, Int.reduceToNat, Int.toNat_zero, Int.le_refl, Int.reduceAdd, decide_true, decide_false, wr1, wr2, wr3, wr4, c0, c1, c2, c3, c4, Nat.reduceMul, Nat.reduceLT, Nat.lt_irrefl, true_and, and_self, ↓reduceIte]
    refine callP_eq rfl rfl p1 ?_
    simp only [boxC, go_sem, Nat.reduceEqDiff, Nat.reduceAdd, Nat.reduceLeDiff, List.length_map, z4, at4, BoxM.at, EvM.at, fillB, Int.reduceLT, Int.reduceLE, Int.reduceToNat, Int.toNat_zero, Int.le_refl, Int.reduceAdd, decide_true, decide_false, wr1, wr2, wr3, wr4, c0, c1, c2, c3, c4, Nat.reduceMul, Nat.reduceLT, Nat.lt_irrefl, true_and, and_self, ↓reduceIte]
    refine callQ_by _ rfl rfl p3 ?_
    simp only [go_sem, Nat.reduceEqDiff, Nat.reduceAdd, Nat.reduceLeDiff, List.length_map, z4, at4, BoxM.at, EvM.at, fillB, Int.reduceLT, Int.reduceLE, Int.reduceToNat, Int.toNat_zero, Int.le_refl, Int.reduceAdd, decide_true, decide_false, wr1, wr2, wr3, wr4, c0, c1, c2, c3, c4, Nat.reduceMul, Nat.reduceLT, Nat.lt_irrefl, true_and, and_self, ↓reduceIte]
    refine callQ_by _ rfl rfl p2 ?_
    simp only [boxC, go_sem, Nat.reduceEqDiff, Nat.reduceAdd, Nat.reduceLeDiff, List.length_map, z4, at4, BoxM.at, EvM.at, fillB, Int.reduceLT, Int.reduceLE, Int.reduceToNat, Int.toNat_zero, Int.le_refl, Int.reduceAdd, decide_true, decide_false, wr1, wr2, wr3, wr4, c0, c1, c2, c3, c4, Nat.reduceMul, Nat.reduceLT, Nat.lt_irrefl, true_and, and_self, ↓reduceIte]
    refine callP_eq rfl rfl p4 ?_
    simp only [hd, go_sem, Nat.reduceEqDiff, Nat.reduceAdd, Nat.reduceLeDiff, List.length_map, z4, at4, BoxM.at, EvM.at, fillB, Int.reduceLT, Int.reduceLE, Int.reduceToNat, Int.toNat_zero, Int.le_refl, Int.reduceAdd, decide_true, decide_false, wr1, wr2, wr3, wr4, c0, c1, c2, c3, c4, Nat.reduceMul, Nat.reduceLT, Nat.lt_irrefl, true_and, and_self, ↓reduceIte]
    refine callQ_by _ rfl rfl p5 ?_
    simp only [go_sem, Nat.reduceEqDiff, Nat.reduceAdd, Nat.reduceLeDiff, List.length_map]
    refine callQ_by _ rfl rfl p6 ?_
    simp only [go_sem, Nat.reduceEqDiff, Nat.reduceAdd, Nat.reduceLeDiff, List.length_map]
    cases x <;> cases y
    all_goals
      simp only [Bool.or_self, Bool.or_true, Bool.or_false, beq_self_eq_true, go_sem, Nat.reduceEqDiff, Nat.reduceAdd, Nat.reduceLeDiff, List.length_map]
      try
        refine callQ_by _ rfl rfl p7 ?_
        simp only [Bool.or_self, Bool.or_true, Bool.or_false, beq_self_eq_true, go_sem, Nat.reduceEqDiff, Nat.reduceAdd, Nat.reduceLeDiff, List.length_map]
      refine callQ_by _ rfl rfl p8 ?_
      simp only [go_sem, Nat.reduceEqDiff, Nat.reduceAdd, Nat.reduceLeDiff, List.length_map]
      refine callQ_by _ rfl rfl p9 ?_
      simp only [go_sem, Nat.reduceEqDiff, Nat.reduceAdd, Nat.reduceLeDiff, List.length_map]
  · have hd := dif_with a s hk
    obtain ⟨p1, p2, p3, p4, p5, p6, p7, p8, p9⟩ := joins_rest hk oa os fa fs e
    clear oa os fa fs
    generalize withB a ((2 : Nat) : Int) (orM normR (a.at 2) s) = c at *
    generalize withB a ((2 : Nat) : Int) s = b at *
    generalize hor : orM normR (a.at 2) s = o at *
    generalize dif (sameB a b) 4 = dn at *
    generalize hasB a e = x at *
    generalize hasB b e = y at *
    simp only [go_sem, Nat.reduceEqDiff, Nat.reduceAdd, Nat.reduceLeDiff, List.length_map, z4, at4, BoxM.at, EvM.at, fillB, Int.reduceLT, Int.reduceLE, Int.reduceToNat, Int.toNat_zero, Int.le_refl, Int.reduceAdd, decide_true, decide_false, wr1, wr2, wr3, wr4, c0, c1, c2, c3, c4, Nat.reduceMul, Nat.reduceLT, Nat.lt_irrefl, true_and, and_self, ↓reduceIte]
    refine callP_eq rfl rfl p1 ?_
    simp only [boxC, go_sem, Nat.reduceEqDiff, Nat.reduceAdd, Nat.reduceLeDiff, List.length_map, z4, at4, BoxM.at, EvM.at, fillB, Int.reduceLT, Int.reduceLE, Int.reduceToNat, Int.toNat_zero, Int.le_refl, Int.reduceAdd, decide_true, decide_false, wr1, wr2, wr3, wr4, c0, c1, c2, c3, c4, Nat.reduceMul, Nat.reduceLT, Nat.lt_irrefl, true_and, and_self, ↓reduceIte]
    refine callQ_by _ rfl rfl p3 ?_
    simp only [go_sem, Nat.reduceEqDiff, Nat.reduceAdd, Nat.reduceLeDiff, List.length_map, z4, at4, BoxM.at, EvM.at, fillB, Int.reduceLT, Int.reduceLE, Int.reduceToNat, Int.toNat_zero, Int.le_refl, Int.reduceAdd, decide_true, decide_false, wr1, wr2, wr3, wr4, c0, c1, c2, c3, c4, Nat.reduceMul, Nat.reduceLT, Nat.lt_irrefl, true_and, and_self, ↓reduceIte]
    refine callQ_by _ rfl rfl p2 ?_
    simp only [boxC, go_sem, Nat.reduceEqDiff, Nat.reduceAdd, Nat.reduceLeDiff, List.length_map, z4, at4, BoxM.at, EvM.at, fillB, Int.reduceLT, Int.reduceLE, Int.reduceToNat, Int.toNat_zero, Int.le_refl, Int.reduceAdd, decide_true, decide_false, wr1, wr2, wr3, wr4, c0, c1, c2, c3, c4, Nat.reduceMul, Nat.reduceLT, Nat.lt_irrefl, true_and, and_self, ↓reduceIte]
    refine callP_eq rfl rfl p4 ?_
    simp only [hd, go_sem, Nat.reduceEqDiff, Nat.reduceAdd, Nat.reduceLeDiff, List.length_map, z4, at4, BoxM.at, EvM.at, fillB, Int.reduceLT, Int.reduceLE, Int.reduceToNat, Int.toNat_zero, Int.le_refl, Int.reduceAdd, decide_true, decide_false, wr1, wr2, wr3, wr4, c0, c1, c2, c3, c4, Nat.reduceMul, Nat.reduceLT, Nat.lt_irrefl, true_and, and_self, ↓reduceIte]
    refine callQ_by _ rfl rfl p5 ?_
    simp only [go_sem, Nat.reduceEqDiff, Nat.reduceAdd, Nat.reduceLeDiff, List.length_map]
    refine callQ_by _ rfl rfl p6 ?_
    simp only [go_sem, Nat.reduceEqDiff, Nat.reduceAdd, Nat.reduceLeDiff, List.length_map]
    cases x <;> cases y
    all_goals
      simp only [Bool.or_self, Bool.or_true, Bool.or_false, beq_self_eq_true, go_sem, Nat.reduceEqDiff, Nat.reduceAdd, Nat.reduceLeDiff, List.length_map]
      try
        refine callQ_by _ rfl rfl p7 ?_
        simp only [Bool.or_self, Bool.or_true, Bool.or_false, beq_self_eq_true, go_sem, Nat.reduceEqDiff, Nat.reduceAdd, Nat.reduceLeDiff, List.length_map]
      refine callQ_by _ rfl rfl p8 ?_
      simp only [go_sem, Nat.reduceEqDiff, Nat.reduceAdd, Nat.reduceLeDiff, List.length_map]
      refine callQ_by _ rfl rfl p9 ?_
      simp only [go_sem, Nat.reduceEqDiff, Nat.reduceAdd, Nat.reduceLeDiff, List.length_map]
  · have hd := dif_with a s hk
    obtain ⟨p1, p2, p3, p4, p5, p6, p7, p8, p9⟩ := joins_rest hk oa os fa fs e
    clear oa os fa fs
    generalize withB a ((3 : Nat) : Int) (orM normR (a.at 3) s) = c at *
    generalize withB a ((3 : Nat) : Int) s = b at *
    generalize hor : orM normR (a.at 3) s = o at *
    generalize dif (sameB a b) 4 = dn at *
    generalize hasB a e = x at *
    generalize hasB b e = y at *
    simp only [go_sem, Nat.reduceEqDiff, Nat.reduceAdd, Nat.reduceLeDiff, List.length_map, z4, at4, BoxM.at, EvM.at, fillB, Int.reduceLT, Int.reduceLE, Int.reduceToNat, Int.toNat_zero, Int.le_refl, Int.reduceAdd, decide_true, decide_false, wr1, wr2, wr3, wr4, c0, c1, c2, c3, c4, Nat.reduceMul, Nat.reduceLT, Nat.lt_irrefl, true_and, and_self, ↓reduceIte]
    refine callP_eq rfl rfl p1 ?_
    simp only [boxC, go_sem, Nat.reduceEqDiff, Nat.reduceAdd, Nat.reduceLeDiff, List.length_map, z4, at4, BoxM.at, EvM.at, fillB, Int.reduceLT, Int.reduceLE, Int.reduceToNat, Int.toNat_zero, Int.le_refl, Int.reduceAdd, decide_true, decide_false, wr1, wr2, wr3, wr4, c0, c1, c2, c3, c4, Nat.reduceMul, Nat.reduceLT, Nat.lt_irrefl, true_and, and_self, ↓reduceIte]
    refine callQ_by _ rfl rfl p3 ?_
    simp only [go_sem, Nat.reduceEqDiff, Nat.reduceAdd, Nat.reduceLeDiff, List.length_map, z4, at4, BoxM.at, EvM.at, fillB, Int.reduceLT, Int.reduceLE, Int.reduceToNat, Int.toNat_zero, Int.le_refl, Int.reduceAdd, decide_true, decide_false, wr1, wr2, wr3, wr4, c0, c1, c2, c3, c4, Nat.reduceMul, Nat.reduceLT, Nat.lt_irrefl, true_and, and_self, ↓reduceIte]
    refine callQ_by _ rfl rfl p2 ?_
    simp only [boxC, go_sem, Nat.reduceEqDiff, Nat.reduceAdd, Nat.reduceLeDiff, List.length_map, z4, at4, BoxM.at, EvM.at, fillB, Int.reduceLT, Int.reduceLE, Int.reduceToNat, Int.toNat_zero, Int.le_refl, Int.reduceAdd, decide_true, decide_false, wr1, wr2, wr3, wr4, c0, c1, c2, c3, c4, Nat.reduceMul, Nat.reduceLT, Nat.lt_irrefl, true_and, and_self, ↓reduceIte]
    refine callP_eq rfl rfl p4 ?_
    simp only [hd, go_sem, Nat.reduceEqDiff, Nat.reduceAdd, Nat.reduceLeDiff, List.length_map, z4, at4, BoxM.at, EvM.at, fillB, Int.reduceLT, Int.reduceLE, Int.reduceToNat, Int.toNat_zero, Int.le_refl, Int.reduceAdd, decide_true, decide_false, wr1, wr2, wr3, wr4, c0, c1, c2, c3, c4, Nat.reduceMul, Nat.reduceLT, Nat.lt_irrefl, true_and, and_self, ↓reduceIte]
    refine callQ_by _ rfl rfl p5 ?_
    simp only [go_sem, Nat.reduceEqDiff, Nat.reduceAdd, Nat.reduceLeDiff, List.length_map]
    refine callQ_by _ rfl rfl p6 ?_
    simp only [go_sem, Nat.reduceEqDiff, Nat.reduceAdd, Nat.reduceLeDiff, List.length_map]
    cases x <;> cases y
    all_goals
      simp only [Bool.or_self, Bool.or_true, Bool.or_false, beq_self_eq_true, go_sem, Nat.reduceEqDiff, Nat.reduceAdd, Nat.reduceLeDiff, List.length_map]
      try
        refine callQ_by _ rfl rfl p7 ?_
        simp only [Bool.or_self, Bool.or_true, Bool.or_false, beq_self_eq_true, go_sem, Nat.reduceEqDiff, Nat.reduceAdd, Nat.reduceLeDiff, List.length_map]
      refine callQ_by _ rfl rfl p8 ?_
      simp only [go_sem, Nat.reduceEqDiff, Nat.reduceAdd, Nat.reduceLeDiff, List.length_map]
      refine callQ_by _ rfl rfl p9 ?_
      simp only [go_sem, Nat.reduceEqDiff, Nat.reduceAdd, Nat.reduceLeDiff, List.length_map]

set_option maxHeartbeats 8000000 in
theorem kBoxAtoms (n : Int) (s : SetM) (e : EvM) (bs : Bnd s) (be : InE e) : PureAt Try.prog 9 [.val (.int .i64 n), .agg (setC s), .agg (evC e)] (· = .val (.bool true)) := by
  refine pure_of r9 (by kernel_rfl) ?_
  unfold m9
  simp only [evC, setC, go_sem, Nat.reduceEqDiff, Nat.reduceAdd, Nat.reduceLeDiff, List.length_map]
  refine callP_eq rfl rfl (kawake04) ?_
  simp only [go_sem, Nat.reduceEqDiff, Nat.reduceAdd, Nat.reduceLeDiff, List.length_map]
  refine callP_eq rfl rfl (krefFew3x [s] (by simp)) ?_
  simp only [go_sem, Nat.reduceEqDiff, Nat.reduceAdd, Nat.reduceLeDiff, List.length_map]
  first | refine condE_split (fun h2 => ?_) (fun h2 => ?_) | refine wantE_split (fun h2 => ?_) (fun h2 => ?_) | refine wantQ_split (fun h2 => ?_) (fun h2 => ?_)
  · simp only [h2, go_sem, Nat.reduceEqDiff, Nat.reduceAdd, Nat.reduceLeDiff, List.length_map]
    refine callP_eq rfl rfl (kawake04) ?_
    simp only [go_sem, Nat.reduceEqDiff, Nat.reduceAdd, Nat.reduceLeDiff, List.length_map]
  have fs : Few1 s := fewM_of (l := [s]) (nt h2) s (by simp)
  have fs' := fs
  unfold Few1 at fs'
  simp only [h2, go_sem, Nat.reduceEqDiff, Nat.reduceAdd, Nat.reduceLeDiff, List.length_map]
  refine callP_eq rfl rfl (krefRight3 s (by omega) (by omega)) ?_
  simp only [go_sem, Nat.reduceEqDiff, Nat.reduceAdd, Nat.reduceLeDiff, List.length_map]
  refine condE_split (fun h4 => ?_) (fun h4 => ?_)
  · simp only [go_sem, Nat.reduceEqDiff, Nat.reduceAdd, Nat.reduceLeDiff, List.length_map]
    refine callP_eq rfl rfl (kawake04) ?_
    simp only [go_sem, Nat.reduceEqDiff, Nat.reduceAdd, Nat.reduceLeDiff, List.length_map]
  have os : OK s := Few1.ok bs (nt h4)
  simp only [go_sem, Nat.reduceEqDiff, Nat.reduceAdd, Nat.reduceLeDiff, List.length_map]
  clear h2 h4
  have fb : FewB 40 (withB allB n s) := (FewB.all.mono (by omega)).with fs'.1 fs'.2 n
  have p1 := kAtom n s
  have p2 := kWith' allB n s
  have p3 := krefHas4 allB e (FewB.all.mono (by omega))
  rw [hasB_all be] at p3
  have p5 := kboxSame (withB allB n s) (withB allB n s) (fb.mono (by omega))
  rw [sameB_self] at p5
  by_cases hout : n < 0 ∨ n > 3
  · have hx : withB allB n s = allB := by
      unfold withB
      rw [if_neg (by omega), if_neg (by omega), if_neg (by omega), if_neg (by omega)]
    rw [hx] at p1 p2
    rw [hx] at p5
    clear hx
    refine callP_eq rfl rfl (p1) ?_
    simp only [boxC, go_sem, Nat.reduceEqDiff, Nat.reduceAdd, Nat.reduceLeDiff, List.length_map]
    refine callQ_by _ rfl rfl (kboxAll) ?_
    simp only [go_sem, Nat.reduceEqDiff, Nat.reduceAdd, Nat.reduceLeDiff, List.length_map]
    refine callQ_by _ rfl rfl (p3) ?_
    simp only [go_sem, Nat.reduceEqDiff, Nat.reduceAdd, Nat.reduceLeDiff, List.length_map]
    first | refine condE_split (fun h5 => ?_) (fun h5 => ?_) | refine wantE_split (fun h5 => ?_) (fun h5 => ?_) | refine wantQ_split (fun h5 => ?_) (fun h5 => ?_)
    · simp only [h5, go_sem, Nat.reduceEqDiff, Nat.reduceAdd, Nat.reduceLeDiff, List.length_map]
      refine callQ_by _ rfl rfl (kboxAll) ?_
      simp only [go_sem, Nat.reduceEqDiff, Nat.reduceAdd, Nat.reduceLeDiff, List.length_map]
      refine callQ_by _ rfl rfl (p5) ?_
      simp only [go_sem, Nat.reduceEqDiff, Nat.reduceAdd, Nat.reduceLeDiff, List.length_map]
      refine callQ_by _ rfl rfl (p2) ?_
      simp only [go_sem, Nat.reduceEqDiff, Nat.reduceAdd, Nat.reduceLeDiff, List.length_map]
      refine callQ_by _ rfl rfl (p5) ?_
      simp only [go_sem, Nat.reduceEqDiff, Nat.reduceAdd, Nat.reduceLeDiff, List.length_map]
    · simp only [h5, go_sem, Nat.reduceEqDiff, Nat.reduceAdd, Nat.reduceLeDiff, List.length_map]
      first | refine condE_split (fun h6 => ?_) (fun h6 => ?_) | refine wantE_split (fun h6 => ?_) (fun h6 => ?_) | refine wantQ_split (fun h6 => ?_) (fun h6 => ?_)
      · simp only [go_sem, Nat.reduceEqDiff, Nat.reduceAdd, Nat.reduceLeDiff, List.length_map]
        refine callQ_by _ rfl rfl (kboxAll) ?_
        simp only [go_sem, Nat.reduceEqDiff, Nat.reduceAdd, Nat.reduceLeDiff, List.length_map]
        refine callQ_by _ rfl rfl (p5) ?_
        simp only [go_sem, Nat.reduceEqDiff, Nat.reduceAdd, Nat.reduceLeDiff, List.length_map]
        refine callQ_by _ rfl rfl (p2) ?_
        simp only [go_sem, Nat.reduceEqDiff, Nat.reduceAdd, Nat.reduceLeDiff, List.length_map]
        refine callQ_by _ rfl rfl (p5) ?_
        simp only [go_sem, Nat.reduceEqDiff, Nat.reduceAdd, Nat.reduceLeDiff, List.length_map]
      · exfalso
        simp at h5 h6; omega
  · have hn : ∃ k : Nat, k < 4 ∧ n = k := ⟨n.toNat, by omega, by omega⟩
    obtain ⟨k, hk, rfl⟩ := hn
    have p4 := kboxHas (withB allB k s) e (fb.mono (by omega))
    rw [hasB_atom hk be] at p4
    have p6 := krefHas3 s (by omega) (by omega) (e.at k)
    have n1 : decide ((k : Int) < 0) = false := by simp
    have n2 : decide ((k : Int) > 3) = false := by simp; omega
    generalize withB allB (k : Int) s = b at *
    refine callP_eq rfl rfl (p1) ?_
    simp only [boxC, go_sem, Nat.reduceEqDiff, Nat.reduceAdd, Nat.reduceLeDiff, List.length_map]
    refine callQ_by _ rfl rfl (kboxAll) ?_
    simp only [go_sem, Nat.reduceEqDiff, Nat.reduceAdd, Nat.reduceLeDiff, List.length_map]
    refine callQ_by _ rfl rfl (p3) ?_
    simp only [n1, n2, go_sem, Nat.reduceEqDiff, Nat.reduceAdd, Nat.reduceLeDiff, List.length_map]
    clear n1 n2 hout
    generalize rightE e = re at *
    rcases lt4 hk with rfl | rfl | rfl | rfl
    all_goals
      generalize hasM s (e.at _) = hs at *
      refine callQ_by _ rfl rfl p4 ?_
      cases re <;> cases hs
    all_goals
      simp only [Bool.and_self, Bool.and_false, Bool.false_and, Bool.and_true]
      simp only [beq_self_eq_true, go_sem, Nat.reduceEqDiff, Nat.reduceAdd, Nat.reduceLeDiff, List.length_map, z4, at4, BoxM.at, EvM.at, fillB, Int.reduceLT, Int.reduceLE, Int.reduceToNat, Int.toNat_zero, Int.le_refl, Int.reduceAdd, decide_true, decide_false, wr1, wr2, wr3, wr4, c0, c1, c2, c3, c4, Nat.reduceMul, Nat.reduceLT, Nat.lt_irrefl, true_and, and_self, ↓reduceIte]
      try
        refine callQ_by _ rfl rfl p6 ?_
        simp only [beq_self_eq_true, go_sem, Nat.reduceEqDiff, Nat.reduceAdd, Nat.reduceLeDiff, List.length_map, z4, at4, BoxM.at, EvM.at, fillB, Int.reduceLT, Int.reduceLE, Int.reduceToNat, Int.toNat_zero, Int.le_refl, Int.reduceAdd, decide_true, decide_false, wr1, wr2, wr3, wr4, c0, c1, c2, c3, c4, Nat.reduceMul, Nat.reduceLT, Nat.lt_irrefl, true_and, and_self, ↓reduceIte]
      refine callQ_by _ rfl rfl kboxAll ?_
      simp only [go_sem, Nat.reduceEqDiff, Nat.reduceAdd, Nat.reduceLeDiff, List.length_map, z4, at4, BoxM.at, EvM.at, fillB, Int.reduceLT, Int.reduceLE, Int.reduceToNat, Int.toNat_zero, Int.le_refl, Int.reduceAdd, decide_true, decide_false, wr1, wr2, wr3, wr4, c0, c1, c2, c3, c4, Nat.reduceMul, Nat.reduceLT, Nat.lt_irrefl, true_and, and_self, ↓reduceIte]
      refine callQ_by _ rfl rfl p2 ?_
      simp only [go_sem, Nat.reduceEqDiff, Nat.reduceAdd, Nat.reduceLeDiff, List.length_map, z4, at4, BoxM.at, EvM.at, fillB, Int.reduceLT, Int.reduceLE, Int.reduceToNat, Int.toNat_zero, Int.le_refl, Int.reduceAdd, decide_true, decide_false, wr1, wr2, wr3, wr4, c0, c1, c2, c3, c4, Nat.reduceMul, Nat.reduceLT, Nat.lt_irrefl, true_and, and_self, ↓reduceIte]
      refine callQ_by _ rfl rfl p5 ?_
      simp only [go_sem, Nat.reduceEqDiff, Nat.reduceAdd, Nat.reduceLeDiff, List.length_map, z4, at4, BoxM.at, EvM.at, fillB, Int.reduceLT, Int.reduceLE, Int.reduceToNat, Int.toNat_zero, Int.le_refl, Int.reduceAdd, decide_true, decide_false, wr1, wr2, wr3, wr4, c0, c1, c2, c3, c4, Nat.reduceMul, Nat.reduceLT, Nat.lt_irrefl, true_and, and_self, ↓reduceIte]
end Go.Proofs
