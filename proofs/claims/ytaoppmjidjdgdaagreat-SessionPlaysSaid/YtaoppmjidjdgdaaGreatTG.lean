/- A part of the proof; what is proved stands in the last text. -/
import Derived.Test.YtaoppmjidjdgdaaGreatTO
import Derived.Test.YtaoppmjidjdgdaaGreatMX
set_option linter.unusedVariables false
set_option maxRecDepth 2000
namespace Go.Proofs
open Go.Vm
set_option linter.unusedSimpArgs false
@[go_sem] theorem len_boxC (b : BoxM) : (boxC b).length = 16 := rfl
@[go_sem] theorem take_boxC (b : BoxM) : (boxC b).take 16 = boxC b := rfl
@[go_sem] theorem frz_boxC (b : BoxM) : frzL (boxC b) = some (boxC b) := rfl
@[go_sem] theorem one_boxC (b : BoxM) : (boxC b).all D.one = true := rfl
@[go_sem] theorem keep_boxC (p : Nat → Bool) (q : Tag → Bool) (b : BoxM) : (boxC b).map (D.keep p q) = boxC b := rfl
@[go_sem] theorem fzb_boxC (o : Nat) (fs : List D) (b : BoxM) : (boxC b).map (D.fzb o fs) = boxC b := rfl
@[go_sem] theorem upd_boxC (t : Tag) (i off : Nat) (ds : List D) (b : BoxM) : (boxC b).map (D.upd t i off ds) = boxC b := rfl
@[go_sem] theorem put_boxC (z0 z1 z2 z3 z4 z5 z6 z7 z8 z9 za zb zc zd ze zf : D) (b : BoxM) : putCells [z0, z1, z2, z3, z4, z5, z6, z7, z8, z9, za, zb, zc, zd, ze, zf] 0 (boxC b) = boxC b := rfl
@[go_sem] theorem chunk_boxC (b : BoxM) : chunk 16 1 (boxC b) = [boxC b] := rfl
theorem rows_boxC (l : List BoxM) : ∀ e ∈ l.map boxC, e.length = 16 := by
 intro e he
 obtain ⟨b, -, rfl⟩ := List.mem_map.1 he
 rfl
theorem getD_at {l : List BoxM} {i : Nat} (h : i < l.length) : l.getD i allB = l[i] := by
 rw [List.getD_eq_getElem?_getD, List.getElem?_eq_getElem h]; rfl
theorem get_boxC {l : List BoxM} {i : Nat} (h : i < l.length) : (l.map boxC)[i]? = some (boxC (l.getD i allB)) := by
 rw [List.getElem?_map, List.getElem?_eq_getElem h, getD_at h]; rfl
theorem getD_mem {l : List BoxM} {i : Nat} (h : i < l.length) : l.getD i allB ∈ l := by rw [getD_at h]; exact List.getElem_mem h
theorem up64 {i : Nat} (h : i < 1000000) : IntKind.i64.wrap ((i : Int) + 1) = ((i + 1 : Nat) : Int) := by rw [wrap64 (by omega) (by omega)]; rfl
theorem nn0 (i : Nat) : (0 ≤ (i : Int)) = True := by simp
attribute [go_sem] Bool.true_or Bool.false_or Bool.or_true
def smallM (s : SetM) : Bool := decide (s.ints.length ≤ 6) && decide (s.strs.length ≤ 6)
theorem ksetSmall (s : SetM) : PureAt Tryz.prog 54 [.agg (setC s)] (· = .val (.bool (smallM s))) := by
 refine pure_of r54 (by kernel_rfl) ?_
 unfold m54 smallM
 have e1 : (decide ((s.ints.length : Int) ≤ 6)) = decide (s.ints.length ≤ 6) := by rw [decide_eq_decide]; omega
 have e2 : (decide ((s.strs.length : Int) ≤ 6)) = decide (s.strs.length ≤ 6) := by rw [decide_eq_decide]; omega
 cases hx : decide (s.ints.length ≤ 6) <;> cases hy : decide (s.strs.length ≤ 6)
 all_goals
  rw [hx] at e1
  rw [hy] at e2
  simp only [setC, e1, e2, hx, hy, go_sem, Nat.reduceEqDiff, Nat.reduceAdd, Nat.reduceLeDiff, List.length_map]
theorem kref3Small (s : SetM) : PureAt Tryz.prog 61 [.agg (setC s)] (· = .val (.bool (smallM s))) := by
 refine pure_of r61 (by kernel_rfl) ?_
 unfold m61 smallM
 have e1 : (decide ((s.ints.length : Int) ≤ 6)) = decide (s.ints.length ≤ 6) := by rw [decide_eq_decide]; omega
 have e2 : (decide ((s.strs.length : Int) ≤ 6)) = decide (s.strs.length ≤ 6) := by rw [decide_eq_decide]; omega
 cases hx : decide (s.ints.length ≤ 6) <;> cases hy : decide (s.strs.length ≤ 6)
 all_goals
  rw [hx] at e1
  rw [hy] at e2
  simp only [setC, e1, e2, hx, hy, go_sem, Nat.reduceEqDiff, Nat.reduceAdd, Nat.reduceLeDiff, List.length_map]
theorem kref3Empty (s : SetM) : PureAt Tryz.prog 70 [.agg (setC s)] (· = .val (.bool (emptyM s))) := by
 have e1 : (((s.ints.length : Int)) == 0) = s.ints.isEmpty := by cases s.ints <;> simp; omega
 have e2 : (((s.strs.length : Int)) == 0) = s.strs.isEmpty := by cases s.strs <;> simp; omega
 refine pure_of r70 (by kernel_rfl) ?_
 unfold m70 emptyM
 obtain ⟨z, si, u, ss⟩ := s
 simp only at e1 e2
 cases hx : si.isEmpty <;> cases hy : ss.isEmpty <;> cases z <;> cases u
 all_goals
  rw [hx] at e1
  rw [hy] at e2
  simp only [setC, e1, e2, hx, hy, go_sem, Nat.reduceEqDiff, Nat.reduceAdd, Nat.reduceLeDiff, List.length_map]
def smallB (b : BoxM) : Bool := all4 fun i => smallM (b.at i)
theorem kboxSmall (b : BoxM) : PureAt Tryz.prog 40 [.agg (boxC b)] (· = .val (.bool (smallB b))) := by
 refine pure_of r40 (by kernel_rfl) ?_
 unfold m40
 simp only [boxC, go_sem, Nat.reduceEqDiff, Nat.reduceAdd, Nat.reduceLeDiff, List.length_map]
 refine ev_loop_u 4 ?_
 simp only [go_sem, Nat.reduceEqDiff, Nat.reduceAdd, Nat.reduceLeDiff, List.length_map, z4, at4, BoxM.at, EvM.at, fillB, Int.reduceLT, Int.reduceLE, Int.reduceToNat, Int.toNat_zero, Int.le_refl, Int.reduceAdd, decide_true, decide_false, wr1, wr2, wr3, wr4, c0, c1, c2, c3, c4, Nat.reduceMul, Nat.reduceLT, Nat.lt_irrefl, true_and, and_self, ↓reduceIte]
 refine callP_eq rfl rfl (ksetSmall (b.at 0)) ?_
 simp only [go_sem, Nat.reduceEqDiff, Nat.reduceAdd, Nat.reduceLeDiff, List.length_map, z4, at4, BoxM.at, EvM.at, fillB, Int.reduceLT, Int.reduceLE, Int.reduceToNat, Int.toNat_zero, Int.le_refl, Int.reduceAdd, decide_true, decide_false, wr1, wr2, wr3, wr4, c0, c1, c2, c3, c4, Nat.reduceMul, Nat.reduceLT, Nat.lt_irrefl, true_and, and_self, ↓reduceIte]
 refine condE_split (fun h0 => ?_) (fun h0 => ?_)
 ·simp only [go_sem, Nat.reduceEqDiff, Nat.reduceAdd, Nat.reduceLeDiff, List.length_map, z4, at4, BoxM.at, EvM.at, fillB, Int.reduceLT, Int.reduceLE, Int.reduceToNat, Int.toNat_zero, Int.le_refl, Int.reduceAdd, decide_true, decide_false, wr1, wr2, wr3, wr4, c0, c1, c2, c3, c4, Nat.reduceMul, Nat.reduceLT, Nat.lt_irrefl, true_and, and_self, ↓reduceIte]
  simp_all [smallB, all4, BoxM.at, at4]
 simp only [go_sem, Nat.reduceEqDiff, Nat.reduceAdd, Nat.reduceLeDiff, List.length_map, z4, at4, BoxM.at, EvM.at, fillB, Int.reduceLT, Int.reduceLE, Int.reduceToNat, Int.toNat_zero, Int.le_refl, Int.reduceAdd, decide_true, decide_false, wr1, wr2, wr3, wr4, c0, c1, c2, c3, c4, Nat.reduceMul, Nat.reduceLT, Nat.lt_irrefl, true_and, and_self, ↓reduceIte]
 refine callP_eq rfl rfl (ksetSmall (b.at 1)) ?_
 simp only [go_sem, Nat.reduceEqDiff, Nat.reduceAdd, Nat.reduceLeDiff, List.length_map, z4, at4, BoxM.at, EvM.at, fillB, Int.reduceLT, Int.reduceLE, Int.reduceToNat, Int.toNat_zero, Int.le_refl, Int.reduceAdd, decide_true, decide_false, wr1, wr2, wr3, wr4, c0, c1, c2, c3, c4, Nat.reduceMul, Nat.reduceLT, Nat.lt_irrefl, true_and, and_self, ↓reduceIte]
 refine condE_split (fun h1 => ?_) (fun h1 => ?_)
 ·simp only [go_sem, Nat.reduceEqDiff, Nat.reduceAdd, Nat.reduceLeDiff, List.length_map, z4, at4, BoxM.at, EvM.at, fillB, Int.reduceLT, Int.reduceLE, Int.reduceToNat, Int.toNat_zero, Int.le_refl, Int.reduceAdd, decide_true, decide_false, wr1, wr2, wr3, wr4, c0, c1, c2, c3, c4, Nat.reduceMul, Nat.reduceLT, Nat.lt_irrefl, true_and, and_self, ↓reduceIte]
  simp_all [smallB, all4, BoxM.at, at4]
 simp only [go_sem, Nat.reduceEqDiff, Nat.reduceAdd, Nat.reduceLeDiff, List.length_map, z4, at4, BoxM.at, EvM.at, fillB, Int.reduceLT, Int.reduceLE, Int.reduceToNat, Int.toNat_zero, Int.le_refl, Int.reduceAdd, decide_true, decide_false, wr1, wr2, wr3, wr4, c0, c1, c2, c3, c4, Nat.reduceMul, Nat.reduceLT, Nat.lt_irrefl, true_and, and_self, ↓reduceIte]
 refine callP_eq rfl rfl (ksetSmall (b.at 2)) ?_
 simp only [go_sem, Nat.reduceEqDiff, Nat.reduceAdd, Nat.reduceLeDiff, List.length_map, z4, at4, BoxM.at, EvM.at, fillB, Int.reduceLT, Int.reduceLE, Int.reduceToNat, Int.toNat_zero, Int.le_refl, Int.reduceAdd, decide_true, decide_false, wr1, wr2, wr3, wr4, c0, c1, c2, c3, c4, Nat.reduceMul, Nat.reduceLT, Nat.lt_irrefl, true_and, and_self, ↓reduceIte]
 refine condE_split (fun h2 => ?_) (fun h2 => ?_)
 ·simp only [go_sem, Nat.reduceEqDiff, Nat.reduceAdd, Nat.reduceLeDiff, List.length_map, z4, at4, BoxM.at, EvM.at, fillB, Int.reduceLT, Int.reduceLE, Int.reduceToNat, Int.toNat_zero, Int.le_refl, Int.reduceAdd, decide_true, decide_false, wr1, wr2, wr3, wr4, c0, c1, c2, c3, c4, Nat.reduceMul, Nat.reduceLT, Nat.lt_irrefl, true_and, and_self, ↓reduceIte]
  simp_all [smallB, all4, BoxM.at, at4]
 simp only [go_sem, Nat.reduceEqDiff, Nat.reduceAdd, Nat.reduceLeDiff, List.length_map, z4, at4, BoxM.at, EvM.at, fillB, Int.reduceLT, Int.reduceLE, Int.reduceToNat, Int.toNat_zero, Int.le_refl, Int.reduceAdd, decide_true, decide_false, wr1, wr2, wr3, wr4, c0, c1, c2, c3, c4, Nat.reduceMul, Nat.reduceLT, Nat.lt_irrefl, true_and, and_self, ↓reduceIte]
 refine callP_eq rfl rfl (ksetSmall (b.at 3)) ?_
 simp only [go_sem, Nat.reduceEqDiff, Nat.reduceAdd, Nat.reduceLeDiff, List.length_map, z4, at4, BoxM.at, EvM.at, fillB, Int.reduceLT, Int.reduceLE, Int.reduceToNat, Int.toNat_zero, Int.le_refl, Int.reduceAdd, decide_true, decide_false, wr1, wr2, wr3, wr4, c0, c1, c2, c3, c4, Nat.reduceMul, Nat.reduceLT, Nat.lt_irrefl, true_and, and_self, ↓reduceIte]
 refine condE_split (fun h3 => ?_) (fun h3 => ?_)
 ·simp only [go_sem, Nat.reduceEqDiff, Nat.reduceAdd, Nat.reduceLeDiff, List.length_map, z4, at4, BoxM.at, EvM.at, fillB, Int.reduceLT, Int.reduceLE, Int.reduceToNat, Int.toNat_zero, Int.le_refl, Int.reduceAdd, decide_true, decide_false, wr1, wr2, wr3, wr4, c0, c1, c2, c3, c4, Nat.reduceMul, Nat.reduceLT, Nat.lt_irrefl, true_and, and_self, ↓reduceIte]
  simp_all [smallB, all4, BoxM.at, at4]
 simp only [go_sem, Nat.reduceEqDiff, Nat.reduceAdd, Nat.reduceLeDiff, List.length_map, z4, at4, BoxM.at, EvM.at, fillB, Int.reduceLT, Int.reduceLE, Int.reduceToNat, Int.toNat_zero, Int.le_refl, Int.reduceAdd, decide_true, decide_false, wr1, wr2, wr3, wr4, c0, c1, c2, c3, c4, Nat.reduceMul, Nat.reduceLT, Nat.lt_irrefl, true_and, and_self, ↓reduceIte]
 simp_all [smallB, all4, BoxM.at, at4]
theorem kref4Small (b : BoxM) : PureAt Tryz.prog 45 [.agg (boxC b)] (· = .val (.bool (smallB b))) := by
 refine pure_of r45 (by kernel_rfl) ?_
 unfold m45
 simp only [boxC, go_sem, Nat.reduceEqDiff, Nat.reduceAdd, Nat.reduceLeDiff, List.length_map]
 refine ev_loop_u 4 ?_
 simp only [go_sem, Nat.reduceEqDiff, Nat.reduceAdd, Nat.reduceLeDiff, List.length_map, z4, at4, BoxM.at, EvM.at, fillB, Int.reduceLT, Int.reduceLE, Int.reduceToNat, Int.toNat_zero, Int.le_refl, Int.reduceAdd, decide_true, decide_false, wr1, wr2, wr3, wr4, c0, c1, c2, c3, c4, Nat.reduceMul, Nat.reduceLT, Nat.lt_irrefl, true_and, and_self, ↓reduceIte]
 refine callP_eq rfl rfl (kref3Small (b.at 0)) ?_
 simp only [go_sem, Nat.reduceEqDiff, Nat.reduceAdd, Nat.reduceLeDiff, List.length_map, z4, at4, BoxM.at, EvM.at, fillB, Int.reduceLT, Int.reduceLE, Int.reduceToNat, Int.toNat_zero, Int.le_refl, Int.reduceAdd, decide_true, decide_false, wr1, wr2, wr3, wr4, c0, c1, c2, c3, c4, Nat.reduceMul, Nat.reduceLT, Nat.lt_irrefl, true_and, and_self, ↓reduceIte]
 refine condE_split (fun h0 => ?_) (fun h0 => ?_)
 ·simp only [go_sem, Nat.reduceEqDiff, Nat.reduceAdd, Nat.reduceLeDiff, List.length_map, z4, at4, BoxM.at, EvM.at, fillB, Int.reduceLT, Int.reduceLE, Int.reduceToNat, Int.toNat_zero, Int.le_refl, Int.reduceAdd, decide_true, decide_false, wr1, wr2, wr3, wr4, c0, c1, c2, c3, c4, Nat.reduceMul, Nat.reduceLT, Nat.lt_irrefl, true_and, and_self, ↓reduceIte]
  simp_all [smallB, all4, BoxM.at, at4]
 simp only [go_sem, Nat.reduceEqDiff, Nat.reduceAdd, Nat.reduceLeDiff, List.length_map, z4, at4, BoxM.at, EvM.at, fillB, Int.reduceLT, Int.reduceLE, Int.reduceToNat, Int.toNat_zero, Int.le_refl, Int.reduceAdd, decide_true, decide_false, wr1, wr2, wr3, wr4, c0, c1, c2, c3, c4, Nat.reduceMul, Nat.reduceLT, Nat.lt_irrefl, true_and, and_self, ↓reduceIte]
 refine callP_eq rfl rfl (kref3Small (b.at 1)) ?_
 simp only [go_sem, Nat.reduceEqDiff, Nat.reduceAdd, Nat.reduceLeDiff, List.length_map, z4, at4, BoxM.at, EvM.at, fillB, Int.reduceLT, Int.reduceLE, Int.reduceToNat, Int.toNat_zero, Int.le_refl, Int.reduceAdd, decide_true, decide_false, wr1, wr2, wr3, wr4, c0, c1, c2, c3, c4, Nat.reduceMul, Nat.reduceLT, Nat.lt_irrefl, true_and, and_self, ↓reduceIte]
 refine condE_split (fun h1 => ?_) (fun h1 => ?_)
 ·simp only [go_sem, Nat.reduceEqDiff, Nat.reduceAdd, Nat.reduceLeDiff, List.length_map, z4, at4, BoxM.at, EvM.at, fillB, Int.reduceLT, Int.reduceLE, Int.reduceToNat, Int.toNat_zero, Int.le_refl, Int.reduceAdd, decide_true, decide_false, wr1, wr2, wr3, wr4, c0, c1, c2, c3, c4, Nat.reduceMul, Nat.reduceLT, Nat.lt_irrefl, true_and, and_self, ↓reduceIte]
  simp_all [smallB, all4, BoxM.at, at4]
 simp only [go_sem, Nat.reduceEqDiff, Nat.reduceAdd, Nat.reduceLeDiff, List.length_map, z4, at4, BoxM.at, EvM.at, fillB, Int.reduceLT, Int.reduceLE, Int.reduceToNat, Int.toNat_zero, Int.le_refl, Int.reduceAdd, decide_true, decide_false, wr1, wr2, wr3, wr4, c0, c1, c2, c3, c4, Nat.reduceMul, Nat.reduceLT, Nat.lt_irrefl, true_and, and_self, ↓reduceIte]
 refine callP_eq rfl rfl (kref3Small (b.at 2)) ?_
 simp only [go_sem, Nat.reduceEqDiff, Nat.reduceAdd, Nat.reduceLeDiff, List.length_map, z4, at4, BoxM.at, EvM.at, fillB, Int.reduceLT, Int.reduceLE, Int.reduceToNat, Int.toNat_zero, Int.le_refl, Int.reduceAdd, decide_true, decide_false, wr1, wr2, wr3, wr4, c0, c1, c2, c3, c4, Nat.reduceMul, Nat.reduceLT, Nat.lt_irrefl, true_and, and_self, ↓reduceIte]
 refine condE_split (fun h2 => ?_) (fun h2 => ?_)
 ·simp only [go_sem, Nat.reduceEqDiff, Nat.reduceAdd, Nat.reduceLeDiff, List.length_map, z4, at4, BoxM.at, EvM.at, fillB, Int.reduceLT, Int.reduceLE, Int.reduceToNat, Int.toNat_zero, Int.le_refl, Int.reduceAdd, decide_true, decide_false, wr1, wr2, wr3, wr4, c0, c1, c2, c3, c4, Nat.reduceMul, Nat.reduceLT, Nat.lt_irrefl, true_and, and_self, ↓reduceIte]
  simp_all [smallB, all4, BoxM.at, at4]
 simp only [go_sem, Nat.reduceEqDiff, Nat.reduceAdd, Nat.reduceLeDiff, List.length_map, z4, at4, BoxM.at, EvM.at, fillB, Int.reduceLT, Int.reduceLE, Int.reduceToNat, Int.toNat_zero, Int.le_refl, Int.reduceAdd, decide_true, decide_false, wr1, wr2, wr3, wr4, c0, c1, c2, c3, c4, Nat.reduceMul, Nat.reduceLT, Nat.lt_irrefl, true_and, and_self, ↓reduceIte]
 refine callP_eq rfl rfl (kref3Small (b.at 3)) ?_
 simp only [go_sem, Nat.reduceEqDiff, Nat.reduceAdd, Nat.reduceLeDiff, List.length_map, z4, at4, BoxM.at, EvM.at, fillB, Int.reduceLT, Int.reduceLE, Int.reduceToNat, Int.toNat_zero, Int.le_refl, Int.reduceAdd, decide_true, decide_false, wr1, wr2, wr3, wr4, c0, c1, c2, c3, c4, Nat.reduceMul, Nat.reduceLT, Nat.lt_irrefl, true_and, and_self, ↓reduceIte]
 refine condE_split (fun h3 => ?_) (fun h3 => ?_)
 ·simp only [go_sem, Nat.reduceEqDiff, Nat.reduceAdd, Nat.reduceLeDiff, List.length_map, z4, at4, BoxM.at, EvM.at, fillB, Int.reduceLT, Int.reduceLE, Int.reduceToNat, Int.toNat_zero, Int.le_refl, Int.reduceAdd, decide_true, decide_false, wr1, wr2, wr3, wr4, c0, c1, c2, c3, c4, Nat.reduceMul, Nat.reduceLT, Nat.lt_irrefl, true_and, and_self, ↓reduceIte]
  simp_all [smallB, all4, BoxM.at, at4]
 simp only [go_sem, Nat.reduceEqDiff, Nat.reduceAdd, Nat.reduceLeDiff, List.length_map, z4, at4, BoxM.at, EvM.at, fillB, Int.reduceLT, Int.reduceLE, Int.reduceToNat, Int.toNat_zero, Int.le_refl, Int.reduceAdd, decide_true, decide_false, wr1, wr2, wr3, wr4, c0, c1, c2, c3, c4, Nat.reduceMul, Nat.reduceLT, Nat.lt_irrefl, true_and, and_self, ↓reduceIte]
 simp_all [smallB, all4, BoxM.at, at4]
theorem kref4Empty (b : BoxM) : PureAt Tryz.prog 62 [.agg (boxC b)] (· = .val (.bool (emptyB b))) := by
 refine pure_of r62 (by kernel_rfl) ?_
 unfold m62
 simp only [boxC, go_sem, Nat.reduceEqDiff, Nat.reduceAdd, Nat.reduceLeDiff, List.length_map]
 refine ev_loop_u 4 ?_
 simp only [go_sem, Nat.reduceEqDiff, Nat.reduceAdd, Nat.reduceLeDiff, List.length_map, z4, at4, BoxM.at, EvM.at, fillB, Int.reduceLT, Int.reduceLE, Int.reduceToNat, Int.toNat_zero, Int.le_refl, Int.reduceAdd, decide_true, decide_false, wr1, wr2, wr3, wr4, c0, c1, c2, c3, c4, Nat.reduceMul, Nat.reduceLT, Nat.lt_irrefl, true_and, and_self, ↓reduceIte]
 refine callP_eq rfl rfl (kref3Empty (b.at 0)) ?_
 simp only [go_sem, Nat.reduceEqDiff, Nat.reduceAdd, Nat.reduceLeDiff, List.length_map, z4, at4, BoxM.at, EvM.at, fillB, Int.reduceLT, Int.reduceLE, Int.reduceToNat, Int.toNat_zero, Int.le_refl, Int.reduceAdd, decide_true, decide_false, wr1, wr2, wr3, wr4, c0, c1, c2, c3, c4, Nat.reduceMul, Nat.reduceLT, Nat.lt_irrefl, true_and, and_self, ↓reduceIte]
 refine condE_split (fun h0 => ?_) (fun h0 => ?_)
 ·simp only [go_sem, Nat.reduceEqDiff, Nat.reduceAdd, Nat.reduceLeDiff, List.length_map, z4, at4, BoxM.at, EvM.at, fillB, Int.reduceLT, Int.reduceLE, Int.reduceToNat, Int.toNat_zero, Int.le_refl, Int.reduceAdd, decide_true, decide_false, wr1, wr2, wr3, wr4, c0, c1, c2, c3, c4, Nat.reduceMul, Nat.reduceLT, Nat.lt_irrefl, true_and, and_self, ↓reduceIte]
  simp_all [emptyB, all4, BoxM.at, at4]
 simp only [go_sem, Nat.reduceEqDiff, Nat.reduceAdd, Nat.reduceLeDiff, List.length_map, z4, at4, BoxM.at, EvM.at, fillB, Int.reduceLT, Int.reduceLE, Int.reduceToNat, Int.toNat_zero, Int.le_refl, Int.reduceAdd, decide_true, decide_false, wr1, wr2, wr3, wr4, c0, c1, c2, c3, c4, Nat.reduceMul, Nat.reduceLT, Nat.lt_irrefl, true_and, and_self, ↓reduceIte]
 refine callP_eq rfl rfl (kref3Empty (b.at 1)) ?_
 simp only [go_sem, Nat.reduceEqDiff, Nat.reduceAdd, Nat.reduceLeDiff, List.length_map, z4, at4, BoxM.at, EvM.at, fillB, Int.reduceLT, Int.reduceLE, Int.reduceToNat, Int.toNat_zero, Int.le_refl, Int.reduceAdd, decide_true, decide_false, wr1, wr2, wr3, wr4, c0, c1, c2, c3, c4, Nat.reduceMul, Nat.reduceLT, Nat.lt_irrefl, true_and, and_self, ↓reduceIte]
 refine condE_split (fun h1 => ?_) (fun h1 => ?_)
 ·simp only [go_sem, Nat.reduceEqDiff, Nat.reduceAdd, Nat.reduceLeDiff, List.length_map, z4, at4, BoxM.at, EvM.at, fillB, Int.reduceLT, Int.reduceLE, Int.reduceToNat, Int.toNat_zero, Int.le_refl, Int.reduceAdd, decide_true, decide_false, wr1, wr2, wr3, wr4, c0, c1, c2, c3, c4, Nat.reduceMul, Nat.reduceLT, Nat.lt_irrefl, true_and, and_self, ↓reduceIte]
  simp_all [emptyB, all4, BoxM.at, at4]
 simp only [go_sem, Nat.reduceEqDiff, Nat.reduceAdd, Nat.reduceLeDiff, List.length_map, z4, at4, BoxM.at, EvM.at, fillB, Int.reduceLT, Int.reduceLE, Int.reduceToNat, Int.toNat_zero, Int.le_refl, Int.reduceAdd, decide_true, decide_false, wr1, wr2, wr3, wr4, c0, c1, c2, c3, c4, Nat.reduceMul, Nat.reduceLT, Nat.lt_irrefl, true_and, and_self, ↓reduceIte]
 refine callP_eq rfl rfl (kref3Empty (b.at 2)) ?_
 simp only [go_sem, Nat.reduceEqDiff, Nat.reduceAdd, Nat.reduceLeDiff, List.length_map, z4, at4, BoxM.at, EvM.at, fillB, Int.reduceLT, Int.reduceLE, Int.reduceToNat, Int.toNat_zero, Int.le_refl, Int.reduceAdd, decide_true, decide_false, wr1, wr2, wr3, wr4, c0, c1, c2, c3, c4, Nat.reduceMul, Nat.reduceLT, Nat.lt_irrefl, true_and, and_self, ↓reduceIte]
 refine condE_split (fun h2 => ?_) (fun h2 => ?_)
 ·simp only [go_sem, Nat.reduceEqDiff, Nat.reduceAdd, Nat.reduceLeDiff, List.length_map, z4, at4, BoxM.at, EvM.at, fillB, Int.reduceLT, Int.reduceLE, Int.reduceToNat, Int.toNat_zero, Int.le_refl, Int.reduceAdd, decide_true, decide_false, wr1, wr2, wr3, wr4, c0, c1, c2, c3, c4, Nat.reduceMul, Nat.reduceLT, Nat.lt_irrefl, true_and, and_self, ↓reduceIte]
  simp_all [emptyB, all4, BoxM.at, at4]
 simp only [go_sem, Nat.reduceEqDiff, Nat.reduceAdd, Nat.reduceLeDiff, List.length_map, z4, at4, BoxM.at, EvM.at, fillB, Int.reduceLT, Int.reduceLE, Int.reduceToNat, Int.toNat_zero, Int.le_refl, Int.reduceAdd, decide_true, decide_false, wr1, wr2, wr3, wr4, c0, c1, c2, c3, c4, Nat.reduceMul, Nat.reduceLT, Nat.lt_irrefl, true_and, and_self, ↓reduceIte]
 refine callP_eq rfl rfl (kref3Empty (b.at 3)) ?_
 simp only [go_sem, Nat.reduceEqDiff, Nat.reduceAdd, Nat.reduceLeDiff, List.length_map, z4, at4, BoxM.at, EvM.at, fillB, Int.reduceLT, Int.reduceLE, Int.reduceToNat, Int.toNat_zero, Int.le_refl, Int.reduceAdd, decide_true, decide_false, wr1, wr2, wr3, wr4, c0, c1, c2, c3, c4, Nat.reduceMul, Nat.reduceLT, Nat.lt_irrefl, true_and, and_self, ↓reduceIte]
 refine condE_split (fun h3 => ?_) (fun h3 => ?_)
 ·simp only [go_sem, Nat.reduceEqDiff, Nat.reduceAdd, Nat.reduceLeDiff, List.length_map, z4, at4, BoxM.at, EvM.at, fillB, Int.reduceLT, Int.reduceLE, Int.reduceToNat, Int.toNat_zero, Int.le_refl, Int.reduceAdd, decide_true, decide_false, wr1, wr2, wr3, wr4, c0, c1, c2, c3, c4, Nat.reduceMul, Nat.reduceLT, Nat.lt_irrefl, true_and, and_self, ↓reduceIte]
  simp_all [emptyB, all4, BoxM.at, at4]
 simp only [go_sem, Nat.reduceEqDiff, Nat.reduceAdd, Nat.reduceLeDiff, List.length_map, z4, at4, BoxM.at, EvM.at, fillB, Int.reduceLT, Int.reduceLE, Int.reduceToNat, Int.toNat_zero, Int.le_refl, Int.reduceAdd, decide_true, decide_false, wr1, wr2, wr3, wr4, c0, c1, c2, c3, c4, Nat.reduceMul, Nat.reduceLT, Nat.lt_irrefl, true_and, and_self, ↓reduceIte]
 simp_all [emptyB, all4, BoxM.at, at4]
theorem kref4Same (a b : BoxM) (ha : FewB 1000000 a) : PureAt Tryz.prog 51 [.agg (boxC a), .agg (boxC b)] (· = .val (.bool (boxSame a b))) := by
 refine pure_of r51 (by kernel_rfl) ?_
 unfold m51
 simp only [boxC, go_sem, Nat.reduceEqDiff, Nat.reduceAdd, Nat.reduceLeDiff, List.length_map]
 refine ev_loop_u 4 ?_
 simp only [go_sem, Nat.reduceEqDiff, Nat.reduceAdd, Nat.reduceLeDiff, List.length_map, z4, at4, BoxM.at, EvM.at, fillB, Int.reduceLT, Int.reduceLE, Int.reduceToNat, Int.toNat_zero, Int.le_refl, Int.reduceAdd, decide_true, decide_false, wr1, wr2, wr3, wr4, c0, c1, c2, c3, c4, Nat.reduceMul, Nat.reduceLT, Nat.lt_irrefl, true_and, and_self, ↓reduceIte]
 refine callQ_by _ rfl rfl (krefSame3 (a.at 0) (b.at 0) (ha 0 (by omega)).1 (ha 0 (by omega)).2) ?_
 simp only [go_sem, Nat.reduceEqDiff, Nat.reduceAdd, Nat.reduceLeDiff, List.length_map, z4, at4, BoxM.at, EvM.at, fillB, Int.reduceLT, Int.reduceLE, Int.reduceToNat, Int.toNat_zero, Int.le_refl, Int.reduceAdd, decide_true, decide_false, wr1, wr2, wr3, wr4, c0, c1, c2, c3, c4, Nat.reduceMul, Nat.reduceLT, Nat.lt_irrefl, true_and, and_self, ↓reduceIte]
 refine condE_split (fun h0 => ?_) (fun h0 => ?_)
 ·simp only [go_sem, Nat.reduceEqDiff, Nat.reduceAdd, Nat.reduceLeDiff, List.length_map, z4, at4, BoxM.at, EvM.at, fillB, Int.reduceLT, Int.reduceLE, Int.reduceToNat, Int.toNat_zero, Int.le_refl, Int.reduceAdd, decide_true, decide_false, wr1, wr2, wr3, wr4, c0, c1, c2, c3, c4, Nat.reduceMul, Nat.reduceLT, Nat.lt_irrefl, true_and, and_self, ↓reduceIte]
  simp_all [boxSame, all4, sameB, BoxM.at, at4]
 simp only [go_sem, Nat.reduceEqDiff, Nat.reduceAdd, Nat.reduceLeDiff, List.length_map, z4, at4, BoxM.at, EvM.at, fillB, Int.reduceLT, Int.reduceLE, Int.reduceToNat, Int.toNat_zero, Int.le_refl, Int.reduceAdd, decide_true, decide_false, wr1, wr2, wr3, wr4, c0, c1, c2, c3, c4, Nat.reduceMul, Nat.reduceLT, Nat.lt_irrefl, true_and, and_self, ↓reduceIte]
 refine callQ_by _ rfl rfl (krefSame3 (a.at 1) (b.at 1) (ha 1 (by omega)).1 (ha 1 (by omega)).2) ?_
 simp only [go_sem, Nat.reduceEqDiff, Nat.reduceAdd, Nat.reduceLeDiff, List.length_map, z4, at4, BoxM.at, EvM.at, fillB, Int.reduceLT, Int.reduceLE, Int.reduceToNat, Int.toNat_zero, Int.le_refl, Int.reduceAdd, decide_true, decide_false, wr1, wr2, wr3, wr4, c0, c1, c2, c3, c4, Nat.reduceMul, Nat.reduceLT, Nat.lt_irrefl, true_and, and_self, ↓reduceIte]
 refine condE_split (fun h1 => ?_) (fun h1 => ?_)
 ·simp only [go_sem, Nat.reduceEqDiff, Nat.reduceAdd, Nat.reduceLeDiff, List.length_map, z4, at4, BoxM.at, EvM.at, fillB, Int.reduceLT, Int.reduceLE, Int.reduceToNat, Int.toNat_zero, Int.le_refl, Int.reduceAdd, decide_true, decide_false, wr1, wr2, wr3, wr4, c0, c1, c2, c3, c4, Nat.reduceMul, Nat.reduceLT, Nat.lt_irrefl, true_and, and_self, ↓reduceIte]
  simp_all [boxSame, all4, sameB, BoxM.at, at4]
 simp only [go_sem, Nat.reduceEqDiff, Nat.reduceAdd, Nat.reduceLeDiff, List.length_map, z4, at4, BoxM.at, EvM.at, fillB, Int.reduceLT, Int.reduceLE, Int.reduceToNat, Int.toNat_zero, Int.le_refl, Int.reduceAdd, decide_true, decide_false, wr1, wr2, wr3, wr4, c0, c1, c2, c3, c4, Nat.reduceMul, Nat.reduceLT, Nat.lt_irrefl, true_and, and_self, ↓reduceIte]
 refine callQ_by _ rfl rfl (krefSame3 (a.at 2) (b.at 2) (ha 2 (by omega)).1 (ha 2 (by omega)).2) ?_
 simp only [go_sem, Nat.reduceEqDiff, Nat.reduceAdd, Nat.reduceLeDiff, List.length_map, z4, at4, BoxM.at, EvM.at, fillB, Int.reduceLT, Int.reduceLE, Int.reduceToNat, Int.toNat_zero, Int.le_refl, Int.reduceAdd, decide_true, decide_false, wr1, wr2, wr3, wr4, c0, c1, c2, c3, c4, Nat.reduceMul, Nat.reduceLT, Nat.lt_irrefl, true_and, and_self, ↓reduceIte]
 refine condE_split (fun h2 => ?_) (fun h2 => ?_)
 ·simp only [go_sem, Nat.reduceEqDiff, Nat.reduceAdd, Nat.reduceLeDiff, List.length_map, z4, at4, BoxM.at, EvM.at, fillB, Int.reduceLT, Int.reduceLE, Int.reduceToNat, Int.toNat_zero, Int.le_refl, Int.reduceAdd, decide_true, decide_false, wr1, wr2, wr3, wr4, c0, c1, c2, c3, c4, Nat.reduceMul, Nat.reduceLT, Nat.lt_irrefl, true_and, and_self, ↓reduceIte]
  simp_all [boxSame, all4, sameB, BoxM.at, at4]
 simp only [go_sem, Nat.reduceEqDiff, Nat.reduceAdd, Nat.reduceLeDiff, List.length_map, z4, at4, BoxM.at, EvM.at, fillB, Int.reduceLT, Int.reduceLE, Int.reduceToNat, Int.toNat_zero, Int.le_refl, Int.reduceAdd, decide_true, decide_false, wr1, wr2, wr3, wr4, c0, c1, c2, c3, c4, Nat.reduceMul, Nat.reduceLT, Nat.lt_irrefl, true_and, and_self, ↓reduceIte]
 refine callQ_by _ rfl rfl (krefSame3 (a.at 3) (b.at 3) (ha 3 (by omega)).1 (ha 3 (by omega)).2) ?_
 simp only [go_sem, Nat.reduceEqDiff, Nat.reduceAdd, Nat.reduceLeDiff, List.length_map, z4, at4, BoxM.at, EvM.at, fillB, Int.reduceLT, Int.reduceLE, Int.reduceToNat, Int.toNat_zero, Int.le_refl, Int.reduceAdd, decide_true, decide_false, wr1, wr2, wr3, wr4, c0, c1, c2, c3, c4, Nat.reduceMul, Nat.reduceLT, Nat.lt_irrefl, true_and, and_self, ↓reduceIte]
 refine condE_split (fun h3 => ?_) (fun h3 => ?_)
 ·simp only [go_sem, Nat.reduceEqDiff, Nat.reduceAdd, Nat.reduceLeDiff, List.length_map, z4, at4, BoxM.at, EvM.at, fillB, Int.reduceLT, Int.reduceLE, Int.reduceToNat, Int.toNat_zero, Int.le_refl, Int.reduceAdd, decide_true, decide_false, wr1, wr2, wr3, wr4, c0, c1, c2, c3, c4, Nat.reduceMul, Nat.reduceLT, Nat.lt_irrefl, true_and, and_self, ↓reduceIte]
  simp_all [boxSame, all4, sameB, BoxM.at, at4]
 simp only [go_sem, Nat.reduceEqDiff, Nat.reduceAdd, Nat.reduceLeDiff, List.length_map, z4, at4, BoxM.at, EvM.at, fillB, Int.reduceLT, Int.reduceLE, Int.reduceToNat, Int.toNat_zero, Int.le_refl, Int.reduceAdd, decide_true, decide_false, wr1, wr2, wr3, wr4, c0, c1, c2, c3, c4, Nat.reduceMul, Nat.reduceLT, Nat.lt_irrefl, true_and, and_self, ↓reduceIte]
 simp_all [boxSame, all4, sameB, BoxM.at, at4]
theorem kref4In (a b : BoxM) (oa : OKB a) (ob : OKB b) (fa : FewB 400 a) (fb : FewB 400 b) : PureAt Tryz.prog 63 [.agg (boxC a), .agg (boxC b)] (· = .val (.bool (inB4 a b))) := by
 refine pure_of r63 (by kernel_rfl) ?_
 unfold m63
 simp only [boxC, go_sem, Nat.reduceEqDiff, Nat.reduceAdd, Nat.reduceLeDiff, List.length_map]
 refine callP_eq rfl rfl (kref4Empty a) ?_
 simp only [go_sem, Nat.reduceEqDiff, Nat.reduceAdd, Nat.reduceLeDiff, List.length_map]
 refine condE_split (fun he => ?_) (fun he => ?_)
 ·simp only [go_sem, Nat.reduceEqDiff, Nat.reduceAdd, Nat.reduceLeDiff, List.length_map]
  simp [inB4, he]
 simp only [go_sem, Nat.reduceEqDiff, Nat.reduceAdd, Nat.reduceLeDiff, List.length_map]
 refine ev_loop_u 4 ?_
 simp only [go_sem, Nat.reduceEqDiff, Nat.reduceAdd, Nat.reduceLeDiff, List.length_map, z4, at4, BoxM.at, EvM.at, fillB, Int.reduceLT, Int.reduceLE, Int.reduceToNat, Int.toNat_zero, Int.le_refl, Int.reduceAdd, decide_true, decide_false, wr1, wr2, wr3, wr4, c0, c1, c2, c3, c4, Nat.reduceMul, Nat.reduceLT, Nat.lt_irrefl, true_and, and_self, ↓reduceIte]
 refine callQ_by _ rfl rfl (krefIn3' (oa 0 (by omega)) (ob 0 (by omega)) (fa 0 (by omega)) (fb 0 (by omega))) ?_
 simp only [go_sem, Nat.reduceEqDiff, Nat.reduceAdd, Nat.reduceLeDiff, List.length_map, z4, at4, BoxM.at, EvM.at, fillB, Int.reduceLT, Int.reduceLE, Int.reduceToNat, Int.toNat_zero, Int.le_refl, Int.reduceAdd, decide_true, decide_false, wr1, wr2, wr3, wr4, c0, c1, c2, c3, c4, Nat.reduceMul, Nat.reduceLT, Nat.lt_irrefl, true_and, and_self, ↓reduceIte]
 refine condE_split (fun h0 => ?_) (fun h0 => ?_)
 ·simp only [go_sem, Nat.reduceEqDiff, Nat.reduceAdd, Nat.reduceLeDiff, List.length_map, z4, at4, BoxM.at, EvM.at, fillB, Int.reduceLT, Int.reduceLE, Int.reduceToNat, Int.toNat_zero, Int.le_refl, Int.reduceAdd, decide_true, decide_false, wr1, wr2, wr3, wr4, c0, c1, c2, c3, c4, Nat.reduceMul, Nat.reduceLT, Nat.lt_irrefl, true_and, and_self, ↓reduceIte]
  simp_all [inB4, all4, BoxM.at, at4]
 simp only [go_sem, Nat.reduceEqDiff, Nat.reduceAdd, Nat.reduceLeDiff, List.length_map, z4, at4, BoxM.at, EvM.at, fillB, Int.reduceLT, Int.reduceLE, Int.reduceToNat, Int.toNat_zero, Int.le_refl, Int.reduceAdd, decide_true, decide_false, wr1, wr2, wr3, wr4, c0, c1, c2, c3, c4, Nat.reduceMul, Nat.reduceLT, Nat.lt_irrefl, true_and, and_self, ↓reduceIte]
 refine callQ_by _ rfl rfl (krefIn3' (oa 1 (by omega)) (ob 1 (by omega)) (fa 1 (by omega)) (fb 1 (by omega))) ?_
 simp only [go_sem, Nat.reduceEqDiff, Nat.reduceAdd, Nat.reduceLeDiff, List.length_map, z4, at4, BoxM.at, EvM.at, fillB, Int.reduceLT, Int.reduceLE, Int.reduceToNat, Int.toNat_zero, Int.le_refl, Int.reduceAdd, decide_true, decide_false, wr1, wr2, wr3, wr4, c0, c1, c2, c3, c4, Nat.reduceMul, Nat.reduceLT, Nat.lt_irrefl, true_and, and_self, ↓reduceIte]
 refine condE_split (fun h1 => ?_) (fun h1 => ?_)
 ·simp only [go_sem, Nat.reduceEqDiff, Nat.reduceAdd, Nat.reduceLeDiff, List.length_map, z4, at4, BoxM.at, EvM.at, fillB, Int.reduceLT, Int.reduceLE, Int.reduceToNat, Int.toNat_zero, Int.le_refl, Int.reduceAdd, decide_true, decide_false, wr1, wr2, wr3, wr4, c0, c1, c2, c3, c4, Nat.reduceMul, Nat.reduceLT, Nat.lt_irrefl, true_and, and_self, ↓reduceIte]
  simp_all [inB4, all4, BoxM.at, at4]
 simp only [go_sem, Nat.reduceEqDiff, Nat.reduceAdd, Nat.reduceLeDiff, List.length_map, z4, at4, BoxM.at, EvM.at, fillB, Int.reduceLT, Int.reduceLE, Int.reduceToNat, Int.toNat_zero, Int.le_refl, Int.reduceAdd, decide_true, decide_false, wr1, wr2, wr3, wr4, c0, c1, c2, c3, c4, Nat.reduceMul, Nat.reduceLT, Nat.lt_irrefl, true_and, and_self, ↓reduceIte]
 refine callQ_by _ rfl rfl (krefIn3' (oa 2 (by omega)) (ob 2 (by omega)) (fa 2 (by omega)) (fb 2 (by omega))) ?_
 simp only [go_sem, Nat.reduceEqDiff, Nat.reduceAdd, Nat.reduceLeDiff, List.length_map, z4, at4, BoxM.at, EvM.at, fillB, Int.reduceLT, Int.reduceLE, Int.reduceToNat, Int.toNat_zero, Int.le_refl, Int.reduceAdd, decide_true, decide_false, wr1, wr2, wr3, wr4, c0, c1, c2, c3, c4, Nat.reduceMul, Nat.reduceLT, Nat.lt_irrefl, true_and, and_self, ↓reduceIte]
 refine condE_split (fun h2 => ?_) (fun h2 => ?_)
 ·simp only [go_sem, Nat.reduceEqDiff, Nat.reduceAdd, Nat.reduceLeDiff, List.length_map, z4, at4, BoxM.at, EvM.at, fillB, Int.reduceLT, Int.reduceLE, Int.reduceToNat, Int.toNat_zero, Int.le_refl, Int.reduceAdd, decide_true, decide_false, wr1, wr2, wr3, wr4, c0, c1, c2, c3, c4, Nat.reduceMul, Nat.reduceLT, Nat.lt_irrefl, true_and, and_self, ↓reduceIte]
  simp_all [inB4, all4, BoxM.at, at4]
 simp only [go_sem, Nat.reduceEqDiff, Nat.reduceAdd, Nat.reduceLeDiff, List.length_map, z4, at4, BoxM.at, EvM.at, fillB, Int.reduceLT, Int.reduceLE, Int.reduceToNat, Int.toNat_zero, Int.le_refl, Int.reduceAdd, decide_true, decide_false, wr1, wr2, wr3, wr4, c0, c1, c2, c3, c4, Nat.reduceMul, Nat.reduceLT, Nat.lt_irrefl, true_and, and_self, ↓reduceIte]
 refine callQ_by _ rfl rfl (krefIn3' (oa 3 (by omega)) (ob 3 (by omega)) (fa 3 (by omega)) (fb 3 (by omega))) ?_
 simp only [go_sem, Nat.reduceEqDiff, Nat.reduceAdd, Nat.reduceLeDiff, List.length_map, z4, at4, BoxM.at, EvM.at, fillB, Int.reduceLT, Int.reduceLE, Int.reduceToNat, Int.toNat_zero, Int.le_refl, Int.reduceAdd, decide_true, decide_false, wr1, wr2, wr3, wr4, c0, c1, c2, c3, c4, Nat.reduceMul, Nat.reduceLT, Nat.lt_irrefl, true_and, and_self, ↓reduceIte]
 refine condE_split (fun h3 => ?_) (fun h3 => ?_)
 ·simp only [go_sem, Nat.reduceEqDiff, Nat.reduceAdd, Nat.reduceLeDiff, List.length_map, z4, at4, BoxM.at, EvM.at, fillB, Int.reduceLT, Int.reduceLE, Int.reduceToNat, Int.toNat_zero, Int.le_refl, Int.reduceAdd, decide_true, decide_false, wr1, wr2, wr3, wr4, c0, c1, c2, c3, c4, Nat.reduceMul, Nat.reduceLT, Nat.lt_irrefl, true_and, and_self, ↓reduceIte]
  simp_all [inB4, all4, BoxM.at, at4]
 simp only [go_sem, Nat.reduceEqDiff, Nat.reduceAdd, Nat.reduceLeDiff, List.length_map, z4, at4, BoxM.at, EvM.at, fillB, Int.reduceLT, Int.reduceLE, Int.reduceToNat, Int.toNat_zero, Int.le_refl, Int.reduceAdd, decide_true, decide_false, wr1, wr2, wr3, wr4, c0, c1, c2, c3, c4, Nat.reduceMul, Nat.reduceLT, Nat.lt_irrefl, true_and, and_self, ↓reduceIte]
 simp_all [inB4, all4, BoxM.at, at4]
theorem badR_at {l : List Rg} {i : Nat} (hi : i < l.length) (hb : ∀ r ∈ l, InB r) : badR l i = true ↔ l[i].1 > l[i].2 ∨ (0 < i ∧ (l[i].1 ≤ (l[i - 1]'(by omega)).2 ∨ l[i].1 - 1 = (l[i - 1]'(by omega)).2)) := by
 have h1 : l[i]? = some l[i] := List.getElem?_eq_getElem hi
 have h2 : l[i - 1]? = some (l[i - 1]'(by omega)) := List.getElem?_eq_getElem (by omega)
 have b1 := hb _ (List.getElem_mem hi)
 have b2 := hb _ (List.getElem_mem (show i - 1 < l.length by omega))
 unfold badR
 rw [h1]
 simp only
 rw [h2]
 simp only
 generalize l[i] = r at *
 generalize l[i - 1]'(by omega) = q at *
 obtain ⟨⟨b3, b4⟩, b5, b6⟩ := b1
 obtain ⟨⟨b7, b8⟩, b9, b10⟩ := b2
 simp only [Bool.or_eq_true, Bool.and_eq_true, decide_eq_true_eq]
 by_cases hq : q.2 = 9223372036854775807
 ·have : r.1 ≤ q.2 := by omega
  constructor
  ·rintro (h | ⟨h, -⟩)
   ·exact .inl h
   ·exact .inr ⟨h, .inl this⟩
  ·rintro (h | ⟨h, -⟩)
   ·exact .inl h
   ·exact .inr ⟨h, .inl this⟩
 ·rw [wrap64 (by omega) (by omega)]
  constructor
  ·rintro (h | ⟨h, h' | h'⟩)
   ·exact .inl h
   ·exact .inr ⟨h, .inl h'⟩
   ·exact .inr ⟨h, by omega⟩
  ·rintro (h | ⟨h, h'⟩)
   ·exact .inl h
   ·exact .inr ⟨h, by omega⟩
def prefR (s : SetM) (i : Nat) : Prop := ∀ j, j < i → badR s.ints j = false
def prefS (s : SetM) (i : Nat) : Prop := ∀ j, j < i → badS s.strs j = false
theorem nextP {p : Nat → Prop} {i : Nat} (h : ∀ j, j < i → p j) (hi : p i) : ∀ j, j < i + 1 → p j := next4 h hi
theorem wrap_pred {i : Nat} (h0 : 0 < i) (h : i < 1000000) : IntKind.i64.wrap ((i : Int) - 1) = ((i - 1 : Nat) : Int) := by rw [wrap64 (by omega) (by omega)]; omega
set_option maxHeartbeats 2000000 in
theorem ksetRight (s : SetM) (hi : s.ints.length ≤ 100000) (hs : s.strs.length ≤ 100000) (hb : Bnd s) : PureAt Tryz.prog 53 [.agg (setC s)] (· = .val (.bool (rightM s))) := by
 refine pure_of r53 (by kernel_rfl) ?_
 unfold m53
 simp only [setC, go_sem, Nat.reduceEqDiff, Nat.reduceAdd, Nat.reduceLeDiff, List.length_map]
 refine loop_N s.ints.length (prefR s) (fun i => ⟨[(1, .ptr 1 0), (8, .sl none (s.ints.map encR)), (9, .val (.int .i64 s.ints.length)), (10, .val (.int .i64 i))], [(1, setC s)], []⟩) (fun j hj => by omega) (by simp only [setC, go_sem, Nat.reduceEqDiff, Nat.reduceAdd, Nat.reduceLeDiff, List.length_map]; rfl) ?_
 intro i hil hp
 simp only [setC, go_sem, Nat.reduceEqDiff, Nat.reduceAdd, Nat.reduceLeDiff, List.length_map]
 refine condE_split (fun h => ?_) (fun h => ?_)
 ·have hi' : i < s.ints.length := by simpa using h
  have hget : (s.ints.map encR)[i]? = some [.val (.int .i64 s.ints[i].1), .val (.int .i64 s.ints[i].2)] := by simp [encR, hi']
  have hget1 : (s.ints.map encR)[i - 1]? = some [.val (.int .i64 (s.ints[i - 1]'(by omega)).1), .val (.int .i64 (s.ints[i - 1]'(by omega)).2)] := by
   rw [List.getElem?_map, List.getElem?_eq_getElem (by omega)]; rfl
  have bad := badR_at hi' hb
  have b1 := hb _ (List.getElem_mem hi')
  obtain ⟨⟨b3, b4⟩, b5, b6⟩ := b1
  have no : badR s.ints i = true → rightM s = false := fun hx => by unfold rightM okI; rw [allF hi' hx]; rfl
  have yes : badR s.ints i = false → prefR s (i + 1) := fun hx => nextP hp hx
  generalize s.ints[i] = r at *
  generalize s.ints[i - 1]'(by omega) = q at *
  simp only [nn0, Int.toNat_natCast, hget, up64 (show i < 1000000 by omega), go_sem, Nat.reduceEqDiff, Nat.reduceAdd, Nat.reduceLeDiff, List.length_map]
  first | refine condE_split (fun c1 => ?_) (fun c1 => ?_) | refine wantE_split (fun c1 => ?_) (fun c1 => ?_) | refine wantQ_split (fun c1 => ?_) (fun c1 => ?_)
  ·simp only [c1, go_sem, Nat.reduceEqDiff, Nat.reduceAdd, Nat.reduceLeDiff, List.length_map]
   rw [no (bad.2 (.inl (by simpa using c1)))]
  have n1 : ¬ r.1 > r.2 := by simpa using c1
  simp only [c1, go_sem, Nat.reduceEqDiff, Nat.reduceAdd, Nat.reduceLeDiff, List.length_map]
  first | refine condE_split (fun c2 => ?_) (fun c2 => ?_) | refine wantE_split (fun c2 => ?_) (fun c2 => ?_) | refine wantQ_split (fun c2 => ?_) (fun c2 => ?_)
  ·have hpos : 0 < i := by simp at c2; omega
   simp only [c2, wrap_pred hpos (show i < 1000000 by omega), nn0, Int.toNat_natCast, hget1, go_sem, Nat.reduceEqDiff, Nat.reduceAdd, Nat.reduceLeDiff, List.length_map]
   first | refine condE_split (fun c3 => ?_) (fun c3 => ?_) | refine wantE_split (fun c3 => ?_) (fun c3 => ?_) | refine wantQ_split (fun c3 => ?_) (fun c3 => ?_)
   ·simp only [c2, c3, go_sem, Nat.reduceEqDiff, Nat.reduceAdd, Nat.reduceLeDiff, List.length_map]
    rw [no (bad.2 (.inr ⟨hpos, .inl (by simpa using c3)⟩))]
   have n3 : ¬ r.1 ≤ q.2 := by simpa using c3
   by_cases hmin : r.1 = -9223372036854775808
   ·exfalso
    have b2 := hb _ (List.getElem_mem (show i - 1 < s.ints.length by omega))
    have : (s.ints.map encR)[i - 1]? = some (encR (s.ints[i - 1]'(by omega))) := by rw [List.getElem?_map, List.getElem?_eq_getElem (by omega)]; rfl
    rw [hget1] at this
    simp [encR] at this
    obtain ⟨⟨b7, b8⟩, b9, b10⟩ := b2
    omega
   have hw : IntKind.i64.wrap (r.1 - 1) = r.1 - 1 := wrap64 (by omega) (by omega)
   simp only [c2, c3, hw, wrap_pred hpos (show i < 1000000 by omega), nn0, Int.toNat_natCast, hget1, go_sem, Nat.reduceEqDiff, Nat.reduceAdd, Nat.reduceLeDiff, List.length_map]
   refine condE_split (fun c4 => ?_) (fun c4 => ?_)
   ·simp only [go_sem, Nat.reduceEqDiff, Nat.reduceAdd, Nat.reduceLeDiff, List.length_map]
    rw [no (bad.2 (.inr ⟨hpos, .inr (by simpa using c4)⟩))]
   ·simp only [up64 (show i < 1000000 by omega), go_sem, Nat.reduceEqDiff, Nat.reduceAdd, Nat.reduceLeDiff, List.length_map]
    refine invN_next hi' (yes ?_) (by simp only [setC, go_sem, Nat.reduceEqDiff, Nat.reduceAdd, Nat.reduceLeDiff, List.length_map])
    rw [← Bool.not_eq_true, bad]
    have n4 : ¬ r.1 - 1 = q.2 := by simpa using c4
    rintro (h | ⟨-, h | h⟩)
    ·exact n1 h
    ·exact n3 h
    ·exact n4 h
  ·have hz : ¬ 0 < i := by simp at c2; omega
   simp only [c2, up64 (show i < 1000000 by omega), go_sem, Nat.reduceEqDiff, Nat.reduceAdd, Nat.reduceLeDiff, List.length_map]
   refine invN_next hi' (yes ?_) (by simp only [setC, go_sem, Nat.reduceEqDiff, Nat.reduceAdd, Nat.reduceLeDiff, List.length_map])
   rw [← Bool.not_eq_true, bad]
   rintro (h | ⟨h, -⟩)
   ·exact n1 h
   ·exact hz h
 have hil' : i = s.ints.length := by simp at h; omega
 subst hil'
 have okI1 : okI s.ints = true := allT hp
 clear hp
 simp only [setC, go_sem, Nat.reduceEqDiff, Nat.reduceAdd, Nat.reduceLeDiff, List.length_map]
 refine loop_N s.strs.length (prefS s) (fun i => ⟨[(1, .ptr 1 0), (51, .sl none (s.strs.map encSt)), (52, .val (.int .i64 s.strs.length)), (53, .val (.int .i64 i))], [(1, setC s)], []⟩) (fun j hj => by omega) (by simp only [setC, go_sem, Nat.reduceEqDiff, Nat.reduceAdd, Nat.reduceLeDiff, List.length_map]; rfl) ?_
 intro i hil hp
 simp only [setC, go_sem, Nat.reduceEqDiff, Nat.reduceAdd, Nat.reduceLeDiff, List.length_map]
 refine condE_split (fun h => ?_) (fun h => ?_)
 ·have hi' : i < s.strs.length := by simpa using h
  have hget : (s.strs.map encSt)[i]? = some [.val (.string s.strs[i])] := by simp [encSt, hi']
  have hget1 : (s.strs.map encSt)[i - 1]? = some [.val (.string (s.strs[i - 1]'(by omega)))] := by
   rw [List.getElem?_map, List.getElem?_eq_getElem (by omega)]; rfl
  have bad : badS s.strs i = (decide ((s.strs[i].size : Int) > 8) || (decide (0 < i) && !(Op.bytesLess (s.strs[i - 1]'(by omega)).toList s.strs[i].toList))) := by
   unfold badS
   rw [List.getElem?_eq_getElem hi', List.getElem?_eq_getElem (show i - 1 < s.strs.length by omega)]
  have no : badS s.strs i = true → rightM s = false := fun hx => by unfold rightM okS; rw [allF hi' hx, Bool.and_false]
  have yes : badS s.strs i = false → prefS s (i + 1) := fun hx => nextP hp hx
  generalize s.strs[i] = r at *
  generalize s.strs[i - 1]'(by omega) = q at *
  simp only [nn0, Int.toNat_natCast, hget, up64 (show i < 1000000 by omega), go_sem, Nat.reduceEqDiff, Nat.reduceAdd, Nat.reduceLeDiff, List.length_map]
  first | refine condE_split (fun c1 => ?_) (fun c1 => ?_) | refine wantE_split (fun c1 => ?_) (fun c1 => ?_) | refine wantQ_split (fun c1 => ?_) (fun c1 => ?_)
  ·simp only [c1, go_sem, Nat.reduceEqDiff, Nat.reduceAdd, Nat.reduceLeDiff, List.length_map]
   rw [no (by rw [bad]; simp only [c1, Bool.true_or])]
  simp only [c1, go_sem, Nat.reduceEqDiff, Nat.reduceAdd, Nat.reduceLeDiff, List.length_map]
  first | refine condE_split (fun c2 => ?_) (fun c2 => ?_) | refine wantE_split (fun c2 => ?_) (fun c2 => ?_) | refine wantQ_split (fun c2 => ?_) (fun c2 => ?_)
  ·have hpos : 0 < i := by simp at c2; omega
   simp only [c2, wrap_pred hpos (show i < 1000000 by omega), nn0, Int.toNat_natCast, hget1, go_sem, Nat.reduceEqDiff, Nat.reduceAdd, Nat.reduceLeDiff, List.length_map]
   refine condE_split (fun c4 => ?_) (fun c4 => ?_)
   ·simp only [go_sem, Nat.reduceEqDiff, Nat.reduceAdd, Nat.reduceLeDiff, List.length_map]
    rw [no (by rw [bad, c4]; simp [hpos])]
   ·simp only [up64 (show i < 1000000 by omega), go_sem, Nat.reduceEqDiff, Nat.reduceAdd, Nat.reduceLeDiff, List.length_map]
    refine invN_next hi' (yes ?_) (by simp only [setC, go_sem, Nat.reduceEqDiff, Nat.reduceAdd, Nat.reduceLeDiff, List.length_map])
    rw [bad, c1, c4]; simp
  ·have hz : ¬ 0 < i := by simp at c2; omega
   simp only [c2, up64 (show i < 1000000 by omega), go_sem, Nat.reduceEqDiff, Nat.reduceAdd, Nat.reduceLeDiff, List.length_map]
   refine invN_next hi' (yes ?_) (by simp only [setC, go_sem, Nat.reduceEqDiff, Nat.reduceAdd, Nat.reduceLeDiff, List.length_map])
   rw [bad, c1]; simp [hz]
 ·have hil' : i = s.strs.length := by simp at h; omega
  subst hil'
  have okS1 : okS s.strs = true := allT hp
  simp only [go_sem, Nat.reduceEqDiff, Nat.reduceAdd, Nat.reduceLeDiff, List.length_map]
  unfold rightM
  rw [okI1, okS1]; rfl
theorem kboxRight (b : BoxM) (hf : FewB 100000 b) (hb : BndB b) : PureAt Tryz.prog 39 [.agg (boxC b)] (· = .val (.bool (rightB b))) := by
 refine pure_of r39 (by kernel_rfl) ?_
 unfold m39
 simp only [boxC, go_sem, Nat.reduceEqDiff, Nat.reduceAdd, Nat.reduceLeDiff, List.length_map]
 refine ev_loop_u 4 ?_
 simp only [go_sem, Nat.reduceEqDiff, Nat.reduceAdd, Nat.reduceLeDiff, List.length_map, z4, at4, BoxM.at, EvM.at, fillB, Int.reduceLT, Int.reduceLE, Int.reduceToNat, Int.toNat_zero, Int.le_refl, Int.reduceAdd, decide_true, decide_false, wr1, wr2, wr3, wr4, c0, c1, c2, c3, c4, Nat.reduceMul, Nat.reduceLT, Nat.lt_irrefl, true_and, and_self, ↓reduceIte]
 refine callP_eq rfl rfl (ksetRight (b.at 0) (hf 0 (by omega)).1 (hf 0 (by omega)).2 (hb 0 (by omega))) ?_
 simp only [go_sem, Nat.reduceEqDiff, Nat.reduceAdd, Nat.reduceLeDiff, List.length_map, z4, at4, BoxM.at, EvM.at, fillB, Int.reduceLT, Int.reduceLE, Int.reduceToNat, Int.toNat_zero, Int.le_refl, Int.reduceAdd, decide_true, decide_false, wr1, wr2, wr3, wr4, c0, c1, c2, c3, c4, Nat.reduceMul, Nat.reduceLT, Nat.lt_irrefl, true_and, and_self, ↓reduceIte]
 refine condE_split (fun h0 => ?_) (fun h0 => ?_)
 ·simp only [go_sem, Nat.reduceEqDiff, Nat.reduceAdd, Nat.reduceLeDiff, List.length_map, z4, at4, BoxM.at, EvM.at, fillB, Int.reduceLT, Int.reduceLE, Int.reduceToNat, Int.toNat_zero, Int.le_refl, Int.reduceAdd, decide_true, decide_false, wr1, wr2, wr3, wr4, c0, c1, c2, c3, c4, Nat.reduceMul, Nat.reduceLT, Nat.lt_irrefl, true_and, and_self, ↓reduceIte]
  simp_all [rightB, all4, BoxM.at, at4]
 simp only [go_sem, Nat.reduceEqDiff, Nat.reduceAdd, Nat.reduceLeDiff, List.length_map, z4, at4, BoxM.at, EvM.at, fillB, Int.reduceLT, Int.reduceLE, Int.reduceToNat, Int.toNat_zero, Int.le_refl, Int.reduceAdd, decide_true, decide_false, wr1, wr2, wr3, wr4, c0, c1, c2, c3, c4, Nat.reduceMul, Nat.reduceLT, Nat.lt_irrefl, true_and, and_self, ↓reduceIte]
 refine callP_eq rfl rfl (ksetRight (b.at 1) (hf 1 (by omega)).1 (hf 1 (by omega)).2 (hb 1 (by omega))) ?_
 simp only [go_sem, Nat.reduceEqDiff, Nat.reduceAdd, Nat.reduceLeDiff, List.length_map, z4, at4, BoxM.at, EvM.at, fillB, Int.reduceLT, Int.reduceLE, Int.reduceToNat, Int.toNat_zero, Int.le_refl, Int.reduceAdd, decide_true, decide_false, wr1, wr2, wr3, wr4, c0, c1, c2, c3, c4, Nat.reduceMul, Nat.reduceLT, Nat.lt_irrefl, true_and, and_self, ↓reduceIte]
 refine condE_split (fun h1 => ?_) (fun h1 => ?_)
 ·simp only [go_sem, Nat.reduceEqDiff, Nat.reduceAdd, Nat.reduceLeDiff, List.length_map, z4, at4, BoxM.at, EvM.at, fillB, Int.reduceLT, Int.reduceLE, Int.reduceToNat, Int.toNat_zero, Int.le_refl, Int.reduceAdd, decide_true, decide_false, wr1, wr2, wr3, wr4, c0, c1, c2, c3, c4, Nat.reduceMul, Nat.reduceLT, Nat.lt_irrefl, true_and, and_self, ↓reduceIte]
  simp_all [rightB, all4, BoxM.at, at4]
 simp only [go_sem, Nat.reduceEqDiff, Nat.reduceAdd, Nat.reduceLeDiff, List.length_map, z4, at4, BoxM.at, EvM.at, fillB, Int.reduceLT, Int.reduceLE, Int.reduceToNat, Int.toNat_zero, Int.le_refl, Int.reduceAdd, decide_true, decide_false, wr1, wr2, wr3, wr4, c0, c1, c2, c3, c4, Nat.reduceMul, Nat.reduceLT, Nat.lt_irrefl, true_and, and_self, ↓reduceIte]
 refine callP_eq rfl rfl (ksetRight (b.at 2) (hf 2 (by omega)).1 (hf 2 (by omega)).2 (hb 2 (by omega))) ?_
 simp only [go_sem, Nat.reduceEqDiff, Nat.reduceAdd, Nat.reduceLeDiff, List.length_map, z4, at4, BoxM.at, EvM.at, fillB, Int.reduceLT, Int.reduceLE, Int.reduceToNat, Int.toNat_zero, Int.le_refl, Int.reduceAdd, decide_true, decide_false, wr1, wr2, wr3, wr4, c0, c1, c2, c3, c4, Nat.reduceMul, Nat.reduceLT, Nat.lt_irrefl, true_and, and_self, ↓reduceIte]
 refine condE_split (fun h2 => ?_) (fun h2 => ?_)
 ·simp only [go_sem, Nat.reduceEqDiff, Nat.reduceAdd, Nat.reduceLeDiff, List.length_map, z4, at4, BoxM.at, EvM.at, fillB, Int.reduceLT, Int.reduceLE, Int.reduceToNat, Int.toNat_zero, Int.le_refl, Int.reduceAdd, decide_true, decide_false, wr1, wr2, wr3, wr4, c0, c1, c2, c3, c4, Nat.reduceMul, Nat.reduceLT, Nat.lt_irrefl, true_and, and_self, ↓reduceIte]
  simp_all [rightB, all4, BoxM.at, at4]
 simp only [go_sem, Nat.reduceEqDiff, Nat.reduceAdd, Nat.reduceLeDiff, List.length_map, z4, at4, BoxM.at, EvM.at, fillB, Int.reduceLT, Int.reduceLE, Int.reduceToNat, Int.toNat_zero, Int.le_refl, Int.reduceAdd, decide_true, decide_false, wr1, wr2, wr3, wr4, c0, c1, c2, c3, c4, Nat.reduceMul, Nat.reduceLT, Nat.lt_irrefl, true_and, and_self, ↓reduceIte]
 refine callP_eq rfl rfl (ksetRight (b.at 3) (hf 3 (by omega)).1 (hf 3 (by omega)).2 (hb 3 (by omega))) ?_
 simp only [go_sem, Nat.reduceEqDiff, Nat.reduceAdd, Nat.reduceLeDiff, List.length_map, z4, at4, BoxM.at, EvM.at, fillB, Int.reduceLT, Int.reduceLE, Int.reduceToNat, Int.toNat_zero, Int.le_refl, Int.reduceAdd, decide_true, decide_false, wr1, wr2, wr3, wr4, c0, c1, c2, c3, c4, Nat.reduceMul, Nat.reduceLT, Nat.lt_irrefl, true_and, and_self, ↓reduceIte]
 refine condE_split (fun h3 => ?_) (fun h3 => ?_)
 ·simp only [go_sem, Nat.reduceEqDiff, Nat.reduceAdd, Nat.reduceLeDiff, List.length_map, z4, at4, BoxM.at, EvM.at, fillB, Int.reduceLT, Int.reduceLE, Int.reduceToNat, Int.toNat_zero, Int.le_refl, Int.reduceAdd, decide_true, decide_false, wr1, wr2, wr3, wr4, c0, c1, c2, c3, c4, Nat.reduceMul, Nat.reduceLT, Nat.lt_irrefl, true_and, and_self, ↓reduceIte]
  simp_all [rightB, all4, BoxM.at, at4]
 simp only [go_sem, Nat.reduceEqDiff, Nat.reduceAdd, Nat.reduceLeDiff, List.length_map, z4, at4, BoxM.at, EvM.at, fillB, Int.reduceLT, Int.reduceLE, Int.reduceToNat, Int.toNat_zero, Int.le_refl, Int.reduceAdd, decide_true, decide_false, wr1, wr2, wr3, wr4, c0, c1, c2, c3, c4, Nat.reduceMul, Nat.reduceLT, Nat.lt_irrefl, true_and, and_self, ↓reduceIte]
 simp_all [rightB, all4, BoxM.at, at4]
end Go.Proofs

namespace Go.Proofs
open Go.Vm
set_option linter.unusedSimpArgs false
def hidesM (a b : BoxM) (ahead : Bool) : Bool := inB4 a b && (ahead || !inB4 b a)
def needl (l : List BoxM) (i k : Nat) : Bool := decide (k ≠ i) && hidesM (l.getD i allB) (l.getD k allB) (decide ((k : Int) < (i : Int)))
def needM (l : List BoxM) (i n : Nat) : Bool := (List.range n).any (needl l i)
def keepM (l : List BoxM) (i : Nat) : Bool := !emptyB (l.getD i allB) && !needM l i l.length
def tidyI (l : List BoxM) (n : Nat) : List BoxM := ((List.range n).filter (keepM l)).map (l.getD · allB)
def tidyM (l : List BoxM) : List BoxM := tidyI l l.length
theorem needM_succ (l : List BoxM) (i n : Nat) : needM l i (n + 1) = (needM l i n || needl l i n) := by
 simp [needM, List.range_succ]
theorem tidyI_t {l : List BoxM} {n : Nat} (h : keepM l n = true) : tidyI l (n + 1) = tidyI l n ++ [l.getD n allB] := by
 simp [tidyI, List.range_succ, h]
theorem tidyI_f {l : List BoxM} {n : Nat} (h : keepM l n = false) : tidyI l (n + 1) = tidyI l n := by
 simp [tidyI, List.range_succ, h]
theorem tidyI_len (l : List BoxM) (n : Nat) : (tidyI l n).length ≤ n := by
 unfold tidyI
 rw [List.length_map]
 exact Nat.le_trans (List.length_filter_le _ _) (by simp)
theorem int_ne {k i : Nat} : ((k : Int) != (i : Int)) = decide (k ≠ i) := by
 by_cases h : k = i
 ·subst h; simp
 ·simp [h, bne]; omega
theorem khides (a b : BoxM) (x : Bool) (ha : FewB 900 a) (hb : FewB 900 b) : PureAt Tryz.prog 56 [.rp none (boxC a) 0, .rp none (boxC b) 0, .val (.bool x)] (· = .val (.bool (hidesM a b x))) := by
 have p1 := kboxIn a b ha hb
 have p2 := kboxIn b a hb ha
 unfold hidesM
 generalize inB4 a b = u at *
 generalize inB4 b a = v at *
 refine pure_of r56 (by kernel_rfl) ?_
 unfold m56
 simp only [go_sem, Nat.reduceEqDiff, Nat.reduceAdd, Nat.reduceLeDiff, List.length_map]
 refine callQ_by _ rfl rfl (p1) ?_
 simp only [go_sem, Nat.reduceEqDiff, Nat.reduceAdd, Nat.reduceLeDiff, List.length_map]
 cases u <;> cases x
 all_goals simp only [go_sem, Nat.reduceEqDiff, Nat.reduceAdd, Nat.reduceLeDiff, List.length_map]
 refine callQ_by _ rfl rfl (p2) ?_
 simp only [go_sem, Nat.reduceEqDiff, Nat.reduceAdd, Nat.reduceLeDiff, List.length_map]
set_option maxHeartbeats 2000000 in
theorem kTidy (l : List BoxM) (hl : l.length ≤ 10000) (hf : ∀ b ∈ l, FewB 900 b) : PureAt Tryz.prog 41 [.sl none (l.map boxC)] (· = .sl none ((tidyM l).map boxC)) := by
 refine pure_of r41 (by kernel_rfl) ?_
 unfold m41
 simp only [go_sem, Nat.reduceEqDiff, Nat.reduceAdd, Nat.reduceLeDiff, List.length_map]
 refine loop_N l.length (fun _ => True) (fun i => ⟨[(0, .sl none (l.map boxC)), (2, .sl (some (2, 65, 16)) ((tidyI l i).map boxC)), (7, .val (.int .i64 l.length)), (8, .val (.int .i64 i))], [], [((2, 65, 16), true)]⟩) trivial (by simp only [go_sem, Nat.reduceEqDiff, Nat.reduceAdd, Nat.reduceLeDiff, List.length_map]; rfl) ?_
 intro i hil _
 simp only [go_sem, Nat.reduceEqDiff, Nat.reduceAdd, Nat.reduceLeDiff, List.length_map]
 refine condE_split (fun h => ?_) (fun h => ?_)
 ·have hi' : i < l.length := by simpa using h
  have hup := up64 (show i < 1000000 by omega)
  simp only [nn0, Int.toNat_natCast, get_boxC hi', go_sem, Nat.reduceEqDiff, Nat.reduceAdd, Nat.reduceLeDiff, List.length_map]
  refine callP_eq rfl rfl (kboxEmpty _) ?_
  simp only [go_sem, Nat.reduceEqDiff, Nat.reduceAdd, Nat.reduceLeDiff, List.length_map]
  refine condE_split (fun he => ?_) (fun he => ?_)
  ·have hk : keepM l i = false := by unfold keepM; rw [he]; rfl
   simp only [hup, go_sem, Nat.reduceEqDiff, Nat.reduceAdd, Nat.reduceLeDiff, List.length_map]
   refine invN_next hi' trivial ?_
   simp only [tidyI_f hk, go_sem, Nat.reduceEqDiff, Nat.reduceAdd, Nat.reduceLeDiff, List.length_map]
  simp only [go_sem, Nat.reduceEqDiff, Nat.reduceAdd, Nat.reduceLeDiff, List.length_map]
  refine loop_N l.length (fun _ => True) (fun k => ⟨[(0, .sl none (l.map boxC)), (2, .sl (some (2, 65, 16)) ((tidyI l i).map boxC)), (3, .val (.int .i64 i)), (4, .val (.bool (needM l i k))), (7, .val (.int .i64 l.length)), (8, .val (.int .i64 i)), (17, .val (.int .i64 l.length)), (18, .val (.int .i64 k))], [], [((2, 65, 16), true)]⟩) trivial (by simp only [go_sem, Nat.reduceEqDiff, Nat.reduceAdd, Nat.reduceLeDiff, List.length_map]; rfl) ?_
  intro k hkl _
  simp only [go_sem, Nat.reduceEqDiff, Nat.reduceAdd, Nat.reduceLeDiff, List.length_map]
  refine condE_split (fun hk => ?_) (fun hk => ?_)
  ·have hk' : k < l.length := by simpa using hk
   have hup2 := up64 (show k < 1000000 by omega)
   have hs := needM_succ l i k
   have p := khides (l.getD i allB) (l.getD k allB) (decide ((k : Int) < (i : Int))) (hf _ (getD_mem hi')) (hf _ (getD_mem hk'))
   have hn : needl l i k = (decide (k ≠ i) && hidesM (l.getD i allB) (l.getD k allB) (decide ((k : Int) < (i : Int)))) := rfl
   generalize needM l i k = q at *
   cases q
   ·simp only [go_sem, Nat.reduceEqDiff, Nat.reduceAdd, Nat.reduceLeDiff, List.length_map]
    rw [int_ne]
    by_cases hne : k = i
    ·have hne' : decide (k ≠ i) = false := by simp [hne]
     rw [hne'] at hn
     simp only [hne', hup2, go_sem, Nat.reduceEqDiff, Nat.reduceAdd, Nat.reduceLeDiff, List.length_map]
     refine invN_next hk' trivial ?_
     simp only [hs, hn, go_sem, Nat.reduceEqDiff, Nat.reduceAdd, Nat.reduceLeDiff, List.length_map]
    ·have hne' : decide (k ≠ i) = true := by simp [hne]
     rw [hne'] at hn
     simp only [hne', nn0, Int.toNat_natCast, get_boxC hi', get_boxC hk', go_sem, Nat.reduceEqDiff, Nat.reduceAdd, Nat.reduceLeDiff, List.length_map]
     refine callQ_by _ rfl rfl (p) ?_
     simp only [go_sem, Nat.reduceEqDiff, Nat.reduceAdd, Nat.reduceLeDiff, List.length_map]
     simp only [hup2, go_sem, Nat.reduceEqDiff, Nat.reduceAdd, Nat.reduceLeDiff, List.length_map]
     refine invN_next hk' trivial ?_
     simp only [hs, hn, go_sem, Nat.reduceEqDiff, Nat.reduceAdd, Nat.reduceLeDiff, List.length_map]
   ·simp only [hup2, go_sem, Nat.reduceEqDiff, Nat.reduceAdd, Nat.reduceLeDiff, List.length_map]
    refine invN_next hk' trivial ?_
    simp only [hs, Bool.true_or, go_sem, Nat.reduceEqDiff, Nat.reduceAdd, Nat.reduceLeDiff, List.length_map]
  ·have hkl' : k = l.length := by simp at hk; omega
   subst hkl'
   simp only [go_sem, Nat.reduceEqDiff, Nat.reduceAdd, Nat.reduceLeDiff, List.length_map]
   refine condE_split (fun hn => ?_) (fun hn => ?_)
   ·have hkeep : keepM l i = true := by unfold keepM; rw [he]; exact hn
    simp only [nn0, Int.toNat_natCast, get_boxC hi', go_sem, Nat.reduceEqDiff, Nat.reduceAdd, Nat.reduceLeDiff, List.length_map]
    have := tidyI_len l i
    refine ⟨rows_boxC _, by intro e he; simp at he; subst he; rfl, by omega, by omega, ?_⟩
    simp only [hup, go_sem, Nat.reduceEqDiff, Nat.reduceAdd, Nat.reduceLeDiff, List.length_map]
    refine invN_next hi' trivial ?_
    simp only [tidyI_t hkeep, List.map_append, go_sem, Nat.reduceEqDiff, Nat.reduceAdd, Nat.reduceLeDiff, List.length_map]
   ·have hkeep : keepM l i = false := by unfold keepM; rw [he]; exact hn
    simp only [hup, go_sem, Nat.reduceEqDiff, Nat.reduceAdd, Nat.reduceLeDiff, List.length_map]
    refine invN_next hi' trivial ?_
    simp only [tidyI_f hkeep, go_sem, Nat.reduceEqDiff, Nat.reduceAdd, Nat.reduceLeDiff, List.length_map]
 ·have hil' : i = l.length := by simp at h; omega
  subst hil'
  simp only [go_sem, Nat.reduceEqDiff, Nat.reduceAdd, Nat.reduceLeDiff, List.length_map]
  rfl
end Go.Proofs

namespace Go.Proofs
open Go.Vm
set_option linter.unusedSimpArgs false
def fineB (b : BoxM) : Bool := rightB b && smallB b
def rightF (l : List BoxM) : Bool := decide (l.length ≤ 4) && l.all fineB && decide ((tidyM l).length = l.length)
def prefF (l : List BoxM) (i : Nat) : Prop := ∀ j, j < i → fineB (l.getD j allB) = true
theorem all_pref {l : List BoxM} (h : prefF l l.length) : l.all fineB = true := by
 rw [List.all_eq_true]
 intro b hb
 obtain ⟨j, hj, rfl⟩ := List.getElem_of_mem hb
 rw [← getD_at hj]; exact h j hj
theorem all_not {l : List BoxM} {i : Nat} (hi : i < l.length) (h : fineB (l.getD i allB) = false) : l.all fineB = false := by
 rw [List.all_eq_false]
 exact ⟨_, getD_mem hi, by rw [h]; simp⟩
theorem small_few {b : BoxM} (h : smallB b = true) : FewB 6 b := fun i hi => by
 have := all4_iff.1 h i hi
 simp [smallM] at this
 exact this
theorem int_eq {m n : Nat} : ((m : Int) == (n : Int)) = decide (m = n) := by
 by_cases h : m = n
 ·subst h; simp
 ·simp [h]; omega
theorem int_le4 {n : Nat} : (decide ((n : Int) > 4)) = !decide (n ≤ 4) := by
 by_cases h : n ≤ 4 <;> simp [h] <;> omega
set_option maxHeartbeats 2000000 in
theorem kdnfRight (l : List BoxM) (hl : l.length ≤ 10000) (hf : ∀ b ∈ l, FewB 900 b) (hb : ∀ b ∈ l, BndB b) : PureAt Tryz.prog 24 [.sl none (l.map boxC)] (· = .val (.bool (rightF l))) := by
 refine pure_of r24 (by kernel_rfl) ?_
 unfold m24
 simp only [int_le4, go_sem, Nat.reduceEqDiff, Nat.reduceAdd, Nat.reduceLeDiff, List.length_map]
 refine condE_split (fun h4 => ?_) (fun h4 => ?_)
 ·simp only [go_sem, Nat.reduceEqDiff, Nat.reduceAdd, Nat.reduceLeDiff, List.length_map]
  have : decide (l.length ≤ 4) = false := by simpa using h4
  unfold rightF
  rw [this]; rfl
 have h4' : decide (l.length ≤ 4) = true := by simpa using h4
 simp only [go_sem, Nat.reduceEqDiff, Nat.reduceAdd, Nat.reduceLeDiff, List.length_map]
 refine loop_N l.length (prefF l) (fun i => ⟨[(0, .sl none (l.map boxC)), (8, .sl none (l.map boxC)), (9, .val (.int .i64 l.length)), (10, .val (.int .i64 i))], [], []⟩) (fun j hj => by omega) (by simp only [go_sem, Nat.reduceEqDiff, Nat.reduceAdd, Nat.reduceLeDiff, List.length_map]; rfl) ?_
 intro i hil hp
 simp only [go_sem, Nat.reduceEqDiff, Nat.reduceAdd, Nat.reduceLeDiff, List.length_map]
 refine condE_split (fun h => ?_) (fun h => ?_)
 ·have hi' : i < l.length := by simpa using h
  have hup := up64 (show i < 1000000 by omega)
  have hm := getD_mem hi'
  simp only [nn0, Int.toNat_natCast, get_boxC hi', go_sem, Nat.reduceEqDiff, Nat.reduceAdd, Nat.reduceLeDiff, List.length_map]
  have p1 := kboxRight (l.getD i allB) (fun j hj => ⟨by have := (hf _ hm j hj).1; omega, by have := (hf _ hm j hj).2; omega⟩) (hb _ hm)
  have p2 := kboxSmall (l.getD i allB)
  have no : fineB (l.getD i allB) = false → rightF l = false := fun hx => by unfold rightF; rw [all_not hi' hx]; simp
  have yes : fineB (l.getD i allB) = true → prefF l (i + 1) := fun hx => nextP hp hx
  unfold fineB at no yes
  generalize rightB (l.getD i allB) = x at *
  generalize smallB (l.getD i allB) = y at *
  refine callP_eq rfl rfl p1 ?_
  cases x
  ·simp only [go_sem, Nat.reduceEqDiff, Nat.reduceAdd, Nat.reduceLeDiff, List.length_map]
   rw [no rfl]
  simp only [go_sem, Nat.reduceEqDiff, Nat.reduceAdd, Nat.reduceLeDiff, List.length_map]
  refine callP_eq rfl rfl p2 ?_
  cases y
  ·simp only [go_sem, Nat.reduceEqDiff, Nat.reduceAdd, Nat.reduceLeDiff, List.length_map]
   rw [no rfl]
  simp only [hup, go_sem, Nat.reduceEqDiff, Nat.reduceAdd, Nat.reduceLeDiff, List.length_map]
  exact invN_next hi' (yes rfl) (by simp only [go_sem, Nat.reduceEqDiff, Nat.reduceAdd, Nat.reduceLeDiff, List.length_map])
 ·have hil' : i = l.length := by simp at h; omega
  subst hil'
  simp only [go_sem, Nat.reduceEqDiff, Nat.reduceAdd, Nat.reduceLeDiff, List.length_map]
  refine callP_eq rfl rfl (kTidy l hl hf) ?_
  simp only [int_eq, go_sem, Nat.reduceEqDiff, Nat.reduceAdd, Nat.reduceLeDiff, List.length_map]
  unfold rightF
  rw [all_pref hp, h4']; simp
set_option maxHeartbeats 4000000 in
theorem krefTidy (l : List BoxM) (hl : l.length ≤ 10000) (hf : ∀ b ∈ l, FewB 400 b) (ho : ∀ b ∈ l, OKB b) : PureAt Tryz.prog 46 [.sl none (l.map boxC)] (· = .sl none ((tidyM l).map boxC)) := by
 refine pure_of r46 (by kernel_rfl) ?_
 unfold m46
 simp only [go_sem, Nat.reduceEqDiff, Nat.reduceAdd, Nat.reduceLeDiff, List.length_map]
 refine loop_N l.length (fun _ => True) (fun i => ⟨[(0, .sl none (l.map boxC)), (3, .sl (some (3, 65, 16)) ((tidyI l i).map boxC)), (4, .val (.int .i64 i))], [], [((3, 65, 16), true)]⟩) trivial (by simp only [go_sem, Nat.reduceEqDiff, Nat.reduceAdd, Nat.reduceLeDiff, List.length_map]; rfl) ?_
 intro i hil _
 simp only [go_sem, Nat.reduceEqDiff, Nat.reduceAdd, Nat.reduceLeDiff, List.length_map]
 refine condE_split (fun h => ?_) (fun h => ?_)
 ·have hi' : i < l.length := by simpa using h
  have hup := up64 (show i < 1000000 by omega)
  have mi := getD_mem hi'
  simp only [nn0, Int.toNat_natCast, get_boxC hi', go_sem, Nat.reduceEqDiff, Nat.reduceAdd, Nat.reduceLeDiff, List.length_map]
  refine callP_eq rfl rfl (kref4Empty _) ?_
  simp only [go_sem, Nat.reduceEqDiff, Nat.reduceAdd, Nat.reduceLeDiff, List.length_map]
  refine loop_N l.length (fun _ => True) (fun k => ⟨[(0, .sl none (l.map boxC)), (3, .sl (some (3, 65, 16)) ((tidyI l i).map boxC)), (4, .val (.int .i64 i)), (5, .val (.bool (!emptyB (l.getD i allB) && !needM l i k))), (6, .val (.int .i64 k))], [], [((3, 65, 16), true)]⟩) trivial (by simp only [needM, List.range_zero, List.any_nil, go_sem, Nat.reduceEqDiff, Nat.reduceAdd, Nat.reduceLeDiff, List.length_map]; rfl) ?_
  intro k hkl _
  simp only [go_sem, Nat.reduceEqDiff, Nat.reduceAdd, Nat.reduceLeDiff, List.length_map]
  refine condE_split (fun hk => ?_) (fun hk => ?_)
  ·have hk' : k < l.length := by simpa using hk
   have hup2 := up64 (show k < 1000000 by omega)
   have mk := getD_mem hk'
   have hs := needM_succ l i k
   have p1 := kref4In (l.getD i allB) (l.getD k allB) (ho _ mi) (ho _ mk) (hf _ mi) (hf _ mk)
   have p2 := kref4In (l.getD k allB) (l.getD i allB) (ho _ mk) (ho _ mi) (hf _ mk) (hf _ mi)
   have hn : needl l i k = (decide (k ≠ i) && (inB4 (l.getD i allB) (l.getD k allB) && (decide ((k : Int) < (i : Int)) || !inB4 (l.getD k allB) (l.getD i allB)))) := rfl
   generalize inB4 (l.getD i allB) (l.getD k allB) = u at *
   generalize inB4 (l.getD k allB) (l.getD i allB) = v at *
   generalize (!emptyB (l.getD i allB)) = em at *
   generalize needM l i k = q at *
   by_cases hne : k = i
   ·have hne' : decide (k ≠ i) = false := by simp [hne]
    rw [hne'] at hn
    simp only [int_ne, hne', hup2, go_sem, Nat.reduceEqDiff, Nat.reduceAdd, Nat.reduceLeDiff, List.length_map]
    refine invN_next hk' trivial ?_
    simp only [hs, hn, go_sem, Nat.reduceEqDiff, Nat.reduceAdd, Nat.reduceLeDiff, List.length_map]
   have hne' : decide (k ≠ i) = true := by simp [hne]
   rw [hne'] at hn
   simp only [int_ne, hne', go_sem, Nat.reduceEqDiff, Nat.reduceAdd, Nat.reduceLeDiff, List.length_map]
   have hs' : needM l i (k + 1) = (q || (u && (decide ((k : Int) < (i : Int)) || !v))) := by rw [hs, hn, Bool.true_and]
   clear hs hn
   cases hem : (em && !q)
   ·simp only [hup2, go_sem, Nat.reduceEqDiff, Nat.reduceAdd, Nat.reduceLeDiff, List.length_map]
    refine invN_next hk' trivial ?_
    have : (em && !(q || (u && (decide ((k : Int) < (i : Int)) || !v)))) = false := by
     cases em <;> cases q <;> simp_all
    simp only [hs', this, go_sem, Nat.reduceEqDiff, Nat.reduceAdd, Nat.reduceLeDiff, List.length_map]
   obtain ⟨rfl, rfl⟩ : em = true ∧ q = false := by cases em <;> cases q <;> simp_all
   simp only [nn0, Int.toNat_natCast, get_boxC hi', get_boxC hk', go_sem, Nat.reduceEqDiff, Nat.reduceAdd, Nat.reduceLeDiff, List.length_map]
   refine callQ_by _ rfl rfl (p1) ?_
   simp only [go_sem, Nat.reduceEqDiff, Nat.reduceAdd, Nat.reduceLeDiff, List.length_map]
   cases u
   ·simp only [hup2, go_sem, Nat.reduceEqDiff, Nat.reduceAdd, Nat.reduceLeDiff, List.length_map]
    refine invN_next hk' trivial ?_
    simp only [hs', go_sem, Nat.reduceEqDiff, Nat.reduceAdd, Nat.reduceLeDiff, List.length_map]
   simp only [go_sem, Nat.reduceEqDiff, Nat.reduceAdd, Nat.reduceLeDiff, List.length_map]
   generalize decide ((k : Int) < (i : Int)) = w at *
   cases w
   ·simp only [nn0, Int.toNat_natCast, get_boxC hi', get_boxC hk', go_sem, Nat.reduceEqDiff, Nat.reduceAdd, Nat.reduceLeDiff, List.length_map]
    refine callQ_by _ rfl rfl (p2) ?_
    simp only [go_sem, Nat.reduceEqDiff, Nat.reduceAdd, Nat.reduceLeDiff, List.length_map]
    cases v
    all_goals
     simp only [hup2, go_sem, Nat.reduceEqDiff, Nat.reduceAdd, Nat.reduceLeDiff, List.length_map]
     refine invN_next hk' trivial ?_
     simp only [hs', go_sem, Nat.reduceEqDiff, Nat.reduceAdd, Nat.reduceLeDiff, List.length_map]
   ·simp only [hup2, go_sem, Nat.reduceEqDiff, Nat.reduceAdd, Nat.reduceLeDiff, List.length_map]
    refine invN_next hk' trivial ?_
    simp only [hs', go_sem, Nat.reduceEqDiff, Nat.reduceAdd, Nat.reduceLeDiff, List.length_map]
  ·have hkl' : k = l.length := by simp at hk; omega
   subst hkl'
   simp only [go_sem, Nat.reduceEqDiff, Nat.reduceAdd, Nat.reduceLeDiff, List.length_map]
   refine condE_split (fun hn => ?_) (fun hn => ?_)
   ·have hkeep : keepM l i = true := hn
    simp only [nn0, Int.toNat_natCast, get_boxC hi', go_sem, Nat.reduceEqDiff, Nat.reduceAdd, Nat.reduceLeDiff, List.length_map]
    have := tidyI_len l i
    refine ⟨rows_boxC _, by intro e he; simp at he; subst he; rfl, by omega, by omega, ?_⟩
    simp only [hup, go_sem, Nat.reduceEqDiff, Nat.reduceAdd, Nat.reduceLeDiff, List.length_map]
    refine invN_next hi' trivial ?_
    simp only [tidyI_t hkeep, List.map_append, go_sem, Nat.reduceEqDiff, Nat.reduceAdd, Nat.reduceLeDiff, List.length_map]
   ·have hkeep : keepM l i = false := hn
    simp only [hup, go_sem, Nat.reduceEqDiff, Nat.reduceAdd, Nat.reduceLeDiff, List.length_map]
    refine invN_next hi' trivial ?_
    simp only [tidyI_f hkeep, go_sem, Nat.reduceEqDiff, Nat.reduceAdd, Nat.reduceLeDiff, List.length_map]
 ·have hil' : i = l.length := by simp at h; omega
  subst hil'
  simp only [go_sem, Nat.reduceEqDiff, Nat.reduceAdd, Nat.reduceLeDiff, List.length_map]
  rfl
set_option maxHeartbeats 2000000 in
theorem kref6Right (l : List BoxM) (hl : l.length ≤ 10000) (hf : ∀ b ∈ l, FewB 1000000 b) (hb : ∀ b ∈ l, BndB b) : PureAt Tryz.prog 31 [.sl none (l.map boxC)] (· = .val (.bool (rightF l))) := by
 refine pure_of r31 (by kernel_rfl) ?_
 unfold m31
 simp only [go_sem, Nat.reduceEqDiff, Nat.reduceAdd, Nat.reduceLeDiff, List.length_map]
 refine loop_N l.length (prefF l) (fun i => ⟨[(0, .sl none (l.map boxC)), (3, .val (.int .i64 i))], [], []⟩) (fun j hj => by omega) (by simp only [go_sem, Nat.reduceEqDiff, Nat.reduceAdd, Nat.reduceLeDiff, List.length_map]; rfl) ?_
 intro i hil hp
 simp only [go_sem, Nat.reduceEqDiff, Nat.reduceAdd, Nat.reduceLeDiff, List.length_map]
 refine condE_split (fun h => ?_) (fun h => ?_)
 ·have hi' : i < l.length := by simpa using h
  have hup := up64 (show i < 1000000 by omega)
  have hm := getD_mem hi'
  simp only [nn0, Int.toNat_natCast, get_boxC hi', go_sem, Nat.reduceEqDiff, Nat.reduceAdd, Nat.reduceLeDiff, List.length_map]
  have p1 := krefRight4 (l.getD i allB) (hf _ hm)
  have p2 := kref4Small (l.getD i allB)
  have no : fineB (l.getD i allB) = false → rightF l = false := fun hx => by unfold rightF; rw [all_not hi' hx]; simp
  have yes : fineB (l.getD i allB) = true → prefF l (i + 1) := fun hx => nextP hp hx
  unfold fineB at no yes
  generalize rightB (l.getD i allB) = x at *
  generalize smallB (l.getD i allB) = y at *
  refine callP_eq rfl rfl p1 ?_
  cases x
  ·simp only [go_sem, Nat.reduceEqDiff, Nat.reduceAdd, Nat.reduceLeDiff, List.length_map]
   rw [no rfl]
  simp only [nn0, Int.toNat_natCast, get_boxC hi', go_sem, Nat.reduceEqDiff, Nat.reduceAdd, Nat.reduceLeDiff, List.length_map]
  refine callP_eq rfl rfl p2 ?_
  cases y
  ·simp only [go_sem, Nat.reduceEqDiff, Nat.reduceAdd, Nat.reduceLeDiff, List.length_map]
   rw [no rfl]
  simp only [hup, go_sem, Nat.reduceEqDiff, Nat.reduceAdd, Nat.reduceLeDiff, List.length_map]
  exact invN_next hi' (yes rfl) (by simp only [go_sem, Nat.reduceEqDiff, Nat.reduceAdd, Nat.reduceLeDiff, List.length_map])
 ·have hil' : i = l.length := by simp at h; omega
  subst hil'
  have ha := all_pref hp
  have ok : ∀ b ∈ l, OKB b ∧ FewB 6 b := fun b hm => by
   have := List.all_eq_true.1 ha b hm
   simp only [fineB, Bool.and_eq_true] at this
   exact ⟨(rightB_iff (hb b hm)).1 this.1, small_few this.2⟩
  simp only [go_sem, Nat.reduceEqDiff, Nat.reduceAdd, Nat.reduceLeDiff, List.length_map]
  have e4 : decide ((l.length : Int) ≤ 4) = decide (l.length ≤ 4) := by rw [decide_eq_decide]; omega
  rw [e4]
  cases h4 : decide (l.length ≤ 4)
  ·simp only [go_sem, Nat.reduceEqDiff, Nat.reduceAdd, Nat.reduceLeDiff, List.length_map]
   unfold rightF
   rw [h4]; rfl
  ·simp only [go_sem, Nat.reduceEqDiff, Nat.reduceAdd, Nat.reduceLeDiff, List.length_map]
   refine callP_eq rfl rfl (krefTidy l hl (fun b hm => (ok b hm).2.mono (by omega)) (fun b hm => (ok b hm).1)) ?_
   simp only [int_eq, go_sem, Nat.reduceEqDiff, Nat.reduceAdd, Nat.reduceLeDiff, List.length_map]
   unfold rightF
   rw [ha, h4]; simp
def sameF (l m : List BoxM) : Bool := decide (l.length = m.length) && (List.range l.length).all fun i => boxSame (l.getD i allB) (m.getD i allB)
theorem kref6Same (l m : List BoxM) (hl : l.length ≤ 10000) (hf : ∀ b ∈ l, FewB 1000000 b) : PureAt Tryz.prog 36 [.sl none (l.map boxC), .sl none (m.map boxC)] (· = .val (.bool (sameF l m))) := by
 refine pure_of r36 (by kernel_rfl) ?_
 unfold m36 sameF
 simp only [int_ne, go_sem, Nat.reduceEqDiff, Nat.reduceAdd, Nat.reduceLeDiff, List.length_map]
 refine condE_split (fun h0 => ?_) (fun h0 => ?_)
 ·simp only [go_sem, Nat.reduceEqDiff, Nat.reduceAdd, Nat.reduceLeDiff, List.length_map]
  have : ¬ l.length = m.length := by simpa using h0
  simp [this]
 have h0 : l.length = m.length := by simpa using h0
 simp only [go_sem, Nat.reduceEqDiff, Nat.reduceAdd, Nat.reduceLeDiff, List.length_map]
 refine loop_N l.length (fun i => ∀ j, j < i → boxSame (l.getD j allB) (m.getD j allB) = true) (fun i => ⟨[(0, .sl none (l.map boxC)), (1, .sl none (m.map boxC)), (5, .val (.int .i64 i))], [], []⟩) (fun j hj => by omega) (by simp only [go_sem, Nat.reduceEqDiff, Nat.reduceAdd, Nat.reduceLeDiff, List.length_map]; rfl) ?_
 intro i hil hp
 simp only [go_sem, Nat.reduceEqDiff, Nat.reduceAdd, Nat.reduceLeDiff, List.length_map]
 refine condE_split (fun h => ?_) (fun h => ?_)
 ·have hi' : i < l.length := by simpa using h
  have hi2 : i < m.length := by omega
  have hup := up64 (show i < 1000000 by omega)
  simp only [nn0, Int.toNat_natCast, get_boxC hi', get_boxC hi2, go_sem, Nat.reduceEqDiff, Nat.reduceAdd, Nat.reduceLeDiff, List.length_map]
  refine callQ_by _ rfl rfl (kref4Same _ _ (hf _ (getD_mem hi'))) ?_
  simp only [go_sem, Nat.reduceEqDiff, Nat.reduceAdd, Nat.reduceLeDiff, List.length_map]
  refine condE_split (fun h2 => ?_) (fun h2 => ?_)
  ·simp only [go_sem, Nat.reduceEqDiff, Nat.reduceAdd, Nat.reduceLeDiff, List.length_map]
   have : ((List.range l.length).all fun i => boxSame (l.getD i allB) (m.getD i allB)) = false := by
    rw [List.all_eq_false]; exact ⟨i, List.mem_range.2 hi', by simpa using h2⟩
   rw [this, Bool.and_false]
  ·simp only [hup, go_sem, Nat.reduceEqDiff, Nat.reduceAdd, Nat.reduceLeDiff, List.length_map]
   exact invN_next hi' (nextP hp (by simpa using h2)) (by simp only [go_sem, Nat.reduceEqDiff, Nat.reduceAdd, Nat.reduceLeDiff, List.length_map])
 ·have hil' : i = l.length := by simp at h; omega
  subst hil'
  simp only [go_sem, Nat.reduceEqDiff, Nat.reduceAdd, Nat.reduceLeDiff, List.length_map]
  have : ((List.range l.length).all fun i => boxSame (l.getD i allB) (m.getD i allB)) = true := by
   rw [List.all_eq_true]; intro i hi; exact hp i (List.mem_range.1 hi)
  rw [this]; simp [h0]
def few6 (l : List BoxM) : Bool := decide (l.length ≤ 20) && few4 l
theorem kref6Few (l : List BoxM) (hl : l.length ≤ maxLen) : PureAt Tryz.prog 23 [.sl none (l.map boxC)] (· = .val (.bool (few6 l))) := by
 refine pure_of r23 (by kernel_rfl) ?_
 unfold m23 few6
 simp only [go_sem, Nat.reduceEqDiff, Nat.reduceAdd, Nat.reduceLeDiff, List.length_map]
 have e4 : decide ((l.length : Int) ≤ 20) = decide (l.length ≤ 20) := by rw [decide_eq_decide]; omega
 rw [e4]
 cases h4 : decide (l.length ≤ 20)
 ·simp only [go_sem, Nat.reduceEqDiff, Nat.reduceAdd, Nat.reduceLeDiff, List.length_map]
 ·simp only [go_sem, Nat.reduceEqDiff, Nat.reduceAdd, Nat.reduceLeDiff, List.length_map]
  refine callP_eq rfl rfl (krefFew4 l (by simp at h4; omega)) ?_
  simp only [go_sem, Nat.reduceEqDiff, Nat.reduceAdd, Nat.reduceLeDiff, List.length_map]
def hasF (l : List BoxM) (e : EvM) : Bool := l.any fun b => hasB b e
theorem kref6Has (l : List BoxM) (e : EvM) (hl : l.length ≤ 10000) (hf : ∀ b ∈ l, FewB 1000000 b) : PureAt Tryz.prog 11 [.sl none (l.map boxC), .agg (evC e)] (· = .val (.bool (hasF l e))) := by
 refine pure_of r11 (by kernel_rfl) ?_
 unfold m11 hasF
 simp only [evC, go_sem, Nat.reduceEqDiff, Nat.reduceAdd, Nat.reduceLeDiff, List.length_map]
 refine loop_N l.length (fun i => ∀ j, j < i → hasB (l.getD j allB) e = false) (fun i => ⟨[(0, .sl none (l.map boxC)), (3, .ptr 3 0), (5, .val (.int .i64 i))], [(3, evC e)], []⟩) (fun j hj => by omega) (by simp only [evC, go_sem, Nat.reduceEqDiff, Nat.reduceAdd, Nat.reduceLeDiff, List.length_map]; rfl) ?_
 intro i hil hp
 simp only [go_sem, Nat.reduceEqDiff, Nat.reduceAdd, Nat.reduceLeDiff, List.length_map]
 refine condE_split (fun h => ?_) (fun h => ?_)
 ·have hi' : i < l.length := by simpa using h
  have hup := up64 (show i < 1000000 by omega)
  simp only [nn0, Int.toNat_natCast, get_boxC hi', evC, go_sem, Nat.reduceEqDiff, Nat.reduceAdd, Nat.reduceLeDiff, List.length_map]
  refine callQ_by _ rfl rfl (krefHas4 _ e (hf _ (getD_mem hi'))) ?_
  simp only [go_sem, Nat.reduceEqDiff, Nat.reduceAdd, Nat.reduceLeDiff, List.length_map]
  refine condE_split (fun h2 => ?_) (fun h2 => ?_)
  ·simp only [go_sem, Nat.reduceEqDiff, Nat.reduceAdd, Nat.reduceLeDiff, List.length_map]
   have : (l.any fun b => hasB b e) = true := List.any_eq_true.2 ⟨_, getD_mem hi', h2⟩
   rw [this]
  ·simp only [hup, go_sem, Nat.reduceEqDiff, Nat.reduceAdd, Nat.reduceLeDiff, List.length_map]
   exact invN_next hi' (nextP hp h2) (by simp only [evC, go_sem, Nat.reduceEqDiff, Nat.reduceAdd, Nat.reduceLeDiff, List.length_map])
 ·have hil' : i = l.length := by simp at h; omega
  subst hil'
  simp only [go_sem, Nat.reduceEqDiff, Nat.reduceAdd, Nat.reduceLeDiff, List.length_map]
  have : (l.any fun b => hasB b e) = false := by
   rw [List.any_eq_false]
   intro b hb
   obtain ⟨j, hj, rfl⟩ := List.getElem_of_mem hb
   rw [← getD_at hj, hp j hj]; simp
  rw [this]
theorem kIndexFuncB (f : FuncId) (caps : List D) (hz : frzL caps = some caps) (ht : tagsL caps = []) (xs : List BoxM) (hx : xs.length ≤ 100000) (p : BoxM → Bool) (hf : ∀ r, r ∈ xs → PureAt Tryz.prog f (.agg (boxC r) :: caps) (· = .val (.bool (p r)))) :
    PureAt Tryz.prog 64 [.sl none (xs.map boxC), .fn f [] caps] (· = .val (.int .i64 (idxOf p xs))) := by
 refine pure_of r64 (by kernel_rfl) ?_
 unfold m64
 simp only [go_sem, Nat.reduceEqDiff, Nat.reduceAdd, Nat.reduceLeDiff, List.length_map]
 refine loop_N xs.length (fun i => ∀ j, j < i → p (xs.getD j allB) = false) (fun i => ⟨[(0, .sl none (xs.map boxC)), (1, .fn f [] caps), (7, .val (.int .i64 xs.length)), (8, .val (.int .i64 i))], [], []⟩) (fun j hj => by omega) (by simp only [go_sem, Nat.reduceEqDiff, Nat.reduceAdd, Nat.reduceLeDiff, List.length_map]; rfl) ?_
 intro i hil hp
 simp only [go_sem, Nat.reduceEqDiff, Nat.reduceAdd, Nat.reduceLeDiff, List.length_map]
 refine condE_split (fun h => ?_) (fun h => ?_)
 ·have hi' : i < xs.length := by simpa using h
  have hup := up64 (show i < 1000000 by omega)
  simp only [nn0, Int.toNat_natCast, get_boxC hi', go_sem, Nat.reduceEqDiff, Nat.reduceAdd, Nat.reduceLeDiff, List.length_map]
  refine callP_eq (d := .val (.bool (p (xs.getD i allB)))) (fs := .agg (boxC (xs.getD i allB)) :: caps) (by simp only [hz, go_sem, Nat.reduceEqDiff, Nat.reduceAdd, Nat.reduceLeDiff, List.length_map]) (by simp only [liveAll, ht, go_sem, Nat.reduceEqDiff, Nat.reduceAdd, Nat.reduceLeDiff, List.length_map]) (hf _ (getD_mem hi')) ?_
  simp only [ht, List.append_nil, go_sem, Nat.reduceEqDiff, Nat.reduceAdd, Nat.reduceLeDiff, List.length_map]
  refine condE_split (fun h2 => ?_) (fun h2 => ?_)
  ·simp only [go_sem, Nat.reduceEqDiff, Nat.reduceAdd, Nat.reduceLeDiff, List.length_map]
   congr 3
   have ha : xs.any p = true := List.any_eq_true.2 ⟨_, getD_mem hi', h2⟩
   rw [idxOf, if_pos ha]
   have := (List.findIdx_eq hi').2 ⟨by rw [← getD_at hi']; exact h2, fun j hj => by have := hp j hj; rw [getD_at (by omega)] at this; simp [this]⟩
   rw [this]
  ·simp only [hup, go_sem, Nat.reduceEqDiff, Nat.reduceAdd, Nat.reduceLeDiff, List.length_map]
   exact invN_next hi' (nextP hp h2) (by simp only [go_sem, Nat.reduceEqDiff, Nat.reduceAdd, Nat.reduceLeDiff, List.length_map])
 ·have hil' : i = xs.length := by simp at h; omega
  subst hil'
  simp only [go_sem, Nat.reduceEqDiff, Nat.reduceAdd, Nat.reduceLeDiff, List.length_map]
  have ha : ¬ xs.any p = true := by
   intro ha
   obtain ⟨x, hx, hpx⟩ := List.any_eq_true.1 ha
   obtain ⟨j, hj, rfl⟩ := List.getElem_of_mem hx
   have := hp j hj
   rw [getD_at hj, hpx] at this; cases this
  rw [idxOf, if_neg ha]
theorem kContainsFuncB (f : FuncId) (caps : List D) (hz : frzL caps = some caps) (ht : tagsL caps = []) (xs : List BoxM) (hx : xs.length ≤ 100000) (p : BoxM → Bool) (hf : ∀ r, r ∈ xs → PureAt Tryz.prog f (.agg (boxC r) :: caps) (· = .val (.bool (p r)))) :
    PureAt Tryz.prog 48 [.sl none (xs.map boxC), .fn f [] caps] (· = .val (.bool (xs.any p))) := by
 refine pure_of r48 (by kernel_rfl) ?_
 unfold m48
 simp only [go_sem, Nat.reduceEqDiff, Nat.reduceAdd, Nat.reduceLeDiff, List.length_map]
 refine callP_eq (fs := [.sl none (xs.map boxC), .fn f [] caps]) (by simp only [hz, go_sem, Nat.reduceEqDiff, Nat.reduceAdd, Nat.reduceLeDiff, List.length_map]) (by simp only [liveAll, ht, go_sem, Nat.reduceEqDiff, Nat.reduceAdd, Nat.reduceLeDiff, List.length_map]) (kIndexFuncB f caps hz ht xs hx p hf) ?_
 simp only [ht, List.append_nil, idxOf_nonneg, go_sem, Nat.reduceEqDiff, Nat.reduceAdd, Nat.reduceLeDiff, List.length_map]
theorem kdnfHasF (b : BoxM) (e : EvM) (hf : FewB 1000000 b) : PureAt Tryz.prog 49 [.agg (boxC b), .rp none (evC e) 0] (· = .val (.bool (hasB b e))) := by
 refine pure_of r49 (by kernel_rfl) ?_
 unfold m49
 simp only [evC, go_sem, Nat.reduceEqDiff, Nat.reduceAdd, Nat.reduceLeDiff, List.length_map]
 refine callP_eq rfl rfl (kboxHas b e hf) ?_
 simp only [go_sem, Nat.reduceEqDiff, Nat.reduceAdd, Nat.reduceLeDiff, List.length_map]
theorem kdnfHas (l : List BoxM) (e : EvM) (hl : l.length ≤ 10000) (hf : ∀ b ∈ l, FewB 1000000 b) : PureAt Tryz.prog 35 [.sl none (l.map boxC), .agg (evC e)] (· = .val (.bool (hasF l e))) := by
 refine pure_of r35 (by kernel_rfl) ?_
 unfold m35
 simp only [evC, go_sem, Nat.reduceEqDiff, Nat.reduceAdd, Nat.reduceLeDiff, List.length_map]
 refine callP_eq rfl rfl (kContainsFuncB 49 [.rp none (evC e) 0] rfl rfl l (by omega) (fun b => hasB b e) (fun b hb => kdnfHasF b e (hf b hb))) ?_
 simp only [go_sem, Nat.reduceEqDiff, Nat.reduceAdd, Nat.reduceLeDiff, List.length_map]
 rfl
end Go.Proofs
