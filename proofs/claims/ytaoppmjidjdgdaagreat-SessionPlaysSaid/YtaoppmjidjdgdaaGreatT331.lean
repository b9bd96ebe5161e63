/- A part of the proof; what is proved stands in the last text. -/
import Derived.Test.YtaoppmjidjdgdaaGreatMS
set_option linter.unusedVariables false
set_option maxRecDepth 2000
namespace Go.Proofs
open Go.Vm
set_option linter.unusedSimpArgs false
theorem nnS (i : Nat) : (0 ≤ (i : Int)) = True := by simp
theorem leS (i n : Nat) : ((i : Int) ≤ (n : Int)) = (i ≤ n) := by simp
def tE : Tag := (900001, 44, 3)
def tInt : Tag := (900002, 3, 1)
theorem mid_eq {es : List (List D)} {i : Nat} (hi : i < es.length) : es.take i ++ (es.drop (i + 1)).take (es.length - (i + 1)) ++ es.drop (i + (es.length - (i + 1))) = es.eraseIdx i ++ es.drop (es.length - 1) := by
 have h1 : (es.drop (i + 1)).take (es.length - (i + 1)) = es.drop (i + 1) := List.take_of_length_le (by simp)
 rw [h1, List.eraseIdx_eq_take_drop_succ, show i + (es.length - (i + 1)) = es.length - 1 by omega]
theorem end_eq {es z : List (List D)} {i : Nat} (hi : i < es.length) : (((es.eraseIdx i ++ es.drop (es.length - 1)).take (es.length - 1) ++ z ++ (es.eraseIdx i ++ es.drop (es.length - 1)).drop es.length).take (es.length - 1)) = es.eraseIdx i := by
 have h2 : (es.eraseIdx i).length = es.length - 1 := by rw [List.length_eraseIdx, if_pos hi]
 rw [List.append_assoc, ← h2, List.take_left, List.take_left]
set_option maxHeartbeats 4000000 in
theorem kDeleteE (es : List (List D)) (i : Nat) (hl : es.length ≤ 1000000) (hi : i < es.length) :
    ObjAt Tryz.prog 27 ⟨[(0, .sl (some tE) es), (1, .val (.int .i64 i)), (2, .val (.int .i64 ((i + 1 : Nat) : Int)))], [], [(tE, true)]⟩ 3 (fun r hp tg => r = .sl (some tE) (es.eraseIdx i) ∧ hp = [] ∧ tg = [(tE, true)]) := by
 refine obj_of [] [tE] r27 (by kernel_rfl) ?_
 unfold m27
 have hne : ((i : Int) == ((i + 1 : Nat) : Int)) = false := by simp; omega
 simp only [tE, go_sem, Nat.reduceEqDiff, Nat.reduceAdd, Nat.reduceLeDiff, List.length_map, Int.reduceLT, Int.reduceLE, Int.reduceToNat, Int.toNat_zero, Int.le_refl, Int.reduceAdd, decide_true, decide_false, Nat.reduceMul, Nat.reduceLT, Nat.lt_irrefl, true_and, and_self, ↓reduceIte]
 refine slc3S_by es.length (i + 1) i ?_ ?_ ?_ ?_ ?_
 ·simp only [go_sem, Nat.reduceEqDiff, Nat.reduceAdd, Nat.reduceLeDiff, List.length_map, Int.reduceLT, Int.reduceLE, Int.reduceToNat, Int.toNat_zero, Int.le_refl, Int.reduceAdd, decide_true, decide_false, Nat.reduceMul, Nat.reduceLT, Nat.lt_irrefl, true_and, and_self, ↓reduceIte]
 ·simp only [nnS, Int.toNat_natCast, go_sem, Nat.reduceEqDiff, Nat.reduceAdd, Nat.reduceLeDiff, List.length_map, Int.reduceLT, Int.reduceLE, Int.reduceToNat, Int.toNat_zero, Int.le_refl, Int.reduceAdd, decide_true, decide_false, Nat.reduceMul, Nat.reduceLT, Nat.lt_irrefl, true_and, and_self, ↓reduceIte]
 ·simp only [nnS, leS, Int.toNat_natCast, hi, go_sem, Nat.reduceEqDiff, Nat.reduceAdd, Nat.reduceLeDiff, List.length_map, Int.reduceLT, Int.reduceLE, Int.reduceToNat, Int.toNat_zero, Int.le_refl, Int.reduceAdd, decide_true, decide_false, Nat.reduceMul, Nat.reduceLT, Nat.lt_irrefl, true_and, and_self, ↓reduceIte]
  rw [if_pos (by omega)]
 ·simp only [nnS, leS, Int.toNat_natCast, go_sem, Nat.reduceEqDiff, Nat.reduceAdd, Nat.reduceLeDiff, List.length_map, Int.reduceLT, Int.reduceLE, Int.reduceToNat, Int.toNat_zero, Int.le_refl, Int.reduceAdd, decide_true, decide_false, Nat.reduceMul, Nat.reduceLT, Nat.lt_irrefl, true_and, and_self, ↓reduceIte]
  rw [if_pos (by omega)]
 have q1 : (i ≤ es.length) = True := by simp; omega
 have q2 : (i + 1 ≤ es.length) = True := by simp; omega
 have q3 : (0 < es.length) = True := by simp; omega
 have q4 : i + (es.length - (i + 1)) = es.length - 1 := by omega
 have q5 : (es.length - 1 ≤ es.length) = True := by simp
 have q6 : i + 1 + (es.length - (i + 1)) = es.length := by omega
 simp only [tE, hne, nnS, leS, Int.toNat_natCast, q1, q2, q3, q4, q5, q6, Nat.sub_zero, Nat.zero_add, Nat.le_refl, go_sem, Nat.reduceEqDiff, Nat.reduceAdd, Nat.reduceLeDiff, List.length_map, Int.reduceLT, Int.reduceLE, Int.reduceToNat, Int.toNat_zero, Int.le_refl, Int.reduceAdd, decide_true, decide_false, Nat.reduceMul, Nat.reduceLT, Nat.lt_irrefl, true_and, and_self, ↓reduceIte]
 have hm := mid_eq hi
 rw [q4] at hm
 rw [hm]
 have hend : ∀ z, (((es.eraseIdx i ++ es.drop (es.length - 1)).take (es.length - 1) ++ z ++ (es.eraseIdx i ++ es.drop (es.length - 1)).drop es.length).take (es.length - 1)) = es.eraseIdx i := fun z => end_eq hi
 have hL : (es.eraseIdx i ++ es.drop (es.length - 1)).length = es.length := by rw [List.length_append, List.length_drop, List.length_eraseIdx, if_pos hi]; omega
 clear hm
 generalize es.eraseIdx i ++ es.drop (es.length - 1) = M at *
 have q7 : es.length - (es.length - 1) = 1 := by omega
 have q8 : es.length - 1 + 1 = es.length := by omega
 have q9 : (List.take (es.length - 1) M ++ List.replicate 1 [D.val (Value.int IntKind.i64 0), D.sl none [], D.val (Value.int IntKind.u64 0)] ++ List.drop es.length M).length = es.length := by
  simp; omega
 simp only [tE, hL, nnS, leS, Int.toNat_natCast, q3, q5, q7, q8, q9, Nat.sub_zero, Nat.zero_add, Nat.le_refl, List.all_cons, List.all_nil, hend, go_sem, Nat.reduceEqDiff, Nat.reduceAdd, Nat.reduceLeDiff, List.length_map, Int.reduceLT, Int.reduceLE, Int.reduceToNat, Int.toNat_zero, Int.le_refl, Int.reduceAdd, decide_true, decide_false, Nat.reduceMul, Nat.reduceLT, Nat.lt_irrefl, true_and, and_self, ↓reduceIte]
def oHp (n : Int) (es M gs : List (List D)) : List (Nat × List D) := [(1000000, [.val (.int .i64 n), .sl (some tE) es, .mh 11000000, .sl (some tInt) gs]), (11000000, [.mpc M, .undef, .undef])]
def tgS : List (Tag × Bool) := [(tE, true), (tInt, true)]
def tgI : List (Tag × Bool) := [(tInt, true), (tE, true)]
set_option maxHeartbeats 4000000 in
theorem kCloneE (n : Int) (es M gs : List (List D)) (hl : es.length ≤ 1000000) (he : ∀ e ∈ es, e.length = 3) :
    ObjAt Tryz.prog 28 ⟨[(0, .sl (some tE) es)], oHp n es M gs, tgS⟩ 1 (fun r hp tg => r = .sl none es ∧ hp = oHp n es M gs ∧ tg = tgS) := by
 refine obj_of [1000000, 11000000] [tE, tInt] r28 (by kernel_rfl) ?_
 unfold m28
 simp only [tE, tInt, oHp, tgS, go_sem, Nat.reduceEqDiff, Nat.reduceAdd, Nat.reduceLeDiff, List.length_map, Int.reduceLT, Int.reduceLE, Int.reduceToNat, Int.toNat_zero, Int.le_refl, Int.reduceAdd, decide_true, decide_false, Nat.reduceMul, Nat.reduceLT, Nat.lt_irrefl, true_and, and_self, ↓reduceIte]
 intro b hb
 refine condE_split (fun h => ?_) (fun h => ?_)
 ·have : es = [] := by simp_all
  subst this
  simp only [tE, tInt, oHp, tgS, St.fz, go_sem, Nat.reduceEqDiff, Nat.reduceAdd, Nat.reduceLeDiff, List.length_map, Int.reduceLT, Int.reduceLE, Int.reduceToNat, Int.toNat_zero, Int.le_refl, Int.reduceAdd, decide_true, decide_false, Nat.reduceMul, Nat.reduceLT, Nat.lt_irrefl, true_and, and_self, ↓reduceIte]
  rfl
 ·simp only [tE, tInt, oHp, tgS, List.length_append, List.nil_append, go_sem, Nat.reduceEqDiff, Nat.reduceAdd, Nat.reduceLeDiff, List.length_map, Int.reduceLT, Int.reduceLE, Int.reduceToNat, Int.toNat_zero, Int.le_refl, Int.reduceAdd, decide_true, decide_false, Nat.reduceMul, Nat.reduceLT, Nat.lt_irrefl, true_and, and_self, ↓reduceIte]
  simp only [Nat.zero_add]
  refine ⟨he, by omega, by omega, ?_⟩
  simp only [St.fz]
  simp only [tE, tInt, oHp, tgS, go_sem, Nat.reduceEqDiff, Nat.reduceAdd, Nat.reduceLeDiff, List.length_map, Int.reduceLT, Int.reduceLE, Int.reduceToNat, Int.toNat_zero, Int.le_refl, Int.reduceAdd, decide_true, decide_false, Nat.reduceMul, Nat.reduceLT, Nat.lt_irrefl, true_and, and_self, ↓reduceIte]
  rfl
set_option maxHeartbeats 4000000 in
theorem kCloneInt (n : Int) (es M gs : List (List D)) (hl : gs.length ≤ 1000000) (he : ∀ e ∈ gs, e.length = 1) :
    ObjAt Tryz.prog 30 ⟨[(0, .sl (some tInt) gs)], oHp n es M gs, tgI⟩ 1 (fun r hp tg => r = .sl none gs ∧ hp = oHp n es M gs ∧ tg = tgI) := by
 refine obj_of [1000000, 11000000] [tInt, tE] r30 (by kernel_rfl) ?_
 unfold m30
 simp only [tE, tInt, oHp, tgI, go_sem, Nat.reduceEqDiff, Nat.reduceAdd, Nat.reduceLeDiff, List.length_map, Int.reduceLT, Int.reduceLE, Int.reduceToNat, Int.toNat_zero, Int.le_refl, Int.reduceAdd, decide_true, decide_false, Nat.reduceMul, Nat.reduceLT, Nat.lt_irrefl, true_and, and_self, ↓reduceIte]
 intro b hb
 refine condE_split (fun h => ?_) (fun h => ?_)
 ·have : gs = [] := by simp_all
  subst this
  simp only [tE, tInt, oHp, tgI, St.fz, go_sem, Nat.reduceEqDiff, Nat.reduceAdd, Nat.reduceLeDiff, List.length_map, Int.reduceLT, Int.reduceLE, Int.reduceToNat, Int.toNat_zero, Int.le_refl, Int.reduceAdd, decide_true, decide_false, Nat.reduceMul, Nat.reduceLT, Nat.lt_irrefl, true_and, and_self, ↓reduceIte]
  rfl
 ·simp only [tE, tInt, oHp, tgI, List.length_append, List.nil_append, go_sem, Nat.reduceEqDiff, Nat.reduceAdd, Nat.reduceLeDiff, List.length_map, Int.reduceLT, Int.reduceLE, Int.reduceToNat, Int.toNat_zero, Int.le_refl, Int.reduceAdd, decide_true, decide_false, Nat.reduceMul, Nat.reduceLT, Nat.lt_irrefl, true_and, and_self, ↓reduceIte]
  simp only [Nat.zero_add]
  refine ⟨he, by omega, by omega, ?_⟩
  simp only [St.fz]
  simp only [tE, tInt, oHp, tgI, go_sem, Nat.reduceEqDiff, Nat.reduceAdd, Nat.reduceLeDiff, List.length_map, Int.reduceLT, Int.reduceLE, Int.reduceToNat, Int.toNat_zero, Int.le_refl, Int.reduceAdd, decide_true, decide_false, Nat.reduceMul, Nat.reduceLT, Nat.lt_irrefl, true_and, and_self, ↓reduceIte]
  rfl
theorem kNew : ObjAt Tryz.prog 7 ⟨[], [], []⟩ 0 (fun r hp tg => r = .ptr 3 0 ∧ hp = [(3, [.val (.int .i64 0), .sl (some (3, 44, 3)) [], .mh 10000001, .sl (some (3, 3, 1)) []]), (10000001, [.mpc [], .undef, .undef])] ∧ tg = [((3, 44, 3), true), ((3, 3, 1), true)]) := by
 refine obj_of [3, 10000001] [(3, 44, 3), (3, 3, 1)] r7 (by kernel_rfl) ?_
 unfold m7
 simp only [Value.oneCell', List.map_cons, List.map_nil, go_sem, Nat.reduceEqDiff, Nat.reduceAdd, Nat.reduceLeDiff, List.length_map, Int.reduceLT, Int.reduceLE, Int.reduceToNat, Int.toNat_zero, Int.le_refl, Int.reduceAdd, decide_true, decide_false, Nat.reduceMul, Nat.reduceLT, Nat.lt_irrefl, true_and, and_self, ↓reduceIte]
end Go.Proofs
