/- A part of the proof; what is proved stands in the last text. -/
import Derived.Test.YtdfpmolkpkpboaaDoorVLF
import Derived.Test.YtdfpmolkpkpboaaDoorT317
import Derived.Test.YtdfpmolkpkpboaaDoorMVn
set_option linter.unusedVariables false
set_option maxRecDepth 2000
namespace Go.Proofs
open Go.Vm
set_option linter.unusedSimpArgs false
def nameN (i : Int) : ByteArray := if i = 0 then ⟨#[97]⟩ else if i = 1 then ⟨#[98]⟩ else if i = 2 then ⟨#[99]⟩ else if i = 3 then ⟨#[100]⟩ else ⟨#[]⟩
theorem name_out {i : Int} (h : i < 0 ∨ 4 ≤ i) : nameN i = ⟨#[]⟩ := by
 unfold nameN
 rw [if_neg (by omega), if_neg (by omega), if_neg (by omega), if_neg (by omega)]
theorem in4 {i : Int} (h : ¬ (i < 0 ∨ 4 ≤ i)) : i = 0 ∨ i = 1 ∨ i = 2 ∨ i = 3 := by omega
theorem kLaidN : ObjAt Tryd.prog 31 ⟨[(0, .val (.pointer none))], [], []⟩ 1 (fun r hp tg => r = .ptr 6 0 ∧ hp = [(6, nmsL 10000012), (10000012, nmB)] ∧ tg = []) := by
 refine obj_of [6, 10000012] [] r31n (by kernel_rfl) ?_
 unfold m31n
 simp only [Value.oneCell', List.map_cons, List.map_nil, go_sem, Nat.reduceEqDiff, Nat.reduceAdd, Nat.reduceLeDiff, List.length_map, Int.reduceLT, Int.reduceLE, Int.reduceToNat, Int.toNat_zero, Int.le_refl, Int.reduceAdd, decide_true, decide_false, Nat.reduceMul, Nat.reduceLT, Nat.lt_irrefl, true_and, and_self, ↓reduceIte]
 refine callO_eq rfl rfl rfl rfl rfl kOnceF ?_
 simp only [nmsL, nmC, nmB, nmR, go_sem, Nat.reduceEqDiff, Nat.reduceAdd, Nat.reduceLeDiff, List.length_map, Int.reduceLT, Int.reduceLE, Int.reduceToNat, Int.toNat_zero, Int.le_refl, Int.reduceAdd, decide_true, decide_false, Nat.reduceMul, Nat.reduceLT, Nat.lt_irrefl, true_and, and_self, ↓reduceIte]
theorem kNameA (i : Int) : ObjAt Tryd.prog 14 ⟨[(0, .ptr 1000000 0), (1, .val (.int .i64 i))], [(1000000, nmsL 11000000), (11000000, nmB)], []⟩ 2 (fun r hp tg => r = .val (.string (nameN i)) ∧ hp = [(1000000, nmsL 11000000), (11000000, nmB)] ∧ tg = []) := by
 refine obj_of [1000000, 11000000] [] r14a (by kernel_rfl) ?_
 unfold m14a
 by_cases h : i < 0 ∨ 4 ≤ i
 ·rw [name_out h]
  by_cases h0 : i < 0
  ·simp only [nmsL, nmC, nmB, nmR, h0, ge_iff_le, gt_iff_lt, go_sem, Nat.reduceEqDiff, Nat.reduceAdd, Nat.reduceLeDiff, List.length_map, Int.reduceLT, Int.reduceLE, Int.reduceToNat, Int.toNat_zero, Int.le_refl, Int.reduceAdd, decide_true, decide_false, Nat.reduceMul, Nat.reduceLT, Nat.lt_irrefl, true_and, and_self, ↓reduceIte]
  ·have h4 : 4 ≤ i := by omega
   simp only [nmsL, nmC, nmB, nmR, h0, h4, ge_iff_le, gt_iff_lt, go_sem, Nat.reduceEqDiff, Nat.reduceAdd, Nat.reduceLeDiff, List.length_map, Int.reduceLT, Int.reduceLE, Int.reduceToNat, Int.toNat_zero, Int.le_refl, Int.reduceAdd, decide_true, decide_false, Nat.reduceMul, Nat.reduceLT, Nat.lt_irrefl, true_and, and_self, ↓reduceIte]
 ·rcases in4 h with rfl | rfl | rfl | rfl
  all_goals
   simp only [nmsL, nmC, nmB, nmR, ge_iff_le, gt_iff_lt, go_sem, Nat.reduceEqDiff, Nat.reduceAdd, Nat.reduceLeDiff, List.length_map, Int.reduceLT, Int.reduceLE, Int.reduceToNat, Int.toNat_zero, Int.le_refl, Int.reduceAdd, decide_true, decide_false, Nat.reduceMul, Nat.reduceLT, Nat.lt_irrefl, true_and, and_self, ↓reduceIte]
   refine callO_eq rfl rfl rfl rfl rfl kLaidA ?_
   simp only [nmsL, nmC, nmB, nmR, n4i, go_sem, Nat.reduceEqDiff, Nat.reduceAdd, Nat.reduceLeDiff, List.length_map, Int.reduceLT, Int.reduceLE, Int.reduceToNat, Int.toNat_zero, Int.le_refl, Int.reduceAdd, decide_true, decide_false, Nat.reduceMul, Nat.reduceLT, Nat.lt_irrefl, true_and, and_self, ↓reduceIte]
   rfl
theorem kNameN (i : Int) : PureAt Tryd.prog 14 [.val (.pointer none), .val (.int .i64 i)] (· = .val (.string (nameN i))) := by
 refine pure_of r14n (by kernel_rfl) ?_
 unfold m14n
 by_cases h : i < 0 ∨ 4 ≤ i
 ·rw [name_out h]
  by_cases h0 : i < 0
  ·simp only [h0, ge_iff_le, gt_iff_lt, go_sem, Nat.reduceEqDiff, Nat.reduceAdd, Nat.reduceLeDiff, List.length_map, Int.reduceLT, Int.reduceLE, Int.reduceToNat, Int.toNat_zero, Int.le_refl, Int.reduceAdd, decide_true, decide_false, Nat.reduceMul, Nat.reduceLT, Nat.lt_irrefl, true_and, and_self, ↓reduceIte]
  ·have h4 : 4 ≤ i := by omega
   simp only [h0, h4, ge_iff_le, gt_iff_lt, go_sem, Nat.reduceEqDiff, Nat.reduceAdd, Nat.reduceLeDiff, List.length_map, Int.reduceLT, Int.reduceLE, Int.reduceToNat, Int.toNat_zero, Int.le_refl, Int.reduceAdd, decide_true, decide_false, Nat.reduceMul, Nat.reduceLT, Nat.lt_irrefl, true_and, and_self, ↓reduceIte]
 ·rcases in4 h with rfl | rfl | rfl | rfl
  all_goals
   simp only [ge_iff_le, gt_iff_lt, go_sem, Nat.reduceEqDiff, Nat.reduceAdd, Nat.reduceLeDiff, List.length_map, Int.reduceLT, Int.reduceLE, Int.reduceToNat, Int.toNat_zero, Int.le_refl, Int.reduceAdd, decide_true, decide_false, Nat.reduceMul, Nat.reduceLT, Nat.lt_irrefl, true_and, and_self, ↓reduceIte]
   refine callO_eq rfl rfl rfl rfl rfl kLaidN ?_
   simp only [nmsL, nmC, nmB, nmR, n4i, go_sem, Nat.reduceEqDiff, Nat.reduceAdd, Nat.reduceLeDiff, List.length_map, Int.reduceLT, Int.reduceLE, Int.reduceToNat, Int.toNat_zero, Int.le_refl, Int.reduceAdd, decide_true, decide_false, Nat.reduceMul, Nat.reduceLT, Nat.lt_irrefl, true_and, and_self, ↓reduceIte]
   rfl
theorem kAttrN (s : ByteArray) : PureAt Tryd.prog 15 [.val (.pointer none), .val (.string s)] (· = .val (.int .i64 (attrN s))) := by
 refine pure_of r15n (by kernel_rfl) ?_
 unfold m15n
 unfold attrN
 simp only [go_sem, Nat.reduceEqDiff, Nat.reduceAdd, Nat.reduceLeDiff, List.length_map, Int.reduceLT, Int.reduceLE, Int.reduceToNat, Int.toNat_zero, Int.le_refl, Int.reduceAdd, decide_true, decide_false, Nat.reduceMul, Nat.reduceLT, Nat.lt_irrefl, true_and, and_self, ↓reduceIte]
 refine callO_eq rfl rfl rfl rfl rfl kLaidN ?_
 simp only [nmsL, nmC, nmB, nmR, findE, tl1, go_sem, Nat.reduceEqDiff, Nat.reduceAdd, Nat.reduceLeDiff, List.length_map, Int.reduceLT, Int.reduceLE, Int.reduceToNat, Int.toNat_zero, Int.le_refl, Int.reduceAdd, decide_true, decide_false, Nat.reduceMul, Nat.reduceLT, Nat.lt_irrefl, true_and, and_self, ↓reduceIte]
 generalize (s.toList == [97]) = q1
 generalize (s.toList == [98]) = q2
 generalize (s.toList == [99]) = q3
 generalize (s.toList == [100]) = q4
 cases q1
 ·cases q2
  ·cases q3
   ·cases q4
    ·simp only [go_sem, Nat.reduceEqDiff, Nat.reduceAdd, Nat.reduceLeDiff, List.length_map, Int.reduceLT, Int.reduceLE, Int.reduceToNat, Int.toNat_zero, Int.le_refl, Int.reduceAdd, decide_true, decide_false, Nat.reduceMul, Nat.reduceLT, Nat.lt_irrefl, true_and, and_self, ↓reduceIte]
    ·simp only [go_sem, Nat.reduceEqDiff, Nat.reduceAdd, Nat.reduceLeDiff, List.length_map, Int.reduceLT, Int.reduceLE, Int.reduceToNat, Int.toNat_zero, Int.le_refl, Int.reduceAdd, decide_true, decide_false, Nat.reduceMul, Nat.reduceLT, Nat.lt_irrefl, true_and, and_self, ↓reduceIte]
   ·simp only [go_sem, Nat.reduceEqDiff, Nat.reduceAdd, Nat.reduceLeDiff, List.length_map, Int.reduceLT, Int.reduceLE, Int.reduceToNat, Int.toNat_zero, Int.le_refl, Int.reduceAdd, decide_true, decide_false, Nat.reduceMul, Nat.reduceLT, Nat.lt_irrefl, true_and, and_self, ↓reduceIte]
  ·simp only [go_sem, Nat.reduceEqDiff, Nat.reduceAdd, Nat.reduceLeDiff, List.length_map, Int.reduceLT, Int.reduceLE, Int.reduceToNat, Int.toNat_zero, Int.le_refl, Int.reduceAdd, decide_true, decide_false, Nat.reduceMul, Nat.reduceLT, Nat.lt_irrefl, true_and, and_self, ↓reduceIte]
 ·simp only [go_sem, Nat.reduceEqDiff, Nat.reduceAdd, Nat.reduceLeDiff, List.length_map, Int.reduceLT, Int.reduceLE, Int.reduceToNat, Int.toNat_zero, Int.le_refl, Int.reduceAdd, decide_true, decide_false, Nat.reduceMul, Nat.reduceLT, Nat.lt_irrefl, true_and, and_self, ↓reduceIte]
theorem kNameF0 : ObjAt Tryd.prog 14 ⟨[(0, .ptr 1000000 0), (1, .val (.int .i64 0))], [(1000000, nms0 0)], []⟩ 2 (fun r hp tg => r = .val (.string ⟨#[97]⟩) ∧ hp = [(1000000, nmsL 10000012), (10000012, nmB)] ∧ tg = []) := by
 refine obj_of [1000000, 10000012] [] r14f (by kernel_rfl) ?_
 unfold m14f
 simp only [nms0, nmC, ge_iff_le, gt_iff_lt, go_sem, Nat.reduceEqDiff, Nat.reduceAdd, Nat.reduceLeDiff, List.length_map, Int.reduceLT, Int.reduceLE, Int.reduceToNat, Int.toNat_zero, Int.le_refl, Int.reduceAdd, decide_true, decide_false, Nat.reduceMul, Nat.reduceLT, Nat.lt_irrefl, true_and, and_self, ↓reduceIte]
 refine callO_eq rfl rfl rfl rfl rfl kLaidF ?_
 simp only [nmsL, nmC, nmB, nmR, n4i, go_sem, Nat.reduceEqDiff, Nat.reduceAdd, Nat.reduceLeDiff, List.length_map, Int.reduceLT, Int.reduceLE, Int.reduceToNat, Int.toNat_zero, Int.le_refl, Int.reduceAdd, decide_true, decide_false, Nat.reduceMul, Nat.reduceLT, Nat.lt_irrefl, true_and, and_self, ↓reduceIte]
end Go.Proofs

namespace Go.Proofs
open Go.Vm
set_option linter.unusedSimpArgs false
def stN (c attr : Int) (nm : ByteArray) (j : Int) (hp : List (Nat × List D)) : St := ⟨[(0, .val (.int .i64 attr)), (1, .val (.string nm)), (7, .ptr 21 0), (8, .val (.pointer none)), (26, .val (.int .i64 c)), (27, .val (.int .i64 j))], hp, []⟩
def hpN : List (Nat × List D) := [(21, nmsL 10000033), (10000033, nmB)]
set_option maxHeartbeats 4000000 in
set_option maxRecDepth 4000 in
theorem rnd0 (c attr : Int) (nm : ByteArray) (hc : 0 < c) {Q : Ex → St → Prop} (hQ : ∀ S, S.trim [0, 1, 7, 8, 26, 27] [21, 10000033] [] = stN c attr nm 1 hpN → Q .normal S) : ev Tryd.prog lyV (stN c attr nm 0 [(21, nms0 0)]) Q := by
 have hd : decide ((0 : Int) < c) = true := by simpa using hc
 have hd2 : (0 < c) = True := by simpa using hc
 unfold lyV
 simp only [stN, hpN, nmsL, nms0, nmB, nmC, nmR, hd, hd2, go_sem, Nat.reduceEqDiff, Nat.reduceAdd, Nat.reduceLeDiff, List.length_map, Int.reduceLT, Int.reduceLE, Int.reduceToNat, Int.toNat_zero, Int.le_refl, Int.reduceAdd, decide_true, decide_false, Nat.reduceMul, Nat.reduceLT, Nat.lt_irrefl, true_and, and_self, ↓reduceIte]
 refine dany_at (q := _) rfl ?_
 refine por_s 1 (d := (.val (.int .i64 0))) rfl (by kernel_rfl) trim_ex rfl rfl rfl (by kernel_rfl) rfl ?_
 refine por_s 2 (d := (.val (.int .i64 0))) rfl (by kernel_rfl) trim_ex rfl rfl rfl (by kernel_rfl) rfl ?_
 refine por_s 4 (d := (.val (.int .i64 0))) rfl (by kernel_rfl) trim_ex rfl rfl rfl (by kernel_rfl) rfl ?_
 refine por_s 5 (d := (.val (.int .i64 0))) rfl (by kernel_rfl) trim_ex rfl rfl rfl (by kernel_rfl) rfl ?_
 refine por_s 6 (d := (.val (.int .i64 0))) rfl (by kernel_rfl) trim_ex rfl rfl rfl (by kernel_rfl) rfl ?_
 refine por_s 7 (d := (.val (.int .i64 0))) rfl (by kernel_rfl) trim_ex rfl rfl rfl (by kernel_rfl) rfl ?_
 refine por_s 8 (d := (.val (.int .i64 1))) rfl (by kernel_rfl) trim_ex rfl rfl rfl (by kernel_rfl) rfl ?_
 refine por_s 9 (d := (.val (.string ⟨#[97]⟩))) rfl (by kernel_rfl) trim_ex rfl rfl rfl (by kernel_rfl) rfl ?_
 refine any_q 0 _ _ rfl rfl rfl ?_
 refine any_1 3 _ rfl rfl ?_
 refine v_obj_by rfl rfl ?_
 refine callO_eq rfl rfl rfl rfl rfl kNameF0 ?_
 refine any_q 10 _ (.val (.bool false)) rfl rfl (by kernel_rfl) ?_
 refine any_q 11 _ (.val (.bool false)) rfl rfl rfl ?_
 refine por_s 13 (d := (.val (.int .i64 0))) rfl (by kernel_rfl) trim_ex rfl rfl rfl (by kernel_rfl) rfl ?_
 refine por_s 14 (d := (.val (.int .i64 0))) rfl (by kernel_rfl) trim_ex rfl rfl rfl (by kernel_rfl) rfl ?_
 refine por_s 15 (d := (.val (.int .i64 0))) rfl (by kernel_rfl) trim_ex rfl rfl rfl (by kernel_rfl) rfl ?_
 refine por_s 16 (d := (.val (.int .i64 0))) rfl (by kernel_rfl) trim_ex rfl rfl rfl (by kernel_rfl) rfl ?_
 refine por_s 17 (d := (.val (.int .i64 1))) rfl (by kernel_rfl) trim_ex rfl rfl rfl (by kernel_rfl) rfl ?_
 refine por_s 18 (d := (.val (.string ⟨#[97]⟩))) rfl (by kernel_rfl) trim_ex rfl rfl rfl (by kernel_rfl) rfl ?_
 refine por_s 20 (d := (.val (.int .i64 0))) rfl (by kernel_rfl) trim_ex rfl rfl rfl (by kernel_rfl) rfl ?_
 refine por_s 21 (d := (.val (.int .i64 0))) rfl (by kernel_rfl) trim_ex rfl rfl rfl (by kernel_rfl) rfl ?_
 refine any_q 12 _ _ rfl rfl rfl ?_
 refine any_1 19 _ rfl rfl ?_
 refine v_obj_by rfl rfl ?_
 refine callO_eq rfl rfl rfl rfl rfl (kAttrA ⟨#[97]⟩) ?_
 refine any_q 22 _ (.val (.bool false)) rfl rfl (by kernel_rfl) ?_
 refine any_q 23 _ (.val (.bool false)) rfl rfl rfl ?_
 simp only [stN, hpN, nmsL, nmB, nmC, nmR, wi1, go_sem, Nat.reduceEqDiff, Nat.reduceAdd, Nat.reduceLeDiff, List.length_map, Int.reduceLT, Int.reduceLE, Int.reduceToNat, Int.toNat_zero, Int.le_refl, Int.reduceAdd, decide_true, decide_false, Nat.reduceMul, Nat.reduceLT, Nat.lt_irrefl, true_and, and_self, ↓reduceIte]
 refine hQ _ ?_
 rfl
set_option maxHeartbeats 4000000 in
set_option maxRecDepth 4000 in
theorem rnd1 (c attr : Int) (nm : ByteArray) (hc : 1 < c) {Q : Ex → St → Prop} (hQ : ∀ S, S.trim [0, 1, 7, 8, 26, 27] [21, 10000033] [] = stN c attr nm 2 hpN → Q .normal S) : ev Tryd.prog lxV (stN c attr nm 1 hpN) Q := by
 have hd : decide ((1 : Int) < c) = true := by simpa using hc
 have hd2 : (1 < c) = True := by simpa using hc
 unfold lxV
 simp only [stN, hpN, nmsL, nms0, nmB, nmC, nmR, hd, hd2, go_sem, Nat.reduceEqDiff, Nat.reduceAdd, Nat.reduceLeDiff, List.length_map, Int.reduceLT, Int.reduceLE, Int.reduceToNat, Int.toNat_zero, Int.le_refl, Int.reduceAdd, decide_true, decide_false, Nat.reduceMul, Nat.reduceLT, Nat.lt_irrefl, true_and, and_self, ↓reduceIte]
 refine dany_at (q := _) rfl ?_
 refine por_s 1 (d := (.val (.int .i64 1))) rfl (by kernel_rfl) trim_ex rfl rfl rfl (by kernel_rfl) rfl ?_
 refine por_s 2 (d := (.val (.int .i64 1))) rfl (by kernel_rfl) trim_ex rfl rfl rfl (by kernel_rfl) rfl ?_
 refine por_s 4 (d := (.val (.int .i64 1))) rfl (by kernel_rfl) trim_ex rfl rfl rfl (by kernel_rfl) rfl ?_
 refine por_s 5 (d := (.val (.int .i64 1))) rfl (by kernel_rfl) trim_ex rfl rfl rfl (by kernel_rfl) rfl ?_
 refine por_s 6 (d := (.val (.int .i64 1))) rfl (by kernel_rfl) trim_ex rfl rfl rfl (by kernel_rfl) rfl ?_
 refine por_s 7 (d := (.val (.int .i64 1))) rfl (by kernel_rfl) trim_ex rfl rfl rfl (by kernel_rfl) rfl ?_
 refine por_s 8 (d := (.val (.int .i64 2))) rfl (by kernel_rfl) trim_ex rfl rfl rfl (by kernel_rfl) rfl ?_
 refine por_s 9 (d := (.val (.string ⟨#[98]⟩))) rfl (by kernel_rfl) trim_ex rfl rfl rfl (by kernel_rfl) rfl ?_
 refine any_q 0 _ _ rfl rfl rfl ?_
 refine any_1 3 _ rfl rfl ?_
 refine v_obj_by rfl rfl ?_
 refine callO_eq rfl rfl rfl rfl rfl (kNameA 1) ?_
 refine any_q 10 _ (.val (.bool false)) rfl rfl (by kernel_rfl) ?_
 refine any_q 11 _ (.val (.bool false)) rfl rfl rfl ?_
 refine por_s 13 (d := (.val (.int .i64 1))) rfl (by kernel_rfl) trim_ex rfl rfl rfl (by kernel_rfl) rfl ?_
 refine por_s 14 (d := (.val (.int .i64 1))) rfl (by kernel_rfl) trim_ex rfl rfl rfl (by kernel_rfl) rfl ?_
 refine por_s 15 (d := (.val (.int .i64 1))) rfl (by kernel_rfl) trim_ex rfl rfl rfl (by kernel_rfl) rfl ?_
 refine por_s 16 (d := (.val (.int .i64 1))) rfl (by kernel_rfl) trim_ex rfl rfl rfl (by kernel_rfl) rfl ?_
 refine por_s 17 (d := (.val (.int .i64 2))) rfl (by kernel_rfl) trim_ex rfl rfl rfl (by kernel_rfl) rfl ?_
 refine por_s 18 (d := (.val (.string ⟨#[98]⟩))) rfl (by kernel_rfl) trim_ex rfl rfl rfl (by kernel_rfl) rfl ?_
 refine por_s 20 (d := (.val (.int .i64 1))) rfl (by kernel_rfl) trim_ex rfl rfl rfl (by kernel_rfl) rfl ?_
 refine por_s 21 (d := (.val (.int .i64 1))) rfl (by kernel_rfl) trim_ex rfl rfl rfl (by kernel_rfl) rfl ?_
 refine any_q 12 _ _ rfl rfl rfl ?_
 refine any_1 19 _ rfl rfl ?_
 refine v_obj_by rfl rfl ?_
 refine callO_eq rfl rfl rfl rfl rfl (kAttrA ⟨#[98]⟩) ?_
 refine any_q 22 _ (.val (.bool false)) rfl rfl (by kernel_rfl) ?_
 refine any_q 23 _ (.val (.bool false)) rfl rfl rfl ?_
 simp only [stN, hpN, nmsL, nmB, nmC, nmR, wi2, go_sem, Nat.reduceEqDiff, Nat.reduceAdd, Nat.reduceLeDiff, List.length_map, Int.reduceLT, Int.reduceLE, Int.reduceToNat, Int.toNat_zero, Int.le_refl, Int.reduceAdd, decide_true, decide_false, Nat.reduceMul, Nat.reduceLT, Nat.lt_irrefl, true_and, and_self, ↓reduceIte]
 refine hQ _ ?_
 rfl
set_option maxHeartbeats 4000000 in
set_option maxRecDepth 4000 in
theorem rnd2 (c attr : Int) (nm : ByteArray) (hc : 2 < c) {Q : Ex → St → Prop} (hQ : ∀ S, S.trim [0, 1, 7, 8, 26, 27] [21, 10000033] [] = stN c attr nm 3 hpN → Q .normal S) : ev Tryd.prog lxV (stN c attr nm 2 hpN) Q := by
 have hd : decide ((2 : Int) < c) = true := by simpa using hc
 have hd2 : (2 < c) = True := by simpa using hc
 unfold lxV
 simp only [stN, hpN, nmsL, nms0, nmB, nmC, nmR, hd, hd2, go_sem, Nat.reduceEqDiff, Nat.reduceAdd, Nat.reduceLeDiff, List.length_map, Int.reduceLT, Int.reduceLE, Int.reduceToNat, Int.toNat_zero, Int.le_refl, Int.reduceAdd, decide_true, decide_false, Nat.reduceMul, Nat.reduceLT, Nat.lt_irrefl, true_and, and_self, ↓reduceIte]
 refine dany_at (q := _) rfl ?_
 refine por_s 1 (d := (.val (.int .i64 2))) rfl (by kernel_rfl) trim_ex rfl rfl rfl (by kernel_rfl) rfl ?_
 refine por_s 2 (d := (.val (.int .i64 2))) rfl (by kernel_rfl) trim_ex rfl rfl rfl (by kernel_rfl) rfl ?_
 refine por_s 4 (d := (.val (.int .i64 2))) rfl (by kernel_rfl) trim_ex rfl rfl rfl (by kernel_rfl) rfl ?_
 refine por_s 5 (d := (.val (.int .i64 2))) rfl (by kernel_rfl) trim_ex rfl rfl rfl (by kernel_rfl) rfl ?_
 refine por_s 6 (d := (.val (.int .i64 2))) rfl (by kernel_rfl) trim_ex rfl rfl rfl (by kernel_rfl) rfl ?_
 refine por_s 7 (d := (.val (.int .i64 2))) rfl (by kernel_rfl) trim_ex rfl rfl rfl (by kernel_rfl) rfl ?_
 refine por_s 8 (d := (.val (.int .i64 3))) rfl (by kernel_rfl) trim_ex rfl rfl rfl (by kernel_rfl) rfl ?_
 refine por_s 9 (d := (.val (.string ⟨#[99]⟩))) rfl (by kernel_rfl) trim_ex rfl rfl rfl (by kernel_rfl) rfl ?_
 refine any_q 0 _ _ rfl rfl rfl ?_
 refine any_1 3 _ rfl rfl ?_
 refine v_obj_by rfl rfl ?_
 refine callO_eq rfl rfl rfl rfl rfl (kNameA 2) ?_
 refine any_q 10 _ (.val (.bool false)) rfl rfl (by kernel_rfl) ?_
 refine any_q 11 _ (.val (.bool false)) rfl rfl rfl ?_
 refine por_s 13 (d := (.val (.int .i64 2))) rfl (by kernel_rfl) trim_ex rfl rfl rfl (by kernel_rfl) rfl ?_
 refine por_s 14 (d := (.val (.int .i64 2))) rfl (by kernel_rfl) trim_ex rfl rfl rfl (by kernel_rfl) rfl ?_
 refine por_s 15 (d := (.val (.int .i64 2))) rfl (by kernel_rfl) trim_ex rfl rfl rfl (by kernel_rfl) rfl ?_
 refine por_s 16 (d := (.val (.int .i64 2))) rfl (by kernel_rfl) trim_ex rfl rfl rfl (by kernel_rfl) rfl ?_
 refine por_s 17 (d := (.val (.int .i64 3))) rfl (by kernel_rfl) trim_ex rfl rfl rfl (by kernel_rfl) rfl ?_
 refine por_s 18 (d := (.val (.string ⟨#[99]⟩))) rfl (by kernel_rfl) trim_ex rfl rfl rfl (by kernel_rfl) rfl ?_
 refine por_s 20 (d := (.val (.int .i64 2))) rfl (by kernel_rfl) trim_ex rfl rfl rfl (by kernel_rfl) rfl ?_
 refine por_s 21 (d := (.val (.int .i64 2))) rfl (by kernel_rfl) trim_ex rfl rfl rfl (by kernel_rfl) rfl ?_
 refine any_q 12 _ _ rfl rfl rfl ?_
 refine any_1 19 _ rfl rfl ?_
 refine v_obj_by rfl rfl ?_
 refine callO_eq rfl rfl rfl rfl rfl (kAttrA ⟨#[99]⟩) ?_
 refine any_q 22 _ (.val (.bool false)) rfl rfl (by kernel_rfl) ?_
 refine any_q 23 _ (.val (.bool false)) rfl rfl rfl ?_
 simp only [stN, hpN, nmsL, nmB, nmC, nmR, wi3, go_sem, Nat.reduceEqDiff, Nat.reduceAdd, Nat.reduceLeDiff, List.length_map, Int.reduceLT, Int.reduceLE, Int.reduceToNat, Int.toNat_zero, Int.le_refl, Int.reduceAdd, decide_true, decide_false, Nat.reduceMul, Nat.reduceLT, Nat.lt_irrefl, true_and, and_self, ↓reduceIte]
 refine hQ _ ?_
 rfl
set_option maxHeartbeats 4000000 in
set_option maxRecDepth 4000 in
theorem rnd3 (c attr : Int) (nm : ByteArray) (hc : 3 < c) {Q : Ex → St → Prop} (hQ : ∀ S, S.trim [0, 1, 7, 8, 26, 27] [21, 10000033] [] = stN c attr nm 4 hpN → Q .normal S) : ev Tryd.prog lxV (stN c attr nm 3 hpN) Q := by
 have hd : decide ((3 : Int) < c) = true := by simpa using hc
 have hd2 : (3 < c) = True := by simpa using hc
 unfold lxV
 simp only [stN, hpN, nmsL, nms0, nmB, nmC, nmR, hd, hd2, go_sem, Nat.reduceEqDiff, Nat.reduceAdd, Nat.reduceLeDiff, List.length_map, Int.reduceLT, Int.reduceLE, Int.reduceToNat, Int.toNat_zero, Int.le_refl, Int.reduceAdd, decide_true, decide_false, Nat.reduceMul, Nat.reduceLT, Nat.lt_irrefl, true_and, and_self, ↓reduceIte]
 refine dany_at (q := _) rfl ?_
 refine por_s 1 (d := (.val (.int .i64 3))) rfl (by kernel_rfl) trim_ex rfl rfl rfl (by kernel_rfl) rfl ?_
 refine por_s 2 (d := (.val (.int .i64 3))) rfl (by kernel_rfl) trim_ex rfl rfl rfl (by kernel_rfl) rfl ?_
 refine por_s 4 (d := (.val (.int .i64 3))) rfl (by kernel_rfl) trim_ex rfl rfl rfl (by kernel_rfl) rfl ?_
 refine por_s 5 (d := (.val (.int .i64 3))) rfl (by kernel_rfl) trim_ex rfl rfl rfl (by kernel_rfl) rfl ?_
 refine por_s 6 (d := (.val (.int .i64 3))) rfl (by kernel_rfl) trim_ex rfl rfl rfl (by kernel_rfl) rfl ?_
 refine por_s 7 (d := (.val (.int .i64 3))) rfl (by kernel_rfl) trim_ex rfl rfl rfl (by kernel_rfl) rfl ?_
 refine por_s 8 (d := (.val (.int .i64 4))) rfl (by kernel_rfl) trim_ex rfl rfl rfl (by kernel_rfl) rfl ?_
 refine por_s 9 (d := (.val (.string ⟨#[100]⟩))) rfl (by kernel_rfl) trim_ex rfl rfl rfl (by kernel_rfl) rfl ?_
 refine any_q 0 _ _ rfl rfl rfl ?_
 refine any_1 3 _ rfl rfl ?_
 refine v_obj_by rfl rfl ?_
 refine callO_eq rfl rfl rfl rfl rfl (kNameA 3) ?_
 refine any_q 10 _ (.val (.bool false)) rfl rfl (by kernel_rfl) ?_
 refine any_q 11 _ (.val (.bool false)) rfl rfl rfl ?_
 refine por_s 13 (d := (.val (.int .i64 3))) rfl (by kernel_rfl) trim_ex rfl rfl rfl (by kernel_rfl) rfl ?_
 refine por_s 14 (d := (.val (.int .i64 3))) rfl (by kernel_rfl) trim_ex rfl rfl rfl (by kernel_rfl) rfl ?_
 refine por_s 15 (d := (.val (.int .i64 3))) rfl (by kernel_rfl) trim_ex rfl rfl rfl (by kernel_rfl) rfl ?_
 refine por_s 16 (d := (.val (.int .i64 3))) rfl (by kernel_rfl) trim_ex rfl rfl rfl (by kernel_rfl) rfl ?_
 refine por_s 17 (d := (.val (.int .i64 4))) rfl (by kernel_rfl) trim_ex rfl rfl rfl (by kernel_rfl) rfl ?_
 refine por_s 18 (d := (.val (.string ⟨#[100]⟩))) rfl (by kernel_rfl) trim_ex rfl rfl rfl (by kernel_rfl) rfl ?_
 refine por_s 20 (d := (.val (.int .i64 3))) rfl (by kernel_rfl) trim_ex rfl rfl rfl (by kernel_rfl) rfl ?_
 refine por_s 21 (d := (.val (.int .i64 3))) rfl (by kernel_rfl) trim_ex rfl rfl rfl (by kernel_rfl) rfl ?_
 refine any_q 12 _ _ rfl rfl rfl ?_
 refine any_1 19 _ rfl rfl ?_
 refine v_obj_by rfl rfl ?_
 refine callO_eq rfl rfl rfl rfl rfl (kAttrA ⟨#[100]⟩) ?_
 refine any_q 22 _ (.val (.bool false)) rfl rfl (by kernel_rfl) ?_
 refine any_q 23 _ (.val (.bool false)) rfl rfl rfl ?_
 simp only [stN, hpN, nmsL, nmB, nmC, nmR, wi4, go_sem, Nat.reduceEqDiff, Nat.reduceAdd, Nat.reduceLeDiff, List.length_map, Int.reduceLT, Int.reduceLE, Int.reduceToNat, Int.toNat_zero, Int.le_refl, Int.reduceAdd, decide_true, decide_false, Nat.reduceMul, Nat.reduceLT, Nat.lt_irrefl, true_and, and_self, ↓reduceIte]
 refine hQ _ ?_
 rfl
set_option maxHeartbeats 4000000 in
set_option maxRecDepth 4000 in
theorem rnd4 (c attr : Int) (nm : ByteArray) (hc : 4 < c) {Q : Ex → St → Prop} (hQ : ∀ S, S.trim [0, 1, 7, 8, 26, 27] [21, 10000033] [] = stN c attr nm 5 hpN → Q .normal S) : ev Tryd.prog lxV (stN c attr nm 4 hpN) Q := by
 have hd : decide ((4 : Int) < c) = true := by simpa using hc
 have hd2 : (4 < c) = True := by simpa using hc
 unfold lxV
 simp only [stN, hpN, nmsL, nms0, nmB, nmC, nmR, hd, hd2, go_sem, Nat.reduceEqDiff, Nat.reduceAdd, Nat.reduceLeDiff, List.length_map, Int.reduceLT, Int.reduceLE, Int.reduceToNat, Int.toNat_zero, Int.le_refl, Int.reduceAdd, decide_true, decide_false, Nat.reduceMul, Nat.reduceLT, Nat.lt_irrefl, true_and, and_self, ↓reduceIte]
 refine dany_at (q := _) rfl ?_
 refine por_s 1 (d := (.val (.int .i64 4))) rfl (by kernel_rfl) trim_ex rfl rfl rfl (by kernel_rfl) rfl ?_
 refine por_s 2 (d := (.val (.int .i64 0))) rfl (by kernel_rfl) trim_ex rfl rfl rfl (by kernel_rfl) rfl ?_
 refine por_s 4 (d := (.val (.int .i64 4))) rfl (by kernel_rfl) trim_ex rfl rfl rfl (by kernel_rfl) rfl ?_
 refine por_s 5 (d := (.val (.int .i64 0))) rfl (by kernel_rfl) trim_ex rfl rfl rfl (by kernel_rfl) rfl ?_
 refine por_s 6 (d := (.val (.int .i64 4))) rfl (by kernel_rfl) trim_ex rfl rfl rfl (by kernel_rfl) rfl ?_
 refine por_s 7 (d := (.val (.int .i64 0))) rfl (by kernel_rfl) trim_ex rfl rfl rfl (by kernel_rfl) rfl ?_
 refine por_s 8 (d := (.val (.int .i64 1))) rfl (by kernel_rfl) trim_ex rfl rfl rfl (by kernel_rfl) rfl ?_
 refine por_s 9 (d := (.val (.string ⟨#[97]⟩))) rfl (by kernel_rfl) trim_ex rfl rfl rfl (by kernel_rfl) rfl ?_
 refine any_q 0 _ _ rfl rfl rfl ?_
 refine any_1 3 _ rfl rfl ?_
 refine v_obj_by rfl rfl ?_
 refine callO_eq rfl rfl rfl rfl rfl (kNameA 0) ?_
 refine any_q 10 _ (.val (.bool false)) rfl rfl (by kernel_rfl) ?_
 refine any_q 11 _ (.val (.bool false)) rfl rfl rfl ?_
 refine por_s 13 (d := (.val (.int .i64 4))) rfl (by kernel_rfl) trim_ex rfl rfl rfl (by kernel_rfl) rfl ?_
 refine por_s 14 (d := (.val (.int .i64 0))) rfl (by kernel_rfl) trim_ex rfl rfl rfl (by kernel_rfl) rfl ?_
 refine por_s 15 (d := (.val (.int .i64 4))) rfl (by kernel_rfl) trim_ex rfl rfl rfl (by kernel_rfl) rfl ?_
 refine por_s 16 (d := (.val (.int .i64 0))) rfl (by kernel_rfl) trim_ex rfl rfl rfl (by kernel_rfl) rfl ?_
 refine por_s 17 (d := (.val (.int .i64 1))) rfl (by kernel_rfl) trim_ex rfl rfl rfl (by kernel_rfl) rfl ?_
 refine por_s 18 (d := (.val (.string ⟨#[97]⟩))) rfl (by kernel_rfl) trim_ex rfl rfl rfl (by kernel_rfl) rfl ?_
 refine por_s 20 (d := (.val (.int .i64 4))) rfl (by kernel_rfl) trim_ex rfl rfl rfl (by kernel_rfl) rfl ?_
 refine por_s 21 (d := (.val (.int .i64 0))) rfl (by kernel_rfl) trim_ex rfl rfl rfl (by kernel_rfl) rfl ?_
 refine any_q 12 _ _ rfl rfl rfl ?_
 refine any_1 19 _ rfl rfl ?_
 refine v_obj_by rfl rfl ?_
 refine callO_eq rfl rfl rfl rfl rfl (kAttrA ⟨#[97]⟩) ?_
 refine any_q 22 _ (.val (.bool false)) rfl rfl (by kernel_rfl) ?_
 refine any_q 23 _ (.val (.bool false)) rfl rfl rfl ?_
 simp only [stN, hpN, nmsL, nmB, nmC, nmR, wi0, go_sem, Nat.reduceEqDiff, Nat.reduceAdd, Nat.reduceLeDiff, List.length_map, Int.reduceLT, Int.reduceLE, Int.reduceToNat, Int.toNat_zero, Int.le_refl, Int.reduceAdd, decide_true, decide_false, Nat.reduceMul, Nat.reduceLT, Nat.lt_irrefl, true_and, and_self, ↓reduceIte]
 refine hQ _ ?_
 rfl
set_option maxHeartbeats 4000000 in
set_option maxRecDepth 4000 in
theorem rnd5 (c attr : Int) (nm : ByteArray) (hc : 5 < c) {Q : Ex → St → Prop} (hQ : ∀ S, S.trim [0, 1, 7, 8, 26, 27] [21, 10000033] [] = stN c attr nm 6 hpN → Q .normal S) : ev Tryd.prog lxV (stN c attr nm 5 hpN) Q := by
 have hd : decide ((5 : Int) < c) = true := by simpa using hc
 have hd2 : (5 < c) = True := by simpa using hc
 unfold lxV
 simp only [stN, hpN, nmsL, nms0, nmB, nmC, nmR, hd, hd2, go_sem, Nat.reduceEqDiff, Nat.reduceAdd, Nat.reduceLeDiff, List.length_map, Int.reduceLT, Int.reduceLE, Int.reduceToNat, Int.toNat_zero, Int.le_refl, Int.reduceAdd, decide_true, decide_false, Nat.reduceMul, Nat.reduceLT, Nat.lt_irrefl, true_and, and_self, ↓reduceIte]
 refine dany_at (q := _) rfl ?_
 refine por_s 1 (d := (.val (.int .i64 5))) rfl (by kernel_rfl) trim_ex rfl rfl rfl (by kernel_rfl) rfl ?_
 refine por_s 2 (d := (.val (.int .i64 1))) rfl (by kernel_rfl) trim_ex rfl rfl rfl (by kernel_rfl) rfl ?_
 refine por_s 4 (d := (.val (.int .i64 5))) rfl (by kernel_rfl) trim_ex rfl rfl rfl (by kernel_rfl) rfl ?_
 refine por_s 5 (d := (.val (.int .i64 1))) rfl (by kernel_rfl) trim_ex rfl rfl rfl (by kernel_rfl) rfl ?_
 refine por_s 6 (d := (.val (.int .i64 5))) rfl (by kernel_rfl) trim_ex rfl rfl rfl (by kernel_rfl) rfl ?_
 refine por_s 7 (d := (.val (.int .i64 1))) rfl (by kernel_rfl) trim_ex rfl rfl rfl (by kernel_rfl) rfl ?_
 refine por_s 8 (d := (.val (.int .i64 2))) rfl (by kernel_rfl) trim_ex rfl rfl rfl (by kernel_rfl) rfl ?_
 refine por_s 9 (d := (.val (.string ⟨#[98]⟩))) rfl (by kernel_rfl) trim_ex rfl rfl rfl (by kernel_rfl) rfl ?_
 refine any_q 0 _ _ rfl rfl rfl ?_
 refine any_1 3 _ rfl rfl ?_
 refine v_obj_by rfl rfl ?_
 refine callO_eq rfl rfl rfl rfl rfl (kNameA 1) ?_
 refine any_q 10 _ (.val (.bool false)) rfl rfl (by kernel_rfl) ?_
 refine any_q 11 _ (.val (.bool false)) rfl rfl rfl ?_
 refine por_s 13 (d := (.val (.int .i64 5))) rfl (by kernel_rfl) trim_ex rfl rfl rfl (by kernel_rfl) rfl ?_
 refine por_s 14 (d := (.val (.int .i64 1))) rfl (by kernel_rfl) trim_ex rfl rfl rfl (by kernel_rfl) rfl ?_
 refine por_s 15 (d := (.val (.int .i64 5))) rfl (by kernel_rfl) trim_ex rfl rfl rfl (by kernel_rfl) rfl ?_
 refine por_s 16 (d := (.val (.int .i64 1))) rfl (by kernel_rfl) trim_ex rfl rfl rfl (by kernel_rfl) rfl ?_
 refine por_s 17 (d := (.val (.int .i64 2))) rfl (by kernel_rfl) trim_ex rfl rfl rfl (by kernel_rfl) rfl ?_
 refine por_s 18 (d := (.val (.string ⟨#[98]⟩))) rfl (by kernel_rfl) trim_ex rfl rfl rfl (by kernel_rfl) rfl ?_
 refine por_s 20 (d := (.val (.int .i64 5))) rfl (by kernel_rfl) trim_ex rfl rfl rfl (by kernel_rfl) rfl ?_
 refine por_s 21 (d := (.val (.int .i64 1))) rfl (by kernel_rfl) trim_ex rfl rfl rfl (by kernel_rfl) rfl ?_
 refine any_q 12 _ _ rfl rfl rfl ?_
 refine any_1 19 _ rfl rfl ?_
 refine v_obj_by rfl rfl ?_
 refine callO_eq rfl rfl rfl rfl rfl (kAttrA ⟨#[98]⟩) ?_
 refine any_q 22 _ (.val (.bool false)) rfl rfl (by kernel_rfl) ?_
 refine any_q 23 _ (.val (.bool false)) rfl rfl rfl ?_
 simp only [stN, hpN, nmsL, nmB, nmC, nmR, wi0, go_sem, Nat.reduceEqDiff, Nat.reduceAdd, Nat.reduceLeDiff, List.length_map, Int.reduceLT, Int.reduceLE, Int.reduceToNat, Int.toNat_zero, Int.le_refl, Int.reduceAdd, decide_true, decide_false, Nat.reduceMul, Nat.reduceLT, Nat.lt_irrefl, true_and, and_self, ↓reduceIte]
 refine hQ _ ?_
 rfl
set_option maxHeartbeats 4000000 in
set_option maxRecDepth 4000 in
theorem rnd6 (c attr : Int) (nm : ByteArray) (hc : 6 < c) {Q : Ex → St → Prop} (hQ : ∀ S, S.trim [0, 1, 7, 8, 26, 27] [21, 10000033] [] = stN c attr nm 7 hpN → Q .normal S) : ev Tryd.prog lxV (stN c attr nm 6 hpN) Q := by
 have hd : decide ((6 : Int) < c) = true := by simpa using hc
 have hd2 : (6 < c) = True := by simpa using hc
 unfold lxV
 simp only [stN, hpN, nmsL, nms0, nmB, nmC, nmR, hd, hd2, go_sem, Nat.reduceEqDiff, Nat.reduceAdd, Nat.reduceLeDiff, List.length_map, Int.reduceLT, Int.reduceLE, Int.reduceToNat, Int.toNat_zero, Int.le_refl, Int.reduceAdd, decide_true, decide_false, Nat.reduceMul, Nat.reduceLT, Nat.lt_irrefl, true_and, and_self, ↓reduceIte]
 refine dany_at (q := _) rfl ?_
 refine por_s 1 (d := (.val (.int .i64 6))) rfl (by kernel_rfl) trim_ex rfl rfl rfl (by kernel_rfl) rfl ?_
 refine por_s 2 (d := (.val (.int .i64 2))) rfl (by kernel_rfl) trim_ex rfl rfl rfl (by kernel_rfl) rfl ?_
 refine por_s 4 (d := (.val (.int .i64 6))) rfl (by kernel_rfl) trim_ex rfl rfl rfl (by kernel_rfl) rfl ?_
 refine por_s 5 (d := (.val (.int .i64 2))) rfl (by kernel_rfl) trim_ex rfl rfl rfl (by kernel_rfl) rfl ?_
 refine por_s 6 (d := (.val (.int .i64 6))) rfl (by kernel_rfl) trim_ex rfl rfl rfl (by kernel_rfl) rfl ?_
 refine por_s 7 (d := (.val (.int .i64 2))) rfl (by kernel_rfl) trim_ex rfl rfl rfl (by kernel_rfl) rfl ?_
 refine por_s 8 (d := (.val (.int .i64 3))) rfl (by kernel_rfl) trim_ex rfl rfl rfl (by kernel_rfl) rfl ?_
 refine por_s 9 (d := (.val (.string ⟨#[99]⟩))) rfl (by kernel_rfl) trim_ex rfl rfl rfl (by kernel_rfl) rfl ?_
 refine any_q 0 _ _ rfl rfl rfl ?_
 refine any_1 3 _ rfl rfl ?_
 refine v_obj_by rfl rfl ?_
 refine callO_eq rfl rfl rfl rfl rfl (kNameA 2) ?_
 refine any_q 10 _ (.val (.bool false)) rfl rfl (by kernel_rfl) ?_
 refine any_q 11 _ (.val (.bool false)) rfl rfl rfl ?_
 refine por_s 13 (d := (.val (.int .i64 6))) rfl (by kernel_rfl) trim_ex rfl rfl rfl (by kernel_rfl) rfl ?_
 refine por_s 14 (d := (.val (.int .i64 2))) rfl (by kernel_rfl) trim_ex rfl rfl rfl (by kernel_rfl) rfl ?_
 refine por_s 15 (d := (.val (.int .i64 6))) rfl (by kernel_rfl) trim_ex rfl rfl rfl (by kernel_rfl) rfl ?_
 refine por_s 16 (d := (.val (.int .i64 2))) rfl (by kernel_rfl) trim_ex rfl rfl rfl (by kernel_rfl) rfl ?_
 refine por_s 17 (d := (.val (.int .i64 3))) rfl (by kernel_rfl) trim_ex rfl rfl rfl (by kernel_rfl) rfl ?_
 refine por_s 18 (d := (.val (.string ⟨#[99]⟩))) rfl (by kernel_rfl) trim_ex rfl rfl rfl (by kernel_rfl) rfl ?_
 refine por_s 20 (d := (.val (.int .i64 6))) rfl (by kernel_rfl) trim_ex rfl rfl rfl (by kernel_rfl) rfl ?_
 refine por_s 21 (d := (.val (.int .i64 2))) rfl (by kernel_rfl) trim_ex rfl rfl rfl (by kernel_rfl) rfl ?_
 refine any_q 12 _ _ rfl rfl rfl ?_
 refine any_1 19 _ rfl rfl ?_
 refine v_obj_by rfl rfl ?_
 refine callO_eq rfl rfl rfl rfl rfl (kAttrA ⟨#[99]⟩) ?_
 refine any_q 22 _ (.val (.bool false)) rfl rfl (by kernel_rfl) ?_
 refine any_q 23 _ (.val (.bool false)) rfl rfl rfl ?_
 simp only [stN, hpN, nmsL, nmB, nmC, nmR, wi0, go_sem, Nat.reduceEqDiff, Nat.reduceAdd, Nat.reduceLeDiff, List.length_map, Int.reduceLT, Int.reduceLE, Int.reduceToNat, Int.toNat_zero, Int.le_refl, Int.reduceAdd, decide_true, decide_false, Nat.reduceMul, Nat.reduceLT, Nat.lt_irrefl, true_and, and_self, ↓reduceIte]
 refine hQ _ ?_
 rfl
set_option maxHeartbeats 4000000 in
set_option maxRecDepth 4000 in
theorem rnd7 (c attr : Int) (nm : ByteArray) (hc : 7 < c) {Q : Ex → St → Prop} (hQ : ∀ S, S.trim [0, 1, 7, 8, 26, 27] [21, 10000033] [] = stN c attr nm 8 hpN → Q .normal S) : ev Tryd.prog lxV (stN c attr nm 7 hpN) Q := by
 have hd : decide ((7 : Int) < c) = true := by simpa using hc
 have hd2 : (7 < c) = True := by simpa using hc
 unfold lxV
 simp only [stN, hpN, nmsL, nms0, nmB, nmC, nmR, hd, hd2, go_sem, Nat.reduceEqDiff, Nat.reduceAdd, Nat.reduceLeDiff, List.length_map, Int.reduceLT, Int.reduceLE, Int.reduceToNat, Int.toNat_zero, Int.le_refl, Int.reduceAdd, decide_true, decide_false, Nat.reduceMul, Nat.reduceLT, Nat.lt_irrefl, true_and, and_self, ↓reduceIte]
 refine dany_at (q := _) rfl ?_
 refine por_s 1 (d := (.val (.int .i64 7))) rfl (by kernel_rfl) trim_ex rfl rfl rfl (by kernel_rfl) rfl ?_
 refine por_s 2 (d := (.val (.int .i64 3))) rfl (by kernel_rfl) trim_ex rfl rfl rfl (by kernel_rfl) rfl ?_
 refine por_s 4 (d := (.val (.int .i64 7))) rfl (by kernel_rfl) trim_ex rfl rfl rfl (by kernel_rfl) rfl ?_
 refine por_s 5 (d := (.val (.int .i64 3))) rfl (by kernel_rfl) trim_ex rfl rfl rfl (by kernel_rfl) rfl ?_
 refine por_s 6 (d := (.val (.int .i64 7))) rfl (by kernel_rfl) trim_ex rfl rfl rfl (by kernel_rfl) rfl ?_
 refine por_s 7 (d := (.val (.int .i64 3))) rfl (by kernel_rfl) trim_ex rfl rfl rfl (by kernel_rfl) rfl ?_
 refine por_s 8 (d := (.val (.int .i64 4))) rfl (by kernel_rfl) trim_ex rfl rfl rfl (by kernel_rfl) rfl ?_
 refine por_s 9 (d := (.val (.string ⟨#[100]⟩))) rfl (by kernel_rfl) trim_ex rfl rfl rfl (by kernel_rfl) rfl ?_
 refine any_q 0 _ _ rfl rfl rfl ?_
 refine any_1 3 _ rfl rfl ?_
 refine v_obj_by rfl rfl ?_
 refine callO_eq rfl rfl rfl rfl rfl (kNameA 3) ?_
 refine any_q 10 _ (.val (.bool false)) rfl rfl (by kernel_rfl) ?_
 refine any_q 11 _ (.val (.bool false)) rfl rfl rfl ?_
 refine por_s 13 (d := (.val (.int .i64 7))) rfl (by kernel_rfl) trim_ex rfl rfl rfl (by kernel_rfl) rfl ?_
 refine por_s 14 (d := (.val (.int .i64 3))) rfl (by kernel_rfl) trim_ex rfl rfl rfl (by kernel_rfl) rfl ?_
 refine por_s 15 (d := (.val (.int .i64 7))) rfl (by kernel_rfl) trim_ex rfl rfl rfl (by kernel_rfl) rfl ?_
 refine por_s 16 (d := (.val (.int .i64 3))) rfl (by kernel_rfl) trim_ex rfl rfl rfl (by kernel_rfl) rfl ?_
 refine por_s 17 (d := (.val (.int .i64 4))) rfl (by kernel_rfl) trim_ex rfl rfl rfl (by kernel_rfl) rfl ?_
 refine por_s 18 (d := (.val (.string ⟨#[100]⟩))) rfl (by kernel_rfl) trim_ex rfl rfl rfl (by kernel_rfl) rfl ?_
 refine por_s 20 (d := (.val (.int .i64 7))) rfl (by kernel_rfl) trim_ex rfl rfl rfl (by kernel_rfl) rfl ?_
 refine por_s 21 (d := (.val (.int .i64 3))) rfl (by kernel_rfl) trim_ex rfl rfl rfl (by kernel_rfl) rfl ?_
 refine any_q 12 _ _ rfl rfl rfl ?_
 refine any_1 19 _ rfl rfl ?_
 refine v_obj_by rfl rfl ?_
 refine callO_eq rfl rfl rfl rfl rfl (kAttrA ⟨#[100]⟩) ?_
 refine any_q 22 _ (.val (.bool false)) rfl rfl (by kernel_rfl) ?_
 refine any_q 23 _ (.val (.bool false)) rfl rfl rfl ?_
 simp only [stN, hpN, nmsL, nmB, nmC, nmR, wi0, go_sem, Nat.reduceEqDiff, Nat.reduceAdd, Nat.reduceLeDiff, List.length_map, Int.reduceLT, Int.reduceLE, Int.reduceToNat, Int.toNat_zero, Int.le_refl, Int.reduceAdd, decide_true, decide_false, Nat.reduceMul, Nat.reduceLT, Nat.lt_irrefl, true_and, and_self, ↓reduceIte]
 refine hQ _ ?_
 rfl
end Go.Proofs

namespace Go.Proofs
open Go.Vm
set_option linter.unusedSimpArgs false
theorem stpN (k : Nat) (c attr : Int) (nm : ByteArray) (h1 : 1 ≤ k) (h2 : k < 8) (hc : (k : Int) < c) {Q : Ex → St → Prop} (hQ : ∀ S, S.trim [0, 1, 7, 8, 26, 27] [21, 10000033] [] = stN c attr nm ((k + 1 : Nat) : Int) hpN → Q .normal S) : ev Tryd.prog lxV (stN c attr nm (k : Int) hpN) Q := by
 match k, h1, h2 with
 | 1, _, _ => exact rnd1 c attr nm hc hQ
 | 2, _, _ => exact rnd2 c attr nm hc hQ
 | 3, _, _ => exact rnd3 c attr nm hc hQ
 | 4, _, _ => exact rnd4 c attr nm hc hQ
 | 5, _, _ => exact rnd5 c attr nm hc hQ
 | 6, _, _ => exact rnd6 c attr nm hc hQ
 | 7, _, _ => exact rnd7 c attr nm hc hQ
theorem endN (k : Nat) (c attr : Int) (nm : ByteArray) (hc : ¬ (k : Int) < c) {Q : Ex → St → Prop} (hQ : ∀ S, S.trim [0, 1, 7, 8] [21, 10000033] [] = ⟨[(0, .val (.int .i64 attr)), (1, .val (.string nm)), (7, .ptr 21 0), (8, .val (.pointer none))], hpN, []⟩ → Q (.exit 0) S) : ev Tryd.prog lxV (stN c attr nm (k : Int) hpN) Q := by
 have hd : decide ((k : Int) < c) = false := by simpa using hc
 have hd2 : ((k : Int) < c) = False := by simpa using hc
 unfold lxV
 simp only [stN, hpN, nmsL, nmB, nmC, nmR, hd, hd2, go_sem, Nat.reduceEqDiff, Nat.reduceAdd, Nat.reduceLeDiff, List.length_map, Int.reduceLT, Int.reduceLE, Int.reduceToNat, Int.toNat_zero, Int.le_refl, Int.reduceAdd, decide_true, decide_false, Nat.reduceMul, Nat.reduceLT, Nat.lt_irrefl, true_and, and_self, ↓reduceIte]
 refine hQ _ ?_
 rfl
def stT (attr : Int) (nm : ByteArray) (a : ByteArray) (b : Int) : St := ⟨[(0, .val (.int .i64 attr)), (1, .val (.string nm)), (7, .ptr 21 0), (8, .val (.pointer none)), (10, .val (.string a)), (11, .val (.int .i64 b))], hpN, []⟩
theorem beqB (a : ByteArray) : (a.toList == a.toList) = true := beq_self_eq_true _
set_option maxHeartbeats 4000000 in
theorem tlC (attr : Int) (nm : ByteArray) : ev Tryd.prog t3V (stT attr nm (nameN attr) (attrN nm)) (fin [.mov (.tmp 6)] (· = .val (.bool true))) := by
 unfold t3V
 simp only [stT, hpN, nmsL, nmB, nmC, nmR, go_sem, Nat.reduceEqDiff, Nat.reduceAdd, Nat.reduceLeDiff, List.length_map, Int.reduceLT, Int.reduceLE, Int.reduceToNat, Int.toNat_zero, Int.le_refl, Int.reduceAdd, decide_true, decide_false, Nat.reduceMul, Nat.reduceLT, Nat.lt_irrefl, true_and, and_self, ↓reduceIte]
 refine callO_eq rfl rfl rfl rfl rfl (kNameA attr) ?_
 simp only [stT, hpN, nmsL, nmB, nmC, nmR, beqB, go_sem, Nat.reduceEqDiff, Nat.reduceAdd, Nat.reduceLeDiff, List.length_map, Int.reduceLT, Int.reduceLE, Int.reduceToNat, Int.toNat_zero, Int.le_refl, Int.reduceAdd, decide_true, decide_false, Nat.reduceMul, Nat.reduceLT, Nat.lt_irrefl, true_and, and_self, ↓reduceIte]
 refine callP_eq rfl rfl (kNameN attr) ?_
 simp only [stT, hpN, nmsL, nmB, nmC, nmR, beqB, go_sem, Nat.reduceEqDiff, Nat.reduceAdd, Nat.reduceLeDiff, List.length_map, Int.reduceLT, Int.reduceLE, Int.reduceToNat, Int.toNat_zero, Int.le_refl, Int.reduceAdd, decide_true, decide_false, Nat.reduceMul, Nat.reduceLT, Nat.lt_irrefl, true_and, and_self, ↓reduceIte]
 refine callO_eq rfl rfl rfl rfl rfl (kAttrA nm) ?_
 simp only [stT, hpN, nmsL, nmB, nmC, nmR, beqB, beq_self_eq_true, go_sem, Nat.reduceEqDiff, Nat.reduceAdd, Nat.reduceLeDiff, List.length_map, Int.reduceLT, Int.reduceLE, Int.reduceToNat, Int.toNat_zero, Int.le_refl, Int.reduceAdd, decide_true, decide_false, Nat.reduceMul, Nat.reduceLT, Nat.lt_irrefl, true_and, and_self, ↓reduceIte]
 refine callP_eq rfl rfl (kAttrN nm) ?_
 simp only [stT, hpN, nmsL, nmB, nmC, nmR, beqB, beq_self_eq_true, go_sem, Nat.reduceEqDiff, Nat.reduceAdd, Nat.reduceLeDiff, List.length_map, Int.reduceLT, Int.reduceLE, Int.reduceToNat, Int.toNat_zero, Int.le_refl, Int.reduceAdd, decide_true, decide_false, Nat.reduceMul, Nat.reduceLT, Nat.lt_irrefl, true_and, and_self, ↓reduceIte]
theorem attr_long {nm : ByteArray} (h : nm.size ≠ 1) : attrN nm = -1 := by
 have hl : nm.toList.length ≠ 1 := by rw [ByteArray.toList_eq]; simpa using h
 have ne : ∀ x : UInt8, (nm.toList == [x]) = false := fun x => by
  have : nm.toList ≠ [x] := fun e => hl (by rw [e]; rfl)
  simpa using this
 unfold attrN
 simp [ne]
theorem one_byte {nm : ByteArray} (h : nm.size = 1) : ∃ b, nm = ⟨#[b]⟩ := by
 obtain ⟨⟨l⟩⟩ := nm
 match l, h with
 | [b], _ => exact ⟨b, rfl⟩
theorem attr_one (b : UInt8) : attrN ⟨#[b]⟩ = if 97 ≤ b.toNat ∧ b.toNat ≤ 100 then (b.toNat : Int) - 97 else -1 := by
 unfold attrN
 simp only [ByteArray.toList_eq]
 have e : ∀ x : UInt8, ([b] == [x]) = decide (b.toNat = x.toNat) := fun x => by
  have : (b = x) ↔ b.toNat = x.toNat := ⟨fun h => by rw [h], fun h => UInt8.toNat_inj.1 h⟩
  by_cases h : b = x
  ·subst h; simp
  ·have h2 : b.toNat ≠ x.toNat := fun h' => h (this.2 h')
   simp [h, h2]
 have t1 : (97 : UInt8).toNat = 97 := rfl
 have t2 : (98 : UInt8).toNat = 98 := rfl
 have t3 : (99 : UInt8).toNat = 99 := rfl
 have t4 : (100 : UInt8).toNat = 100 := rfl
 rw [e, e, e, e, t1, t2, t3, t4]
 by_cases h : 97 ≤ b.toNat ∧ b.toNat ≤ 100
 ·rw [if_pos h]
  have : b.toNat = 97 ∨ b.toNat = 98 ∨ b.toNat = 99 ∨ b.toNat = 100 := by omega
  rcases this with h | h | h | h <;> simp [h]
 ·rw [if_neg h]
  have h1 : b.toNat ≠ 97 := by omega
  have h2 : b.toNat ≠ 98 := by omega
  have h3 : b.toNat ≠ 99 := by omega
  have h4 : b.toNat ≠ 100 := by omega
  simp [h1, h2, h3, h4]
theorem wu8 {x : Int} (h : 0 ≤ x ∧ x ≤ 3) : IntKind.u8.wrap x = x ∧ IntKind.i64.wrap x = x := by
 unfold IntKind.wrap
 simp [IntKind.bits, IntKind.signed]
 omega
set_option maxHeartbeats 4000000 in
theorem tlB (attr : Int) (nm : ByteArray) : ev Tryd.prog t2V (stT attr nm (nameN attr) (-1)) (fin [.mov (.tmp 6)] (· = .val (.bool true))) := by
 have h3 := tlC attr nm
 unfold t2V
 unfold stT at *
 by_cases h1 : nm.size = 1
 ·obtain ⟨b, rfl⟩ := one_byte h1
  rw [attr_one] at h3
  have e1 : (⟨#[b]⟩ : ByteArray).size = 1 := rfl
  have e2 : (#[b] : Array UInt8)[0]? = some b := rfl
  have e3 : ((1 : Nat) : Int) = 1 := rfl
  by_cases ha : 97 ≤ b.toNat
  ·have d1 : (97 : Int) ≤ (b.toNat : Int) := by omega
   by_cases hb : b.toNat ≤ 100
   ·have d2 : (b.toNat : Int) ≤ 100 := by omega
    rw [if_pos ⟨ha, hb⟩] at h3
    obtain ⟨w1, w2⟩ := wu8 (x := (b.toNat : Int) - 97) (by omega)
    simp only [e1, e2, e3, d1, d2, beq_self_eq_true, ge_iff_le, w1, w2, go_sem, Nat.reduceEqDiff, Nat.reduceAdd, Nat.reduceLeDiff, List.length_map, Int.reduceLT, Int.reduceLE, Int.reduceToNat, Int.toNat_zero, Int.le_refl, Int.reduceAdd, decide_true, decide_false, Nat.reduceMul, Nat.reduceLT, Nat.lt_irrefl, true_and, and_self, ↓reduceIte]
    exact h3
   ·have d2 : ¬ (b.toNat : Int) ≤ 100 := by omega
    rw [if_neg (by omega)] at h3
    simp only [e1, e2, e3, d1, d2, beq_self_eq_true, ge_iff_le, go_sem, Nat.reduceEqDiff, Nat.reduceAdd, Nat.reduceLeDiff, List.length_map, Int.reduceLT, Int.reduceLE, Int.reduceToNat, Int.toNat_zero, Int.le_refl, Int.reduceAdd, decide_true, decide_false, Nat.reduceMul, Nat.reduceLT, Nat.lt_irrefl, true_and, and_self, ↓reduceIte]
    exact h3
  ·have d1 : ¬ (97 : Int) ≤ (b.toNat : Int) := by omega
   rw [if_neg (by omega)] at h3
   simp only [e1, e2, e3, d1, beq_self_eq_true, ge_iff_le, go_sem, Nat.reduceEqDiff, Nat.reduceAdd, Nat.reduceLeDiff, List.length_map, Int.reduceLT, Int.reduceLE, Int.reduceToNat, Int.toNat_zero, Int.le_refl, Int.reduceAdd, decide_true, decide_false, Nat.reduceMul, Nat.reduceLT, Nat.lt_irrefl, true_and, and_self, ↓reduceIte]
   exact h3
 ·rw [attr_long h1] at h3
  have e1 : ((nm.size : Int) == 1) = false := by simp; omega
  simp only [e1, go_sem, Nat.reduceEqDiff, Nat.reduceAdd, Nat.reduceLeDiff, List.length_map, Int.reduceLT, Int.reduceLE, Int.reduceToNat, Int.toNat_zero, Int.le_refl, Int.reduceAdd, decide_true, decide_false, Nat.reduceMul, Nat.reduceLT, Nat.lt_irrefl, true_and, and_self, ↓reduceIte]
  exact h3
set_option maxHeartbeats 4000000 in
theorem tlA (attr : Int) (nm : ByteArray) : ev Tryd.prog t1V (stT attr nm ⟨#[]⟩ (-1)) (fin [.mov (.tmp 6)] (· = .val (.bool true))) := by
 have h2 := tlB attr nm
 unfold t1V
 unfold stT at *
 by_cases h : attr < 0 ∨ 4 ≤ attr
 ·rw [name_out h] at h2
  by_cases h0 : attr < 0
  ·have d1 : ¬ 0 ≤ attr := by omega
   simp only [d1, ge_iff_le, go_sem, Nat.reduceEqDiff, Nat.reduceAdd, Nat.reduceLeDiff, List.length_map, Int.reduceLT, Int.reduceLE, Int.reduceToNat, Int.toNat_zero, Int.le_refl, Int.reduceAdd, decide_true, decide_false, Nat.reduceMul, Nat.reduceLT, Nat.lt_irrefl, true_and, and_self, ↓reduceIte]
   exact h2
  ·have d1 : 0 ≤ attr := by omega
   have d2 : ¬ attr < 4 := by omega
   simp only [d1, d2, ge_iff_le, go_sem, Nat.reduceEqDiff, Nat.reduceAdd, Nat.reduceLeDiff, List.length_map, Int.reduceLT, Int.reduceLE, Int.reduceToNat, Int.toNat_zero, Int.le_refl, Int.reduceAdd, decide_true, decide_false, Nat.reduceMul, Nat.reduceLT, Nat.lt_irrefl, true_and, and_self, ↓reduceIte]
   exact h2
 ·rcases in4 h with rfl | rfl | rfl | rfl
  all_goals
   simp only [ge_iff_le, wi1, wi2, wi3, wi4, go_sem, Nat.reduceEqDiff, Nat.reduceAdd, Nat.reduceLeDiff, List.length_map, Int.reduceLT, Int.reduceLE, Int.reduceToNat, Int.toNat_zero, Int.le_refl, Int.reduceAdd, decide_true, decide_false, Nat.reduceMul, Nat.reduceLT, Nat.lt_irrefl, true_and, and_self, ↓reduceIte]
   exact h2
theorem wrapX {x : Int} (h : 0 ≤ x ∧ x ≤ 7) : IntKind.i64.wrap x = x ∧ IntKind.i64.wrap (1 + x) = 1 + x := by
 unfold IntKind.wrap
 simp [IntKind.bits, IntKind.signed]
 omega
theorem u64_nn (m : Int) : 0 ≤ (IntKind.u64.wrap m).tmod 8 ∧ (IntKind.u64.wrap m).tmod 8 ≤ 7 := by
 have h0 : 0 ≤ IntKind.u64.wrap m := by
  unfold IntKind.wrap
  simp [IntKind.signed, IntKind.bits]
  omega
 have h1 := Int.tmod_nonneg 8 h0
 have h2 := Int.tmod_lt_of_pos (IntKind.u64.wrap m) (show (0 : Int) < 8 by decide)
 omega
set_option maxHeartbeats 4000000 in
set_option maxRecDepth 4000 in
theorem kValueNames (attr : Int) (nm : ByteArray) (many : Int) : PureAt Tryd.prog 5 [.val (.int .i64 attr), .val (.string nm), .val (.int .i64 many)] (· = .val (.bool true)) := by
 refine pure_of r5v (by kernel_rfl) ?_
 unfold m5v
 simp only [go_sem, Nat.reduceEqDiff, Nat.reduceAdd, Nat.reduceLeDiff, List.length_map, Int.reduceLT, Int.reduceLE, Int.reduceToNat, Int.toNat_zero, Int.le_refl, Int.reduceAdd, decide_true, decide_false, Nat.reduceMul, Nat.reduceLT, Nat.lt_irrefl, true_and, and_self, ↓reduceIte]
 refine callP_eq rfl rfl kawake01 ?_
 simp only [go_sem, Nat.reduceEqDiff, Nat.reduceAdd, Nat.reduceLeDiff, List.length_map, Int.reduceLT, Int.reduceLE, Int.reduceToNat, Int.toNat_zero, Int.le_refl, Int.reduceAdd, decide_true, decide_false, Nat.reduceMul, Nat.reduceLT, Nat.lt_irrefl, true_and, and_self, ↓reduceIte]
 cases hs : decide ((nm.size : Int) > 100)
 rotate_left
 ·simp only [hs, go_sem, Nat.reduceEqDiff, Nat.reduceAdd, Nat.reduceLeDiff, List.length_map, Int.reduceLT, Int.reduceLE, Int.reduceToNat, Int.toNat_zero, Int.le_refl, Int.reduceAdd, decide_true, decide_false, Nat.reduceMul, Nat.reduceLT, Nat.lt_irrefl, true_and, and_self, ↓reduceIte]
  refine callP_eq rfl rfl kawake01 ?_
  simp only [go_sem, Nat.reduceEqDiff, Nat.reduceAdd, Nat.reduceLeDiff, List.length_map, Int.reduceLT, Int.reduceLE, Int.reduceToNat, Int.toNat_zero, Int.le_refl, Int.reduceAdd, decide_true, decide_false, Nat.reduceMul, Nat.reduceLT, Nat.lt_irrefl, true_and, and_self, ↓reduceIte]
 have hx := u64_nn many
 have e8 : (8 : Int) ≠ 0 := by decide
 generalize hxx : (IntKind.u64.wrap many).tmod 8 = x at *
 obtain ⟨w1, w2⟩ := wrapX hx
 simp only [hs, Value.oneCell', List.map_cons, List.map_nil, Int.reduceEq, hxx, w1, w2, e8, go_sem, Nat.reduceEqDiff, Nat.reduceAdd, Nat.reduceLeDiff, List.length_map, Int.reduceLT, Int.reduceLE, Int.reduceToNat, Int.toNat_zero, Int.le_refl, Int.reduceAdd, decide_true, decide_false, Nat.reduceMul, Nat.reduceLT, Nat.lt_irrefl, true_and, and_self, ↓reduceIte]
 refine loop2_N 8 (fun i => 1 ≤ i) (fun i => stN (1 + x) attr nm i hpN) (by kernel_rfl) ?_ ?_
 ·simp only [go_sem, Nat.reduceEqDiff, Nat.reduceAdd, Nat.reduceLeDiff, List.length_map, Int.reduceLT, Int.reduceLE, Int.reduceToNat, Int.toNat_zero, Int.le_refl, Int.reduceAdd, decide_true, decide_false, Nat.reduceMul, Nat.reduceLT, Nat.lt_irrefl, true_and, and_self, ↓reduceIte]
  refine rnd0 (1 + x) attr nm (by omega) (fun S hS => ?_)
  exact first_next (by omega) (by omega) hS
 ·intro i hi h1
  by_cases hc : (i : Int) < 1 + x
  ·refine stpN i (1 + x) attr nm h1 (by omega) hc (fun S hS => ?_)
   exact invN_next (by omega) (by omega) hS
  ·refine endN i (1 + x) attr nm hc (fun S hS => ?_)
   simp only [hS, go_sem, Nat.reduceEqDiff, Nat.reduceAdd, Nat.reduceLeDiff, List.length_map, Int.reduceLT, Int.reduceLE, Int.reduceToNat, Int.toNat_zero, Int.le_refl, Int.reduceAdd, decide_true, decide_false, Nat.reduceMul, Nat.reduceLT, Nat.lt_irrefl, true_and, and_self, ↓reduceIte]
   exact tlA attr nm
theorem rd_int {H : Type} {enc : TypeId × Value → H} {w : World} (fuel : Nat) : Rd enc Tryd.prog w fuel 3 (fun ds => ∃ n : Int, ds = [.val (.int .i64 n)] ∧ True) :=
 (Rd_int Tryd.underlying3).mono fun _ ⟨n, h, _⟩ => ⟨n, h, trivial⟩
end Go.Proofs
