/- A part of the proof; what is proved stands in the last text. -/
import Derived.Test.YtdfpmolkpkpboaaDoorT200
import Derived.Test.YtdfpmolkpkpboaaDoorMNf
import Derived.Test.YtdfpmolkpkpboaaDoorMNa
import Derived.Test.YtdfpmolkpkpboaaDoorMNn
set_option linter.unusedVariables false
set_option maxRecDepth 2000
namespace Go.Proofs
open Go.Vm
set_option linter.unusedSimpArgs false
def nmC (d m : Int) (a b c e : ByteArray) (h : D) : List D := [.val (.int .u32 d), .val (.int .i32 m), .val (.int .u32 0), .val (.string a), .val (.string b), .val (.string c), .val (.string e), h]
def nms0 (m : Int) : List D := nmC 0 m ⟨#[]⟩ ⟨#[]⟩ ⟨#[]⟩ ⟨#[]⟩ (.val (.map none))
def nmR : List (List D) := [[.val (.string ⟨#[97]⟩), .val (.int .i64 0)], [.val (.string ⟨#[98]⟩), .val (.int .i64 1)], [.val (.string ⟨#[99]⟩), .val (.int .i64 2)], [.val (.string ⟨#[100]⟩), .val (.int .i64 3)]]
def nmB : List D := [.mpc nmR, .undef, .undef]
def nms1 (o : Nat) : List D := nmC 0 1 ⟨#[97]⟩ ⟨#[98]⟩ ⟨#[99]⟩ ⟨#[100]⟩ (.mh o)
def nmsL (o : Nat) : List D := nmC 1 0 ⟨#[97]⟩ ⟨#[98]⟩ ⟨#[99]⟩ ⟨#[100]⟩ (.mh o)
theorem tl1 (x : UInt8) : (⟨#[x]⟩ : ByteArray).toList = [x] := by rw [ByteArray.toList_eq]
theorem n4i : ((4 : Nat) : Int) = 4 := rfl
theorem wi0 : IntKind.i64.wrap 0 = 0 := by decide
theorem wi1 : IntKind.i64.wrap 1 = 1 := by decide
theorem wi2 : IntKind.i64.wrap 2 = 2 := by decide
theorem wi3 : IntKind.i64.wrap 3 = 3 := by decide
theorem wi4 : IntKind.i64.wrap 4 = 4 := by decide
theorem wi97 : IntKind.i64.wrap 97 = 97 := by decide
theorem wu97 : IntKind.u8.wrap 97 = 97 := by decide
theorem wt97 : ((97 : Nat)).toUInt8 = 97 := rfl
theorem wi98 : IntKind.i64.wrap 98 = 98 := by decide
theorem wu98 : IntKind.u8.wrap 98 = 98 := by decide
theorem wt98 : ((98 : Nat)).toUInt8 = 98 := rfl
theorem wi99 : IntKind.i64.wrap 99 = 99 := by decide
theorem wu99 : IntKind.u8.wrap 99 = 99 := by decide
theorem wt99 : ((99 : Nat)).toUInt8 = 99 := rfl
theorem wi100 : IntKind.i64.wrap 100 = 100 := by decide
theorem wu100 : IntKind.u8.wrap 100 = 100 := by decide
theorem wt100 : ((100 : Nat)).toUInt8 = 100 := rfl
theorem e97x98 : ([(98 : UInt8)] == [97]) = decide ((98 : Nat) = 97) := by decide
theorem e97x99 : ([(99 : UInt8)] == [97]) = decide ((99 : Nat) = 97) := by decide
theorem e97x100 : ([(100 : UInt8)] == [97]) = decide ((100 : Nat) = 97) := by decide
theorem e98x99 : ([(99 : UInt8)] == [98]) = decide ((99 : Nat) = 98) := by decide
theorem e98x100 : ([(100 : UInt8)] == [98]) = decide ((100 : Nat) = 98) := by decide
theorem e99x100 : ([(100 : UInt8)] == [99]) = decide ((100 : Nat) = 99) := by decide
set_option maxHeartbeats 4000000 in
theorem kLay : ObjAt Tryd.prog 48 ⟨[(0, .ptr 1000000 0)], [(1000000, nms0 1)], []⟩ 1 (fun r hp tg => r = .tup [] ∧ hp = [(1000000, nms1 10000004), (10000004, nmB)] ∧ tg = []) := by
 refine obj_of [1000000, 10000004] [] r48f (by kernel_rfl) ?_
 unfold m48f
 simp only [nms0, nmC, go_sem, Nat.reduceEqDiff, Nat.reduceAdd, Nat.reduceLeDiff, List.length_map, Int.reduceLT, Int.reduceLE, Int.reduceToNat, Int.toNat_zero, Int.le_refl, Int.reduceAdd, decide_true, decide_false, Nat.reduceMul, Nat.reduceLT, Nat.lt_irrefl, true_and, and_self, ↓reduceIte]
 refine ev_loop_u 4 ?_
 simp only [nms0, nmC, n4i, wi0, wi1, wi2, wi3, wi4, wi97, wi98, wi99, wi100, wu97, wu98, wu99, wu100, wt97, wt98, wt99, wt100, Int.reduceMul, findE, tl1, e97x98, e97x99, e97x100, e98x99, e98x100, e99x100, putE, List.nil_append, List.cons_append, decide_eq_true_eq, go_sem, Nat.reduceEqDiff, Nat.reduceAdd, Nat.reduceLeDiff, List.length_map, Int.reduceLT, Int.reduceLE, Int.reduceToNat, Int.toNat_zero, Int.le_refl, Int.reduceAdd, decide_true, decide_false, Nat.reduceMul, Nat.reduceLT, Nat.lt_irrefl, true_and, and_self, ↓reduceIte]
 rfl
theorem ex_ne {c : Nat} (hc : c ≠ 1000000) (o : Nat) (ys : List D) (h : lkp o [(c, nmB)] = some ys) : o ≠ 1000000 := by
 simp only [lkp] at h
 split at h
 ·rename_i he; rw [he]; exact hc
 ·cases h
theorem kOnceF : ObjAt Tryd.prog 47 ⟨[(0, .ptr 1000000 0), (1, .fn 48 [.ptr 1000000 0] [])], [(1000000, nms0 0)], []⟩ 2 (fun r hp tg => r = .tup [] ∧ hp = [(1000000, nmsL 10000004), (10000004, nmB)] ∧ tg = []) :=
 once_firstX (off := 0) (cs := nms0 0) (cs1 := nms1 10000004) (ex := [(10000004, nmB)]) (ex_ne (by decide)) ⟨_, Tryd.func47, by kernel_rfl, by kernel_rfl⟩ do_namesLay rfl rfl kLay rfl rfl rfl
theorem kOnceA (d : D) : ObjAt Tryd.prog 47 ⟨[(0, .ptr 1000000 0), (1, d)], [(1000000, nmsL 11000000), (11000000, nmB)], []⟩ 2 (fun r hp tg => r = .tup [] ∧ hp = [(1000000, nmsL 11000000), (11000000, nmB)] ∧ tg = []) := by
 refine once_againX (off := 0) (cs := nmsL 11000000) (ex := [(11000000, nmB)]) (fun o ys h => ?_) ⟨_, Tryd.func47, by kernel_rfl, by kernel_rfl⟩ do_done rfl
 simp only [lkp] at h
 split at h
 ·injection h with h; subst h; simp [nmsL, nmC]
 ·split at h
  ·injection h with h; subst h; simp [nmB]
  ·cases h
theorem kLaidF : ObjAt Tryd.prog 31 ⟨[(0, .ptr 1000000 0)], [(1000000, nms0 0)], []⟩ 1 (fun r hp tg => r = .ptr 1000000 0 ∧ hp = [(1000000, nmsL 10000012), (10000012, nmB)] ∧ tg = []) := by
 refine obj_of [1000000, 10000012] [] r31f (by kernel_rfl) ?_
 unfold m31f
 simp only [nms0, nmC, go_sem, Nat.reduceEqDiff, Nat.reduceAdd, Nat.reduceLeDiff, List.length_map, Int.reduceLT, Int.reduceLE, Int.reduceToNat, Int.toNat_zero, Int.le_refl, Int.reduceAdd, decide_true, decide_false, Nat.reduceMul, Nat.reduceLT, Nat.lt_irrefl, true_and, and_self, ↓reduceIte]
 refine callO_eq rfl rfl rfl rfl rfl kOnceF ?_
 simp only [nmsL, nmC, nmB, nmR, go_sem, Nat.reduceEqDiff, Nat.reduceAdd, Nat.reduceLeDiff, List.length_map, Int.reduceLT, Int.reduceLE, Int.reduceToNat, Int.toNat_zero, Int.le_refl, Int.reduceAdd, decide_true, decide_false, Nat.reduceMul, Nat.reduceLT, Nat.lt_irrefl, true_and, and_self, ↓reduceIte]
theorem kLaidA : ObjAt Tryd.prog 31 ⟨[(0, .ptr 1000000 0)], [(1000000, nmsL 11000000), (11000000, nmB)], []⟩ 1 (fun r hp tg => r = .ptr 1000000 0 ∧ hp = [(1000000, nmsL 11000000), (11000000, nmB)] ∧ tg = []) := by
 refine obj_of [1000000, 11000000] [] r31a (by kernel_rfl) ?_
 unfold m31a
 simp only [nmsL, nmC, nmB, nmR, go_sem, Nat.reduceEqDiff, Nat.reduceAdd, Nat.reduceLeDiff, List.length_map, Int.reduceLT, Int.reduceLE, Int.reduceToNat, Int.toNat_zero, Int.le_refl, Int.reduceAdd, decide_true, decide_false, Nat.reduceMul, Nat.reduceLT, Nat.lt_irrefl, true_and, and_self, ↓reduceIte]
 refine callO_eq rfl rfl rfl rfl rfl (kOnceA _) ?_
 simp only [nmsL, nmC, nmB, nmR, go_sem, Nat.reduceEqDiff, Nat.reduceAdd, Nat.reduceLeDiff, List.length_map, Int.reduceLT, Int.reduceLE, Int.reduceToNat, Int.toNat_zero, Int.le_refl, Int.reduceAdd, decide_true, decide_false, Nat.reduceMul, Nat.reduceLT, Nat.lt_irrefl, true_and, and_self, ↓reduceIte]
theorem kNameF2 : ObjAt Tryd.prog 14 ⟨[(0, .ptr 1000000 0), (1, .val (.int .i64 2))], [(1000000, nms0 0)], []⟩ 2 (fun r hp tg => r = .val (.string ⟨#[99]⟩) ∧ hp = [(1000000, nmsL 10000012), (10000012, nmB)] ∧ tg = []) := by
 refine obj_of [1000000, 10000012] [] r14f (by kernel_rfl) ?_
 unfold m14f
 simp only [nms0, nmC, ge_iff_le, gt_iff_lt, go_sem, Nat.reduceEqDiff, Nat.reduceAdd, Nat.reduceLeDiff, List.length_map, Int.reduceLT, Int.reduceLE, Int.reduceToNat, Int.toNat_zero, Int.le_refl, Int.reduceAdd, decide_true, decide_false, Nat.reduceMul, Nat.reduceLT, Nat.lt_irrefl, true_and, and_self, ↓reduceIte]
 refine callO_eq rfl rfl rfl rfl rfl kLaidF ?_
 simp only [nmsL, nmC, nmB, nmR, n4i, go_sem, Nat.reduceEqDiff, Nat.reduceAdd, Nat.reduceLeDiff, List.length_map, Int.reduceLT, Int.reduceLE, Int.reduceToNat, Int.toNat_zero, Int.le_refl, Int.reduceAdd, decide_true, decide_false, Nat.reduceMul, Nat.reduceLT, Nat.lt_irrefl, true_and, and_self, ↓reduceIte]
def attrN (s : ByteArray) : Int := if s.toList == [97] then 0 else if s.toList == [98] then 1 else if s.toList == [99] then 2 else if s.toList == [100] then 3 else -1
theorem kAttrA (s : ByteArray) : ObjAt Tryd.prog 15 ⟨[(0, .ptr 1000000 0), (1, .val (.string s))], [(1000000, nmsL 11000000), (11000000, nmB)], []⟩ 2 (fun r hp tg => r = .val (.int .i64 (attrN s)) ∧ hp = [(1000000, nmsL 11000000), (11000000, nmB)] ∧ tg = []) := by
 refine obj_of [1000000, 11000000] [] r15a (by kernel_rfl) ?_
 unfold m15a
 unfold attrN
 simp only [nmsL, nmC, nmB, nmR, go_sem, Nat.reduceEqDiff, Nat.reduceAdd, Nat.reduceLeDiff, List.length_map, Int.reduceLT, Int.reduceLE, Int.reduceToNat, Int.toNat_zero, Int.le_refl, Int.reduceAdd, decide_true, decide_false, Nat.reduceMul, Nat.reduceLT, Nat.lt_irrefl, true_and, and_self, ↓reduceIte]
 refine callO_eq rfl rfl rfl rfl rfl kLaidA ?_
 simp only [nmsL, nmC, nmB, nmR, findE, tl1, go_sem, Nat.reduceEqDiff, Nat.reduceAdd, Nat.reduceLeDiff, List.length_map, Int.reduceLT, Int.reduceLE, Int.reduceToNat, Int.toNat_zero, Int.le_refl, Int.reduceAdd, decide_true, decide_false, Nat.reduceMul, Nat.reduceLT, Nat.lt_irrefl, true_and, and_self, ↓reduceIte]
 generalize (s.toList == [97]) = q1
 generalize (s.toList == [98]) = q2
 generalize (s.toList == [99]) = q3
 generalize (s.toList == [100]) = q4
 cases q1
 ·cases q2
  ·cases q3
   ·cases q4
    ·simp only [go_sem, Nat.reduceEqDiff, Nat.reduceAdd, Nat.reduceLeDiff, List.length_map, Int.reduceLT, Int.reduceLE, Int.reduceToNat, Int.toNat_zero, Int.le_refl, Int.reduceAdd, decide_true, decide_false, Nat.reduceMul, Nat.reduceLT, Nat.lt_irrefl, true_and, and_self, ↓reduceIte]
    ·simp only [go_sem, Nat.reduceEqDiff, Nat.reduceAdd, Nat.reduceLeDiff, List.length_map, Int.reduceLT, Int.reduceLE, Int.reduceToNat, Int.toNat_zero, Int.le_refl, Int.reduceAdd, decide_true, decide_false, Nat.reduceMul, Nat.reduceLT, Nat.lt_irrefl, true_and, and_self, ↓reduceIte]
   ·simp only [go_sem, Nat.reduceEqDiff, Nat.reduceAdd, Nat.reduceLeDiff, List.length_map, Int.reduceLT, Int.reduceLE, Int.reduceToNat, Int.toNat_zero, Int.le_refl, Int.reduceAdd, decide_true, decide_false, Nat.reduceMul, Nat.reduceLT, Nat.lt_irrefl, true_and, and_self, ↓reduceIte]
  ·simp only [go_sem, Nat.reduceEqDiff, Nat.reduceAdd, Nat.reduceLeDiff, List.length_map, Int.reduceLT, Int.reduceLE, Int.reduceToNat, Int.toNat_zero, Int.le_refl, Int.reduceAdd, decide_true, decide_false, Nat.reduceMul, Nat.reduceLT, Nat.lt_irrefl, true_and, and_self, ↓reduceIte]
 ·simp only [go_sem, Nat.reduceEqDiff, Nat.reduceAdd, Nat.reduceLeDiff, List.length_map, Int.reduceLT, Int.reduceLE, Int.reduceToNat, Int.toNat_zero, Int.le_refl, Int.reduceAdd, decide_true, decide_false, Nat.reduceMul, Nat.reduceLT, Nat.lt_irrefl, true_and, and_self, ↓reduceIte]
end Go.Proofs
