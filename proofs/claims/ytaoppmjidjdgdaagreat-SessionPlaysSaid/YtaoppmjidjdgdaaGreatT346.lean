/- A part of the proof; what is proved stands in the last text. -/
import Derived.Test.YtaoppmjidjdgdaaGreatT337
import Derived.Test.YtaoppmjidjdgdaaGreatMPc
import Derived.Test.YtaoppmjidjdgdaaGreatVm27
import Derived.Test.YtaoppmjidjdgdaaGreatLayMapsClone
set_option linter.unusedVariables false
set_option maxRecDepth 2000
namespace Go.Proofs
open Go.Vm
set_option linter.unusedSimpArgs false
theorem kCloneEc (es : List (List D)) (h2 : ∀ e ∈ es, e.length = 3) (hl : es.length ≤ 1000000) : FreshAt Tryz.prog 28 [.sl none es] 44 3 (· = es) := by
 refine fresh_of r28c (by kernel_rfl) ?_
 unfold m28c
 simp only [go_sem, Nat.reduceEqDiff, Nat.reduceAdd, Nat.reduceLeDiff, List.length_map, Int.reduceLT, Int.reduceLE, Int.reduceToNat, Int.toNat_zero, Int.le_refl, Int.reduceAdd, decide_true, decide_false, Nat.reduceMul, Nat.reduceLT, Nat.lt_irrefl, true_and, and_self, ↓reduceIte]
 intro b hb
 refine condE_split (fun h => ?_) (fun h => ?_)
 ·simp only [go_sem, Nat.reduceEqDiff, Nat.reduceAdd, Nat.reduceLeDiff, List.length_map, Int.reduceLT, Int.reduceLE, Int.reduceToNat, Int.toNat_zero, Int.le_refl, Int.reduceAdd, decide_true, decide_false, Nat.reduceMul, Nat.reduceLT, Nat.lt_irrefl, true_and, and_self, ↓reduceIte]
  simp_all
 ·simp only [List.length_append, List.nil_append, go_sem, Nat.reduceEqDiff, Nat.reduceAdd, Nat.reduceLeDiff, List.length_map, Int.reduceLT, Int.reduceLE, Int.reduceToNat, Int.toNat_zero, Int.le_refl, Int.reduceAdd, decide_true, decide_false, Nat.reduceMul, Nat.reduceLT, Nat.lt_irrefl, true_and, and_self, ↓reduceIte]
  simp only [Nat.zero_add]
  refine ⟨h2, by omega, by omega⟩
theorem kCloneIc (es : List (List D)) (h2 : ∀ e ∈ es, e.length = 1) (hl : es.length ≤ 1000000) : FreshAt Tryz.prog 30 [.sl none es] 3 1 (· = es) := by
 refine fresh_of r30c (by kernel_rfl) ?_
 unfold m30c
 simp only [go_sem, Nat.reduceEqDiff, Nat.reduceAdd, Nat.reduceLeDiff, List.length_map, Int.reduceLT, Int.reduceLE, Int.reduceToNat, Int.toNat_zero, Int.le_refl, Int.reduceAdd, decide_true, decide_false, Nat.reduceMul, Nat.reduceLT, Nat.lt_irrefl, true_and, and_self, ↓reduceIte]
 intro b hb
 refine condE_split (fun h => ?_) (fun h => ?_)
 ·simp only [go_sem, Nat.reduceEqDiff, Nat.reduceAdd, Nat.reduceLeDiff, List.length_map, Int.reduceLT, Int.reduceLE, Int.reduceToNat, Int.toNat_zero, Int.le_refl, Int.reduceAdd, decide_true, decide_false, Nat.reduceMul, Nat.reduceLT, Nat.lt_irrefl, true_and, and_self, ↓reduceIte]
  simp_all
 ·simp only [List.length_append, List.nil_append, go_sem, Nat.reduceEqDiff, Nat.reduceAdd, Nat.reduceLeDiff, List.length_map, Int.reduceLT, Int.reduceLE, Int.reduceToNat, Int.toNat_zero, Int.le_refl, Int.reduceAdd, decide_true, decide_false, Nat.reduceMul, Nat.reduceLT, Nat.lt_irrefl, true_and, and_self, ↓reduceIte]
  simp only [Nat.zero_add]
  refine ⟨h2, by omega, by omega⟩
theorem copyE (n : Nat) (hn : n ≤ 1000000) : CopyAt Tryz.prog 28 44 3 n :=
 ⟨(kCloneEc [] (by simp) (by simp)).1, fun raw h1 h2 _ => kCloneEc _ (fun e he => by obtain ⟨l, hl, rfl⟩ := List.mem_map.1 he; rw [List.length_map]; exact h2 l hl) (by rw [List.length_map]; omega)⟩
theorem copyI (n : Nat) (hn : n ≤ 1000000) : CopyAt Tryz.prog 30 3 1 n :=
 ⟨(kCloneIc [] (by simp) (by simp)).1, fun raw h1 h2 _ => kCloneIc _ (fun e he => by obtain ⟨l, hl, rfl⟩ := List.mem_map.1 he; rw [List.length_map]; exact h2 l hl) (by rw [List.length_map]; omega)⟩
theorem cloneM : CloneAt Tryz.prog 32 :=
 ⟨⟨Tryz.f32, Tryz.func32, by kernel_rfl, by kernel_rfl⟩, fun b es clock w hb => AnyW.maps_Clone Tryz.MapsClone b es clock w hb⟩
def hpC (n : Int) (L : List SEnt) (G : List Int) : List (Nat × List D) := hpS n L G ++ [(25, [.val (.int .i64 n), .sl (some (13, 44, 3)) (L.map entS), .mh 10000018, .sl (some (23, 3, 1)) (G.map intS)]), (10000018, [.mpc (seenR G), .undef, .undef])]
def tgC : List (Tag × Bool) := tgS ++ [((13, 44, 3), true), ((23, 3, 1), true)]
set_option maxHeartbeats 8000000 in
set_option maxRecDepth 4000 in
theorem kCopy (n : Int) (L : List SEnt) (G : List Int) (hl : L.length ≤ 1000000) (hg : G.length ≤ 1000000) : ObjAt Tryz.prog 17 ⟨[(0, .ptr 1000000 0)], hpS n L G, tgS⟩ 1 (fun r hp tg => r = .ptr 25 0 ∧ hp = hpC n L G ∧ tg = tgC) := by
 refine obj_of [1000000, 11000000, 25, 10000018] [tE, tInt, (13, 44, 3), (23, 3, 1)] r17c (by kernel_rfl) ?_
 unfold m17c
 simp only [hpS, tgS, sBox, tE, tInt, go_sem, Nat.reduceEqDiff, Nat.reduceAdd, Nat.reduceLeDiff, List.length_map, Int.reduceLT, Int.reduceLE, Int.reduceToNat, Int.toNat_zero, Int.le_refl, Int.reduceAdd, decide_true, decide_false, Nat.reduceMul, Nat.reduceLT, Nat.lt_irrefl, true_and, and_self, ↓reduceIte]
 refine dany_at (q := _) rfl ?_
 refine por_s 0 rfl (by kernel_rfl) ret_ex rfl rfl rfl rfl rfl ?_
 refine por_s 1 rfl (by kernel_rfl) ret_ex rfl rfl rfl rfl rfl ?_
 refine por_s 2 rfl (by kernel_rfl) ret_ex rfl rfl rfl rfl rfl ?_
 refine por_s 4 rfl (by kernel_rfl) ret_ex rfl rfl rfl rfl rfl ?_
 refine por_s 5 rfl (by kernel_rfl) ret_ex rfl rfl rfl rfl rfl ?_
 refine por_s 6 rfl (by kernel_rfl) ret_ex rfl rfl rfl rfl rfl ?_
 refine por_s 9 rfl (by kernel_rfl) ret_ex rfl rfl rfl rfl rfl ?_
 refine por_s 10 rfl (by kernel_rfl) ret_ex rfl rfl rfl rfl rfl ?_
 refine por_s 11 rfl (by kernel_rfl) ret_ex rfl rfl rfl rfl rfl ?_
 refine por_s 14 rfl (by kernel_rfl) ret_ex rfl rfl rfl rfl rfl ?_
 refine por_s 15 rfl (by kernel_rfl) ret_ex rfl rfl rfl rfl rfl ?_
 refine por_s 16 rfl (by kernel_rfl) ret_ex rfl rfl rfl rfl rfl ?_
 refine evAnyI_any (I := fun S => S.box 1000000 = some [.val (.int .i64 n), .sl (some (900001, 44, 3)) (L.map entS), .mh 11000000, .sl (some (900002, 3, 1)) (G.map intS)]) _ ?_
 refine por_b 3 rfl (by kernel_rfl) ret_ex rfl rfl rfl rfl ?_
 refine por_b 12 rfl (by kernel_rfl) ret_ex rfl rfl rfl rfl ?_
 have qE : CopyAt Tryz.prog 28 44 3 (L.map entS).length := copyE _ (by simpa using hl)
 have qI : CopyAt Tryz.prog 30 3 1 (G.map intS).length := copyI _ (by simpa using hg)
 have qM := clone_obj (P := Tryz.prog) cloneM (o := 11000000) (by decide) (by decide) (by decide) (seenR G)
 refine anyI_2 7 _ 17 _ rfl rfl rfl rfl ?_ ?_
 ·refine vstep_q1 (d := .sl (some (900001, 44, 3)) (L.map entS)) rfl ?_
  refine anyI_2 8 _ 17 _ rfl rfl rfl rfl ?_ ?_
  ·refine v_copy_by rfl rfl rfl rfl qE ?_
   refine anyI_2 13 _ 17 _ rfl rfl rfl rfl ?_ ?_
   ·refine v_obj_by rfl rfl ?_
    refine callO_eq rfl rfl rfl rfl rfl qM ?_
    refine anyI_q 17 _ (.sl (some (900002, 3, 1)) (G.map intS)) rfl rfl rfl rfl ?_
    refine anyI_1 18 _ rfl rfl rfl ?_
    refine v_copy_by rfl rfl rfl rfl qI ?_
    refine anyI_q 19 _ (.agg [.val (.int .i64 n), .sl (some (13, 44, 3)) (L.map entS), .mh 10000018, .sl (some (23, 3, 1)) (G.map intS)]) rfl rfl rfl rfl ?_
    refine anyI_1 20 _ rfl rfl rfl ?_
    simp only [go_sem, Nat.reduceEqDiff, Nat.reduceAdd, Nat.reduceLeDiff, List.length_map, Int.reduceLT, Int.reduceLE, Int.reduceToNat, Int.toNat_zero, Int.le_refl, Int.reduceAdd, decide_true, decide_false, Nat.reduceMul, Nat.reduceLT, Nat.lt_irrefl, true_and, and_self, ↓reduceIte]
    refine anyI_q 21 _ (.ptr 25 0) rfl rfl rfl rfl ?_
    refine ⟨rfl, ?_⟩
    simp only [hpC, tgC, hpS, tgS, sBox, tE, tInt, go_sem, Nat.reduceEqDiff, Nat.reduceAdd, Nat.reduceLeDiff, List.length_map, Int.reduceLT, Int.reduceLE, Int.reduceToNat, Int.toNat_zero, Int.le_refl, Int.reduceAdd, decide_true, decide_false, Nat.reduceMul, Nat.reduceLT, Nat.lt_irrefl, true_and, and_self, ↓reduceIte]
   ·refine vstep_q1 (d := .sl (some (900002, 3, 1)) (G.map intS)) rfl ?_
    refine anyI_1 13 _ rfl rfl rfl ?_
    refine v_obj_by rfl rfl ?_
    refine callO_eq rfl rfl rfl rfl rfl qM ?_
    refine anyI_1 18 _ rfl rfl rfl ?_
    refine v_copy_by rfl rfl rfl rfl qI ?_
    refine anyI_q 19 _ (.agg [.val (.int .i64 n), .sl (some (13, 44, 3)) (L.map entS), .mh 10000018, .sl (some (23, 3, 1)) (G.map intS)]) rfl rfl rfl rfl ?_
    refine anyI_1 20 _ rfl rfl rfl ?_
    simp only [go_sem, Nat.reduceEqDiff, Nat.reduceAdd, Nat.reduceLeDiff, List.length_map, Int.reduceLT, Int.reduceLE, Int.reduceToNat, Int.toNat_zero, Int.le_refl, Int.reduceAdd, decide_true, decide_false, Nat.reduceMul, Nat.reduceLT, Nat.lt_irrefl, true_and, and_self, ↓reduceIte]
    refine anyI_q 21 _ (.ptr 25 0) rfl rfl rfl rfl ?_
    refine ⟨rfl, ?_⟩
    simp only [hpC, tgC, hpS, tgS, sBox, tE, tInt, go_sem, Nat.reduceEqDiff, Nat.reduceAdd, Nat.reduceLeDiff, List.length_map, Int.reduceLT, Int.reduceLE, Int.reduceToNat, Int.toNat_zero, Int.le_refl, Int.reduceAdd, decide_true, decide_false, Nat.reduceMul, Nat.reduceLT, Nat.lt_irrefl, true_and, and_self, ↓reduceIte]
  ·refine vstep_q1 (d := .sl (some (900002, 3, 1)) (G.map intS)) rfl ?_
   refine anyI_1 8 _ rfl rfl rfl ?_
   refine v_copy_by rfl rfl rfl rfl qE ?_
   refine anyI_1 13 _ rfl rfl rfl ?_
   refine v_obj_by rfl rfl ?_
   refine callO_eq rfl rfl rfl rfl rfl qM ?_
   refine anyI_1 18 _ rfl rfl rfl ?_
   refine v_copy_by rfl rfl rfl rfl qI ?_
   refine anyI_q 19 _ (.agg [.val (.int .i64 n), .sl (some (13, 44, 3)) (L.map entS), .mh 10000018, .sl (some (23, 3, 1)) (G.map intS)]) rfl rfl rfl rfl ?_
   refine anyI_1 20 _ rfl rfl rfl ?_
   simp only [go_sem, Nat.reduceEqDiff, Nat.reduceAdd, Nat.reduceLeDiff, List.length_map, Int.reduceLT, Int.reduceLE, Int.reduceToNat, Int.toNat_zero, Int.le_refl, Int.reduceAdd, decide_true, decide_false, Nat.reduceMul, Nat.reduceLT, Nat.lt_irrefl, true_and, and_self, ↓reduceIte]
   refine anyI_q 21 _ (.ptr 25 0) rfl rfl rfl rfl ?_
   refine ⟨rfl, ?_⟩
   simp only [hpC, tgC, hpS, tgS, sBox, tE, tInt, go_sem, Nat.reduceEqDiff, Nat.reduceAdd, Nat.reduceLeDiff, List.length_map, Int.reduceLT, Int.reduceLE, Int.reduceToNat, Int.toNat_zero, Int.le_refl, Int.reduceAdd, decide_true, decide_false, Nat.reduceMul, Nat.reduceLT, Nat.lt_irrefl, true_and, and_self, ↓reduceIte]
 ·refine vstep_q1 (d := .sl (some (900002, 3, 1)) (G.map intS)) rfl ?_
  refine anyI_q 7 _ (.sl (some (900001, 44, 3)) (L.map entS)) rfl rfl rfl rfl ?_
  refine anyI_1 8 _ rfl rfl rfl ?_
  refine v_copy_by rfl rfl rfl rfl qE ?_
  refine anyI_1 13 _ rfl rfl rfl ?_
  refine v_obj_by rfl rfl ?_
  refine callO_eq rfl rfl rfl rfl rfl qM ?_
  refine anyI_1 18 _ rfl rfl rfl ?_
  refine v_copy_by rfl rfl rfl rfl qI ?_
  refine anyI_q 19 _ (.agg [.val (.int .i64 n), .sl (some (13, 44, 3)) (L.map entS), .mh 10000018, .sl (some (23, 3, 1)) (G.map intS)]) rfl rfl rfl rfl ?_
  refine anyI_1 20 _ rfl rfl rfl ?_
  simp only [go_sem, Nat.reduceEqDiff, Nat.reduceAdd, Nat.reduceLeDiff, List.length_map, Int.reduceLT, Int.reduceLE, Int.reduceToNat, Int.toNat_zero, Int.le_refl, Int.reduceAdd, decide_true, decide_false, Nat.reduceMul, Nat.reduceLT, Nat.lt_irrefl, true_and, and_self, ↓reduceIte]
  refine anyI_q 21 _ (.ptr 25 0) rfl rfl rfl rfl ?_
  refine ⟨rfl, ?_⟩
  simp only [hpC, tgC, hpS, tgS, sBox, tE, tInt, go_sem, Nat.reduceEqDiff, Nat.reduceAdd, Nat.reduceLeDiff, List.length_map, Int.reduceLT, Int.reduceLE, Int.reduceToNat, Int.toNat_zero, Int.le_refl, Int.reduceAdd, decide_true, decide_false, Nat.reduceMul, Nat.reduceLT, Nat.lt_irrefl, true_and, and_self, ↓reduceIte]
end Go.Proofs
