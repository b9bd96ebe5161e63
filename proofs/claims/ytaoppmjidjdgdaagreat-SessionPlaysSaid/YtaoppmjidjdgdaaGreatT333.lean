/- A part of the proof; what is proved stands in the last text. -/
import Derived.Test.YtaoppmjidjdgdaaGreatT332
set_option linter.unusedVariables false
set_option maxRecDepth 2000
namespace Go.Proofs
open Go.Vm
set_option linter.unusedSimpArgs false
def pubC (id k : Int) (e : EvM) : List D := .val (.int .i64 id) :: .val (.int .i64 k) :: evC e
theorem findE_seen (id : Int) : ∀ (G : List Int) (i0 : Nat), (id ∉ G ∧ findE [.i] (.val (.int .i64 id)) (seenR G) i0 = some none) ∨ (id ∈ G ∧ ∃ j, findE [.i] (.val (.int .i64 id)) (seenR G) i0 = some (some (j, .val (.bool true))))
 | [], i0 => .inl ⟨by simp, rfl⟩
 | g :: G, i0 => by
  have e : findE [.i] (.val (.int .i64 id)) (seenR (g :: G)) i0 = match (some (id == g) : Option Bool) with | some true => some (some (i0, .val (.bool true))) | some false => findE [.i] (.val (.int .i64 id)) (seenR G) (i0 + 1) | none => none := rfl
  rw [e]
  by_cases h : id = g
  ·subst h
   exact .inr ⟨by simp, i0, by simp⟩
  ·have : (id == g) = false := by simpa using h
   rw [this]
   rcases findE_seen id G (i0 + 1) with ⟨h1, h2⟩ | ⟨h1, j, h2⟩
   ·exact .inl ⟨by simp [h, h1], h2⟩
   ·exact .inr ⟨by simp [h1], j, h2⟩
def dlv (L : List SEnt) (G : List Int) (id : Int) (e : EvM) : Bool := !decide (id ∈ G) && hasL L e
theorem seen_put (G : List Int) (id : Int) : putE (.val (.int .i64 id)) (.val (.bool true)) (seenR G) none = seenR (G ++ [id]) := by simp [putE, seenR]
set_option maxHeartbeats 4000000 in
set_option maxRecDepth 4000 in
theorem kDeliver (n : Int) (L : List SEnt) (G : List Int) (id k : Int) (e : EvM) (hl : L.length ≤ 100000) (hg : G.length ≤ 100000) (hf : FewE L) : ObjAt Tryz.prog 12 ⟨[(0, .ptr 1000000 0), (1, .agg (pubC id k e))], hpS n L G, tgS⟩ 2
    (fun r hp tg => r = .val (.bool (dlv L G id e)) ∧ hp = hpS n L (if dlv L G id e = true then G ++ [id] else G) ∧ tg = tgS) := by
 refine obj_of [1000000, 11000000] [tE, tInt] r12 (by kernel_rfl) ?_
 unfold m12
 simp only [hpS, tgS, sBox, tE, tInt, pubC, evC, go_sem, Nat.reduceEqDiff, Nat.reduceAdd, Nat.reduceLeDiff, List.length_map, Int.reduceLT, Int.reduceLE, Int.reduceToNat, Int.toNat_zero, Int.le_refl, Int.reduceAdd, decide_true, decide_false, Nat.reduceMul, Nat.reduceLT, Nat.lt_irrefl, true_and, and_self, ↓reduceIte]
 refine dany_at (q := _) rfl ?_
 refine any_q 0 _ _ rfl rfl rfl ?_
 refine any_q 1 _ _ rfl rfl rfl ?_
 refine any_q 2 _ _ rfl rfl rfl ?_
 refine por_s 7 rfl (by kernel_rfl) trim_ex rfl rfl rfl rfl rfl ?_
 refine por_l 8 rfl (by kernel_rfl) trim_ex rfl rfl rfl rfl rfl ?_
 refine any_q 3 _ _ rfl rfl rfl ?_
 refine any_q 4 _ _ rfl rfl rfl ?_
 refine any_q 5 _ _ rfl rfl rfl ?_
 refine any_q 6 _ _ rfl rfl rfl ?_
 unfold dlv
 rcases findE_seen id G 0 with ⟨h1, h2⟩ | ⟨h1, j, h2⟩
 ·refine any_1 9 _ rfl rfl ?_
  refine v_mget_by none rfl rfl rfl rfl rfl h2 ?_
  refine any_q 10 _ (.val (.bool false)) rfl rfl rfl ?_
  refine any_q 11 _ _ rfl rfl rfl ?_
  refine por_s 13 rfl (by kernel_rfl) trim_ex rfl rfl rfl rfl rfl ?_
  refine por_l 14 rfl (by kernel_rfl) trim_ex rfl rfl rfl rfl rfl ?_
  refine any_q 12 _ _ rfl rfl rfl ?_
  refine any_1 15 _ rfl rfl ?_
  refine v_obj_by rfl rfl ?_
  refine callO_eq rfl rfl rfl rfl rfl (ksHas n L G e hl hf) ?_
  have hd : decide (id ∈ G) = false := by simpa using h1
  rw [hd]
  cases hh : hasL L e
  ·refine any_q 16 _ _ rfl rfl rfl ?_
   refine any_q 17 _ _ rfl rfl rfl ?_
   simp only [hpS, tgS, sBox, tE, tInt, pubC, evC, go_sem, Nat.reduceEqDiff, Nat.reduceAdd, Nat.reduceLeDiff, List.length_map, Int.reduceLT, Int.reduceLE, Int.reduceToNat, Int.toNat_zero, Int.le_refl, Int.reduceAdd, decide_true, decide_false, Nat.reduceMul, Nat.reduceLT, Nat.lt_irrefl, true_and, and_self, ↓reduceIte]
  ·refine any_q 16 _ _ rfl rfl rfl ?_
   refine any_q 17 _ _ rfl rfl rfl ?_
   simp only [hpS, tgS, sBox, tE, tInt, pubC, evC, h2, go_sem, Nat.reduceEqDiff, Nat.reduceAdd, Nat.reduceLeDiff, List.length_map, Int.reduceLT, Int.reduceLE, Int.reduceToNat, Int.toNat_zero, Int.le_refl, Int.reduceAdd, decide_true, decide_false, Nat.reduceMul, Nat.reduceLT, Nat.lt_irrefl, true_and, and_self, ↓reduceIte]
   refine dany_at (q := _) rfl ?_
   refine por_s 0 rfl (by kernel_rfl) trim_ex rfl rfl rfl rfl rfl ?_
   refine por_s 1 rfl (by kernel_rfl) trim_ex rfl rfl rfl rfl rfl ?_
   refine por_s 2 rfl (by kernel_rfl) trim_ex rfl rfl rfl rfl rfl ?_
   refine por_s 3 rfl (by kernel_rfl) trim_ex rfl rfl rfl rfl rfl ?_
   refine por_s 5 rfl (by kernel_rfl) trim_ex rfl rfl rfl rfl rfl ?_
   refine por_l 6 rfl (by kernel_rfl) trim_ex rfl rfl rfl rfl rfl ?_
   simp only [hpS, tgS, sBox, tE, tInt, pubC, evC, go_sem, Nat.reduceEqDiff, Nat.reduceAdd, Nat.reduceLeDiff, List.length_map, Int.reduceLT, Int.reduceLE, Int.reduceToNat, Int.toNat_zero, Int.le_refl, Int.reduceAdd, decide_true, decide_false, Nat.reduceMul, Nat.reduceLT, Nat.lt_irrefl, true_and, and_self, ↓reduceIte]
   refine ⟨intS_rows G, by rintro y rfl; rfl, by omega, by omega, ?_⟩
   rw [seen_put, List.map_append]
   rfl
 ·refine any_1 9 _ rfl rfl ?_
  refine v_mget_by (some (j, .val (.bool true))) rfl rfl rfl rfl rfl h2 ?_
  refine any_q 10 _ (.val (.bool true)) rfl rfl rfl ?_
  refine any_q 11 _ _ rfl rfl rfl ?_
  refine por_f 13 rfl (by kernel_rfl) trim_ex rfl rfl ?_
  refine por_f 14 rfl (by kernel_rfl) trim_ex rfl rfl ?_
  refine any_f 12 _ rfl rfl ?_
  refine any_f 15 _ rfl rfl ?_
  refine any_f 16 _ rfl rfl ?_
  refine any_q 17 _ (.val (.bool true)) rfl rfl rfl ?_
  have hd : decide (id ∈ G) = true := by simpa using h1
  rw [hd]
  simp only [hpS, tgS, sBox, tE, tInt, pubC, evC, go_sem, Nat.reduceEqDiff, Nat.reduceAdd, Nat.reduceLeDiff, List.length_map, Int.reduceLT, Int.reduceLE, Int.reduceToNat, Int.toNat_zero, Int.le_refl, Int.reduceAdd, decide_true, decide_false, Nat.reduceMul, Nat.reduceLT, Nat.lt_irrefl, true_and, and_self, ↓reduceIte]
end Go.Proofs
