/- A part of the proof; what is proved stands in the last text. -/
import Derived.Test.YtaoppmjidjdgdaaGreatT333
set_option linter.unusedVariables false
set_option maxRecDepth 2000
namespace Go.Proofs
open Go.Vm
set_option linter.unusedSimpArgs false
theorem get_intS {l : List Int} {i : Nat} (h : i < l.length) : (l.map intS)[i]? = some [.val (.int .i64 (l.getD i 0))] := by
 rw [List.getElem?_map, List.getElem?_eq_getElem h]; simp [h, intS]
def sameS (l m : List Int) : Bool := decide (l.length = m.length) && (List.range l.length).all fun i => l.getD i 0 == m.getD i 0
set_option maxHeartbeats 1000000 in
theorem kSameIntsS (l m : List Int) (hl : l.length ≤ 100000) : PureAt Tryz.prog 21 [.sl none (l.map intS), .sl none (m.map intS)] (· = .val (.bool (sameS l m))) := by
 refine pure_of r21 (by kernel_rfl) ?_
 unfold m21 sameS
 simp only [int_ne, go_sem, Nat.reduceEqDiff, Nat.reduceAdd, Nat.reduceLeDiff, List.length_map, Int.reduceLT, Int.reduceLE, Int.reduceToNat, Int.toNat_zero, Int.le_refl, Int.reduceAdd, decide_true, decide_false, Nat.reduceMul, Nat.reduceLT, Nat.lt_irrefl, true_and, and_self, ↓reduceIte]
 refine condE_split (fun h0 => ?_) (fun h0 => ?_)
 ·simp only [go_sem, Nat.reduceEqDiff, Nat.reduceAdd, Nat.reduceLeDiff, List.length_map, Int.reduceLT, Int.reduceLE, Int.reduceToNat, Int.toNat_zero, Int.le_refl, Int.reduceAdd, decide_true, decide_false, Nat.reduceMul, Nat.reduceLT, Nat.lt_irrefl, true_and, and_self, ↓reduceIte]
  have : ¬ l.length = m.length := by simpa using h0
  simp [this]
 have h0 : l.length = m.length := by simpa using h0
 simp only [go_sem, Nat.reduceEqDiff, Nat.reduceAdd, Nat.reduceLeDiff, List.length_map, Int.reduceLT, Int.reduceLE, Int.reduceToNat, Int.toNat_zero, Int.le_refl, Int.reduceAdd, decide_true, decide_false, Nat.reduceMul, Nat.reduceLT, Nat.lt_irrefl, true_and, and_self, ↓reduceIte]
 refine loop_N l.length (fun i => ∀ j, j < i → (l.getD j 0 == m.getD j 0) = true) (fun i => ⟨[(0, .sl none (l.map intS)), (1, .sl none (m.map intS)), (5, .val (.int .i64 i))], [], []⟩) (fun j hj => by omega) (by simp only [go_sem, Nat.reduceEqDiff, Nat.reduceAdd, Nat.reduceLeDiff, List.length_map, Int.reduceLT, Int.reduceLE, Int.reduceToNat, Int.toNat_zero, Int.le_refl, Int.reduceAdd, decide_true, decide_false, Nat.reduceMul, Nat.reduceLT, Nat.lt_irrefl, true_and, and_self, ↓reduceIte]; rfl) ?_
 intro i hil hp
 simp only [go_sem, Nat.reduceEqDiff, Nat.reduceAdd, Nat.reduceLeDiff, List.length_map, Int.reduceLT, Int.reduceLE, Int.reduceToNat, Int.toNat_zero, Int.le_refl, Int.reduceAdd, decide_true, decide_false, Nat.reduceMul, Nat.reduceLT, Nat.lt_irrefl, true_and, and_self, ↓reduceIte]
 refine condE_split (fun h => ?_) (fun h => ?_)
 ·have hi' : i < l.length := by simpa using h
  have hi2 : i < m.length := by omega
  have hup := up64 (show i < 1000000 by omega)
  simp only [nn0, Int.toNat_natCast, get_intS hi', get_intS hi2, go_sem, Nat.reduceEqDiff, Nat.reduceAdd, Nat.reduceLeDiff, List.length_map, Int.reduceLT, Int.reduceLE, Int.reduceToNat, Int.toNat_zero, Int.le_refl, Int.reduceAdd, decide_true, decide_false, Nat.reduceMul, Nat.reduceLT, Nat.lt_irrefl, true_and, and_self, ↓reduceIte]
  cases h2 : (l.getD i 0 == m.getD i 0)
  ·simp only [bne, h2, Bool.not_false, go_sem, Nat.reduceEqDiff, Nat.reduceAdd, Nat.reduceLeDiff, List.length_map, Int.reduceLT, Int.reduceLE, Int.reduceToNat, Int.toNat_zero, Int.le_refl, Int.reduceAdd, decide_true, decide_false, Nat.reduceMul, Nat.reduceLT, Nat.lt_irrefl, true_and, and_self, ↓reduceIte]
   have : ((List.range l.length).all fun i => l.getD i 0 == m.getD i 0) = false := by
    rw [List.all_eq_false]; exact ⟨i, List.mem_range.2 hi', by simp only [h2]; simp⟩
   rw [this, Bool.and_false]
  ·simp only [bne, h2, Bool.not_true, hup, go_sem, Nat.reduceEqDiff, Nat.reduceAdd, Nat.reduceLeDiff, List.length_map, Int.reduceLT, Int.reduceLE, Int.reduceToNat, Int.toNat_zero, Int.le_refl, Int.reduceAdd, decide_true, decide_false, Nat.reduceMul, Nat.reduceLT, Nat.lt_irrefl, true_and, and_self, ↓reduceIte]
   exact invN_next hi' (nextP hp h2) (by simp only [go_sem, Nat.reduceEqDiff, Nat.reduceAdd, Nat.reduceLeDiff, List.length_map, Int.reduceLT, Int.reduceLE, Int.reduceToNat, Int.toNat_zero, Int.le_refl, Int.reduceAdd, decide_true, decide_false, Nat.reduceMul, Nat.reduceLT, Nat.lt_irrefl, true_and, and_self, ↓reduceIte])
 ·have hil' : i = l.length := by simp at h; omega
  subst hil'
  simp only [go_sem, Nat.reduceEqDiff, Nat.reduceAdd, Nat.reduceLeDiff, List.length_map, Int.reduceLT, Int.reduceLE, Int.reduceToNat, Int.toNat_zero, Int.le_refl, Int.reduceAdd, decide_true, decide_false, Nat.reduceMul, Nat.reduceLT, Nat.lt_irrefl, true_and, and_self, ↓reduceIte]
  have : ((List.range l.length).all fun i => l.getD i 0 == m.getD i 0) = true := by
   rw [List.all_eq_true]; intro i hi; exact hp i (List.mem_range.1 hi)
  rw [this]; simp [h0]
def evZ : EvM := ⟨⟨0, 0, ⟨#[]⟩⟩, ⟨0, 0, ⟨#[]⟩⟩, ⟨0, 0, ⟨#[]⟩⟩, ⟨0, 0, ⟨#[]⟩⟩⟩
def box0 : BoxM := ⟨noM, noM, noM, noM⟩
theorem rf_all : rightF [allB] = true := by decide
theorem rf_nil : rightF [] = true := by decide
theorem rf_zero : rightF [box0] = false := by decide
theorem few_all : ∀ b ∈ [allB], FewB 900 b := by
 intro b hb i hi
 rw [List.mem_singleton.1 hb]
 rcases four (i := i) (by omega) with rfl | rfl | rfl | rfl | rfl <;> decide
theorem few_zero : ∀ b ∈ [box0], FewB 900 b := by
 intro b hb i hi
 rw [List.mem_singleton.1 hb]
 rcases four (i := i) (by omega) with rfl | rfl | rfl | rfl | rfl <;> decide
theorem bnd_zero : ∀ b ∈ [box0], BndB b := by
 intro b hb i hi r hr
 rw [List.mem_singleton.1 hb] at hr
 rcases four (i := i) (by omega) with rfl | rfl | rfl | rfl | rfl <;> cases hr
theorem bnd_all : ∀ b ∈ [allB], BndB b := by
 intro b hb i hi r hr
 rw [List.mem_singleton.1 hb] at hr
 have : r ∈ allM.ints := by rcases four (i := i) (by omega) with rfl | rfl | rfl | rfl | rfl <;> first | exact hr | (exfalso; omega)
 rw [List.mem_singleton.1 this]
 unfold InB
 decide
theorem has_1 : hasL [⟨2, []⟩] evZ = false := by kernel_rfl
theorem has_2 : hasL [⟨2, []⟩, ⟨3, [allB]⟩] evZ = true := by kernel_rfl
theorem aw1 : ObjAt Tryz.prog 8 ⟨[(0, .ptr 1000000 0), (1, .sl none [boxC allB])], hpS 0 [] [], tgS⟩ 2 (fun r hp tg => r = .tup [.val (.int .i64 1), .val (.int .i64 0)] ∧ hp = hpS 1 [⟨1, [allB]⟩] [] ∧ tg = tgS) := by
 have := ksAdd 0 [] [] [allB] (by decide) (by decide) (by decide) few_all bnd_all
 simpa [addN, addL, rf_all] using this
theorem aw2 : ObjAt Tryz.prog 8 ⟨[(0, .ptr 1000000 0), (1, .sl none [])], hpS 1 [⟨1, [allB]⟩] [], tgS⟩ 2 (fun r hp tg => r = .tup [.val (.int .i64 2), .val (.int .i64 0)] ∧ hp = hpS 2 [⟨1, [allB]⟩, ⟨2, []⟩] [] ∧ tg = tgS) := by
 have := ksAdd 1 [⟨1, [allB]⟩] [] [] (by decide) (by decide) (by decide) (by simp) (by simp)
 simpa [addN, addL, rf_nil] using this
theorem aw3 : ObjAt Tryz.prog 9 ⟨[(0, .ptr 1000000 0), (1, .val (.int .i64 1))], hpS 2 [⟨1, [allB]⟩, ⟨2, []⟩] [], tgS⟩ 2 (fun r hp tg => r = .val (.int .i64 0) ∧ hp = hpS 2 [⟨2, []⟩] [] ∧ tg = tgS) := by
 exact ksRemove 2 [⟨1, [allB]⟩, ⟨2, []⟩] [] 1 (by decide)
theorem few_2 : FewE [⟨2, []⟩] := by
 intro x hx
 rw [List.mem_singleton.1 hx]
 exact ⟨by decide, by simp, by simp⟩
theorem few_3 : FewE [⟨2, []⟩, ⟨3, [allB]⟩] := by
 intro x hx
 rcases List.mem_cons.1 hx with rfl | hx
 ·exact ⟨by decide, by simp, by simp⟩
 ·rw [List.mem_singleton.1 hx]
  exact ⟨by decide, few_all, bnd_all⟩
theorem aw4 : ObjAt Tryz.prog 18 ⟨[(0, .ptr 1000000 0), (1, .agg (evC evZ))], hpS 2 [⟨2, []⟩] [], tgS⟩ 2 (fun r hp tg => r = .val (.bool false) ∧ hp = hpS 2 [⟨2, []⟩] [] ∧ tg = tgS) := by
 have := ksHas 2 [⟨2, []⟩] [] evZ (by decide) few_2
 rwa [has_1] at this
theorem aw5 : ObjAt Tryz.prog 8 ⟨[(0, .ptr 1000000 0), (1, .sl none [boxC allB])], hpS 2 [⟨2, []⟩] [], tgS⟩ 2 (fun r hp tg => r = .tup [.val (.int .i64 3), .val (.int .i64 0)] ∧ hp = hpS 3 [⟨2, []⟩, ⟨3, [allB]⟩] [] ∧ tg = tgS) := by
 have := ksAdd 2 [⟨2, []⟩] [] [allB] (by decide) (by decide) (by decide) few_all bnd_all
 simpa [addN, addL, rf_all] using this
theorem aw6 : ObjAt Tryz.prog 12 ⟨[(0, .ptr 1000000 0), (1, .agg (pubC 4 0 evZ))], hpS 3 [⟨2, []⟩, ⟨3, [allB]⟩] [], tgS⟩ 2 (fun r hp tg => r = .val (.bool true) ∧ hp = hpS 3 [⟨2, []⟩, ⟨3, [allB]⟩] [4] ∧ tg = tgS) := by
 have := kDeliver 3 [⟨2, []⟩, ⟨3, [allB]⟩] [] 4 0 evZ (by decide) (by decide) few_3
 simpa [dlv, has_2] using this
theorem aw7 : ObjAt Tryz.prog 12 ⟨[(0, .ptr 1000000 0), (1, .agg (pubC 4 0 evZ))], hpS 3 [⟨2, []⟩, ⟨3, [allB]⟩] [4], tgS⟩ 2 (fun r hp tg => r = .val (.bool false) ∧ hp = hpS 3 [⟨2, []⟩, ⟨3, [allB]⟩] [4] ∧ tg = tgS) := by
 have := kDeliver 3 [⟨2, []⟩, ⟨3, [allB]⟩] [4] 4 0 evZ (by decide) (by decide) few_3
 simpa [dlv] using this
theorem aw8 : ObjAt Tryz.prog 8 ⟨[(0, .ptr 1000000 0), (1, .sl none [boxC box0])], hpS 3 [⟨2, []⟩, ⟨3, [allB]⟩] [4], tgS⟩ 2 (fun r hp tg => r = .tup [.val (.int .i64 0), .val (.int .i64 1)] ∧ hp = hpS 3 [⟨2, []⟩, ⟨3, [allB]⟩] [4] ∧ tg = tgS) := by
 have := ksAdd 3 [⟨2, []⟩, ⟨3, [allB]⟩] [4] [box0] (by decide) (by decide) (by decide) few_zero bnd_zero
 simpa [addN, addL, rf_zero] using this
theorem aw9 : ObjAt Tryz.prog 9 ⟨[(0, .ptr 1000000 0), (1, .val (.int .i64 1))], hpS 3 [⟨2, []⟩, ⟨3, [allB]⟩] [4], tgS⟩ 2 (fun r hp tg => r = .val (.int .i64 5) ∧ hp = hpS 3 [⟨2, []⟩, ⟨3, [allB]⟩] [4] ∧ tg = tgS) := by
 exact ksRemove 3 [⟨2, []⟩, ⟨3, [allB]⟩] [4] 1 (by decide)
theorem ss4 : sameS [4] [4] = true := rfl
set_option maxHeartbeats 4000000 in
set_option maxRecDepth 4000 in
theorem kawake18 : PureAt Tryz.prog 5 [] (· = .val (.bool true)) := by
 refine pure_of r5 (by kernel_rfl) ?_
 unfold m5
 simp only [go_sem, Nat.reduceEqDiff, Nat.reduceAdd, Nat.reduceLeDiff, List.length_map, Int.reduceLT, Int.reduceLE, Int.reduceToNat, Int.toNat_zero, Int.le_refl, Int.reduceAdd, decide_true, decide_false, Nat.reduceMul, Nat.reduceLT, Nat.lt_irrefl, true_and, and_self, ↓reduceIte]
 refine callO_eq rfl rfl rfl rfl rfl kNew ?_
 simp only [go_sem, Nat.reduceEqDiff, Nat.reduceAdd, Nat.reduceLeDiff, List.length_map, Int.reduceLT, Int.reduceLE, Int.reduceToNat, Int.toNat_zero, Int.le_refl, Int.reduceAdd, decide_true, decide_false, Nat.reduceMul, Nat.reduceLT, Nat.lt_irrefl, true_and, and_self, ↓reduceIte]
 refine callP_eq rfl rfl kboxAll ?_
 simp only [go_sem, Nat.reduceEqDiff, Nat.reduceAdd, Nat.reduceLeDiff, List.length_map, Int.reduceLT, Int.reduceLE, Int.reduceToNat, Int.toNat_zero, Int.le_refl, Int.reduceAdd, decide_true, decide_false, Nat.reduceMul, Nat.reduceLT, Nat.lt_irrefl, true_and, and_self, ↓reduceIte]
 refine callO_eq rfl rfl rfl rfl rfl aw1 ?_
 simp only [hpS, tgS, sBox, tE, tInt, List.map_cons, List.map_nil, entS, seenR, intS, beq_self_eq_true, Int.reduceEq, Int.reduceBEq, c2, ss4, List.length_cons, List.length_nil, go_sem, Nat.reduceEqDiff, Nat.reduceAdd, Nat.reduceLeDiff, List.length_map, Int.reduceLT, Int.reduceLE, Int.reduceToNat, Int.toNat_zero, Int.le_refl, Int.reduceAdd, decide_true, decide_false, Nat.reduceMul, Nat.reduceLT, Nat.lt_irrefl, true_and, and_self, ↓reduceIte]
 refine callO_eq rfl rfl rfl rfl rfl aw2 ?_
 simp only [hpS, tgS, sBox, tE, tInt, List.map_cons, List.map_nil, entS, seenR, intS, beq_self_eq_true, Int.reduceEq, Int.reduceBEq, c2, ss4, List.length_cons, List.length_nil, go_sem, Nat.reduceEqDiff, Nat.reduceAdd, Nat.reduceLeDiff, List.length_map, Int.reduceLT, Int.reduceLE, Int.reduceToNat, Int.toNat_zero, Int.le_refl, Int.reduceAdd, decide_true, decide_false, Nat.reduceMul, Nat.reduceLT, Nat.lt_irrefl, true_and, and_self, ↓reduceIte]
 refine callO_eq rfl rfl rfl rfl rfl aw3 ?_
 simp only [hpS, tgS, sBox, tE, tInt, List.map_cons, List.map_nil, entS, seenR, intS, beq_self_eq_true, Int.reduceEq, Int.reduceBEq, c2, ss4, List.length_cons, List.length_nil, go_sem, Nat.reduceEqDiff, Nat.reduceAdd, Nat.reduceLeDiff, List.length_map, Int.reduceLT, Int.reduceLE, Int.reduceToNat, Int.toNat_zero, Int.le_refl, Int.reduceAdd, decide_true, decide_false, Nat.reduceMul, Nat.reduceLT, Nat.lt_irrefl, true_and, and_self, ↓reduceIte]
 refine callO_eq rfl rfl rfl rfl rfl aw4 ?_
 simp only [hpS, tgS, sBox, tE, tInt, List.map_cons, List.map_nil, entS, seenR, intS, beq_self_eq_true, Int.reduceEq, Int.reduceBEq, c2, ss4, List.length_cons, List.length_nil, go_sem, Nat.reduceEqDiff, Nat.reduceAdd, Nat.reduceLeDiff, List.length_map, Int.reduceLT, Int.reduceLE, Int.reduceToNat, Int.toNat_zero, Int.le_refl, Int.reduceAdd, decide_true, decide_false, Nat.reduceMul, Nat.reduceLT, Nat.lt_irrefl, true_and, and_self, ↓reduceIte]
 refine callO_eq rfl rfl rfl rfl rfl aw5 ?_
 simp only [hpS, tgS, sBox, tE, tInt, List.map_cons, List.map_nil, entS, seenR, intS, beq_self_eq_true, Int.reduceEq, Int.reduceBEq, c2, ss4, List.length_cons, List.length_nil, go_sem, Nat.reduceEqDiff, Nat.reduceAdd, Nat.reduceLeDiff, List.length_map, Int.reduceLT, Int.reduceLE, Int.reduceToNat, Int.toNat_zero, Int.le_refl, Int.reduceAdd, decide_true, decide_false, Nat.reduceMul, Nat.reduceLT, Nat.lt_irrefl, true_and, and_self, ↓reduceIte]
 refine callO_eq rfl rfl rfl rfl rfl aw6 ?_
 simp only [hpS, tgS, sBox, tE, tInt, List.map_cons, List.map_nil, entS, seenR, intS, beq_self_eq_true, Int.reduceEq, Int.reduceBEq, c2, ss4, List.length_cons, List.length_nil, go_sem, Nat.reduceEqDiff, Nat.reduceAdd, Nat.reduceLeDiff, List.length_map, Int.reduceLT, Int.reduceLE, Int.reduceToNat, Int.toNat_zero, Int.le_refl, Int.reduceAdd, decide_true, decide_false, Nat.reduceMul, Nat.reduceLT, Nat.lt_irrefl, true_and, and_self, ↓reduceIte]
 refine callO_eq rfl rfl rfl rfl rfl aw7 ?_
 simp only [hpS, tgS, sBox, tE, tInt, List.map_cons, List.map_nil, entS, seenR, intS, beq_self_eq_true, Int.reduceEq, Int.reduceBEq, c2, ss4, List.length_cons, List.length_nil, go_sem, Nat.reduceEqDiff, Nat.reduceAdd, Nat.reduceLeDiff, List.length_map, Int.reduceLT, Int.reduceLE, Int.reduceToNat, Int.toNat_zero, Int.le_refl, Int.reduceAdd, decide_true, decide_false, Nat.reduceMul, Nat.reduceLT, Nat.lt_irrefl, true_and, and_self, ↓reduceIte]
 refine callO_eq rfl rfl rfl rfl rfl aw8 ?_
 simp only [hpS, tgS, sBox, tE, tInt, List.map_cons, List.map_nil, entS, seenR, intS, beq_self_eq_true, Int.reduceEq, Int.reduceBEq, c2, ss4, List.length_cons, List.length_nil, go_sem, Nat.reduceEqDiff, Nat.reduceAdd, Nat.reduceLeDiff, List.length_map, Int.reduceLT, Int.reduceLE, Int.reduceToNat, Int.toNat_zero, Int.le_refl, Int.reduceAdd, decide_true, decide_false, Nat.reduceMul, Nat.reduceLT, Nat.lt_irrefl, true_and, and_self, ↓reduceIte]
 refine callO_eq rfl rfl rfl rfl rfl (ksGot 3 [⟨2, []⟩, ⟨3, [allB]⟩] [4] (by decide)) ?_
 simp only [hpS, tgS, sBox, tE, tInt, List.map_cons, List.map_nil, entS, seenR, intS, beq_self_eq_true, Int.reduceEq, Int.reduceBEq, c2, ss4, List.length_cons, List.length_nil, go_sem, Nat.reduceEqDiff, Nat.reduceAdd, Nat.reduceLeDiff, List.length_map, Int.reduceLT, Int.reduceLE, Int.reduceToNat, Int.toNat_zero, Int.le_refl, Int.reduceAdd, decide_true, decide_false, Nat.reduceMul, Nat.reduceLT, Nat.lt_irrefl, true_and, and_self, ↓reduceIte]
 refine callP_eq rfl rfl (kSameIntsS [4] [4] (by decide)) ?_
 simp only [hpS, tgS, sBox, tE, tInt, List.map_cons, List.map_nil, entS, seenR, intS, beq_self_eq_true, Int.reduceEq, Int.reduceBEq, c2, ss4, List.length_cons, List.length_nil, go_sem, Nat.reduceEqDiff, Nat.reduceAdd, Nat.reduceLeDiff, List.length_map, Int.reduceLT, Int.reduceLE, Int.reduceToNat, Int.toNat_zero, Int.le_refl, Int.reduceAdd, decide_true, decide_false, Nat.reduceMul, Nat.reduceLT, Nat.lt_irrefl, true_and, and_self, ↓reduceIte]
 refine callO_eq rfl rfl rfl rfl rfl (ksActive 3 [⟨2, []⟩, ⟨3, [allB]⟩] [4] (by decide)) ?_
 simp only [hpS, tgS, sBox, tE, tInt, List.map_cons, List.map_nil, entS, seenR, intS, beq_self_eq_true, Int.reduceEq, Int.reduceBEq, c2, ss4, List.length_cons, List.length_nil, go_sem, Nat.reduceEqDiff, Nat.reduceAdd, Nat.reduceLeDiff, List.length_map, Int.reduceLT, Int.reduceLE, Int.reduceToNat, Int.toNat_zero, Int.le_refl, Int.reduceAdd, decide_true, decide_false, Nat.reduceMul, Nat.reduceLT, Nat.lt_irrefl, true_and, and_self, ↓reduceIte]
 refine callO_eq rfl rfl rfl rfl rfl aw9 ?_
 simp only [hpS, tgS, sBox, tE, tInt, List.map_cons, List.map_nil, entS, seenR, intS, beq_self_eq_true, Int.reduceEq, Int.reduceBEq, c2, ss4, List.length_cons, List.length_nil, go_sem, Nat.reduceEqDiff, Nat.reduceAdd, Nat.reduceLeDiff, List.length_map, Int.reduceLT, Int.reduceLE, Int.reduceToNat, Int.toNat_zero, Int.le_refl, Int.reduceAdd, decide_true, decide_false, Nat.reduceMul, Nat.reduceLT, Nat.lt_irrefl, true_and, and_self, ↓reduceIte]
end Go.Proofs
