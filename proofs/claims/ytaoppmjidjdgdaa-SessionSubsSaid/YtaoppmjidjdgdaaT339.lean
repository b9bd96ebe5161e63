/- A part of the proof; what is proved stands in the last text. -/
import Derived.Test.YtaoppmjidjdgdaaT338
set_option linter.unusedVariables false
set_option maxRecDepth 2000
namespace Go.Proofs
open Go.Vm
set_option linter.unusedSimpArgs false
theorem SesOk.up {n : Int} {L : List SEnt} {i : Nat} (h : SesOk n L i) : SesOk n L (i + 1) := ⟨h.n0, by have := h.n1; omega, h.len, h.few, h.inc, h.ids⟩
theorem SesOk.rem {n : Int} {L : List SEnt} {i : Nat} (h : SesOk n L i) (k : Nat) : SesOk n (L.eraseIdx k) (i + 1) := by
 have hs : (L.eraseIdx k).Sublist L := List.eraseIdx_sublist L k
 exact ⟨h.n0, by have := h.n1; omega, Nat.le_trans hs.length_le h.len, fun x hx => h.few x (hs.subset hx), h.inc.sublist hs, fun x hx => h.ids x (hs.subset hx)⟩
theorem SesOk.add {n : Int} {L : List SEnt} {i : Nat} (h : SesOk n L i) (f : List BoxM) (h6 : ¬ 6 ≤ L.length) (hf : f.length ≤ 10000 ∧ (∀ b ∈ f, FewB 900 b) ∧ ∀ b ∈ f, BndB b) : SesOk (n + 1) (L ++ [⟨n + 1, f⟩]) (i + 1) := by
 have h0 := h.n0
 refine ⟨by omega, by have := h.n1; omega, by simp; omega, fun x hx => ?_, ?_, fun x hx => ?_⟩
 ·rcases List.mem_append.1 hx with hx | hx
  ·exact h.few x hx
  ·rw [List.mem_singleton.1 hx]; exact hf
 ·rw [List.pairwise_append]
  refine ⟨h.inc, by simp, fun a ha b hb => ?_⟩
  rw [List.mem_singleton.1 hb]
  have := (h.ids a ha).2
  show a.id < n + 1
  omega
 ·rcases List.mem_append.1 hx with hx | hx
  ·have := h.ids x hx; omega
  ·rw [List.mem_singleton.1 hx]
   show 1 ≤ n + 1 ∧ n + 1 ≤ n + 1
   omega
theorem none_new {n : Int} {L : List SEnt} {i : Nat} (h : SesOk n L i) : L.any (fun x => x.id == n + 1) = false := by
 rw [List.any_eq_false]
 intro x hx
 have := (h.ids x hx).2
 simp; omega
def invS (ops : List OpM) (S : St) (m : Nat) : Prop := ∃ (i : Nat) (n : Int) (L : List SEnt), i ≤ ops.length ∧ m = ops.length - i ∧ SesOk n L i ∧ S.trim [3, 4, 5, 22, 23, 24] [20, 10000021, 10502001] [(20, 44, 3), (502001, 3, 1)] = stR ops n L i
theorem thR_put (L : List SEnt) (n : Int) (f : List BoxM) : putE (.val (.int .i64 (n + 1))) (.val (.bool true)) (thR L) none = thR (L ++ [⟨n + 1, f⟩]) := by simp [putE, thR]
theorem thR_del (L : List SEnt) (k : Nat) : (thR L).eraseIdx k = thR (L.eraseIdx k) := by simp only [thR, erase_map]
theorem few_900 {b : BoxM} (h : FewB 40 b) : FewB 900 b := fun i hi => ⟨by have := (h i hi).1; omega, by have := (h i hi).2; omega⟩
theorem thR_del0 (L : List SEnt) (k : Nat) (d : D) : delE0 (thR L) (some (k, d)) = thR (L.eraseIdx k) := thR_del L k
theorem del_none (l : List (List D)) : delE0 l none = l := rfl
set_option maxHeartbeats 8000000 in
set_option maxRecDepth 4000 in
theorem kSessionSubs (ops : List OpM) (hl : ops.length ≤ maxLen) (ho : ∀ x ∈ ops, OpIn x) : PureAt Try.prog 3 [.sl none (ops.map opC)] (· = .val (.bool true)) := by
 refine pure_of r3 (by kernel_rfl) ?_
 unfold m3
 simp only [go_sem, Nat.reduceEqDiff, Nat.reduceAdd, Nat.reduceLeDiff, List.length_map, Int.reduceLT, Int.reduceLE, Int.reduceToNat, Int.toNat_zero, Int.le_refl, Int.reduceAdd, decide_true, decide_false, Nat.reduceMul, Nat.reduceLT, Nat.lt_irrefl, true_and, and_self, ↓reduceIte]
 refine callP_eq rfl rfl kawake18 ?_
 simp only [go_sem, Nat.reduceEqDiff, Nat.reduceAdd, Nat.reduceLeDiff, List.length_map, Int.reduceLT, Int.reduceLE, Int.reduceToNat, Int.toNat_zero, Int.le_refl, Int.reduceAdd, decide_true, decide_false, Nat.reduceMul, Nat.reduceLT, Nat.lt_irrefl, true_and, and_self, ↓reduceIte]
 refine callP_eq rfl rfl (kLong ops hl ho) ?_
 cases hlong : longS ops
 rotate_left
 ·simp only [go_sem, Nat.reduceEqDiff, Nat.reduceAdd, Nat.reduceLeDiff, List.length_map, Int.reduceLT, Int.reduceLE, Int.reduceToNat, Int.toNat_zero, Int.le_refl, Int.reduceAdd, decide_true, decide_false, Nat.reduceMul, Nat.reduceLT, Nat.lt_irrefl, true_and, and_self, ↓reduceIte]
  refine callP_eq rfl rfl kawake18 ?_
  simp only [go_sem, Nat.reduceEqDiff, Nat.reduceAdd, Nat.reduceLeDiff, List.length_map, Int.reduceLT, Int.reduceLE, Int.reduceToNat, Int.toNat_zero, Int.le_refl, Int.reduceAdd, decide_true, decide_false, Nat.reduceMul, Nat.reduceLT, Nat.lt_irrefl, true_and, and_self, ↓reduceIte]
 have hl2 : ops.length ≤ 200 ∧ ∀ x ∈ ops, few6 x.f = true := by
  unfold longS at hlong
  simp only [Bool.or_eq_false_iff, Bool.not_eq_false', decide_eq_false_iff_not, List.all_eq_true] at hlong
  exact ⟨by omega, hlong.1⟩
 simp only [go_sem, Nat.reduceEqDiff, Nat.reduceAdd, Nat.reduceLeDiff, List.length_map, Int.reduceLT, Int.reduceLE, Int.reduceToNat, Int.toNat_zero, Int.le_refl, Int.reduceAdd, decide_true, decide_false, Nat.reduceMul, Nat.reduceLT, Nat.lt_irrefl, true_and, and_self, ↓reduceIte]
 refine callO_eq rfl rfl rfl rfl rfl kNew ?_
 simp only [go_sem, Nat.reduceEqDiff, Nat.reduceAdd, Nat.reduceLeDiff, List.length_map, Int.reduceLT, Int.reduceLE, Int.reduceToNat, Int.toNat_zero, Int.le_refl, Int.reduceAdd, decide_true, decide_false, Nat.reduceMul, Nat.reduceLT, Nat.lt_irrefl, true_and, and_self, ↓reduceIte]
 refine ev_loop_by (invS ops) ops.length ⟨0, 0, [], by omega, by omega, ⟨by decide, by decide, by decide, by simp [FewE], by simp, by simp⟩, by simp only [stR, hpR, bxS, tgR, go_sem, Nat.reduceEqDiff, Nat.reduceAdd, Nat.reduceLeDiff, List.length_map, Int.reduceLT, Int.reduceLE, Int.reduceToNat, Int.toNat_zero, Int.le_refl, Int.reduceAdd, decide_true, decide_false, Nat.reduceMul, Nat.reduceLT, Nat.lt_irrefl, true_and, and_self, ↓reduceIte]; rfl⟩ ?_
 rintro k S ⟨i, n, L, hi, hk, h, hS⟩
 rw [ev_trim, hS]
 subst hk
 simp only [stR, hpR, bxS, tgR, go_sem, Nat.reduceEqDiff, Nat.reduceAdd, Nat.reduceLeDiff, List.length_map, Int.reduceLT, Int.reduceLE, Int.reduceToNat, Int.toNat_zero, Int.le_refl, Int.reduceAdd, decide_true, decide_false, Nat.reduceMul, Nat.reduceLT, Nat.lt_irrefl, true_and, and_self, ↓reduceIte]
 refine condE_split (fun hc => ?_) (fun hc => ?_)
 ·have hi' : i < ops.length := by simpa using hc
  have hup := up64 (show i < 1000000 by omega)
  have hin := ho _ (ogetm hi')
  have hf6 := hl2.2 _ (ogetm hi')
  have hlen := h.len
  have hn0 := h.n0
  have hn1 := h.n1
  simp only [nn0, Int.toNat_natCast, get_opC hi', opC, evC, go_sem, Nat.reduceEqDiff, Nat.reduceAdd, Nat.reduceLeDiff, List.length_map, Int.reduceLT, Int.reduceLE, Int.reduceToNat, Int.toNat_zero, Int.le_refl, Int.reduceAdd, decide_true, decide_false, Nat.reduceMul, Nat.reduceLT, Nat.lt_irrefl, true_and, and_self, ↓reduceIte]
  generalize ops.getD i op0 = x at *
  have hfin : x.f.length ≤ 10000 ∧ (∀ b ∈ x.f, FewB 900 b) ∧ ∀ b ∈ x.f, BndB b := by
   unfold few6 at hf6
   simp only [Bool.and_eq_true, decide_eq_true_eq] at hf6
   exact ⟨by omega, fun b hb => few_900 (few4_of hf6.2 b hb), hin.1⟩
  have fin : ∀ (n' : Int) (L' : List SEnt), SesOk n' L' (i + 1) → ∀ S', S'.trim [3, 4, 5, 22, 23, 24] [20, 10000021, 10502001] [(20, 44, 3), (502001, 3, 1)] = stR ops n' L' (i + 1) → ∃ k, k < ops.length - i ∧ invS ops S' k := fun n' L' hok S' hS' =>
   ⟨ops.length - (i + 1), by omega, i + 1, n', L', by omega, rfl, hok, hS'⟩
  cases hk1 : (x.kind == 1)
  ·simp only [go_sem, Nat.reduceEqDiff, Nat.reduceAdd, Nat.reduceLeDiff, List.length_map, Int.reduceLT, Int.reduceLE, Int.reduceToNat, Int.toNat_zero, Int.le_refl, Int.reduceAdd, decide_true, decide_false, Nat.reduceMul, Nat.reduceLT, Nat.lt_irrefl, true_and, and_self, ↓reduceIte]
   cases hk2 : (x.kind == 2)
   ·simp only [go_sem, Nat.reduceEqDiff, Nat.reduceAdd, Nat.reduceLeDiff, List.length_map, Int.reduceLT, Int.reduceLE, Int.reduceToNat, Int.toNat_zero, Int.le_refl, Int.reduceAdd, decide_true, decide_false, Nat.reduceMul, Nat.reduceLT, Nat.lt_irrefl, true_and, and_self, ↓reduceIte]
    refine tail_ok ops n L i (i + 1) h.up (fun S' hS' => ?_)
    simp only [hS', stR, hpR, bxS, tgR, hup, go_sem, Nat.reduceEqDiff, Nat.reduceAdd, Nat.reduceLeDiff, List.length_map, Int.reduceLT, Int.reduceLE, Int.reduceToNat, Int.toNat_zero, Int.le_refl, Int.reduceAdd, decide_true, decide_false, Nat.reduceMul, Nat.reduceLT, Nat.lt_irrefl, true_and, and_self, ↓reduceIte]
    exact fin n L h.up _ (by simp only [stR, hpR, bxS, tgR, go_sem, Nat.reduceEqDiff, Nat.reduceAdd, Nat.reduceLeDiff, List.length_map, Int.reduceLT, Int.reduceLE, Int.reduceToNat, Int.toNat_zero, Int.le_refl, Int.reduceAdd, decide_true, decide_false, Nat.reduceMul, Nat.reduceLT, Nat.lt_irrefl, true_and, and_self, ↓reduceIte])
   ·simp only [go_sem, Nat.reduceEqDiff, Nat.reduceAdd, Nat.reduceLeDiff, List.length_map, Int.reduceLT, Int.reduceLE, Int.reduceToNat, Int.toNat_zero, Int.le_refl, Int.reduceAdd, decide_true, decide_false, Nat.reduceMul, Nat.reduceLT, Nat.lt_irrefl, true_and, and_self, ↓reduceIte]
    have hfind := findE_thR x.n L 0
    have hrem := ksRemove n L [] x.n (by omega)
    unfold remL at hrem
    refine dany_at (q := _) rfl ?_
    refine por_s 0 rfl (by kernel_rfl) trim_ex rfl rfl rfl rfl rfl ?_
    refine por_s 1 rfl (by kernel_rfl) trim_ex rfl rfl rfl rfl rfl ?_
    refine por_l 2 rfl (by kernel_rfl) trim_ex rfl rfl rfl rfl rfl ?_
    refine por_s 5 rfl (by kernel_rfl) trim_ex rfl rfl rfl rfl rfl ?_
    refine por_s 6 rfl (by kernel_rfl) trim_ex rfl rfl rfl rfl rfl ?_
    refine por_l 7 rfl (by kernel_rfl) trim_ex rfl rfl rfl rfl rfl ?_
    by_cases hp : L.any (fun y => y.id == x.n) = true
    ·rw [if_pos hp] at hfind
     rw [if_pos hp, if_pos hp] at hrem
     rw [Nat.zero_add] at hfind
     refine any_2 3 _ 8 _ rfl rfl rfl ?_ ?_
     ·refine v_obj_by rfl rfl ?_
      refine callO_eq rfl rfl rfl rfl rfl hrem ?_
      refine any_2 4 _ 8 _ rfl rfl rfl ?_ ?_
      ·refine vstep_q1 (d := .val (.bool true)) rfl ?_
       refine any_1 8 _ rfl rfl ?_
       refine v_mget_by _ rfl rfl rfl rfl rfl hfind ?_
       refine any_q 9 _ (.val (.bool false)) rfl rfl rfl ?_
       simp only [hpS, sBox, tE, tInt, tgS, seenR, List.map_nil, stR, hpR, bxS, tgR, hfind, thR_del0, go_sem, Nat.reduceEqDiff, Nat.reduceAdd, Nat.reduceLeDiff, List.length_map, Int.reduceLT, Int.reduceLE, Int.reduceToNat, Int.toNat_zero, Int.le_refl, Int.reduceAdd, decide_true, decide_false, Nat.reduceMul, Nat.reduceLT, Nat.lt_irrefl, true_and, and_self, ↓reduceIte]
       refine tail_ok ops n (L.eraseIdx (L.findIdx fun y => y.id == x.n)) i (i + 1) (h.rem _) (fun S' hS' => ?_)
       simp only [hS', stR, hpR, bxS, tgR, hup, go_sem, Nat.reduceEqDiff, Nat.reduceAdd, Nat.reduceLeDiff, List.length_map, Int.reduceLT, Int.reduceLE, Int.reduceToNat, Int.toNat_zero, Int.le_refl, Int.reduceAdd, decide_true, decide_false, Nat.reduceMul, Nat.reduceLT, Nat.lt_irrefl, true_and, and_self, ↓reduceIte]
       exact fin n (L.eraseIdx (L.findIdx fun y => y.id == x.n)) (h.rem _) _ (by simp only [stR, hpR, bxS, tgR, go_sem, Nat.reduceEqDiff, Nat.reduceAdd, Nat.reduceLeDiff, List.length_map, Int.reduceLT, Int.reduceLE, Int.reduceToNat, Int.toNat_zero, Int.le_refl, Int.reduceAdd, decide_true, decide_false, Nat.reduceMul, Nat.reduceLT, Nat.lt_irrefl, true_and, and_self, ↓reduceIte])
      ·refine v_mget_by _ rfl rfl rfl rfl rfl hfind ?_
       refine any_q 4 _ (.val (.bool true)) rfl rfl rfl ?_
       refine any_q 9 _ (.val (.bool false)) rfl rfl rfl ?_
       simp only [hpS, sBox, tE, tInt, tgS, seenR, List.map_nil, stR, hpR, bxS, tgR, hfind, thR_del0, go_sem, Nat.reduceEqDiff, Nat.reduceAdd, Nat.reduceLeDiff, List.length_map, Int.reduceLT, Int.reduceLE, Int.reduceToNat, Int.toNat_zero, Int.le_refl, Int.reduceAdd, decide_true, decide_false, Nat.reduceMul, Nat.reduceLT, Nat.lt_irrefl, true_and, and_self, ↓reduceIte]
       refine tail_ok ops n (L.eraseIdx (L.findIdx fun y => y.id == x.n)) i (i + 1) (h.rem _) (fun S' hS' => ?_)
       simp only [hS', stR, hpR, bxS, tgR, hup, go_sem, Nat.reduceEqDiff, Nat.reduceAdd, Nat.reduceLeDiff, List.length_map, Int.reduceLT, Int.reduceLE, Int.reduceToNat, Int.toNat_zero, Int.le_refl, Int.reduceAdd, decide_true, decide_false, Nat.reduceMul, Nat.reduceLT, Nat.lt_irrefl, true_and, and_self, ↓reduceIte]
       exact fin n (L.eraseIdx (L.findIdx fun y => y.id == x.n)) (h.rem _) _ (by simp only [stR, hpR, bxS, tgR, go_sem, Nat.reduceEqDiff, Nat.reduceAdd, Nat.reduceLeDiff, List.length_map, Int.reduceLT, Int.reduceLE, Int.reduceToNat, Int.toNat_zero, Int.le_refl, Int.reduceAdd, decide_true, decide_false, Nat.reduceMul, Nat.reduceLT, Nat.lt_irrefl, true_and, and_self, ↓reduceIte])
     ·refine v_mget_by _ rfl rfl rfl rfl rfl hfind ?_
      refine any_1 3 _ rfl rfl ?_
      refine v_obj_by rfl rfl ?_
      refine callO_eq rfl rfl rfl rfl rfl hrem ?_
      refine any_q 4 _ (.val (.bool true)) rfl rfl rfl ?_
      refine any_q 9 _ (.val (.bool false)) rfl rfl rfl ?_
      simp only [hpS, sBox, tE, tInt, tgS, seenR, List.map_nil, stR, hpR, bxS, tgR, hfind, thR_del0, go_sem, Nat.reduceEqDiff, Nat.reduceAdd, Nat.reduceLeDiff, List.length_map, Int.reduceLT, Int.reduceLE, Int.reduceToNat, Int.toNat_zero, Int.le_refl, Int.reduceAdd, decide_true, decide_false, Nat.reduceMul, Nat.reduceLT, Nat.lt_irrefl, true_and, and_self, ↓reduceIte]
      refine tail_ok ops n (L.eraseIdx (L.findIdx fun y => y.id == x.n)) i (i + 1) (h.rem _) (fun S' hS' => ?_)
      simp only [hS', stR, hpR, bxS, tgR, hup, go_sem, Nat.reduceEqDiff, Nat.reduceAdd, Nat.reduceLeDiff, List.length_map, Int.reduceLT, Int.reduceLE, Int.reduceToNat, Int.toNat_zero, Int.le_refl, Int.reduceAdd, decide_true, decide_false, Nat.reduceMul, Nat.reduceLT, Nat.lt_irrefl, true_and, and_self, ↓reduceIte]
      exact fin n (L.eraseIdx (L.findIdx fun y => y.id == x.n)) (h.rem _) _ (by simp only [stR, hpR, bxS, tgR, go_sem, Nat.reduceEqDiff, Nat.reduceAdd, Nat.reduceLeDiff, List.length_map, Int.reduceLT, Int.reduceLE, Int.reduceToNat, Int.toNat_zero, Int.le_refl, Int.reduceAdd, decide_true, decide_false, Nat.reduceMul, Nat.reduceLT, Nat.lt_irrefl, true_and, and_self, ↓reduceIte])
    ·rw [if_neg hp] at hfind
     rw [if_neg hp, if_neg hp] at hrem
     refine any_2 3 _ 8 _ rfl rfl rfl ?_ ?_
     ·refine v_obj_by rfl rfl ?_
      refine callO_eq rfl rfl rfl rfl rfl hrem ?_
      refine any_2 4 _ 8 _ rfl rfl rfl ?_ ?_
      ·refine vstep_q1 (d := .val (.bool false)) rfl ?_
       refine any_1 8 _ rfl rfl ?_
       refine v_mget_by _ rfl rfl rfl rfl rfl hfind ?_
       refine any_q 9 _ (.val (.bool false)) rfl rfl rfl ?_
       simp only [hpS, sBox, tE, tInt, tgS, seenR, List.map_nil, stR, hpR, bxS, tgR, hfind, del_none, go_sem, Nat.reduceEqDiff, Nat.reduceAdd, Nat.reduceLeDiff, List.length_map, Int.reduceLT, Int.reduceLE, Int.reduceToNat, Int.toNat_zero, Int.le_refl, Int.reduceAdd, decide_true, decide_false, Nat.reduceMul, Nat.reduceLT, Nat.lt_irrefl, true_and, and_self, ↓reduceIte]
       refine tail_ok ops n L i (i + 1) h.up (fun S' hS' => ?_)
       simp only [hS', stR, hpR, bxS, tgR, hup, go_sem, Nat.reduceEqDiff, Nat.reduceAdd, Nat.reduceLeDiff, List.length_map, Int.reduceLT, Int.reduceLE, Int.reduceToNat, Int.toNat_zero, Int.le_refl, Int.reduceAdd, decide_true, decide_false, Nat.reduceMul, Nat.reduceLT, Nat.lt_irrefl, true_and, and_self, ↓reduceIte]
       exact fin n L h.up _ (by simp only [stR, hpR, bxS, tgR, go_sem, Nat.reduceEqDiff, Nat.reduceAdd, Nat.reduceLeDiff, List.length_map, Int.reduceLT, Int.reduceLE, Int.reduceToNat, Int.toNat_zero, Int.le_refl, Int.reduceAdd, decide_true, decide_false, Nat.reduceMul, Nat.reduceLT, Nat.lt_irrefl, true_and, and_self, ↓reduceIte])
      ·refine v_mget_by _ rfl rfl rfl rfl rfl hfind ?_
       refine any_q 4 _ (.val (.bool false)) rfl rfl rfl ?_
       refine any_q 9 _ (.val (.bool false)) rfl rfl rfl ?_
       simp only [hpS, sBox, tE, tInt, tgS, seenR, List.map_nil, stR, hpR, bxS, tgR, hfind, del_none, go_sem, Nat.reduceEqDiff, Nat.reduceAdd, Nat.reduceLeDiff, List.length_map, Int.reduceLT, Int.reduceLE, Int.reduceToNat, Int.toNat_zero, Int.le_refl, Int.reduceAdd, decide_true, decide_false, Nat.reduceMul, Nat.reduceLT, Nat.lt_irrefl, true_and, and_self, ↓reduceIte]
       refine tail_ok ops n L i (i + 1) h.up (fun S' hS' => ?_)
       simp only [hS', stR, hpR, bxS, tgR, hup, go_sem, Nat.reduceEqDiff, Nat.reduceAdd, Nat.reduceLeDiff, List.length_map, Int.reduceLT, Int.reduceLE, Int.reduceToNat, Int.toNat_zero, Int.le_refl, Int.reduceAdd, decide_true, decide_false, Nat.reduceMul, Nat.reduceLT, Nat.lt_irrefl, true_and, and_self, ↓reduceIte]
       exact fin n L h.up _ (by simp only [stR, hpR, bxS, tgR, go_sem, Nat.reduceEqDiff, Nat.reduceAdd, Nat.reduceLeDiff, List.length_map, Int.reduceLT, Int.reduceLE, Int.reduceToNat, Int.toNat_zero, Int.le_refl, Int.reduceAdd, decide_true, decide_false, Nat.reduceMul, Nat.reduceLT, Nat.lt_irrefl, true_and, and_self, ↓reduceIte])
     ·refine v_mget_by _ rfl rfl rfl rfl rfl hfind ?_
      refine any_1 3 _ rfl rfl ?_
      refine v_obj_by rfl rfl ?_
      refine callO_eq rfl rfl rfl rfl rfl hrem ?_
      refine any_q 4 _ (.val (.bool false)) rfl rfl rfl ?_
      refine any_q 9 _ (.val (.bool false)) rfl rfl rfl ?_
      simp only [hpS, sBox, tE, tInt, tgS, seenR, List.map_nil, stR, hpR, bxS, tgR, hfind, del_none, go_sem, Nat.reduceEqDiff, Nat.reduceAdd, Nat.reduceLeDiff, List.length_map, Int.reduceLT, Int.reduceLE, Int.reduceToNat, Int.toNat_zero, Int.le_refl, Int.reduceAdd, decide_true, decide_false, Nat.reduceMul, Nat.reduceLT, Nat.lt_irrefl, true_and, and_self, ↓reduceIte]
      refine tail_ok ops n L i (i + 1) h.up (fun S' hS' => ?_)
      simp only [hS', stR, hpR, bxS, tgR, hup, go_sem, Nat.reduceEqDiff, Nat.reduceAdd, Nat.reduceLeDiff, List.length_map, Int.reduceLT, Int.reduceLE, Int.reduceToNat, Int.toNat_zero, Int.le_refl, Int.reduceAdd, decide_true, decide_false, Nat.reduceMul, Nat.reduceLT, Nat.lt_irrefl, true_and, and_self, ↓reduceIte]
      exact fin n L h.up _ (by simp only [stR, hpR, bxS, tgR, go_sem, Nat.reduceEqDiff, Nat.reduceAdd, Nat.reduceLeDiff, List.length_map, Int.reduceLT, Int.reduceLE, Int.reduceToNat, Int.toNat_zero, Int.le_refl, Int.reduceAdd, decide_true, decide_false, Nat.reduceMul, Nat.reduceLT, Nat.lt_irrefl, true_and, and_self, ↓reduceIte])
  ·simp only [go_sem, Nat.reduceEqDiff, Nat.reduceAdd, Nat.reduceLeDiff, List.length_map, Int.reduceLT, Int.reduceLE, Int.reduceToNat, Int.toNat_zero, Int.le_refl, Int.reduceAdd, decide_true, decide_false, Nat.reduceMul, Nat.reduceLT, Nat.lt_irrefl, true_and, and_self, ↓reduceIte]
   refine callO_eq rfl rfl rfl rfl rfl (ksAdd n L [] x.f (by omega) (by omega) hfin.1 hfin.2.1 hfin.2.2) ?_
   have hnew := none_new h
   have hfind := findE_thR (n + 1) L 0
   rw [if_neg (by rw [hnew]; decide)] at hfind
   unfold addL addN
   cases hr : rightF x.f
   ·simp only [hpS, sBox, tE, tInt, tgS, seenR, List.map_nil, stR, hpR, bxS, tgR, Int.reduceBEq, Int.reduceEq, Int.reduceGT, beq_self_eq_true, go_sem, Nat.reduceEqDiff, Nat.reduceAdd, Nat.reduceLeDiff, List.length_map, Int.reduceLT, Int.reduceLE, Int.reduceToNat, Int.toNat_zero, Int.le_refl, Int.reduceAdd, decide_true, decide_false, Nat.reduceMul, Nat.reduceLT, Nat.lt_irrefl, true_and, and_self, ↓reduceIte]
    refine tail_ok ops n L i (i + 1) h.up (fun S' hS' => ?_)
    simp only [hS', stR, hpR, bxS, tgR, hup, go_sem, Nat.reduceEqDiff, Nat.reduceAdd, Nat.reduceLeDiff, List.length_map, Int.reduceLT, Int.reduceLE, Int.reduceToNat, Int.toNat_zero, Int.le_refl, Int.reduceAdd, decide_true, decide_false, Nat.reduceMul, Nat.reduceLT, Nat.lt_irrefl, true_and, and_self, ↓reduceIte]
    exact fin n L h.up _ (by simp only [stR, hpR, bxS, tgR, go_sem, Nat.reduceEqDiff, Nat.reduceAdd, Nat.reduceLeDiff, List.length_map, Int.reduceLT, Int.reduceLE, Int.reduceToNat, Int.toNat_zero, Int.le_refl, Int.reduceAdd, decide_true, decide_false, Nat.reduceMul, Nat.reduceLT, Nat.lt_irrefl, true_and, and_self, ↓reduceIte])
   ·by_cases h6 : 6 ≤ L.length
    ·simp only [hpS, sBox, tE, tInt, tgS, seenR, List.map_nil, stR, hpR, bxS, tgR, Int.reduceBEq, Int.reduceEq, Int.reduceGT, beq_self_eq_true, ge_iff_le, h6, go_sem, Nat.reduceEqDiff, Nat.reduceAdd, Nat.reduceLeDiff, List.length_map, Int.reduceLT, Int.reduceLE, Int.reduceToNat, Int.toNat_zero, Int.le_refl, Int.reduceAdd, decide_true, decide_false, Nat.reduceMul, Nat.reduceLT, Nat.lt_irrefl, true_and, and_self, ↓reduceIte]
     refine tail_ok ops n L i (i + 1) h.up (fun S' hS' => ?_)
     simp only [hS', stR, hpR, bxS, tgR, hup, go_sem, Nat.reduceEqDiff, Nat.reduceAdd, Nat.reduceLeDiff, List.length_map, Int.reduceLT, Int.reduceLE, Int.reduceToNat, Int.toNat_zero, Int.le_refl, Int.reduceAdd, decide_true, decide_false, Nat.reduceMul, Nat.reduceLT, Nat.lt_irrefl, true_and, and_self, ↓reduceIte]
     exact fin n L h.up _ (by simp only [stR, hpR, bxS, tgR, go_sem, Nat.reduceEqDiff, Nat.reduceAdd, Nat.reduceLeDiff, List.length_map, Int.reduceLT, Int.reduceLE, Int.reduceToNat, Int.toNat_zero, Int.le_refl, Int.reduceAdd, decide_true, decide_false, Nat.reduceMul, Nat.reduceLT, Nat.lt_irrefl, true_and, and_self, ↓reduceIte])
    ·have hw : IntKind.i64.wrap (n + 1) = n + 1 := wrap64 (by omega) (by omega)
     have hpos : decide (n + 1 > 0) = true := by simp; omega
     have hpos' : (n + 1 > 0) = True := by simp; omega
     simp only [hpS, sBox, tE, tInt, tgS, seenR, List.map_nil, stR, hpR, bxS, tgR, Int.reduceBEq, Int.reduceEq, Int.reduceGT, beq_self_eq_true, ge_iff_le, h6, hw, hpos, hpos', hfind, bne_self_eq_false, go_sem, Nat.reduceEqDiff, Nat.reduceAdd, Nat.reduceLeDiff, List.length_map, Int.reduceLT, Int.reduceLE, Int.reduceToNat, Int.toNat_zero, Int.le_refl, Int.reduceAdd, decide_true, decide_false, Nat.reduceMul, Nat.reduceLT, Nat.lt_irrefl, true_and, and_self, ↓reduceIte]
     rw [thR_put L n x.f]
     refine tail_ok ops (n + 1) (L ++ [⟨n + 1, x.f⟩]) i (i + 1) (h.add x.f h6 hfin) (fun S' hS' => ?_)
     simp only [hS', stR, hpR, bxS, tgR, hup, go_sem, Nat.reduceEqDiff, Nat.reduceAdd, Nat.reduceLeDiff, List.length_map, Int.reduceLT, Int.reduceLE, Int.reduceToNat, Int.toNat_zero, Int.le_refl, Int.reduceAdd, decide_true, decide_false, Nat.reduceMul, Nat.reduceLT, Nat.lt_irrefl, true_and, and_self, ↓reduceIte]
     exact fin (n + 1) (L ++ [⟨n + 1, x.f⟩]) (h.add x.f h6 hfin) _ (by simp only [stR, hpR, bxS, tgR, go_sem, Nat.reduceEqDiff, Nat.reduceAdd, Nat.reduceLeDiff, List.length_map, Int.reduceLT, Int.reduceLE, Int.reduceToNat, Int.toNat_zero, Int.le_refl, Int.reduceAdd, decide_true, decide_false, Nat.reduceMul, Nat.reduceLT, Nat.lt_irrefl, true_and, and_self, ↓reduceIte])
 ·simp only [go_sem, Nat.reduceEqDiff, Nat.reduceAdd, Nat.reduceLeDiff, List.length_map, Int.reduceLT, Int.reduceLE, Int.reduceToNat, Int.toNat_zero, Int.le_refl, Int.reduceAdd, decide_true, decide_false, Nat.reduceMul, Nat.reduceLT, Nat.lt_irrefl, true_and, and_self, ↓reduceIte]
end Go.Proofs
