/- A part of the proof; what is proved stands in the last text. -/
import Derived.Test.YtaoppmjidjdgdaaGreatT346
import Derived.Test.YtaoppmjidjdgdaaGreatT347
set_option linter.unusedVariables false
set_option maxRecDepth 2000
namespace Go.Proofs
open Go.Vm
set_option linter.unusedSimpArgs false
def bxP (n : Int) (L : List SEnt) (G : List Int) : List D := [.val (.int .i64 n), .sl (some (20, 44, 3)) (L.map entS), .mh 10502001, .sl (some (502001, 3, 1)) (G.map intS)]
def bxQ (n : Int) (L : List SEnt) (G : List Int) : List D := [.val (.int .i64 n), .sl none (L.map entS), .sl (some (22, 3, 1)) (G.map intS)]
def hpP (n : Int) (L : List SEnt) (G : List Int) : List (Nat × List D) := [(20, bxP n L G), (22, bxQ n L G), (10502001, [.mpc (seenR G), .undef, .undef])]
def tgP : List (Tag × Bool) := [((20, 44, 3), true), ((502001, 3, 1), true), ((22, 3, 1), true)]
def stP (ops : List OpM) (n : Int) (L : List SEnt) (G : List Int) (i : Nat) : St := ⟨[(3, .ptr 20 0), (4, .ptr 22 0), (23, .sl none (ops.map opC)), (24, .val (.int .i64 ops.length)), (25, .val (.int .i64 i))], hpP n L G, tgP⟩
def stQ (ops : List OpM) (x : OpM) (n : Int) (L : List SEnt) (G : List Int) (i : Nat) : St := ⟨[(3, .ptr 20 0), (4, .ptr 22 0), (6, .rp none (opC x) 0), (23, .sl none (ops.map opC)), (24, .val (.int .i64 ops.length)), (25, .val (.int .i64 i))], hpP n L G, tgP⟩
structure PlayOk (n : Int) (L : List SEnt) (G : List Int) (i : Nat) : Prop where
 n0 : 0 ≤ n
 n1 : n ≤ i
 len : L.length ≤ 6
 few : FewE L
 gl : G.length ≤ i
theorem beqn (b : Bool) : ((b == b) != true) = false := by cases b <;> rfl
theorem sameSS (G : List Int) : sameS G G = true := by simp [sameS]
set_option maxHeartbeats 8000000 in
set_option maxRecDepth 4000 in
theorem tlP_ok (ops : List OpM) (x : OpM) (n : Int) (L : List SEnt) (G : List Int) (i : Nat) (hl : L.length ≤ 100000) (hg : G.length ≤ 100000) (hf : FewE L) {Q : Ex → St → Prop}
    (hQ : ∀ S, S.trim [3, 4, 23, 24, 25] [20, 22, 10502001] [(20, 44, 3), (502001, 3, 1), (22, 3, 1)] = stP ops n L G i → Q .normal S) : ev Tryz.prog tlP (stQ ops x n L G i) Q := by
 have cH := ksHas n L G x.e hl hf
 have cW := kwHas n L G x.e hl hf
 have cA := ksActive n L G (by omega)
 have cE := kSameEntS L hl hf
 have cG := ksGot n L G (by omega)
 have cI := kSameIntsS G G hg
 rw [sameSS] at cI
 unfold tlP
 simp only [stQ, hpP, bxP, bxQ, tgP, opC, evC, go_sem, Nat.reduceEqDiff, Nat.reduceAdd, Nat.reduceLeDiff, List.length_map, Int.reduceLT, Int.reduceLE, Int.reduceToNat, Int.toNat_zero, Int.le_refl, Int.reduceAdd, decide_true, decide_false, Nat.reduceMul, Nat.reduceLT, Nat.lt_irrefl, true_and, and_self, ↓reduceIte]
 refine dany_at (q := _) rfl ?_
 refine por_s 0 rfl (by kernel_rfl) trim_ex rfl rfl rfl rfl rfl ?_
 refine por_s 1 rfl (by kernel_rfl) trim_ex rfl rfl rfl rfl rfl ?_
 refine por_s 4 rfl (by kernel_rfl) trim_ex rfl rfl rfl rfl rfl ?_
 refine por_s 5 rfl (by kernel_rfl) trim_ex rfl rfl rfl rfl rfl ?_
 refine por_l 2 rfl (by kernel_rfl) trim_ex rfl rfl rfl rfl rfl ?_
 refine por_l 6 rfl (by kernel_rfl) trim_ex rfl rfl rfl rfl rfl ?_
 refine any_1 3 _ rfl rfl ?_
 refine v_obj_by rfl rfl ?_
 refine callO_eq rfl rfl rfl rfl rfl cH ?_
 refine any_1 7 _ rfl rfl ?_
 refine v_obj_by rfl rfl ?_
 refine callO_eq rfl rfl rfl rfl rfl cW ?_
 refine any_q 8 _ (.val (.bool false)) rfl rfl (congrArg (fun b => some (D.val (Value.bool b))) (beqn (hasL L x.e))) ?_
 refine any_q 9 _ _ rfl rfl rfl ?_
 refine por_s 10 rfl (by kernel_rfl) trim_ex rfl rfl rfl rfl rfl ?_
 refine por_s 12 rfl (by kernel_rfl) trim_ex rfl rfl rfl rfl rfl ?_
 refine por_s 13 rfl (by kernel_rfl) trim_ex rfl rfl rfl rfl rfl ?_
 refine por_s 14 rfl (by kernel_rfl) trim_ex rfl rfl rfl rfl rfl ?_
 refine any_2 11 _ 15 _ rfl rfl rfl ?_ ?_
 ·refine v_obj_by rfl rfl ?_
  refine callO_eq rfl rfl rfl rfl rfl cA ?_
  refine any_q 15 _ (.sl none (L.map entS)) rfl rfl rfl ?_
  refine any_1 16 _ rfl rfl ?_
  refine v_pure_by rfl rfl rfl rfl cE ?_
  refine any_q 17 _ (.val (.bool false)) rfl rfl rfl ?_
  refine any_q 18 _ (.val (.bool false)) rfl rfl rfl ?_
  refine any_q 19 _ (.val (.bool false)) rfl rfl rfl ?_
  refine por_s 20 rfl (by kernel_rfl) trim_ex rfl rfl rfl rfl rfl ?_
  refine por_s 22 rfl (by kernel_rfl) trim_ex rfl rfl rfl rfl rfl ?_
  refine por_s 23 rfl (by kernel_rfl) trim_ex rfl rfl rfl rfl rfl ?_
  refine por_s 24 rfl (by kernel_rfl) trim_ex rfl rfl rfl rfl rfl ?_
  refine any_2 21 _ 25 _ rfl rfl rfl ?_ ?_
  ·refine v_obj_by rfl rfl ?_
   refine callO_eq rfl rfl rfl rfl rfl cG ?_
   refine any_q 25 _ (.sl (some (22, 3, 1)) (G.map intS)) rfl rfl rfl ?_
   refine any_1 26 _ rfl rfl ?_
   refine v_lend_by rfl rfl rfl rfl rfl cI ?_
   refine any_q 27 _ (.val (.bool false)) rfl rfl rfl ?_
   refine any_q 28 _ (.val (.bool false)) rfl rfl rfl ?_
   simp only [hpS, sBox, tE, tInt, tgS, hpW, tgW, hpP, bxP, bxQ, tgP, go_sem, Nat.reduceEqDiff, Nat.reduceAdd, Nat.reduceLeDiff, List.length_map, Int.reduceLT, Int.reduceLE, Int.reduceToNat, Int.toNat_zero, Int.le_refl, Int.reduceAdd, decide_true, decide_false, Nat.reduceMul, Nat.reduceLT, Nat.lt_irrefl, true_and, and_self, ↓reduceIte]
   refine hQ _ ?_
   simp only [hpS, sBox, tE, tInt, tgS, hpW, tgW, stP, hpP, bxP, bxQ, tgP, go_sem, Nat.reduceEqDiff, Nat.reduceAdd, Nat.reduceLeDiff, List.length_map, Int.reduceLT, Int.reduceLE, Int.reduceToNat, Int.toNat_zero, Int.le_refl, Int.reduceAdd, decide_true, decide_false, Nat.reduceMul, Nat.reduceLT, Nat.lt_irrefl, true_and, and_self, ↓reduceIte]
  ·refine vstep_q1 (d := .sl (some (22, 3, 1)) (G.map intS)) rfl ?_
   refine any_1 21 _ rfl rfl ?_
   refine v_obj_by rfl rfl ?_
   refine callO_eq rfl rfl rfl rfl rfl cG ?_
   refine any_1 26 _ rfl rfl ?_
   refine v_lend_by rfl rfl rfl rfl rfl cI ?_
   refine any_q 27 _ (.val (.bool false)) rfl rfl rfl ?_
   refine any_q 28 _ (.val (.bool false)) rfl rfl rfl ?_
   simp only [hpS, sBox, tE, tInt, tgS, hpW, tgW, hpP, bxP, bxQ, tgP, go_sem, Nat.reduceEqDiff, Nat.reduceAdd, Nat.reduceLeDiff, List.length_map, Int.reduceLT, Int.reduceLE, Int.reduceToNat, Int.toNat_zero, Int.le_refl, Int.reduceAdd, decide_true, decide_false, Nat.reduceMul, Nat.reduceLT, Nat.lt_irrefl, true_and, and_self, ↓reduceIte]
   refine hQ _ ?_
   simp only [hpS, sBox, tE, tInt, tgS, hpW, tgW, stP, hpP, bxP, bxQ, tgP, go_sem, Nat.reduceEqDiff, Nat.reduceAdd, Nat.reduceLeDiff, List.length_map, Int.reduceLT, Int.reduceLE, Int.reduceToNat, Int.toNat_zero, Int.le_refl, Int.reduceAdd, decide_true, decide_false, Nat.reduceMul, Nat.reduceLT, Nat.lt_irrefl, true_and, and_self, ↓reduceIte]
 ·refine vstep_q1 (d := .sl none (L.map entS)) rfl ?_
  refine any_1 11 _ rfl rfl ?_
  refine v_obj_by rfl rfl ?_
  refine callO_eq rfl rfl rfl rfl rfl cA ?_
  refine any_1 16 _ rfl rfl ?_
  refine v_pure_by rfl rfl rfl rfl cE ?_
  refine any_q 17 _ (.val (.bool false)) rfl rfl rfl ?_
  refine any_q 18 _ (.val (.bool false)) rfl rfl rfl ?_
  refine any_q 19 _ (.val (.bool false)) rfl rfl rfl ?_
  refine por_s 20 rfl (by kernel_rfl) trim_ex rfl rfl rfl rfl rfl ?_
  refine por_s 22 rfl (by kernel_rfl) trim_ex rfl rfl rfl rfl rfl ?_
  refine por_s 23 rfl (by kernel_rfl) trim_ex rfl rfl rfl rfl rfl ?_
  refine por_s 24 rfl (by kernel_rfl) trim_ex rfl rfl rfl rfl rfl ?_
  refine any_2 21 _ 25 _ rfl rfl rfl ?_ ?_
  ·refine v_obj_by rfl rfl ?_
   refine callO_eq rfl rfl rfl rfl rfl cG ?_
   refine any_q 25 _ (.sl (some (22, 3, 1)) (G.map intS)) rfl rfl rfl ?_
   refine any_1 26 _ rfl rfl ?_
   refine v_lend_by rfl rfl rfl rfl rfl cI ?_
   refine any_q 27 _ (.val (.bool false)) rfl rfl rfl ?_
   refine any_q 28 _ (.val (.bool false)) rfl rfl rfl ?_
   simp only [hpS, sBox, tE, tInt, tgS, hpW, tgW, hpP, bxP, bxQ, tgP, go_sem, Nat.reduceEqDiff, Nat.reduceAdd, Nat.reduceLeDiff, List.length_map, Int.reduceLT, Int.reduceLE, Int.reduceToNat, Int.toNat_zero, Int.le_refl, Int.reduceAdd, decide_true, decide_false, Nat.reduceMul, Nat.reduceLT, Nat.lt_irrefl, true_and, and_self, ↓reduceIte]
   refine hQ _ ?_
   simp only [hpS, sBox, tE, tInt, tgS, hpW, tgW, stP, hpP, bxP, bxQ, tgP, go_sem, Nat.reduceEqDiff, Nat.reduceAdd, Nat.reduceLeDiff, List.length_map, Int.reduceLT, Int.reduceLE, Int.reduceToNat, Int.toNat_zero, Int.le_refl, Int.reduceAdd, decide_true, decide_false, Nat.reduceMul, Nat.reduceLT, Nat.lt_irrefl, true_and, and_self, ↓reduceIte]
  ·refine vstep_q1 (d := .sl (some (22, 3, 1)) (G.map intS)) rfl ?_
   refine any_1 21 _ rfl rfl ?_
   refine v_obj_by rfl rfl ?_
   refine callO_eq rfl rfl rfl rfl rfl cG ?_
   refine any_1 26 _ rfl rfl ?_
   refine v_lend_by rfl rfl rfl rfl rfl cI ?_
   refine any_q 27 _ (.val (.bool false)) rfl rfl rfl ?_
   refine any_q 28 _ (.val (.bool false)) rfl rfl rfl ?_
   simp only [hpS, sBox, tE, tInt, tgS, hpW, tgW, hpP, bxP, bxQ, tgP, go_sem, Nat.reduceEqDiff, Nat.reduceAdd, Nat.reduceLeDiff, List.length_map, Int.reduceLT, Int.reduceLE, Int.reduceToNat, Int.toNat_zero, Int.le_refl, Int.reduceAdd, decide_true, decide_false, Nat.reduceMul, Nat.reduceLT, Nat.lt_irrefl, true_and, and_self, ↓reduceIte]
   refine hQ _ ?_
   simp only [hpS, sBox, tE, tInt, tgS, hpW, tgW, stP, hpP, bxP, bxQ, tgP, go_sem, Nat.reduceEqDiff, Nat.reduceAdd, Nat.reduceLeDiff, List.length_map, Int.reduceLT, Int.reduceLE, Int.reduceToNat, Int.toNat_zero, Int.le_refl, Int.reduceAdd, decide_true, decide_false, Nat.reduceMul, Nat.reduceLT, Nat.lt_irrefl, true_and, and_self, ↓reduceIte]
theorem PlayOk.up {n : Int} {L : List SEnt} {G : List Int} {i : Nat} (h : PlayOk n L G i) : PlayOk n L G (i + 1) :=
 ⟨h.n0, by have := h.n1; omega, h.len, h.few, by have := h.gl; omega⟩
theorem FewE.rem {L : List SEnt} (h : FewE L) (k : Int) : FewE (remL L k) := by
 unfold remL
 split
 ·exact fun x hx => h x ((List.eraseIdx_sublist L _).subset hx)
 ·exact h
theorem rem_len (L : List SEnt) (k : Int) : (remL L k).length ≤ L.length := by
 unfold remL
 split
 ·exact (List.eraseIdx_sublist L _).length_le
 ·exact Nat.le_refl _
theorem FewE.add {L : List SEnt} (h : FewE L) (n : Int) (f : List BoxM) (hf : f.length ≤ 10000 ∧ (∀ b ∈ f, FewB 900 b) ∧ ∀ b ∈ f, BndB b) : FewE (addL n L f) := by
 unfold addL
 split
 ·intro x hx
  rcases List.mem_append.1 hx with hx | hx
  ·exact h x hx
  ·rw [List.mem_singleton.1 hx]; exact hf
 ·exact h
theorem add_len (n : Int) (L : List SEnt) (f : List BoxM) : (addL n L f).length ≤ L.length + 1 := by
 unfold addL
 split <;> simp
theorem PlayOk.rem {n : Int} {L : List SEnt} {G : List Int} {i : Nat} (h : PlayOk n L G i) (k : Int) : PlayOk n (remL L k) G (i + 1) :=
 ⟨h.n0, by have := h.n1; omega, Nat.le_trans (rem_len L k) h.len, h.few.rem k, by have := h.gl; omega⟩
theorem PlayOk.add {n : Int} {L : List SEnt} {G : List Int} {i : Nat} (h : PlayOk n L G i) (f : List BoxM) (hf : f.length ≤ 10000 ∧ (∀ b ∈ f, FewB 900 b) ∧ ∀ b ∈ f, BndB b) : PlayOk (if (addN n L f).2 = 0 then n + 1 else n) (addL n L f) G (i + 1) := by
 have h0 := h.n0
 have h1 := h.n1
 refine ⟨by split <;> omega, by split <;> omega, ?_, h.few.add n f hf, by have := h.gl; omega⟩
 have hl := h.len
 unfold addL addN
 by_cases hr : rightF f = true
 ·rw [if_pos hr]
  by_cases h6 : L.length ≥ 6
  ·rw [if_pos h6]; exact hl
  ·rw [if_neg h6]; simp; omega
 ·rw [if_neg hr]; exact hl
theorem PlayOk.dlv {n : Int} {L : List SEnt} {G : List Int} {i : Nat} (h : PlayOk n L G i) (k : Int) (e : EvM) : PlayOk n L (if dlv L G k e = true then G ++ [k] else G) (i + 1) := by
 have hg := h.gl
 have h := h.up
 refine ⟨h.n0, h.n1, h.len, h.few, ?_⟩
 split
 ·rw [List.length_append, List.length_singleton]; omega
 ·omega
def invP (ops : List OpM) (S : St) (m : Nat) : Prop := ∃ (i : Nat) (n : Int) (L : List SEnt) (G : List Int), i ≤ ops.length ∧ m = ops.length - i ∧ PlayOk n L G i ∧ S.trim [3, 4, 23, 24, 25] [20, 22, 10502001] [(20, 44, 3), (502001, 3, 1), (22, 3, 1)] = stP ops n L G i
theorem few_902 {b : BoxM} (h : FewB 40 b) : FewB 900 b := fun i hi => ⟨by have := (h i hi).1; omega, by have := (h i hi).2; omega⟩
set_option maxHeartbeats 16000000 in
set_option maxRecDepth 4000 in
theorem kSessionPlays (ops : List OpM) (hl : ops.length ≤ maxLen) (ho : ∀ x ∈ ops, OpIn x) : PureAt Tryz.prog 4 [.sl none (ops.map opC)] (· = .val (.bool true)) := by
 refine pure_of r4 (by kernel_rfl) ?_
 unfold m4
 simp only [go_sem, Nat.reduceEqDiff, Nat.reduceAdd, Nat.reduceLeDiff, List.length_map, Int.reduceLT, Int.reduceLE, Int.reduceToNat, Int.toNat_zero, Int.le_refl, Int.reduceAdd, decide_true, decide_false, Nat.reduceMul, Nat.reduceLT, Nat.lt_irrefl, true_and, and_self, ↓reduceIte]
 refine callP_eq rfl rfl kawake18 ?_
 simp only [go_sem, Nat.reduceEqDiff, Nat.reduceAdd, Nat.reduceLeDiff, List.length_map, Int.reduceLT, Int.reduceLE, Int.reduceToNat, Int.toNat_zero, Int.le_refl, Int.reduceAdd, decide_true, decide_false, Nat.reduceMul, Nat.reduceLT, Nat.lt_irrefl, true_and, and_self, ↓reduceIte]
 refine callP_eq rfl rfl (kLong ops hl ho) ?_
 cases hlong : longS ops
 rotate_left
 ·simp only [go_sem, Nat.reduceEqDiff, Nat.reduceAdd, Nat.reduceLeDiff, List.length_map, Int.reduceLT, Int.reduceLE, Int.reduceToNat, Int.toNat_zero, Int.le_refl, Int.reduceAdd, decide_true, decide_false, Nat.reduceMul, Nat.reduceLT, Nat.lt_irrefl, true_and, and_self, ↓reduceIte]
  refine callP_eq rfl rfl kawake18 ?_
  simp only [go_sem, Nat.reduceEqDiff, Nat.reduceAdd, Nat.reduceLeDiff, List.length_map, Int.reduceLT, Int.reduceLE, Int.reduceToNat, Int.toNat_zero, Int.le_refl, Int.reduceAdd, decide_true, decide_false, Nat.reduceMul, Nat.reduceLT, Nat.lt_irrefl, true_and, and_self, ↓reduceIte]
 have hl2 : ops.length ≤ 200 ∧ ∀ x ∈ ops, few6 x.f = true := by
  unfold longS at hlong
  simp only [Bool.or_eq_false_iff, Bool.not_eq_false', decide_eq_false_iff_not, List.all_eq_true] at hlong
  exact ⟨by omega, hlong.1⟩
 simp only [go_sem, Nat.reduceEqDiff, Nat.reduceAdd, Nat.reduceLeDiff, List.length_map, Int.reduceLT, Int.reduceLE, Int.reduceToNat, Int.toNat_zero, Int.le_refl, Int.reduceAdd, decide_true, decide_false, Nat.reduceMul, Nat.reduceLT, Nat.lt_irrefl, true_and, and_self, ↓reduceIte]
 refine callO_eq rfl rfl rfl rfl rfl kNew ?_
 simp only [Value.oneCell', List.map_cons, List.map_nil, go_sem, Nat.reduceEqDiff, Nat.reduceAdd, Nat.reduceLeDiff, List.length_map, Int.reduceLT, Int.reduceLE, Int.reduceToNat, Int.toNat_zero, Int.le_refl, Int.reduceAdd, decide_true, decide_false, Nat.reduceMul, Nat.reduceLT, Nat.lt_irrefl, true_and, and_self, ↓reduceIte]
 refine ev_loop_by (invP ops) ops.length ⟨0, 0, [], [], by omega, by omega, ⟨by decide, by decide, by decide, by simp [FewE], by simp⟩, by simp only [stP, hpP, bxP, bxQ, tgP, go_sem, Nat.reduceEqDiff, Nat.reduceAdd, Nat.reduceLeDiff, List.length_map, Int.reduceLT, Int.reduceLE, Int.reduceToNat, Int.toNat_zero, Int.le_refl, Int.reduceAdd, decide_true, decide_false, Nat.reduceMul, Nat.reduceLT, Nat.lt_irrefl, true_and, and_self, ↓reduceIte]; rfl⟩ ?_
 rintro m0 S ⟨i, n, L, G, hi, hk, h, hS⟩
 rw [ev_trim, hS]
 subst hk
 simp only [stP, hpP, bxP, bxQ, tgP, go_sem, Nat.reduceEqDiff, Nat.reduceAdd, Nat.reduceLeDiff, List.length_map, Int.reduceLT, Int.reduceLE, Int.reduceToNat, Int.toNat_zero, Int.le_refl, Int.reduceAdd, decide_true, decide_false, Nat.reduceMul, Nat.reduceLT, Nat.lt_irrefl, true_and, and_self, ↓reduceIte]
 refine condE_split (fun hc => ?_) (fun hc => ?_)
 ·have hi' : i < ops.length := by simpa using hc
  have hup := up64 (show i < 1000000 by omega)
  have hin := ho _ (ogetm hi')
  have hf6 := hl2.2 _ (ogetm hi')
  have hlen := h.len
  have hn0 := h.n0
  have hn1 := h.n1
  have hgl := h.gl
  simp only [nn0, Int.toNat_natCast, get_opC hi', opC, evC, go_sem, Nat.reduceEqDiff, Nat.reduceAdd, Nat.reduceLeDiff, List.length_map, Int.reduceLT, Int.reduceLE, Int.reduceToNat, Int.toNat_zero, Int.le_refl, Int.reduceAdd, decide_true, decide_false, Nat.reduceMul, Nat.reduceLT, Nat.lt_irrefl, true_and, and_self, ↓reduceIte]
  generalize ops.getD i op0 = x at *
  have hfin : x.f.length ≤ 10000 ∧ (∀ b ∈ x.f, FewB 900 b) ∧ ∀ b ∈ x.f, BndB b := by
   unfold few6 at hf6
   simp only [Bool.and_eq_true, decide_eq_true_eq] at hf6
   exact ⟨by omega, fun b hb => few_902 (few4_of hf6.2 b hb), hin.1⟩
  have fin : ∀ (n' : Int) (L' : List SEnt) (G' : List Int), PlayOk n' L' G' (i + 1) → ∀ S', S'.trim [3, 4, 23, 24, 25] [20, 22, 10502001] [(20, 44, 3), (502001, 3, 1), (22, 3, 1)] = stP ops n' L' G' (i + 1) → ∃ k, k < ops.length - i ∧ invP ops S' k := fun n' L' G' hok S' hS' =>
   ⟨ops.length - (i + 1), by omega, i + 1, n', L', G', by omega, rfl, hok, hS'⟩
  cases hk1 : (x.kind == 1)
  ·simp only [go_sem, Nat.reduceEqDiff, Nat.reduceAdd, Nat.reduceLeDiff, List.length_map, Int.reduceLT, Int.reduceLE, Int.reduceToNat, Int.toNat_zero, Int.le_refl, Int.reduceAdd, decide_true, decide_false, Nat.reduceMul, Nat.reduceLT, Nat.lt_irrefl, true_and, and_self, ↓reduceIte]
   cases hk2 : (x.kind == 2)
   ·simp only [go_sem, Nat.reduceEqDiff, Nat.reduceAdd, Nat.reduceLeDiff, List.length_map, Int.reduceLT, Int.reduceLE, Int.reduceToNat, Int.toNat_zero, Int.le_refl, Int.reduceAdd, decide_true, decide_false, Nat.reduceMul, Nat.reduceLT, Nat.lt_irrefl, true_and, and_self, ↓reduceIte]
    cases hk3 : (x.kind == 3)
    ·simp only [go_sem, Nat.reduceEqDiff, Nat.reduceAdd, Nat.reduceLeDiff, List.length_map, Int.reduceLT, Int.reduceLE, Int.reduceToNat, Int.toNat_zero, Int.le_refl, Int.reduceAdd, decide_true, decide_false, Nat.reduceMul, Nat.reduceLT, Nat.lt_irrefl, true_and, and_self, ↓reduceIte]
     refine callO_eq rfl rfl rfl rfl rfl (kCopy n L G (by omega) (by omega)) ?_
     simp only [hpC, tgC, hpS, sBox, tE, tInt, tgS, List.cons_append, List.nil_append, go_sem, Nat.reduceEqDiff, Nat.reduceAdd, Nat.reduceLeDiff, List.length_map, Int.reduceLT, Int.reduceLE, Int.reduceToNat, Int.toNat_zero, Int.le_refl, Int.reduceAdd, decide_true, decide_false, Nat.reduceMul, Nat.reduceLT, Nat.lt_irrefl, true_and, and_self, ↓reduceIte]
     have hf1 : FewE (addL n L []) := h.few.add n [] ⟨by simp, by simp, by simp⟩
     have hl1 := add_len n L []
     refine callO_eq rfl rfl rfl rfl rfl (ksAdd n L G [] (by omega) (by omega) (by simp) (by simp) (by simp)) ?_
     generalize addL n L [] = L1 at *
     generalize (if (addN n L []).2 = 0 then n + 1 else n) = n1 at *
     simp only [hpS, sBox, tE, tInt, tgS, go_sem, Nat.reduceEqDiff, Nat.reduceAdd, Nat.reduceLeDiff, List.length_map, Int.reduceLT, Int.reduceLE, Int.reduceToNat, Int.toNat_zero, Int.le_refl, Int.reduceAdd, decide_true, decide_false, Nat.reduceMul, Nat.reduceLT, Nat.lt_irrefl, true_and, and_self, ↓reduceIte]
     refine callO_eq rfl rfl rfl rfl rfl (ksRemove n1 L1 G 1 (by omega)) ?_
     have hf2 : FewE (remL L1 1) := hf1.rem 1
     have hl2 := rem_len L1 1
     generalize remL L1 1 = L2 at *
     simp only [hpS, sBox, tE, tInt, tgS, go_sem, Nat.reduceEqDiff, Nat.reduceAdd, Nat.reduceLeDiff, List.length_map, Int.reduceLT, Int.reduceLE, Int.reduceToNat, Int.toNat_zero, Int.le_refl, Int.reduceAdd, decide_true, decide_false, Nat.reduceMul, Nat.reduceLT, Nat.lt_irrefl, true_and, and_self, ↓reduceIte]
     have hde := kDeliver n1 L2 G 1073741824 0 evZ (by omega) (by omega) hf2
     refine callO_eq rfl rfl rfl rfl rfl hde ?_
     generalize (if dlv L2 G 1073741824 evZ = true then G ++ [1073741824] else G) = G2 at *
     simp only [hpS, sBox, tE, tInt, tgS, go_sem, Nat.reduceEqDiff, Nat.reduceAdd, Nat.reduceLeDiff, List.length_map, Int.reduceLT, Int.reduceLE, Int.reduceToNat, Int.toNat_zero, Int.le_refl, Int.reduceAdd, decide_true, decide_false, Nat.reduceMul, Nat.reduceLT, Nat.lt_irrefl, true_and, and_self, ↓reduceIte]
     refine fzP_by rfl ?_
     simp only [go_sem, Nat.reduceEqDiff, Nat.reduceAdd, Nat.reduceLeDiff, List.length_map, Int.reduceLT, Int.reduceLE, Int.reduceToNat, Int.toNat_zero, Int.le_refl, Int.reduceAdd, decide_true, decide_false, Nat.reduceMul, Nat.reduceLT, Nat.lt_irrefl, true_and, and_self, ↓reduceIte]
     refine tlP_ok ops x n L G i (by omega) (by omega) h.few (fun S' hS' => ?_)
     simp only [hS', stP, hpP, bxP, bxQ, tgP, hup, go_sem, Nat.reduceEqDiff, Nat.reduceAdd, Nat.reduceLeDiff, List.length_map, Int.reduceLT, Int.reduceLE, Int.reduceToNat, Int.toNat_zero, Int.le_refl, Int.reduceAdd, decide_true, decide_false, Nat.reduceMul, Nat.reduceLT, Nat.lt_irrefl, true_and, and_self, ↓reduceIte]
     exact fin n L G h.up _ (by simp only [stP, hpP, bxP, bxQ, tgP, go_sem, Nat.reduceEqDiff, Nat.reduceAdd, Nat.reduceLeDiff, List.length_map, Int.reduceLT, Int.reduceLE, Int.reduceToNat, Int.toNat_zero, Int.le_refl, Int.reduceAdd, decide_true, decide_false, Nat.reduceMul, Nat.reduceLT, Nat.lt_irrefl, true_and, and_self, ↓reduceIte])
    ·simp only [go_sem, Nat.reduceEqDiff, Nat.reduceAdd, Nat.reduceLeDiff, List.length_map, Int.reduceLT, Int.reduceLE, Int.reduceToNat, Int.toNat_zero, Int.le_refl, Int.reduceAdd, decide_true, decide_false, Nat.reduceMul, Nat.reduceLT, Nat.lt_irrefl, true_and, and_self, ↓reduceIte]
     have hde := kDeliver n L G x.n 0 x.e (by omega) (by omega) h.few
     have hdw := kwDeliver n L G x.n 0 x.e (by omega) (by omega) h.few
     have hok := h.dlv x.n x.e
     have hgl' := hok.gl
     refine dany_at (q := _) rfl ?_
     refine por_s 0 rfl (by kernel_rfl) trim_ex rfl rfl rfl rfl rfl ?_
     refine por_s 3 rfl (by kernel_rfl) trim_ex rfl rfl rfl rfl rfl ?_
     refine por_l 1 rfl (by kernel_rfl) trim_ex rfl rfl rfl rfl rfl ?_
     refine por_l 4 rfl (by kernel_rfl) trim_ex rfl rfl rfl rfl rfl ?_
     refine any_1 2 _ rfl rfl ?_
     refine v_obj_by rfl rfl ?_
     refine callO_eq rfl rfl rfl rfl rfl hde ?_
     refine any_1 5 _ rfl rfl ?_
     refine v_obj_by rfl rfl ?_
     refine callO_eq rfl rfl rfl rfl rfl hdw ?_
     refine any_q 6 _ (.val (.bool false)) rfl rfl (congrArg (fun b => some (D.val (Value.bool b))) (beqn (dlv L G x.n x.e))) ?_
     generalize (if dlv L G x.n x.e = true then G ++ [x.n] else G) = G2 at *
     simp only [hpS, sBox, tE, tInt, tgS, hpW, tgW, go_sem, Nat.reduceEqDiff, Nat.reduceAdd, Nat.reduceLeDiff, List.length_map, Int.reduceLT, Int.reduceLE, Int.reduceToNat, Int.toNat_zero, Int.le_refl, Int.reduceAdd, decide_true, decide_false, Nat.reduceMul, Nat.reduceLT, Nat.lt_irrefl, true_and, and_self, ↓reduceIte]
     refine tlP_ok ops x n L G2 i (by omega) (by omega) hok.few (fun S' hS' => ?_)
     simp only [hS', stP, hpP, bxP, bxQ, tgP, hup, go_sem, Nat.reduceEqDiff, Nat.reduceAdd, Nat.reduceLeDiff, List.length_map, Int.reduceLT, Int.reduceLE, Int.reduceToNat, Int.toNat_zero, Int.le_refl, Int.reduceAdd, decide_true, decide_false, Nat.reduceMul, Nat.reduceLT, Nat.lt_irrefl, true_and, and_self, ↓reduceIte]
     exact fin n L G2 hok _ (by simp only [stP, hpP, bxP, bxQ, tgP, go_sem, Nat.reduceEqDiff, Nat.reduceAdd, Nat.reduceLeDiff, List.length_map, Int.reduceLT, Int.reduceLE, Int.reduceToNat, Int.toNat_zero, Int.le_refl, Int.reduceAdd, decide_true, decide_false, Nat.reduceMul, Nat.reduceLT, Nat.lt_irrefl, true_and, and_self, ↓reduceIte])
   ·simp only [go_sem, Nat.reduceEqDiff, Nat.reduceAdd, Nat.reduceLeDiff, List.length_map, Int.reduceLT, Int.reduceLE, Int.reduceToNat, Int.toNat_zero, Int.le_refl, Int.reduceAdd, decide_true, decide_false, Nat.reduceMul, Nat.reduceLT, Nat.lt_irrefl, true_and, and_self, ↓reduceIte]
    have hrs := ksRemove n L G x.n (by omega)
    have hrw := kwRemove n L G x.n (by omega)
    have hok := h.rem x.n
    have hl' := hok.len
    refine dany_at (q := _) rfl ?_
    refine por_s 0 rfl (by kernel_rfl) trim_ex rfl rfl rfl rfl rfl ?_
    refine por_s 1 rfl (by kernel_rfl) trim_ex rfl rfl rfl rfl rfl ?_
    refine por_s 4 rfl (by kernel_rfl) trim_ex rfl rfl rfl rfl rfl ?_
    refine por_s 5 rfl (by kernel_rfl) trim_ex rfl rfl rfl rfl rfl ?_
    refine por_l 2 rfl (by kernel_rfl) trim_ex rfl rfl rfl rfl rfl ?_
    refine por_l 6 rfl (by kernel_rfl) trim_ex rfl rfl rfl rfl rfl ?_
    refine any_1 3 _ rfl rfl ?_
    refine v_obj_by rfl rfl ?_
    refine callO_eq rfl rfl rfl rfl rfl hrs ?_
    refine any_1 7 _ rfl rfl ?_
    refine v_obj_by rfl rfl ?_
    refine callO_eq rfl rfl rfl rfl rfl hrw ?_
    refine any_q 8 _ (.val (.bool false)) rfl rfl (congrArg (fun b => some (D.val (Value.bool b))) (bne_self_eq_false _)) ?_
    generalize remL L x.n = L2 at *
    simp only [hpS, sBox, tE, tInt, tgS, hpW, tgW, go_sem, Nat.reduceEqDiff, Nat.reduceAdd, Nat.reduceLeDiff, List.length_map, Int.reduceLT, Int.reduceLE, Int.reduceToNat, Int.toNat_zero, Int.le_refl, Int.reduceAdd, decide_true, decide_false, Nat.reduceMul, Nat.reduceLT, Nat.lt_irrefl, true_and, and_self, ↓reduceIte]
    refine tlP_ok ops x n L2 G i (by omega) (by omega) hok.few (fun S' hS' => ?_)
    simp only [hS', stP, hpP, bxP, bxQ, tgP, hup, go_sem, Nat.reduceEqDiff, Nat.reduceAdd, Nat.reduceLeDiff, List.length_map, Int.reduceLT, Int.reduceLE, Int.reduceToNat, Int.toNat_zero, Int.le_refl, Int.reduceAdd, decide_true, decide_false, Nat.reduceMul, Nat.reduceLT, Nat.lt_irrefl, true_and, and_self, ↓reduceIte]
    exact fin n L2 G hok _ (by simp only [stP, hpP, bxP, bxQ, tgP, go_sem, Nat.reduceEqDiff, Nat.reduceAdd, Nat.reduceLeDiff, List.length_map, Int.reduceLT, Int.reduceLE, Int.reduceToNat, Int.toNat_zero, Int.le_refl, Int.reduceAdd, decide_true, decide_false, Nat.reduceMul, Nat.reduceLT, Nat.lt_irrefl, true_and, and_self, ↓reduceIte])
  ·simp only [go_sem, Nat.reduceEqDiff, Nat.reduceAdd, Nat.reduceLeDiff, List.length_map, Int.reduceLT, Int.reduceLE, Int.reduceToNat, Int.toNat_zero, Int.le_refl, Int.reduceAdd, decide_true, decide_false, Nat.reduceMul, Nat.reduceLT, Nat.lt_irrefl, true_and, and_self, ↓reduceIte]
   refine callO_eq rfl rfl rfl rfl rfl (ksAdd n L G x.f (by omega) (by omega) hfin.1 hfin.2.1 hfin.2.2) ?_
   simp only [hpS, sBox, tE, tInt, tgS, go_sem, Nat.reduceEqDiff, Nat.reduceAdd, Nat.reduceLeDiff, List.length_map, Int.reduceLT, Int.reduceLE, Int.reduceToNat, Int.toNat_zero, Int.le_refl, Int.reduceAdd, decide_true, decide_false, Nat.reduceMul, Nat.reduceLT, Nat.lt_irrefl, true_and, and_self, ↓reduceIte]
   refine callO_eq rfl rfl rfl rfl rfl (kwAdd n L G x.f (by omega) (by omega) hfin.1 hfin.2.1 hfin.2.2) ?_
   simp only [hpW, tgW, tInt, bne_self_eq_false, go_sem, Nat.reduceEqDiff, Nat.reduceAdd, Nat.reduceLeDiff, List.length_map, Int.reduceLT, Int.reduceLE, Int.reduceToNat, Int.toNat_zero, Int.le_refl, Int.reduceAdd, decide_true, decide_false, Nat.reduceMul, Nat.reduceLT, Nat.lt_irrefl, true_and, and_self, ↓reduceIte]
   have hok := h.add x.f hfin
   have hl' := hok.len
   generalize addL n L x.f = L2 at *
   generalize (if (addN n L x.f).2 = 0 then n + 1 else n) = n2 at *
   refine tlP_ok ops x n2 L2 G i (by omega) (by omega) hok.few (fun S' hS' => ?_)
   simp only [hS', stP, hpP, bxP, bxQ, tgP, hup, go_sem, Nat.reduceEqDiff, Nat.reduceAdd, Nat.reduceLeDiff, List.length_map, Int.reduceLT, Int.reduceLE, Int.reduceToNat, Int.toNat_zero, Int.le_refl, Int.reduceAdd, decide_true, decide_false, Nat.reduceMul, Nat.reduceLT, Nat.lt_irrefl, true_and, and_self, ↓reduceIte]
   exact fin n2 L2 G hok _ (by simp only [stP, hpP, bxP, bxQ, tgP, go_sem, Nat.reduceEqDiff, Nat.reduceAdd, Nat.reduceLeDiff, List.length_map, Int.reduceLT, Int.reduceLE, Int.reduceToNat, Int.toNat_zero, Int.le_refl, Int.reduceAdd, decide_true, decide_false, Nat.reduceMul, Nat.reduceLT, Nat.lt_irrefl, true_and, and_self, ↓reduceIte])
 ·simp only [go_sem, Nat.reduceEqDiff, Nat.reduceAdd, Nat.reduceLeDiff, List.length_map, Int.reduceLT, Int.reduceLE, Int.reduceToNat, Int.toNat_zero, Int.le_refl, Int.reduceAdd, decide_true, decide_false, Nat.reduceMul, Nat.reduceLT, Nat.lt_irrefl, true_and, and_self, ↓reduceIte]
end Go.Proofs
