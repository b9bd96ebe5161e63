/- A part of the proof; what is proved stands in the last text. -/
import Derived.Test.YtipppgiimemloaaGreatTE
import Derived.Test.YtipppgiimemloaaGreatMZ
set_option linter.unusedVariables false
set_option maxRecDepth 2000

namespace Go.Proofs
open Go.Vm
set_option linter.unusedSimpArgs false

theorem setsOk_few (x : ExprM) : setsOk Bnd x → setsF x = true → setsOk SetB x := by
  refine ExprM.ind (p := fun x => setsOk Bnd x → setsF x = true → setsOk SetB x) (fun k a s l ih => ?_) x
  intro hb hf
  rw [setsOk_mk] at hb ⊢
  rw [setsF_mk, Bool.and_eq_true, List.all_eq_true] at hf
  have h1 := hf.1
  simp only [few1, Bool.and_eq_true, decide_eq_true_eq] at h1
  exact ⟨⟨⟨by omega, by omega⟩, hb.1⟩, fun y hy => ih y hy (hb.2 y hy) (hf.2 y hy)⟩
theorem fewE_set {x : ExprM} (hb : setsOk Bnd x) (h : fewE x = true) : setsOk SetB x := by
  simp only [fewE, Bool.and_eq_true] at h
  exact setsOk_few x hb h.2
theorem ne_zero {k : Int} : (k != 0) = !decide (k = 0) := one_ne
theorem eval_not (e : EvM) (x : ExprM) : evalE e (notX x) = !evalE e x := by
  rw [evalE_mk]; simp [notX, ExprM.kind, ExprM.sub]
theorem eval_and (e : EvM) (l : List ExprM) : evalE e (ofAnd l) = l.all (evalE e) := by
  rw [evalE_mk]; simp [ofAnd, ExprM.kind, ExprM.sub]
theorem eval_or (e : EvM) (l : List ExprM) : evalE e (ofOr l) = l.any (evalE e) := by
  rw [evalE_mk]; simp [ofOr, ExprM.kind, ExprM.sub]
theorem ofX_few {x : ExprM} (hs : setsOk SetB x) : ∀ b ∈ (ofX x).1, FewB 1000000 b := fun b hb => ((ofX_facts hs).2 b hb).1.mono (by omega)

theorem kDnfHas (x : ExprM) (e : EvM) (hb : setsOk Bnd x) (hi : InE e) : PureAt Tryz.prog 4 [.agg (exprC x), .agg (evC e)] (· = .val (.bool true)) := by
  have p1 := kFew5 x
  refine pure_of r4 (by kernel_rfl) ?_
  unfold m4
  simp only [evC, go_sem, Nat.reduceEqDiff, Nat.reduceAdd, Nat.reduceLeDiff, List.length_map]
  refine callP_eq rfl rfl kawake06 ?_
  simp only [go_sem, Nat.reduceEqDiff, Nat.reduceAdd, Nat.reduceLeDiff, List.length_map]
  refine callP_eq (by first | rfl | (simp only [List.map_cons, List.map_nil, exprC_mk]; rfl)) (by first | rfl | (simp only [List.map_cons, List.map_nil, exprC_mk]; rfl)) p1 ?_
  cases hfew : fewE x
  · simp only [go_sem, Nat.reduceEqDiff, Nat.reduceAdd, Nat.reduceLeDiff, List.length_map]
    refine callP_eq rfl rfl kawake06 ?_
    simp only [go_sem, Nat.reduceEqDiff, Nat.reduceAdd, Nat.reduceLeDiff, List.length_map]
  have hs := fewE_set hb hfew
  have p2 := kdnfOf x hs
  simp only [encOf] at p2
  have hl := (ofX_facts hs).1
  have p3 := kdnfHas (ofX x).1 e (by omega) (ofX_few hs)
  have p4 := kEval5 e x hs
  have p5 := kref6Right (ofX x).1 (by omega) (ofX_few hs) (fun b hb i hi => (((ofX_facts hs).2 b hb).2 i hi).inb)
  have herr := @ofX_err x
  have hok := @ofX_ok x
  have hsem := @ofX_sem x hs e hi
  simp only [go_sem, Nat.reduceEqDiff, Nat.reduceAdd, Nat.reduceLeDiff, List.length_map]
  refine callP_eq (by first | rfl | (simp only [List.map_cons, List.map_nil, exprC_mk]; rfl)) (by first | rfl | (simp only [List.map_cons, List.map_nil, exprC_mk]; rfl)) p2 ?_
  generalize hr : ofX x = r at *
  obtain ⟨l, k⟩ := r
  simp only at *
  simp only [ne_zero, go_sem, Nat.reduceEqDiff, Nat.reduceAdd, Nat.reduceLeDiff, List.length_map]
  cases hk : decide (k = 0)
  · have := herr (by simpa using hk)
    subst this
    simp only [go_sem, Nat.reduceEqDiff, Nat.reduceAdd, Nat.reduceLeDiff, List.length_map]
    rfl
  · have hk0 : k = 0 := by simpa using hk
    obtain ⟨h1, h2, h3⟩ := hok hk0
    have h4 := hsem hk0
    have heq : (rightX x && rightE e && evalE e x) = hasF l e := by rw [h4, h1, Bool.true_and]
    rw [heq] at p4
    rw [h3] at p5
    simp only [go_sem, Nat.reduceEqDiff, Nat.reduceAdd, Nat.reduceLeDiff, List.length_map]
    refine callQ_by _ rfl rfl p3 ?_
    simp only [evC, go_sem, Nat.reduceEqDiff, Nat.reduceAdd, Nat.reduceLeDiff, List.length_map]
    refine callQ_by _ (by first | rfl | (simp only [List.map_cons, List.map_nil, exprC_mk]; rfl)) (by first | rfl | (simp only [List.map_cons, List.map_nil, exprC_mk]; rfl)) p4 ?_
    simp only [beq_self_eq_true, go_sem, Nat.reduceEqDiff, Nat.reduceAdd, Nat.reduceLeDiff, List.length_map]
    refine callQ_by _ rfl rfl p5 ?_
    simp only [go_sem, Nat.reduceEqDiff, Nat.reduceAdd, Nat.reduceLeDiff, List.length_map]

theorem kDnfNot (x : ExprM) (e : EvM) (hb : setsOk Bnd x) (hi : InE e) : PureAt Tryz.prog 7 [.agg (exprC x), .agg (evC e)] (· = .val (.bool true)) := by
  have p1 := kFew5 x
  refine pure_of r7 (by kernel_rfl) ?_
  unfold m7
  simp only [evC, go_sem, Nat.reduceEqDiff, Nat.reduceAdd, Nat.reduceLeDiff, List.length_map]
  refine callP_eq rfl rfl kawake06 ?_
  simp only [go_sem, Nat.reduceEqDiff, Nat.reduceAdd, Nat.reduceLeDiff, List.length_map]
  refine callP_eq (by first | rfl | (simp only [List.map_cons, List.map_nil, exprC_mk]; rfl)) (by first | rfl | (simp only [List.map_cons, List.map_nil, exprC_mk]; rfl)) p1 ?_
  cases hfew : fewE x
  · simp only [go_sem, Nat.reduceEqDiff, Nat.reduceAdd, Nat.reduceLeDiff, List.length_map]
    refine callP_eq rfl rfl kawake06 ?_
    simp only [go_sem, Nat.reduceEqDiff, Nat.reduceAdd, Nat.reduceLeDiff, List.length_map]
  have hs := fewE_set hb hfew
  have hs' := setB_not hs
  have p2 := kdnfOf x hs
  have p2' := kdnfOf (notX x) hs'
  simp only [encOf] at p2 p2'
  have hl := (ofX_facts hs).1
  have hl' := (ofX_facts hs').1
  have p3 := kdnfHas (ofX x).1 e (by omega) (ofX_few hs)
  have p3' := kdnfHas (ofX (notX x)).1 e (by omega) (ofX_few hs')
  have p4 := kEvalX e (ofAnd []) (setB_and (by simp))
  have hrA : rightX (ofAnd []) = true := (ofX_ok (x := ofAnd []) (by rw [ofA])).1
  have hsem := @ofX_sem x hs e hi
  have hsem' := @ofX_sem (notX x) hs' e hi
  rw [eval_not] at hsem'
  rw [hrA, eval_and, List.all_nil, Bool.true_and, Bool.and_true] at p4
  simp only [go_sem, Nat.reduceEqDiff, Nat.reduceAdd, Nat.reduceLeDiff, List.length_map]
  refine callP_eq (by first | rfl | (simp only [List.map_cons, List.map_nil, exprC_mk]; rfl)) (by first | rfl | (simp only [List.map_cons, List.map_nil, exprC_mk]; rfl)) p2 ?_
  simp only [go_sem, Nat.reduceEqDiff, Nat.reduceAdd, Nat.reduceLeDiff, List.length_map]
  refine callP_eq (by first | rfl | (simp only [List.map_cons, List.map_nil, exprC_mk]; rfl)) (by first | rfl | (simp only [List.map_cons, List.map_nil, exprC_mk]; rfl)) (kexprNot x) ?_
  simp only [go_sem, Nat.reduceEqDiff, Nat.reduceAdd, Nat.reduceLeDiff, List.length_map]
  refine callP_eq (by first | rfl | (simp only [List.map_cons, List.map_nil, exprC_mk]; rfl)) (by first | rfl | (simp only [List.map_cons, List.map_nil, exprC_mk]; rfl)) p2' ?_
  generalize hr : ofX x = r at *
  generalize hr' : ofX (notX x) = r' at *
  obtain ⟨l, k⟩ := r
  obtain ⟨l', k'⟩ := r'
  simp only at *
  simp only [ne_zero, go_sem, Nat.reduceEqDiff, Nat.reduceAdd, Nat.reduceLeDiff, List.length_map]
  cases hk : decide (k = 0)
  · simp only [ne_zero, go_sem, Nat.reduceEqDiff, Nat.reduceAdd, Nat.reduceLeDiff, List.length_map]
  cases hk' : decide (k' = 0)
  · simp only [ne_zero, hk', go_sem, Nat.reduceEqDiff, Nat.reduceAdd, Nat.reduceLeDiff, List.length_map]
  have h1 := hsem (by simpa using hk)
  have h2 := hsem' (by simpa using hk')
  simp only [ne_zero, hk', go_sem, Nat.reduceEqDiff, Nat.reduceAdd, Nat.reduceLeDiff, List.length_map]
  refine callQ_by _ rfl rfl (kexprAnd [] (by simp)) ?_
  simp only [evC, go_sem, Nat.reduceEqDiff, Nat.reduceAdd, Nat.reduceLeDiff, List.length_map]
  refine callQ_by _ (by first | rfl | (simp only [List.map_cons, List.map_nil, exprC_mk]; rfl)) (by first | rfl | (simp only [List.map_cons, List.map_nil, exprC_mk]; rfl)) p4 ?_
  simp only [evC, go_sem, Nat.reduceEqDiff, Nat.reduceAdd, Nat.reduceLeDiff, List.length_map]
  refine callQ_by _ rfl rfl p3 ?_
  simp only [evC, go_sem, Nat.reduceEqDiff, Nat.reduceAdd, Nat.reduceLeDiff, List.length_map]
  refine callQ_by _ rfl rfl p3' ?_
  rw [h1] at p3
  rw [h1, h2]
  generalize evalE e x = v at *
  cases hre : rightE e <;> cases v
  all_goals
    rw [hre] at p3
    simp only [nb1, nb2, nb3, nb4, Bool.true_and, Bool.false_and, Bool.not_true, Bool.not_false, go_sem, Nat.reduceEqDiff, Nat.reduceAdd, Nat.reduceLeDiff, List.length_map]
  all_goals
    refine callQ_by _ rfl rfl p3 ?_
    simp only [Bool.false_and, Bool.not_false, go_sem, Nat.reduceEqDiff, Nat.reduceAdd, Nat.reduceLeDiff, List.length_map]
end Go.Proofs


namespace Go.Proofs
open Go.Vm
set_option linter.unusedSimpArgs false

set_option maxHeartbeats 4000000 in
theorem kDnfOrs (x y : ExprM) (e : EvM) (hb : setsOk Bnd x) (hb' : setsOk Bnd y) (hi : InE e) : PureAt Tryz.prog 5 [.agg (exprC x), .agg (exprC y), .agg (evC e)] (· = .val (.bool true)) := by
  have p1 := kFew5 x
  have p1' := kFew5 y
  refine pure_of r5 (by kernel_rfl) ?_
  unfold m5
  simp only [evC, go_sem, Nat.reduceEqDiff, Nat.reduceAdd, Nat.reduceLeDiff, List.length_map]
  refine callP_eq rfl rfl kawake06 ?_
  simp only [go_sem, Nat.reduceEqDiff, Nat.reduceAdd, Nat.reduceLeDiff, List.length_map]
  refine callP_eq (by first | rfl | (simp only [List.map_cons, List.map_nil, exprC_mk]; rfl)) (by first | rfl | (simp only [List.map_cons, List.map_nil, exprC_mk]; rfl)) p1 ?_
  cases hfew : fewE x
  · simp only [go_sem, Nat.reduceEqDiff, Nat.reduceAdd, Nat.reduceLeDiff, List.length_map]
    refine callP_eq rfl rfl kawake06 ?_
    simp only [go_sem, Nat.reduceEqDiff, Nat.reduceAdd, Nat.reduceLeDiff, List.length_map]
  simp only [go_sem, Nat.reduceEqDiff, Nat.reduceAdd, Nat.reduceLeDiff, List.length_map]
  refine callP_eq (by first | rfl | (simp only [List.map_cons, List.map_nil, exprC_mk]; rfl)) (by first | rfl | (simp only [List.map_cons, List.map_nil, exprC_mk]; rfl)) p1' ?_
  cases hfew' : fewE y
  · simp only [go_sem, Nat.reduceEqDiff, Nat.reduceAdd, Nat.reduceLeDiff, List.length_map]
    refine callP_eq rfl rfl kawake06 ?_
    simp only [go_sem, Nat.reduceEqDiff, Nat.reduceAdd, Nat.reduceLeDiff, List.length_map]
  have hs := fewE_set hb hfew
  have hs' := fewE_set hb' hfew'
  have hso := setB_or (l := [x, y]) (by simp [hs, hs'])
  have hsa := setB_and (l := [x, y]) (by simp [hs, hs'])
  have p2 := kdnfOf x hs
  have p2' := kdnfOf y hs'
  have p2o := kdnfOf (ofOr [x, y]) hso
  have p2a := kdnfOf (ofAnd [x, y]) hsa
  simp only [encOf] at p2 p2' p2o p2a
  have hl := (ofX_facts hs).1
  have hl' := (ofX_facts hs').1
  have hlo := (ofX_facts hso).1
  have hla := (ofX_facts hsa).1
  have p3 := kdnfHas (ofX x).1 e (by omega) (ofX_few hs)
  have p3' := kdnfHas (ofX y).1 e (by omega) (ofX_few hs')
  have p3o := kdnfHas (ofX (ofOr [x, y])).1 e (by omega) (ofX_few hso)
  have p3a := kdnfHas (ofX (ofAnd [x, y])).1 e (by omega) (ofX_few hsa)
  have hsem := @ofX_sem x hs e hi
  have hsem' := @ofX_sem y hs' e hi
  have hsemo := @ofX_sem (ofOr [x, y]) hso e hi
  have hsema := @ofX_sem (ofAnd [x, y]) hsa e hi
  rw [eval_or] at hsemo
  rw [eval_and] at hsema
  simp only [List.any_cons, List.any_nil, Bool.or_false, List.all_cons, List.all_nil, Bool.and_true] at hsemo hsema
  simp only [go_sem, Nat.reduceEqDiff, Nat.reduceAdd, Nat.reduceLeDiff, List.length_map]
  refine callP_eq (by first | rfl | (simp only [List.map_cons, List.map_nil, exprC_mk]; rfl)) (by first | rfl | (simp only [List.map_cons, List.map_nil, exprC_mk]; rfl)) p2 ?_
  simp only [go_sem, Nat.reduceEqDiff, Nat.reduceAdd, Nat.reduceLeDiff, List.length_map]
  refine callP_eq (by first | rfl | (simp only [List.map_cons, List.map_nil, exprC_mk]; rfl)) (by first | rfl | (simp only [List.map_cons, List.map_nil, exprC_mk]; rfl)) p2' ?_
  simp only [go_sem, Nat.reduceEqDiff, Nat.reduceAdd, Nat.reduceLeDiff, List.length_map]
  refine callP_eq (by first | rfl | (simp only [List.map_cons, List.map_nil, exprC_mk]; rfl)) (by first | rfl | (simp only [List.map_cons, List.map_nil, exprC_mk]; rfl)) (kexprOr [x, y] (by simp)) ?_
  simp only [go_sem, Nat.reduceEqDiff, Nat.reduceAdd, Nat.reduceLeDiff, List.length_map]
  refine callP_eq (by first | rfl | (simp only [List.map_cons, List.map_nil, exprC_mk]; rfl)) (by first | rfl | (simp only [List.map_cons, List.map_nil, exprC_mk]; rfl)) p2o ?_
  simp only [go_sem, Nat.reduceEqDiff, Nat.reduceAdd, Nat.reduceLeDiff, List.length_map]
  refine callP_eq (by first | rfl | (simp only [List.map_cons, List.map_nil, exprC_mk]; rfl)) (by first | rfl | (simp only [List.map_cons, List.map_nil, exprC_mk]; rfl)) (kexprAnd [x, y] (by simp)) ?_
  simp only [go_sem, Nat.reduceEqDiff, Nat.reduceAdd, Nat.reduceLeDiff, List.length_map]
  refine callP_eq (by first | rfl | (simp only [List.map_cons, List.map_nil, exprC_mk]; rfl)) (by first | rfl | (simp only [List.map_cons, List.map_nil, exprC_mk]; rfl)) p2a ?_
  generalize ofX x = r at *
  generalize ofX y = r' at *
  generalize ofX (ofOr [x, y]) = ro at *
  generalize ofX (ofAnd [x, y]) = ra at *
  obtain ⟨l, k⟩ := r
  obtain ⟨l', k'⟩ := r'
  obtain ⟨lo, ko⟩ := ro
  obtain ⟨la, ka⟩ := ra
  simp only at *
  simp only [ne_zero, go_sem, Nat.reduceEqDiff, Nat.reduceAdd, Nat.reduceLeDiff, List.length_map]
  cases hk : decide (k = 0)
  · simp only [ne_zero, go_sem, Nat.reduceEqDiff, Nat.reduceAdd, Nat.reduceLeDiff, List.length_map]
  cases hk' : decide (k' = 0)
  · simp only [ne_zero, hk', go_sem, Nat.reduceEqDiff, Nat.reduceAdd, Nat.reduceLeDiff, List.length_map]
  have h1 := hsem (by simpa using hk)
  have h2 := hsem' (by simpa using hk')
  simp only [ne_zero, hk', evC, go_sem, Nat.reduceEqDiff, Nat.reduceAdd, Nat.reduceLeDiff, List.length_map]
  refine callQ_by _ rfl rfl p3 ?_
  simp only [evC, go_sem, Nat.reduceEqDiff, Nat.reduceAdd, Nat.reduceLeDiff, List.length_map]
  refine callQ_by _ rfl rfl p3' ?_
  simp only [evC, go_sem, Nat.reduceEqDiff, Nat.reduceAdd, Nat.reduceLeDiff, List.length_map]
  rw [h1, h2]
  have fin_and : ∀ h : ka = 0, hasF la e = (rightE e && (evalE e x && evalE e y)) := hsema
  have ho : ko = 0 → hasF lo e = (rightE e && evalE e x || rightE e && evalE e y) := fun h => by rw [hsemo h]; cases rightE e <;> simp
  have ha : ka = 0 → hasF la e = (rightE e && evalE e x && (rightE e && evalE e y)) := fun h => by rw [hsema h]; cases rightE e <;> simp
  generalize (rightE e && evalE e x) = u at *
  generalize (rightE e && evalE e y) = v at *
  cases hko : decide (ko = 0)
  · simp only [ne_zero, hko, go_sem, Nat.reduceEqDiff, Nat.reduceAdd, Nat.reduceLeDiff, List.length_map]
    cases hka : decide (ka = 0)
    · simp only [ne_zero, hka, go_sem, Nat.reduceEqDiff, Nat.reduceAdd, Nat.reduceLeDiff, List.length_map]
    have h4 := ha (by simpa using hka)
    rw [h4] at p3a
    simp only [ne_zero, hka, evC, go_sem, Nat.reduceEqDiff, Nat.reduceAdd, Nat.reduceLeDiff, List.length_map]
    refine callP_eq rfl rfl p3a ?_
    cases u <;> cases v
    all_goals simp only [beq_self_eq_true, Bool.true_and, Bool.false_and, go_sem, Nat.reduceEqDiff, Nat.reduceAdd, Nat.reduceLeDiff, List.length_map]
  have h3 := ho (by simpa using hko)
  rw [h3] at p3o
  simp only [ne_zero, hko, evC, go_sem, Nat.reduceEqDiff, Nat.reduceAdd, Nat.reduceLeDiff, List.length_map]
  refine callP_eq rfl rfl p3o ?_
  cases hka : decide (ka = 0)
  · cases u <;> cases v
    all_goals simp only [ne_zero, hka, beq_self_eq_true, Bool.true_or, Bool.false_or, go_sem, Nat.reduceEqDiff, Nat.reduceAdd, Nat.reduceLeDiff, List.length_map]
  have h4 := ha (by simpa using hka)
  rw [h4] at p3a
  cases u <;> cases v
  all_goals simp only [ne_zero, hka, beq_self_eq_true, Bool.true_or, Bool.false_or, go_sem, Nat.reduceEqDiff, Nat.reduceAdd, Nat.reduceLeDiff, List.length_map]
  all_goals
    refine callP_eq rfl rfl p3a ?_
    simp only [beq_self_eq_true, Bool.true_and, Bool.false_and, go_sem, Nat.reduceEqDiff, Nat.reduceAdd, Nat.reduceLeDiff, List.length_map]
end Go.Proofs


namespace Go.Proofs
open Go.Vm
set_option linter.unusedSimpArgs false

theorem boxesF_one (neg : Bool) : ∀ (l : List ExprM) (acc out : List BoxM), (∀ x ∈ l, ∀ o, boxesE x neg = some o → o.length ≤ 1) → acc.length ≤ 1 → boxesF true l neg acc = some out → out.length ≤ 1
  | [], acc, out, _, h1, h3 => by
    rw [boxesF] at h3
    cases h3
    exact h1
  | x :: l, acc, out, h0, h1, h3 => by
    rw [boxesF] at h3
    cases hx : boxesE x neg with
    | none => rw [hx] at h3; simp at h3
    | some sub =>
      rw [hx] at h3
      simp only at h3
      split at h3
      · simp at h3
      · have h2 := h0 x List.mem_cons_self sub hx
        refine boxesF_one neg l _ out (fun y hy => h0 y (List.mem_cons_of_mem _ hy)) ?_ h3
        have h4 : (nextB true acc sub).length ≤ (prodL acc sub).length := tidy_len _
        have h5 := prodL_len acc sub
        have h6 : acc.length * sub.length ≤ 1 * 1 := Nat.mul_le_mul h1 h2
        omega
def boxX4 (b : BoxM) : ExprM := ofAnd [atomX 0 b.s0, atomX 1 b.s1, atomX 2 b.s2, atomX 3 b.s3]
theorem ofBox_one (b : BoxM) : (ofX (boxX4 b)).1.length ≤ 1 := by
  by_cases h : (ofX (boxX4 b)).2 = 0
  · obtain ⟨-, h2, -⟩ := ofX_ok h
    rw [boxesE_mk, show (boxX4 b).kind = 2 from rfl, if_neg (show ¬ (2 : Int) = 1 by decide), if_neg (show ¬ (2 : Int) = 4 by decide)] at h2
    refine boxesF_one false _ _ _ (fun x hx o ho => ?_) ?_ h2
    · have hk : x.kind = 1 := by
        simp only [boxX4, ofAnd, ExprM.sub, List.mem_cons, List.not_mem_nil, or_false] at hx
        rcases hx with rfl | rfl | rfl | rfl <;> rfl
      rw [boxesE_mk, if_pos hk] at ho
      cases ho
      exact Nat.le_trans (tidy_len _) (by simp)
    · simp [startB]
  · rw [ofX_err h]; simp
theorem eval_atom (e : EvM) (a : Int) (s : SetM) : evalE e (atomX a s) = hasM s (e.at a.toNat) := by
  rw [evalE_mk]; simp [atomX, ExprM.kind, ExprM.set, ExprM.attr]
theorem eval_box (e : EvM) (b : BoxM) : (rightE e && evalE e (boxX4 b)) = hasB b e := by
  unfold boxX4 hasB
  rw [eval_and]
  simp only [List.all_cons, List.all_nil, eval_atom, all4, Bool.and_true, Bool.and_assoc]
  rfl

theorem kCloneXF : FreshAt Tryz.prog 56 [.sl none []] 28 7 (· = []) := by
  refine fresh_of r56 (by kernel_rfl) ?_
  unfold m56
  simp only [go_sem, Nat.reduceEqDiff, Nat.reduceAdd, Nat.reduceLeDiff, List.length_map]
  intro b
  try intro hb
  refine condE_split (fun h => ?_) (fun h => ?_)
  · simp only [go_sem, Nat.reduceEqDiff, Nat.reduceAdd, Nat.reduceLeDiff, List.length_map]
  · simp only [go_sem, Nat.reduceEqDiff, Nat.reduceAdd, Nat.reduceLeDiff, List.length_map]
    simp
theorem l7_1 (x : ExprM) : ∀ y, y = exprC x → y.length = 7 := fun y hy => by rw [hy]; exact len_exprC _
theorem l7_2 (x x' : ExprM) : ∀ y, y = exprC x ∨ y = exprC x' → y.length = 7 := fun y hy => by rcases hy with h | h <;> (rw [h]; exact len_exprC _)
theorem l7_3 (x x' x'' : ExprM) : ∀ y, y = exprC x ∨ y = exprC x' ∨ y = exprC x'' → y.length = 7 := fun y hy => by rcases hy with h | h | h <;> (rw [h]; exact len_exprC _)
theorem kAndZ : ObjAt Tryz.prog 21 ⟨[(0, .sl none [])], [], []⟩ 1 (fun r hp tg => r = .agg [.val (.int .i64 2), .val (.int .i64 0), .val (.bool false), .sl none [], .val (.bool false), .sl none [], .sl (some (4, 28, 7)) []] ∧ hp = [] ∧ tg = [((4, 28, 7), true)]) := by
  refine obj_of [] [(4, 28, 7)] r21z (by kernel_rfl) ?_
  unfold m21z
  simp only [go_sem, Nat.reduceEqDiff, Nat.reduceAdd, Nat.reduceLeDiff, List.length_map]
  refine callF_by rfl rfl kCloneXF ?_
  rintro es rfl
  simp only [finO, go_sem, Nat.reduceEqDiff, Nat.reduceAdd, Nat.reduceLeDiff, List.length_map]
  rfl
set_option maxHeartbeats 4000000 in
theorem kDnfBox (b : BoxM) (e : EvM) (hb : ∀ i, i < 4 → Bnd (b.at i)) (hi : InE e) : PureAt Tryz.prog 6 [.agg (boxC b), .agg (evC e)] (· = .val (.bool true)) := by
  have p1 := kref6Few [b] (by simp [maxLen])
  refine pure_of r6z (by kernel_rfl) ?_
  unfold m6z
  simp only [evC, go_sem, Nat.reduceEqDiff, Nat.reduceAdd, Nat.reduceLeDiff, List.length_map]
  refine callP_eq rfl rfl kawake06 ?_
  simp only [go_sem, Nat.reduceEqDiff, Nat.reduceAdd, Nat.reduceLeDiff, List.length_map]
  refine callP_eq rfl rfl p1 ?_
  cases hfew : few6 [b]
  · simp only [go_sem, Nat.reduceEqDiff, Nat.reduceAdd, Nat.reduceLeDiff, List.length_map]
    refine callP_eq rfl rfl kawake06 ?_
    simp only [go_sem, Nat.reduceEqDiff, Nat.reduceAdd, Nat.reduceLeDiff, List.length_map]
  simp only [go_sem, Nat.reduceEqDiff, Nat.reduceAdd, Nat.reduceLeDiff, List.length_map]
  refine callO_by rfl rfl rfl rfl rfl kAndZ ?_
  rintro r hp tg ⟨rfl, rfl, rfl⟩
  simp only [go_sem, Nat.reduceEqDiff, Nat.reduceAdd, Nat.reduceLeDiff, List.length_map]
  refine ev_loop_u 4 ?_
  simp only [boxC, go_sem, Nat.reduceEqDiff, Nat.reduceAdd, Nat.reduceLeDiff, List.length_map, z4, at4, BoxM.at, EvM.at, fillB, Int.reduceLT, Int.reduceLE, Int.reduceToNat, Int.toNat_zero, Int.le_refl, Int.reduceAdd, decide_true, decide_false, wr1, wr2, wr3, wr4, c0, c1, c2, c3, c4, Nat.reduceMul, Nat.reduceLT, Nat.lt_irrefl, true_and, and_self, ↓reduceIte]
  refine callQ_by _ (by first | rfl | (simp only [List.map_cons, List.map_nil, exprC_mk]; rfl)) (by first | rfl | (simp only [List.map_cons, List.map_nil, exprC_mk]; rfl)) (kexprAtom 0 b.s0) ?_
  simp only [boxC, go_sem, Nat.reduceEqDiff, Nat.reduceAdd, Nat.reduceLeDiff, List.length_map, z4, at4, BoxM.at, EvM.at, fillB, Int.reduceLT, Int.reduceLE, Int.reduceToNat, Int.toNat_zero, Int.le_refl, Int.reduceAdd, decide_true, decide_false, wr1, wr2, wr3, wr4, c0, c1, c2, c3, c4, Nat.reduceMul, Nat.reduceLT, Nat.lt_irrefl, true_and, and_self, ↓reduceIte]
  refine ⟨l7_1 _, ?_⟩
  refine callQ_by _ (by first | rfl | (simp only [List.map_cons, List.map_nil, exprC_mk]; rfl)) (by first | rfl | (simp only [List.map_cons, List.map_nil, exprC_mk]; rfl)) (kexprAtom 1 b.s1) ?_
  simp only [boxC, go_sem, Nat.reduceEqDiff, Nat.reduceAdd, Nat.reduceLeDiff, List.length_map, z4, at4, BoxM.at, EvM.at, fillB, Int.reduceLT, Int.reduceLE, Int.reduceToNat, Int.toNat_zero, Int.le_refl, Int.reduceAdd, decide_true, decide_false, wr1, wr2, wr3, wr4, c0, c1, c2, c3, c4, Nat.reduceMul, Nat.reduceLT, Nat.lt_irrefl, true_and, and_self, ↓reduceIte]
  refine ⟨l7_1 _, l7_1 _, ?_⟩
  refine callQ_by _ (by first | rfl | (simp only [List.map_cons, List.map_nil, exprC_mk]; rfl)) (by first | rfl | (simp only [List.map_cons, List.map_nil, exprC_mk]; rfl)) (kexprAtom 2 b.s2) ?_
  simp only [boxC, go_sem, Nat.reduceEqDiff, Nat.reduceAdd, Nat.reduceLeDiff, List.length_map, z4, at4, BoxM.at, EvM.at, fillB, Int.reduceLT, Int.reduceLE, Int.reduceToNat, Int.toNat_zero, Int.le_refl, Int.reduceAdd, decide_true, decide_false, wr1, wr2, wr3, wr4, c0, c1, c2, c3, c4, Nat.reduceMul, Nat.reduceLT, Nat.lt_irrefl, true_and, and_self, ↓reduceIte]
  refine ⟨l7_2 _ _, l7_1 _, ?_⟩
  refine callQ_by _ (by first | rfl | (simp only [List.map_cons, List.map_nil, exprC_mk]; rfl)) (by first | rfl | (simp only [List.map_cons, List.map_nil, exprC_mk]; rfl)) (kexprAtom 3 b.s3) ?_
  simp only [boxC, go_sem, Nat.reduceEqDiff, Nat.reduceAdd, Nat.reduceLeDiff, List.length_map, z4, at4, BoxM.at, EvM.at, fillB, Int.reduceLT, Int.reduceLE, Int.reduceToNat, Int.toNat_zero, Int.le_refl, Int.reduceAdd, decide_true, decide_false, wr1, wr2, wr3, wr4, c0, c1, c2, c3, c4, Nat.reduceMul, Nat.reduceLT, Nat.lt_irrefl, true_and, and_self, ↓reduceIte]
  refine ⟨l7_3 _ _ _, l7_1 _, ?_⟩
  have few : ∀ i, i < 4 → (b.at i).ints.length ≤ 40 ∧ (b.at i).strs.length ≤ 40 := fun i hi => by
    simp only [few6, few4, List.all_cons, List.all_nil, Bool.and_true, Bool.and_eq_true] at hfew
    have := fewM_of hfew.2
    rcases lt4 hi with rfl | rfl | rfl | rfl
    · exact this b.s0 (by simp)
    · exact this b.s1 (by simp)
    · exact this b.s2 (by simp)
    · exact this b.s3 (by simp)
  have sb : ∀ i, i < 4 → SetB (b.at i) := fun i hi => ⟨⟨by have := few i hi; omega, by have := few i hi; omega⟩, hb i hi⟩
  have hs : setsOk SetB (boxX4 b) := setB_and (fun x hx => by
    simp only [List.mem_cons, List.not_mem_nil, or_false] at hx
    rcases hx with rfl | rfl | rfl | rfl
    · exact setB_atom (sb 0 (by omega))
    · exact setB_atom (sb 1 (by omega))
    · exact setB_atom (sb 2 (by omega))
    · exact setB_atom (sb 3 (by omega)))
  have p2 := kdnfOf (boxX4 b) hs
  simp only [encOf] at p2
  have hl := ofBox_one b
  have p3 := kdnfHas (ofX (boxX4 b)).1 e (by omega) (ofX_few hs)
  have p4 := kref6Has [b] e (by simp) (fun c hc => by
    simp only [List.mem_singleton] at hc
    subst hc
    exact fun i hi => ⟨by have := few i hi; omega, by have := few i hi; omega⟩)
  rw [hasF_one] at p4
  have hsem := @ofX_sem (boxX4 b) hs e hi
  rw [eval_box] at hsem
  have herr := @ofX_err (boxX4 b)
  refine callP_eq (by first | rfl | (simp only [List.map_cons, List.map_nil, exprC_mk]; rfl)) (by first | rfl | (simp only [List.map_cons, List.map_nil, exprC_mk]; rfl)) p2 ?_
  generalize ofX (boxX4 b) = r at *
  obtain ⟨l, k⟩ := r
  simp only at *
  have hle : decide ((l.length : Int) ≤ 1) = true := by simp; omega
  simp only [ne_zero, go_sem, Nat.reduceEqDiff, Nat.reduceAdd, Nat.reduceLeDiff, List.length_map]
  cases hk : decide (k = 0)
  · have := herr (by simpa using hk)
    subst this
    simp only [go_sem, Nat.reduceEqDiff, Nat.reduceAdd, Nat.reduceLeDiff, List.length_map]
    rfl
  have h1 := hsem (by simpa using hk)
  rw [h1] at p3
  simp only [hle, evC, boxC, go_sem, Nat.reduceEqDiff, Nat.reduceAdd, Nat.reduceLeDiff, List.length_map]
  refine callQ_by _ rfl rfl p3 ?_
  simp only [evC, boxC, go_sem, Nat.reduceEqDiff, Nat.reduceAdd, Nat.reduceLeDiff, List.length_map]
  refine callQ_by _ rfl rfl p4 ?_
  simp only [beq_self_eq_true, go_sem, Nat.reduceEqDiff, Nat.reduceAdd, Nat.reduceLeDiff, List.length_map]
end Go.Proofs
