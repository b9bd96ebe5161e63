/- A part of the proof; what is proved stands in the last text. -/
import Derived.Test.YtipppgiimemloaaGreatTH
set_option linter.unusedVariables false
set_option maxRecDepth 2000

namespace Go.Proofs
open Go.Vm
set_option linter.unusedSimpArgs false

def cntE (x : ExprM) (deep : Nat) : Nat := if depE x + deep ≤ 21 ∧ sizeE x < 100 then sizeE x else 100
def cntI (deep : Nat) (l : List ExprM) (i n : Nat) : Prop := i ≤ n ∧ n ≤ 199 ∧ (n < 100 → n = 1 + sizeL (l.take i) ∧ depL (l.take i) + deep ≤ 20) ∧ (100 ≤ n → ¬ (depL (l.take i) + deep ≤ 20 ∧ sizeL (l.take i) < 99))
def invC (x : ExprM) (deep : Nat) (S : St) (k : Nat) : Prop := ∃ i n : Nat, i ≤ x.sub.length ∧ k = x.sub.length - i ∧ cntI deep x.sub i n ∧
  S.trim [1, 2, 5, 6] [2] [] = ⟨[(1, .val (.int .i64 deep)), (2, .ptr 2 0), (5, .val (.int .i64 n)), (6, .val (.int .i64 i))], [(2, exprC x)], []⟩
set_option maxHeartbeats 2000000 in
theorem kCount5 (x : ExprM) : ∀ deep : Nat, deep ≤ 21 → PureAt Tryz.prog 40 [.agg (exprC x), .val (.int .i64 deep)] (· = .val (.int .i64 (cntE x deep))) := by
  refine ExprM.ind (p := fun x => ∀ deep : Nat, deep ≤ 21 → PureAt Tryz.prog 40 [.agg (exprC x), .val (.int .i64 deep)] (· = .val (.int .i64 (cntE x deep)))) (fun k a s l ih => ?_) x
  intro deep hdeep
  have hsub : (ExprM.mk k a s l).sub = l := rfl
  generalize ExprM.mk k a s l = x at *
  subst hsub
  have hd := depE_mk x
  have hz := sizeE_mk x
  refine pure_of r40 (by kernel_rfl) ?_
  unfold m40
  simp only [go_sem, Nat.reduceEqDiff, Nat.reduceAdd]
  refine condE_split (fun h => ?_) (fun h => ?_)
  · have : cntE x deep = 100 := by simp at h; unfold cntE; rw [if_neg (by have := dep_pos x; omega)]
    simp only [this, go_sem, Nat.reduceEqDiff]
    rfl
  have hdeep' : deep ≤ 20 := by simp at h; omega
  simp only [go_sem, Nat.reduceEqDiff]
  refine ev_loop_by (invC x deep) x.sub.length ⟨0, 1, by omega, by omega, ⟨by omega, by omega, by simp [sizeL, depL]; omega, by omega⟩, by simp only [go_sem, Nat.reduceEqDiff]; rfl⟩ ?_
  rintro kk S ⟨i, n, hil, hk, hn, hS⟩
  rw [ev_trim, hS]
  subst hk
  simp only [go_sem, Nat.reduceEqDiff, Nat.reduceAdd, List.length_map]
  obtain ⟨n1, n2, n3, n4⟩ := hn
  have fin0 : (i = x.sub.length ∨ 100 ≤ n) → min n 100 = cntE x deep := by
    intro h
    have t1 := sizeL_take_le x.sub i
    have t2 := depL_take_le x.sub i
    unfold cntE
    rcases Nat.lt_or_ge n 100 with hn | hn
    · obtain ⟨e1, e2⟩ := n3 hn
      have hi : i = x.sub.length := by omega
      rw [hi, List.take_length] at e1 e2
      rw [if_pos (by omega)]; omega
    · have := n4 hn
      rw [if_neg (by omega)]; omega
  have fin1 : (if (100 : Int) < (n : Int) then (100 : Int) else (n : Int)) = ((min n 100 : Nat) : Int) := by split <;> omega
  cases c1 : decide ((i : Int) < (x.sub.length : Int))
  · have hi : i = x.sub.length := by simp at c1; omega
    simp only [fin1, fin0 (.inl hi), go_sem, Nat.reduceEqDiff]
  · have hi' : i < x.sub.length := by simpa using c1
    simp only [go_sem, Nat.reduceEqDiff]
    cases c2 : decide ((n : Int) < 100)
    · have hn : 100 ≤ n := by simp at c2; omega
      simp only [fin1, fin0 (.inr hn), go_sem, Nat.reduceEqDiff]
    · have hn : n < 100 := by simp at c2; omega
      have hm := memx hi'
      have e1 := sizeL_next hi'
      have e2 := depL_next hi'
      have e3 := size_pos (x.sub.getD i x0)
      obtain ⟨m1, m2⟩ := n3 hn
      simp only [nn0, Int.toNat_natCast, get_exprC hi', up64 (show deep < 1000000 by omega), go_sem, Nat.reduceEqDiff, Nat.reduceAdd, Nat.reduceLeDiff]
      refine callP_eq (by first | rfl | (simp only [exprC_mk]; rfl)) (by first | rfl | (simp only [exprC_mk]; rfl)) (ih _ hm (deep + 1) (by omega)) ?_
      have hc : cntE (x.sub.getD i x0) (deep + 1) ≤ 100 := by unfold cntE; split <;> omega
      have hw : IntKind.i64.wrap ((n : Int) + (cntE (x.sub.getD i x0) (deep + 1) : Int)) = ((n + cntE (x.sub.getD i x0) (deep + 1) : Nat) : Int) := by rw [wrap64 (by omega) (by omega)]; rfl
      simp only [hw, up64 (show i < 1000000 by omega), go_sem, Nat.reduceEqDiff]
      refine ⟨x.sub.length - (i + 1), by omega, i + 1, n + cntE (x.sub.getD i x0) (deep + 1), by omega, rfl, ?_, by simp only [go_sem, Nat.reduceEqDiff]⟩
      generalize hq : cntE (x.sub.getD i x0) (deep + 1) = q at *
      unfold cntE at hq
      refine ⟨?_, by omega, fun h => ?_, fun h => ?_⟩
      · split at hq <;> omega
      · split at hq
        · omega
        · omega
      · split at hq
        · omega
        · rw [e1, e2]; omega

set_option maxHeartbeats 2000000 in
theorem kDeep5 (x : ExprM) : ∀ deep : Nat, depE x + deep ≤ 21 → sizeE x < 100 → PureAt Tryz.prog 41 [.agg (exprC x), .val (.int .i64 deep)] (· = .val (.int .i64 (min (depE x) 20 : Nat))) := by
  refine ExprM.ind (p := fun x => ∀ deep : Nat, depE x + deep ≤ 21 → sizeE x < 100 → PureAt Tryz.prog 41 [.agg (exprC x), .val (.int .i64 deep)] (· = .val (.int .i64 (min (depE x) 20 : Nat)))) (fun k a s l ih => ?_) x
  intro deep hdp hsz
  have hsub : (ExprM.mk k a s l).sub = l := rfl
  generalize ExprM.mk k a s l = x at *
  subst hsub
  have hd := depE_mk x
  have hz := sizeE_mk x
  have hlen := len_le_size x
  have h20 : decide ((deep : Int) > 20) = false := by simp; omega
  refine pure_of r41 (by kernel_rfl) ?_
  unfold m41
  simp only [h20, go_sem, Nat.reduceEqDiff, Nat.reduceAdd]
  refine loop_N x.sub.length (fun _ => True) (fun i => ⟨[(1, .val (.int .i64 deep)), (2, .ptr 2 0), (5, .val (.int .i64 (depL (x.sub.take i) : Nat))), (6, .val (.int .i64 i))], [(2, exprC x)], []⟩)
    trivial (by simp only [List.take_zero, depL, go_sem, Nat.reduceEqDiff]; rfl) ?_
  rintro i hil -
  have h100 : decide ((i : Int) < 100) = true := by simp; omega
  simp only [go_sem, Nat.reduceEqDiff, Nat.reduceAdd, List.length_map]
  cases c1 : decide ((i : Int) < (x.sub.length : Int))
  · have hi : i = x.sub.length := by simp at c1; omega
    subst hi
    have fin1 : (if (20 : Int) < ((depL x.sub + 1 : Nat) : Int) then (20 : Int) else ((depL x.sub + 1 : Nat) : Int)) = ((min (depE x) 20 : Nat) : Int) := by rw [hd]; split <;> omega
    have hw2 : IntKind.i64.wrap ((depL x.sub : Int) + 1) = ((depL x.sub + 1 : Nat) : Int) := by rw [wrap64 (by omega) (by omega)]; rfl
    simp only [List.take_length, hw2, fin1, go_sem, Nat.reduceEqDiff]
  · have hi' : i < x.sub.length := by simpa using c1
    have hm := memx hi'
    have e0 := size_mem hm
    have e3 := dep_mem hm
    have e2 := depL_next hi'
    simp only [h100, nn0, Int.toNat_natCast, get_exprC hi', up64 (show deep < 1000000 by omega), go_sem, Nat.reduceEqDiff, Nat.reduceAdd, Nat.reduceLeDiff]
    refine callP_eq (by first | rfl | (simp only [exprC_mk]; rfl)) (by first | rfl | (simp only [exprC_mk]; rfl)) (ih _ hm (deep + 1) (by omega) (by omega)) ?_
    have e4 : min (depE (x.sub.getD i x0)) 20 = depE (x.sub.getD i x0) := by omega
    simp only [e4, max_cast, up64 (show i < 1000000 by omega), go_sem, Nat.reduceEqDiff]
    refine invN_next hi' trivial ?_
    simp only [e2, go_sem, Nat.reduceEqDiff]

mutual
def setsF : ExprM → Bool
  | .mk _ _ s l => few1 s && setsFL l
def setsFL : List ExprM → Bool
  | [] => true
  | x :: l => setsF x && setsFL l
end
theorem setsFL_all : ∀ l : List ExprM, setsFL l = l.all setsF
  | [] => by simp [setsFL]
  | x :: l => by simp [setsFL, setsFL_all l]
theorem setsF_mk (x : ExprM) : setsF x = (few1 x.set && x.sub.all setsF) := by cases x; simp [setsF, setsFL_all, ExprM.sub, ExprM.set]
set_option maxHeartbeats 2000000 in
theorem ksets5 (x : ExprM) : sizeE x ≤ 1000 → PureAt Tryz.prog 42 [.agg (exprC x)] (· = .val (.bool (setsF x))) := by
  refine ExprM.ind (p := fun x => sizeE x ≤ 1000 → PureAt Tryz.prog 42 [.agg (exprC x)] (· = .val (.bool (setsF x)))) (fun k a s l ih => ?_) x
  intro hsz
  have hsub : (ExprM.mk k a s l).sub = l := rfl
  generalize ExprM.mk k a s l = x at *
  subst hsub
  have hz := sizeE_mk x
  have hlen := len_le_size x
  have p1 := krefFew3x [x.set] (by simp)
  have hf : fewM [x.set] = few1 x.set := by simp [fewM]
  rw [hf] at p1
  refine pure_of r42 (by kernel_rfl) ?_
  unfold m42
  simp only [setC, go_sem, Nat.reduceEqDiff, Nat.reduceAdd, Nat.reduceLeDiff]
  refine callP_eq rfl rfl p1 ?_
  cases hc : few1 x.set
  · simp only [go_sem, Nat.reduceEqDiff]
    rw [setsF_mk, hc]; rfl
  simp only [go_sem, Nat.reduceEqDiff]
  refine loop_N x.sub.length (fun i => (x.sub.take i).all setsF = true) (fun i => ⟨[(1, .ptr 1 0), (3, .val (.int .i64 i))], [(1, exprC x)], []⟩)
    (by simp) (by simp only [go_sem, Nat.reduceEqDiff]; rfl) ?_
  rintro i hil q
  simp only [go_sem, Nat.reduceEqDiff, Nat.reduceAdd, List.length_map]
  refine condE_split (fun h => ?_) (fun h => ?_)
  · have hi' : i < x.sub.length := by simpa using h
    have hm := memx hi'
    have e1 := size_mem hm
    simp only [nn0, Int.toNat_natCast, get_exprC hi', go_sem, Nat.reduceEqDiff, Nat.reduceAdd, Nat.reduceLeDiff]
    refine callP_eq (by first | rfl | (simp only [exprC_mk]; rfl)) (by first | rfl | (simp only [exprC_mk]; rfl)) (ih _ hm (by omega)) ?_
    cases hc' : setsF (x.sub.getD i x0)
    · simp only [go_sem, Nat.reduceEqDiff]
      rw [setsF_mk, all_false hi' hc', Bool.and_false]
    · simp only [up64 (show i < 1000000 by omega), go_sem, Nat.reduceEqDiff]
      refine invN_next hi' (by show (x.sub.take (i + 1)).all _ = _; rw [all_next _ hi', q, hc']; rfl) ?_
      simp only [go_sem, Nat.reduceEqDiff]
  · have hil' : i = x.sub.length := by simp at h; omega
    subst hil'
    rw [List.take_length] at q
    simp only [go_sem]
    rw [setsF_mk, q, hc]; rfl

def fewE (x : ExprM) : Bool := decide (depE x < 20) && decide (sizeE x < 100) && setsF x
theorem kFew5 (x : ExprM) : PureAt Tryz.prog 13 [.agg (exprC x)] (· = .val (.bool (fewE x))) := by
  have p1 := kCount5 x 0 (by omega)
  have p2 := kDeep5 x 0
  have p3 := ksets5 x
  refine pure_of r13 (by kernel_rfl) ?_
  unfold m13 fewE
  simp only [go_sem, Nat.reduceEqDiff, Nat.reduceAdd, Nat.reduceLeDiff]
  refine callP_eq (by first | rfl | (simp only [exprC_mk]; rfl)) (by first | rfl | (simp only [exprC_mk]; rfl)) p1 ?_
  have hdp := dep_pos x
  cases c1 : decide ((cntE x 0 : Int) ≥ 100)
  · have hc : depE x ≤ 21 ∧ sizeE x < 100 := by
      have c1' : ¬ (cntE x 0 ≥ 100) := by simp at c1; omega
      unfold cntE at c1'; split at c1' <;> omega
    simp only [c1, go_sem, Nat.reduceEqDiff, Nat.reduceAdd, Nat.reduceLeDiff]
    refine callP_eq (by first | rfl | (simp only [exprC_mk]; rfl)) (by first | rfl | (simp only [exprC_mk]; rfl)) (p2 (by omega) (by omega)) ?_
    cases c2 : decide (((min (depE x) 20 : Nat) : Int) ≥ 20)
    · have h1 : decide (depE x < 20) = true := by simp only [decide_eq_false_iff_not] at c2; simp; omega
      have h2 : decide (sizeE x < 100) = true := by simp; omega
      simp only [c2, go_sem, Nat.reduceEqDiff, Nat.reduceAdd, Nat.reduceLeDiff]
      refine callP_eq (by first | rfl | (simp only [exprC_mk]; rfl)) (by first | rfl | (simp only [exprC_mk]; rfl)) (p3 (by omega)) ?_
      simp only [h1, h2, Bool.true_and, go_sem, Nat.reduceEqDiff]
    · have h1 : decide (depE x < 20) = false := by simp only [decide_eq_true_eq] at c2; simp; omega
      simp only [c2, h1, Bool.false_and, go_sem, Nat.reduceEqDiff]
  · simp only [c1, go_sem, Nat.reduceEqDiff]
    have : ¬ (depE x < 20 ∧ sizeE x < 100) := by
      have c1' : cntE x 0 ≥ 100 := by simp at c1; omega
      unfold cntE at c1'; split at c1' <;> omega
    by_cases h : depE x < 20
    · have : decide (sizeE x < 100) = false := by simp; omega
      simp [this]
    · simp [h]
theorem kFits5 (x : ExprM) : PureAt Tryz.prog 91 [.agg (exprC x)] (· = .val (.bool (fitsE x))) := by
  have p1 := kCount5 x 0 (by omega)
  have p2 := kDeep5 x 0
  refine pure_of r91 (by kernel_rfl) ?_
  unfold m91 fitsE
  simp only [go_sem, Nat.reduceEqDiff, Nat.reduceAdd, Nat.reduceLeDiff]
  refine callP_eq (by first | rfl | (simp only [exprC_mk]; rfl)) (by first | rfl | (simp only [exprC_mk]; rfl)) p1 ?_
  cases c1 : decide ((cntE x 0 : Int) ≤ 40)
  · simp only [c1, go_sem, Nat.reduceEqDiff]
    have : ¬ (depE x ≤ 8 ∧ sizeE x ≤ 40) := by
      have c1' : ¬ (cntE x 0 ≤ 40) := by simp at c1; omega
      unfold cntE at c1'; split at c1' <;> omega
    by_cases h : depE x ≤ 8
    · have : decide (sizeE x ≤ 40) = false := by simp; omega
      simp [this]
    · simp [h]
  · have hc : depE x ≤ 21 ∧ sizeE x ≤ 40 := by
      have c1' : cntE x 0 ≤ 40 := by simp at c1; omega
      unfold cntE at c1'; split at c1' <;> omega
    simp only [c1, go_sem, Nat.reduceEqDiff, Nat.reduceAdd, Nat.reduceLeDiff]
    refine callP_eq (by first | rfl | (simp only [exprC_mk]; rfl)) (by first | rfl | (simp only [exprC_mk]; rfl)) (p2 (by omega) (by omega)) ?_
    have h2 : decide (sizeE x ≤ 40) = true := by simp; omega
    have h3 : decide (((min (depE x) 20 : Nat) : Int) ≤ 8) = decide (depE x ≤ 8) := by
      by_cases h : depE x ≤ 8
      · simp [h]; omega
      · simp [h]; omega
    simp only [h2, h3, go_sem, Nat.reduceEqDiff]

theorem b24 : ((2 : Int) == 4) = false := rfl
theorem b34 : ((3 : Int) == 4) = false := rfl
theorem b44 : ((4 : Int) == 4) = true := rfl
theorem one_ne {n k : Int} : (n != k) = !decide (n = k) := by by_cases h : n = k <;> simp [h]
set_option maxHeartbeats 4000000 in
theorem keach5 (x : ExprM) : sizeE x ≤ 1000 → setsOk SetB x → PureAt Tryz.prog 92 [.agg (exprC x)] (· = .val (.bool (allX x))) := by
  refine ExprM.ind (p := fun x => sizeE x ≤ 1000 → setsOk SetB x → PureAt Tryz.prog 92 [.agg (exprC x)] (· = .val (.bool (allX x)))) (fun k a s l ih => ?_) x
  intro hsz hs
  have hsub : (ExprM.mk k a s l).sub = l := rfl
  generalize ExprM.mk k a s l = x at *
  subst hsub
  obtain ⟨hs1, hs2⟩ := (setsOk_mk _ x).1 hs
  have hz := sizeE_mk x
  have hlen := len_le_size x
  have p1 := krefSame3 x.set noM (by have := hs1.1; omega) (by have := hs1.1; omega)
  have p2 := krefRight3 x.set (by have := hs1.1; omega) (by have := hs1.1; omega)
  have p3 := kref3Small x.set
  have bad : oneX x = false → allX x = false := fun h => by rw [allX_mk, h, Bool.and_false]
  refine pure_of r92 (by kernel_rfl) ?_
  unfold m92
  simp only [go_sem, Nat.reduceEqDiff, Nat.reduceAdd]
  by_cases k1 : x.kind = 1
  · have ho : oneX x = (decide (x.attr ≥ 0) && decide (x.attr < 4) && decide (x.sub.length = 0) && rightM x.set && smallM x.set) := by unfold oneX oneF; rw [if_pos k1]
    simp only [k1, one_eq, decide_true, go_sem, Nat.reduceEqDiff, Nat.reduceAdd]
    cases h0 : decide (x.attr < 0)
    case true =>
      have h0' : decide (x.attr ≥ 0) = false := by simp at h0 ⊢; omega
      simp only [go_sem, Nat.reduceEqDiff]
      rw [bad (by rw [ho, h0']; rfl)]
    have h0' : decide (x.attr ≥ 0) = true := by simp at h0 ⊢; omega
    cases h1 : decide (x.attr > 3)
    case true =>
      have h1' : decide (x.attr < 4) = false := by simp at h1 ⊢; omega
      simp only [h1, go_sem, Nat.reduceEqDiff, Nat.reduceAdd]
      rw [bad (by rw [ho, h1', Bool.and_false]; rfl)]
    have h1' : decide (x.attr < 4) = true := by simp at h1 ⊢; omega
    cases h2 : decide ((x.sub.length : Int) > 0)
    case true =>
      have h2' : decide (x.sub.length = 0) = false := decide_eq_false (by have := of_decide_eq_true h2; omega)
      simp only [h1, h2, go_sem, Nat.reduceEqDiff, Nat.reduceAdd, List.length_map]
      rw [bad (by rw [ho, h2', Bool.and_false]; rfl)]
    have h2' : decide (x.sub.length = 0) = true := decide_eq_true (by have := of_decide_eq_false h2; omega)
    rw [h0', h1', h2', Bool.true_and, Bool.true_and, Bool.true_and] at ho
    simp only [h1, h2, go_sem, Nat.reduceEqDiff, Nat.reduceAdd, Nat.reduceLeDiff, List.length_map]
    refine callP_eq rfl rfl p2 ?_
    cases h3 : rightM x.set
    · simp only [go_sem, Nat.reduceEqDiff]
      rw [bad (by rw [ho, h3]; rfl)]
    simp only [go_sem, Nat.reduceEqDiff, Nat.reduceAdd, Nat.reduceLeDiff]
    refine callP_eq rfl rfl p3 ?_
    cases h4 : smallM x.set
    · simp only [go_sem, Nat.reduceEqDiff]
      rw [bad (by rw [ho, h4]; simp)]
    have hone : oneX x = true := by rw [ho, h3, h4]; rfl
    simp only [go_sem, Nat.reduceEqDiff]
    refine loop_N x.sub.length (fun i => (x.sub.take i).all allX = true) (fun i => ⟨[(1, .ptr 1 0), (3, .val (.int .i64 i))], [(1, exprC x)], []⟩)
      (by simp) (by simp only [go_sem, Nat.reduceEqDiff]; rfl) ?_
    rintro i hil q
    simp only [go_sem, Nat.reduceEqDiff, Nat.reduceAdd, List.length_map]
    refine condE_split (fun h => ?_) (fun h => ?_)
    · have hi' : i < x.sub.length := by simpa using h
      have hm := memx hi'
      have e1 := size_mem hm
      simp only [nn0, Int.toNat_natCast, get_exprC hi', go_sem, Nat.reduceEqDiff, Nat.reduceAdd, Nat.reduceLeDiff]
      refine callP_eq (by first | rfl | (simp only [exprC_mk]; rfl)) (by first | rfl | (simp only [exprC_mk]; rfl)) (ih _ hm (by omega) (hs2 _ hm)) ?_
      cases hc' : allX (x.sub.getD i x0)
      · simp only [go_sem, Nat.reduceEqDiff]
        rw [allX_mk, all_false hi' hc']; rfl
      · simp only [up64 (show i < 1000000 by omega), go_sem, Nat.reduceEqDiff]
        refine invN_next hi' (by show (x.sub.take (i + 1)).all _ = _; rw [all_next _ hi', q, hc']; rfl) ?_
        simp only [go_sem, Nat.reduceEqDiff]
    · have hil' : i = x.sub.length := by simp at h; omega
      subst hil'
      rw [List.take_length] at q
      simp only [go_sem]
      rw [allX_mk, q, hone]; rfl
  have hk1 : decide (x.kind = 1) = false := by simpa using k1
  simp only [one_eq, hk1, go_sem, Nat.reduceEqDiff]
  by_cases k2 : x.kind = 2
  · have ho : oneX x = (decide (x.attr = 0) && sameM x.set noM) := by unfold oneX oneF; rw [k2]; rfl
    simp only [k2, decide_true, go_sem, Nat.reduceEqDiff, Nat.reduceAdd]
    cases h0 : decide (x.attr = 0)
    · simp only [one_ne, h0, go_sem, Nat.reduceEqDiff]
      rw [bad (by rw [ho, h0]; rfl)]
    simp only [one_ne, h0, go_sem, Nat.reduceEqDiff, Nat.reduceAdd, Nat.reduceLeDiff]
    refine callP_eq rfl rfl p1 ?_
    cases h1 : sameM x.set noM
    · simp only [go_sem, Nat.reduceEqDiff]
      rw [bad (by rw [ho, h1, Bool.and_false])]
    have hone : oneX x = true := by rw [ho, h0, h1]; rfl
    simp only [k2, b24, go_sem, Nat.reduceEqDiff, Nat.reduceAdd]
    refine loop_N x.sub.length (fun i => (x.sub.take i).all allX = true) (fun i => ⟨[(1, .ptr 1 0), (3, .val (.int .i64 i))], [(1, exprC x)], []⟩)
      (by simp) (by simp only [go_sem, Nat.reduceEqDiff]; rfl) ?_
    rintro i hil q
    simp only [go_sem, Nat.reduceEqDiff, Nat.reduceAdd, List.length_map]
    refine condE_split (fun h => ?_) (fun h => ?_)
    · have hi' : i < x.sub.length := by simpa using h
      have hm := memx hi'
      have e1 := size_mem hm
      simp only [nn0, Int.toNat_natCast, get_exprC hi', go_sem, Nat.reduceEqDiff, Nat.reduceAdd, Nat.reduceLeDiff]
      refine callP_eq (by first | rfl | (simp only [exprC_mk]; rfl)) (by first | rfl | (simp only [exprC_mk]; rfl)) (ih _ hm (by omega) (hs2 _ hm)) ?_
      cases hc' : allX (x.sub.getD i x0)
      · simp only [go_sem, Nat.reduceEqDiff]
        rw [allX_mk, all_false hi' hc']; rfl
      · simp only [up64 (show i < 1000000 by omega), go_sem, Nat.reduceEqDiff]
        refine invN_next hi' (by show (x.sub.take (i + 1)).all _ = _; rw [all_next _ hi', q, hc']; rfl) ?_
        simp only [go_sem, Nat.reduceEqDiff]
    · have hil' : i = x.sub.length := by simp at h; omega
      subst hil'
      rw [List.take_length] at q
      simp only [go_sem]
      rw [allX_mk, q, hone]; rfl
  have hk2 : decide (x.kind = 2) = false := by simpa using k2
  simp only [one_eq, hk2, go_sem, Nat.reduceEqDiff]
  by_cases k3 : x.kind = 3
  · have ho : oneX x = (decide (x.attr = 0) && sameM x.set noM) := by unfold oneX oneF; rw [k3]; rfl
    simp only [k3, decide_true, go_sem, Nat.reduceEqDiff, Nat.reduceAdd]
    cases h0 : decide (x.attr = 0)
    · simp only [one_ne, h0, go_sem, Nat.reduceEqDiff]
      rw [bad (by rw [ho, h0]; rfl)]
    simp only [one_ne, h0, go_sem, Nat.reduceEqDiff, Nat.reduceAdd, Nat.reduceLeDiff]
    refine callP_eq rfl rfl p1 ?_
    cases h1 : sameM x.set noM
    · simp only [go_sem, Nat.reduceEqDiff]
      rw [bad (by rw [ho, h1, Bool.and_false])]
    have hone : oneX x = true := by rw [ho, h0, h1]; rfl
    simp only [k3, b34, go_sem, Nat.reduceEqDiff, Nat.reduceAdd]
    refine loop_N x.sub.length (fun i => (x.sub.take i).all allX = true) (fun i => ⟨[(1, .ptr 1 0), (3, .val (.int .i64 i))], [(1, exprC x)], []⟩)
      (by simp) (by simp only [go_sem, Nat.reduceEqDiff]; rfl) ?_
    rintro i hil q
    simp only [go_sem, Nat.reduceEqDiff, Nat.reduceAdd, List.length_map]
    refine condE_split (fun h => ?_) (fun h => ?_)
    · have hi' : i < x.sub.length := by simpa using h
      have hm := memx hi'
      have e1 := size_mem hm
      simp only [nn0, Int.toNat_natCast, get_exprC hi', go_sem, Nat.reduceEqDiff, Nat.reduceAdd, Nat.reduceLeDiff]
      refine callP_eq (by first | rfl | (simp only [exprC_mk]; rfl)) (by first | rfl | (simp only [exprC_mk]; rfl)) (ih _ hm (by omega) (hs2 _ hm)) ?_
      cases hc' : allX (x.sub.getD i x0)
      · simp only [go_sem, Nat.reduceEqDiff]
        rw [allX_mk, all_false hi' hc']; rfl
      · simp only [up64 (show i < 1000000 by omega), go_sem, Nat.reduceEqDiff]
        refine invN_next hi' (by show (x.sub.take (i + 1)).all _ = _; rw [all_next _ hi', q, hc']; rfl) ?_
        simp only [go_sem, Nat.reduceEqDiff]
    · have hil' : i = x.sub.length := by simp at h; omega
      subst hil'
      rw [List.take_length] at q
      simp only [go_sem]
      rw [allX_mk, q, hone]; rfl
  have hk3 : decide (x.kind = 3) = false := by simpa using k3
  simp only [one_eq, hk3, go_sem, Nat.reduceEqDiff]
  by_cases k4 : x.kind = 4
  · have ho : oneX x = (decide (x.attr = 0) && sameM x.set noM && decide (x.sub.length = 1)) := by unfold oneX oneF; rw [k4]; rfl
    simp only [k4, decide_true, go_sem, Nat.reduceEqDiff, Nat.reduceAdd]
    cases h0 : decide (x.attr = 0)
    · simp only [one_ne, h0, go_sem, Nat.reduceEqDiff]
      rw [bad (by rw [ho, h0]; rfl)]
    simp only [one_ne, h0, go_sem, Nat.reduceEqDiff, Nat.reduceAdd, Nat.reduceLeDiff]
    refine callP_eq rfl rfl p1 ?_
    cases h1 : sameM x.set noM
    · simp only [go_sem, Nat.reduceEqDiff]
      rw [bad (by rw [ho, h1, Bool.and_false]; rfl)]
    have e1 : ((x.sub.length : Int) != 1) = !decide (x.sub.length = 1) := by
      rw [one_ne]
      by_cases h : x.sub.length = 1
      · simp [h]
      · have : ¬ ((x.sub.length : Int) = 1) := by omega
        simp [h, this]
    cases h2 : decide (x.sub.length = 1)
    · simp only [k4, b44, e1, h2, go_sem, Nat.reduceEqDiff, Nat.reduceAdd, List.length_map]
      rw [bad (by rw [ho, h2, Bool.and_false])]
    have hone : oneX x = true := by rw [ho, h0, h1, h2]; rfl
    simp only [k4, b44, e1, h2, go_sem, Nat.reduceEqDiff, Nat.reduceAdd, List.length_map]
    refine loop_N x.sub.length (fun i => (x.sub.take i).all allX = true) (fun i => ⟨[(1, .ptr 1 0), (3, .val (.int .i64 i))], [(1, exprC x)], []⟩)
      (by simp) (by simp only [go_sem, Nat.reduceEqDiff]; rfl) ?_
    rintro i hil q
    simp only [go_sem, Nat.reduceEqDiff, Nat.reduceAdd, List.length_map]
    refine condE_split (fun h => ?_) (fun h => ?_)
    · have hi' : i < x.sub.length := by simpa using h
      have hm := memx hi'
      have e1 := size_mem hm
      simp only [nn0, Int.toNat_natCast, get_exprC hi', go_sem, Nat.reduceEqDiff, Nat.reduceAdd, Nat.reduceLeDiff]
      refine callP_eq (by first | rfl | (simp only [exprC_mk]; rfl)) (by first | rfl | (simp only [exprC_mk]; rfl)) (ih _ hm (by omega) (hs2 _ hm)) ?_
      cases hc' : allX (x.sub.getD i x0)
      · simp only [go_sem, Nat.reduceEqDiff]
        rw [allX_mk, all_false hi' hc']; rfl
      · simp only [up64 (show i < 1000000 by omega), go_sem, Nat.reduceEqDiff]
        refine invN_next hi' (by show (x.sub.take (i + 1)).all _ = _; rw [all_next _ hi', q, hc']; rfl) ?_
        simp only [go_sem, Nat.reduceEqDiff]
    · have hil' : i = x.sub.length := by simp at h; omega
      subst hil'
      rw [List.take_length] at q
      simp only [go_sem]
      rw [allX_mk, q, hone]; rfl
  · have hk4 : decide (x.kind = 4) = false := by simpa using k4
    simp only [hk4, go_sem, Nat.reduceEqDiff]
    rw [bad (by unfold oneX oneF; rw [if_neg k1, if_neg k2, if_neg k3, if_neg k4])]

theorem kRight5 (x : ExprM) (hs : setsOk SetB x) : PureAt Tryz.prog 46 [.agg (exprC x)] (· = .val (.bool (rightX x))) := by
  have p1 := kFits5 x
  have p2 := fun h => keach5 x h hs
  refine pure_of r46 (by kernel_rfl) ?_
  unfold m46 rightX
  simp only [go_sem, Nat.reduceEqDiff, Nat.reduceAdd, Nat.reduceLeDiff]
  refine callP_eq (by first | rfl | (simp only [exprC_mk]; rfl)) (by first | rfl | (simp only [exprC_mk]; rfl)) p1 ?_
  cases hf : fitsE x
  · simp only [go_sem, Nat.reduceEqDiff]
  · have h1 : sizeE x ≤ 1000 := by simp [fitsE] at hf; omega
    simp only [go_sem, Nat.reduceEqDiff, Nat.reduceAdd, Nat.reduceLeDiff]
    refine callP_eq (by first | rfl | (simp only [exprC_mk]; rfl)) (by first | rfl | (simp only [exprC_mk]; rfl)) (p2 h1) ?_
    simp only [go_sem, Nat.reduceEqDiff]

end Go.Proofs

