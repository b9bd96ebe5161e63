/- A part of the proof; what is proved stands in the last text. -/
import Derived.Test.YtipppgiimemloaaGreatT63
import Derived.Test.YtipppgiimemloaaGreatMY
set_option linter.unusedVariables false
set_option maxRecDepth 2000

namespace Go.Proofs
open Go.Vm
set_option linter.unusedSimpArgs false

theorem nb1 : (!(false == true)) = true := rfl
theorem nb2 : (!(true == true)) = false := rfl
theorem nb3 : (!(false == false)) = false := rfl
theorem nb4 : (!(true == false)) = true := rfl
theorem gt00 : decide (((0 : Nat) : Int) > 0) = false := rfl
theorem all_next {l : List ExprM} {i : Nat} (f : ExprM → Bool) (h : i < l.length) : (l.take (i + 1)).all f = ((l.take i).all f && f (l.getD i x0)) := by
  rw [take_next h]; simp
theorem all_false {l : List ExprM} {i : Nat} {f : ExprM → Bool} (h : i < l.length) (hf : f (l.getD i x0) = false) : l.all f = false :=
  List.all_eq_false.2 ⟨_, memx h, by rw [hf]; simp⟩
theorem any_true {l : List ExprM} {i : Nat} {f : ExprM → Bool} (h : i < l.length) (hf : f (l.getD i x0) = true) : l.any f = true :=
  List.any_eq_true.2 ⟨_, memx h, hf⟩
theorem any_next {l : List ExprM} {i : Nat} (f : ExprM → Bool) (h : i < l.length) : (l.take (i + 1)).any f = ((l.take i).any f || f (l.getD i x0)) := by
  rw [take_next h]; simp
theorem len_le_size (x : ExprM) : x.sub.length < sizeE x := by
  rw [sizeE_mk]
  have : ∀ l : List ExprM, l.length ≤ sizeL l := fun l => by
    induction l with
    | nil => simp
    | cons y l ih => simp only [sizeL, List.length_cons]; have := size_pos y; omega
  have := this x.sub; omega

def SetB (s : SetM) : Prop := (s.ints.length ≤ 100000 ∧ s.strs.length ≤ 100000) ∧ Bnd s
set_option maxHeartbeats 2000000 in
theorem kexprAll (x : ExprM) : sizeE x ≤ 1000 → setsOk SetB x → PureAt Tryz.prog 82 [.rp none (exprC x) 0] (· = .val (.bool (allX x))) := by
  refine ExprM.ind (p := fun x => sizeE x ≤ 1000 → setsOk SetB x → PureAt Tryz.prog 82 [.rp none (exprC x) 0] (· = .val (.bool (allX x)))) (fun k a s l ih => ?_) x
  intro hz hs
  have hsub : (ExprM.mk k a s l).sub = l := rfl
  generalize ExprM.mk k a s l = x at *
  subst hsub
  obtain ⟨hs1, hs2⟩ := (setsOk_mk _ x).1 hs
  have p1 := kexprOne x hs1.1 hs1.2
  have hl := len_le_size x
  have hz' := sizeE_mk x
  refine pure_of r82 (by kernel_rfl) ?_
  unfold m82
  simp only [go_sem, Nat.reduceEqDiff, Nat.reduceAdd, Nat.reduceLeDiff, List.length_map]
  refine loop_N x.sub.length (fun i => (x.sub.take i).all allX = true) (fun i => ⟨[(0, .rp none (exprC x) 0), (8, .val (.int .i64 x.sub.length)), (9, .val (.int .i64 i))], [], []⟩)
    (by simp) (by simp only [go_sem, Nat.reduceEqDiff, Nat.reduceAdd, Nat.reduceLeDiff, List.length_map]; rfl) ?_
  rintro i hil q
  simp only [go_sem, Nat.reduceEqDiff, Nat.reduceAdd, Nat.reduceLeDiff, List.length_map]
  refine condE_split (fun h => ?_) (fun h => ?_)
  · have hi' : i < x.sub.length := by simpa using h
    have hm := memx hi'
    have e1 := size_mem hm
    simp only [nn0, Int.toNat_natCast, get_exprC hi', go_sem, Nat.reduceEqDiff, Nat.reduceAdd, Nat.reduceLeDiff, List.length_map]
    refine callP_eq rfl rfl (ih _ hm (by omega) (hs2 _ hm)) ?_
    cases hc : allX (x.sub.getD i x0)
    · simp only [go_sem, Nat.reduceEqDiff, Nat.reduceAdd, Nat.reduceLeDiff, List.length_map]
      rw [allX_mk, all_false hi' hc]; rfl
    · simp only [up64 (show i < 1000000 by omega), go_sem, Nat.reduceEqDiff, Nat.reduceAdd, Nat.reduceLeDiff, List.length_map]
      refine invN_next hi' (by show (x.sub.take (i + 1)).all _ = _; rw [all_next _ hi', q, hc]; rfl) ?_
      simp only [go_sem, Nat.reduceEqDiff, Nat.reduceAdd, Nat.reduceLeDiff, List.length_map]
  · have hil' : i = x.sub.length := by simp at h; omega
    subst hil'
    rw [List.take_length] at q
    simp only [go_sem, Nat.reduceEqDiff, Nat.reduceAdd, Nat.reduceLeDiff, List.length_map]
    refine callP_eq rfl rfl p1 ?_
    simp only [go_sem, Nat.reduceEqDiff, Nat.reduceAdd, Nat.reduceLeDiff, List.length_map]
    rw [allX_mk, q]; rfl

theorem kexprRight (x : ExprM) (hs : setsOk SetB x) : PureAt Tryz.prog 43 [.agg (exprC x)] (· = .val (.bool (rightX x))) := by
  have p1 := kSize x
  have p2 := fun h => kexprAll x h hs
  refine pure_of r43 (by kernel_rfl) ?_
  unfold m43 rightX
  simp only [go_sem, Nat.reduceEqDiff, Nat.reduceAdd, Nat.reduceLeDiff, List.length_map]
  refine callP_eq (by first | rfl | (simp only [List.map_cons, List.map_nil, exprC_mk]; rfl)) (by first | rfl | (simp only [List.map_cons, List.map_nil, exprC_mk]; rfl)) p1 ?_
  cases hf : fitsE x
  · simp only [hf, Bool.false_eq_true, if_false, gt00, go_sem, Nat.reduceEqDiff, Nat.reduceAdd, Nat.reduceLeDiff, List.length_map]
  · have h1 : sizeE x ≤ 1000 := by simp [fitsE] at hf; omega
    have h2 : decide ((sizeE x : Int) > 0) = true := by have := size_pos x; simp; omega
    simp only [hf, h2, if_pos, go_sem, Nat.reduceEqDiff, Nat.reduceAdd, Nat.reduceLeDiff, List.length_map]
    refine callP_eq rfl rfl (p2 h1) ?_
    simp only [go_sem, Nat.reduceEqDiff, Nat.reduceAdd, Nat.reduceLeDiff, List.length_map]

/-! ### what it says of an event -/
mutual
def evalE (e : EvM) : ExprM → Bool
  | .mk k a s l => if k = 1 then hasM s (e.at a.toNat) else if k = 2 then evalA e l else if k = 3 then evalO e l else !evalO e l
def evalA (e : EvM) : List ExprM → Bool
  | [] => true
  | x :: l => evalE e x && evalA e l
def evalO (e : EvM) : List ExprM → Bool
  | [] => false
  | x :: l => evalE e x || evalO e l
end
theorem evalA_all (e : EvM) : ∀ l : List ExprM, evalA e l = l.all (evalE e)
  | [] => by simp [evalA]
  | x :: l => by simp [evalA, evalA_all e l]
theorem evalO_any (e : EvM) : ∀ l : List ExprM, evalO e l = l.any (evalE e)
  | [] => by simp [evalO]
  | x :: l => by simp [evalO, evalO_any e l]
theorem evalE_mk (e : EvM) (x : ExprM) : evalE e x = if x.kind = 1 then hasM x.set (e.at x.attr.toNat) else if x.kind = 2 then x.sub.all (evalE e) else if x.kind = 3 then x.sub.any (evalE e) else !x.sub.any (evalE e) := by
  cases x with | mk k a s l => rw [evalE, evalA_all, evalO_any]; rfl
theorem oneX_kind {x : ExprM} (h : oneX x = true) : (x.kind = 1 ∧ (0 ≤ x.attr ∧ x.attr < 4) ∧ x.sub.length = 0 ∧ rightM x.set = true ∧ smallM x.set = true) ∨ (x.kind = 2 ∧ x.attr = 0 ∧ sameM x.set noM = true) ∨ (x.kind = 3 ∧ x.attr = 0 ∧ sameM x.set noM = true) ∨ (x.kind = 4 ∧ (x.attr = 0 ∧ sameM x.set noM = true) ∧ x.sub.length = 1) := by
  unfold oneX oneF at h
  split at h
  · simp at h; exact .inl ⟨‹_›, ⟨h.1.1.1.1, h.1.1.1.2⟩, by simpa using h.1.1.2, h.1.2, h.2⟩
  split at h
  · simp at h; exact .inr (.inl ⟨‹_›, h.1, h.2⟩)
  split at h
  · simp at h; exact .inr (.inr (.inl ⟨‹_›, h.1, h.2⟩))
  split at h
  · simp at h; exact .inr (.inr (.inr ⟨‹_›, ⟨h.1.1, h.1.2⟩, h.2⟩))
  · simp at h
theorem allX_one {x : ExprM} (h : allX x = true) : oneX x = true := by rw [allX_mk] at h; simp at h; exact h.2
theorem allX_sub {x : ExprM} (h : allX x = true) : ∀ y ∈ x.sub, allX y = true := by rw [allX_mk] at h; simp at h; exact h.1
theorem four_of {a : Int} (h : 0 ≤ a ∧ a < 4) : a = 0 ∨ a = 1 ∨ a = 2 ∨ a = 3 := by omega

set_option maxHeartbeats 4000000 in
theorem kevalX (e : EvM) (x : ExprM) : sizeE x ≤ 1000 → setsOk SetB x → allX x = true → PureAt Tryz.prog 60 [.rp none (exprC x) 0, .rp none (evC e) 0] (· = .val (.bool (evalE e x))) := by
  refine ExprM.ind (p := fun x => sizeE x ≤ 1000 → setsOk SetB x → allX x = true → PureAt Tryz.prog 60 [.rp none (exprC x) 0, .rp none (evC e) 0] (· = .val (.bool (evalE e x)))) (fun k a s l ih => ?_) x
  intro hz hs ha
  have hsub : (ExprM.mk k a s l).sub = l := rfl
  generalize ExprM.mk k a s l = x at *
  subst hsub
  obtain ⟨hs1, hs2⟩ := (setsOk_mk _ x).1 hs
  have ha1 := oneX_kind (allX_one ha)
  have ha2 := allX_sub ha
  have p1 := fun v => kHas x.set (by have := hs1.1; omega) (by have := hs1.1; omega) v
  have hl := len_le_size x
  have hz' := sizeE_mk x
  refine pure_of r60 (by kernel_rfl) ?_
  unfold m60
  simp only [go_sem, Nat.reduceEqDiff, Nat.reduceAdd, Nat.reduceLeDiff, List.length_map]
  have ev := evalE_mk e x
  rcases ha1 with ⟨hk, hat, -⟩ | hk'
  · simp only [hk, one_eq, decide_true, go_sem, Nat.reduceEqDiff, Nat.reduceAdd, Nat.reduceLeDiff, List.length_map]
    rw [ev, if_pos hk]
    rcases four_of hat with h | h | h | h
    · rw [h]
      simp only [evC, go_sem, Nat.reduceEqDiff, Nat.reduceAdd, Nat.reduceLeDiff, List.length_map, z4, at4, BoxM.at, EvM.at, fillB, Int.reduceLT, Int.reduceLE, Int.reduceToNat, Int.toNat_zero, Int.le_refl, Int.reduceAdd, decide_true, decide_false, wr1, wr2, wr3, wr4, c0, c1, c2, c3, c4, Nat.reduceMul, Nat.reduceLT, Nat.lt_irrefl, true_and, and_self, ↓reduceIte]
      refine callQ_by _ (by first | rfl | (simp only [List.map_cons, List.map_nil, exprC_mk]; rfl)) (by first | rfl | (simp only [List.map_cons, List.map_nil, exprC_mk]; rfl)) (p1 e.v0) ?_
      simp only [go_sem, Nat.reduceEqDiff, Nat.reduceAdd, Nat.reduceLeDiff, List.length_map]
    · rw [h]
      simp only [evC, go_sem, Nat.reduceEqDiff, Nat.reduceAdd, Nat.reduceLeDiff, List.length_map, z4, at4, BoxM.at, EvM.at, fillB, Int.reduceLT, Int.reduceLE, Int.reduceToNat, Int.toNat_zero, Int.le_refl, Int.reduceAdd, decide_true, decide_false, wr1, wr2, wr3, wr4, c0, c1, c2, c3, c4, Nat.reduceMul, Nat.reduceLT, Nat.lt_irrefl, true_and, and_self, ↓reduceIte]
      refine callQ_by _ (by first | rfl | (simp only [List.map_cons, List.map_nil, exprC_mk]; rfl)) (by first | rfl | (simp only [List.map_cons, List.map_nil, exprC_mk]; rfl)) (p1 e.v1) ?_
      simp only [go_sem, Nat.reduceEqDiff, Nat.reduceAdd, Nat.reduceLeDiff, List.length_map]
    · rw [h]
      simp only [evC, go_sem, Nat.reduceEqDiff, Nat.reduceAdd, Nat.reduceLeDiff, List.length_map, z4, at4, BoxM.at, EvM.at, fillB, Int.reduceLT, Int.reduceLE, Int.reduceToNat, Int.toNat_zero, Int.le_refl, Int.reduceAdd, decide_true, decide_false, wr1, wr2, wr3, wr4, c0, c1, c2, c3, c4, Nat.reduceMul, Nat.reduceLT, Nat.lt_irrefl, true_and, and_self, ↓reduceIte]
      refine callQ_by _ (by first | rfl | (simp only [List.map_cons, List.map_nil, exprC_mk]; rfl)) (by first | rfl | (simp only [List.map_cons, List.map_nil, exprC_mk]; rfl)) (p1 e.v2) ?_
      simp only [go_sem, Nat.reduceEqDiff, Nat.reduceAdd, Nat.reduceLeDiff, List.length_map]
    · rw [h]
      simp only [evC, go_sem, Nat.reduceEqDiff, Nat.reduceAdd, Nat.reduceLeDiff, List.length_map, z4, at4, BoxM.at, EvM.at, fillB, Int.reduceLT, Int.reduceLE, Int.reduceToNat, Int.toNat_zero, Int.le_refl, Int.reduceAdd, decide_true, decide_false, wr1, wr2, wr3, wr4, c0, c1, c2, c3, c4, Nat.reduceMul, Nat.reduceLT, Nat.lt_irrefl, true_and, and_self, ↓reduceIte]
      refine callQ_by _ (by first | rfl | (simp only [List.map_cons, List.map_nil, exprC_mk]; rfl)) (by first | rfl | (simp only [List.map_cons, List.map_nil, exprC_mk]; rfl)) (p1 e.v3) ?_
      simp only [go_sem, Nat.reduceEqDiff, Nat.reduceAdd, Nat.reduceLeDiff, List.length_map]
  have k1 : x.kind ≠ 1 := by omega
  have hk1 : decide (x.kind = 1) = false := by simpa using k1
  rw [if_neg k1] at ev
  simp only [one_eq, hk1, go_sem, Nat.reduceEqDiff, Nat.reduceAdd, Nat.reduceLeDiff, List.length_map]
  by_cases k2 : x.kind = 2
  · rw [if_pos k2] at ev
    refine loop_N x.sub.length (fun i => (x.sub.take i).all (evalE e) = true) (fun i => ⟨[(0, .rp none (exprC x) 0), (1, .rp none (evC e) 0), (29, .val (.int .i64 x.sub.length)), (30, .val (.int .i64 i))], [], []⟩)
      (by simp) (by simp only [go_sem, Nat.reduceEqDiff, Nat.reduceAdd, Nat.reduceLeDiff, List.length_map]; rfl) ?_
    rintro i hil q
    simp only [go_sem, Nat.reduceEqDiff, Nat.reduceAdd, Nat.reduceLeDiff, List.length_map]
    refine condE_split (fun h => ?_) (fun h => ?_)
    · have hi' : i < x.sub.length := by simpa using h
      have hm := memx hi'
      have e1 := size_mem hm
      simp only [nn0, Int.toNat_natCast, get_exprC hi', go_sem, Nat.reduceEqDiff, Nat.reduceAdd, Nat.reduceLeDiff, List.length_map]
      refine callP_eq rfl rfl (ih _ hm (by omega) (hs2 _ hm) (ha2 _ hm)) ?_
      cases hc : evalE e (x.sub.getD i x0)
      · simp only [k2, one_eq, decide_true, nb1, nb2, nb3, nb4, go_sem, Nat.reduceEqDiff, Nat.reduceAdd, Nat.reduceLeDiff, List.length_map]
        rw [ev, all_false hi' hc]; rfl
      · simp only [k2, one_eq, decide_true, nb1, nb2, nb3, nb4, up64 (show i < 1000000 by omega), go_sem, Nat.reduceEqDiff, Nat.reduceAdd, Nat.reduceLeDiff, List.length_map]
        refine invN_next hi' (by show (x.sub.take (i + 1)).all _ = _; rw [all_next _ hi', q, hc]; rfl) ?_
        simp only [go_sem, Nat.reduceEqDiff, Nat.reduceAdd, Nat.reduceLeDiff, List.length_map]
    · have hil' : i = x.sub.length := by simp at h; omega
      subst hil'
      rw [List.take_length] at q
      simp only [k2, one_eq, decide_true, nb1, nb2, nb3, nb4, go_sem, Nat.reduceEqDiff, Nat.reduceAdd, Nat.reduceLeDiff, List.length_map]
      rw [ev, q]; rfl
  · rw [if_neg k2] at ev
    have hk2 : decide (x.kind = 2) = false := by simpa using k2
    refine loop_N x.sub.length (fun i => (x.sub.take i).any (evalE e) = false) (fun i => ⟨[(0, .rp none (exprC x) 0), (1, .rp none (evC e) 0), (29, .val (.int .i64 x.sub.length)), (30, .val (.int .i64 i))], [], []⟩)
      (by simp) (by simp only [go_sem, Nat.reduceEqDiff, Nat.reduceAdd, Nat.reduceLeDiff, List.length_map]; rfl) ?_
    rintro i hil q
    simp only [go_sem, Nat.reduceEqDiff, Nat.reduceAdd, Nat.reduceLeDiff, List.length_map]
    refine condE_split (fun h => ?_) (fun h => ?_)
    · have hi' : i < x.sub.length := by simpa using h
      have hm := memx hi'
      have e1 := size_mem hm
      simp only [nn0, Int.toNat_natCast, get_exprC hi', go_sem, Nat.reduceEqDiff, Nat.reduceAdd, Nat.reduceLeDiff, List.length_map]
      refine callP_eq rfl rfl (ih _ hm (by omega) (hs2 _ hm) (ha2 _ hm)) ?_
      cases hc : evalE e (x.sub.getD i x0)
      · simp only [hk2, one_eq, nb1, nb2, nb3, nb4, up64 (show i < 1000000 by omega), go_sem, Nat.reduceEqDiff, Nat.reduceAdd, Nat.reduceLeDiff, List.length_map]
        refine invN_next hi' (by show (x.sub.take (i + 1)).any _ = _; rw [any_next _ hi', q, hc]; rfl) ?_
        simp only [go_sem, Nat.reduceEqDiff, Nat.reduceAdd, Nat.reduceLeDiff, List.length_map]
      · simp only [hk2, one_eq, nb1, nb2, nb3, nb4, go_sem, Nat.reduceEqDiff, Nat.reduceAdd, Nat.reduceLeDiff, List.length_map]
        rw [ev, any_true hi' hc]
        by_cases k3 : x.kind = 3 <;> simp [k3]
    · have hil' : i = x.sub.length := by simp at h; omega
      subst hil'
      rw [List.take_length] at q
      simp only [one_eq, go_sem, Nat.reduceEqDiff, Nat.reduceAdd, Nat.reduceLeDiff, List.length_map]
      rw [ev, q]
      by_cases k3 : x.kind = 3 <;> simp [k3]

theorem kEvalX (e : EvM) (x : ExprM) (hs : setsOk SetB x) : PureAt Tryz.prog 26 [.agg (exprC x), .agg (evC e)] (· = .val (.bool (rightX x && rightE e && evalE e x))) := by
  have p1 := kexprRight x hs
  have p2 := kvalEvent e
  have p3 := fun h => kevalX e x h hs
  refine pure_of r26 (by kernel_rfl) ?_
  unfold m26
  simp only [evC, go_sem, Nat.reduceEqDiff, Nat.reduceAdd, Nat.reduceLeDiff, List.length_map]
  refine callP_eq (by first | rfl | (simp only [List.map_cons, List.map_nil, exprC_mk]; rfl)) (by first | rfl | (simp only [List.map_cons, List.map_nil, exprC_mk]; rfl)) p1 ?_
  cases hr : rightX x
  · simp only [go_sem, Nat.reduceEqDiff, Nat.reduceAdd, Nat.reduceLeDiff, List.length_map]
  simp only [go_sem, Nat.reduceEqDiff, Nat.reduceAdd, Nat.reduceLeDiff, List.length_map]
  refine callP_eq rfl rfl p2 ?_
  cases he : rightE e
  · simp only [go_sem, Nat.reduceEqDiff, Nat.reduceAdd, Nat.reduceLeDiff, List.length_map]
  simp only [go_sem, Nat.reduceEqDiff, Nat.reduceAdd, Nat.reduceLeDiff, List.length_map]
  simp only [rightX, fitsE, Bool.and_eq_true, decide_eq_true_eq] at hr
  refine callP_eq rfl rfl (p3 (by omega) hr.2) ?_
  simp only [go_sem, Nat.reduceEqDiff, Nat.reduceAdd, Nat.reduceLeDiff, List.length_map]

/-! ### making one -/
theorem kCloneX (l : List ExprM) (hl : l.length ≤ 1000) : PureAt Tryz.prog 56 [.sl none (l.map exprC)] (· = .sl none (l.map exprC)) := by
  refine pure_of r56 (by kernel_rfl) ?_
  unfold m56
  have all7 : ((l.map exprC).all fun e => decide (e.length = 7)) = true := by simp [go_sem]
  have hl' : decide (l.length ≤ 1000000) = true := by simp; omega
  simp only [List.length_map, go_sem, Nat.reduceEqDiff, Nat.reduceAdd, Nat.reduceLeDiff, List.length_map]
  intro b hb
  refine condE_split (fun h => ?_) (fun h => ?_)
  · have : l = [] := by simpa using hb h
    subst this
    simp only [go_sem, Nat.reduceEqDiff, Nat.reduceAdd, Nat.reduceLeDiff, List.length_map]
  · simp only [all7, hl', List.length_map, go_sem, Nat.reduceEqDiff, Nat.reduceAdd, Nat.reduceLeDiff, List.length_map]
    refine ⟨by simp [go_sem], by omega, by omega⟩
end Go.Proofs


namespace Go.Proofs
open Go.Vm
set_option linter.unusedSimpArgs false

section
variable (z0 z1 z2 z3 z4 z5 z6 z7 z8 z9 z10 z11 z12 z13 : D) (x y : ExprM)
@[go_sem] theorem put2a : putCells [z0, z1, z2, z3, z4, z5, z6, z7, z8, z9, z10, z11, z12, z13] 0 (exprC x) = exprC x ++ [z7, z8, z9, z10, z11, z12, z13] := by rw [exprC_mk]; rfl
@[go_sem] theorem put2b : putCells (exprC x ++ [z7, z8, z9, z10, z11, z12, z13]) 7 (exprC y) = exprC x ++ exprC y := by rw [exprC_mk x, exprC_mk y]; rfl
@[go_sem] theorem len2 : (exprC x ++ [z7, z8, z9, z10, z11, z12, z13]).length = 14 := by rw [exprC_mk]; rfl
@[go_sem] theorem len2b : (exprC x ++ exprC y).length = 14 := by rw [exprC_mk x, exprC_mk y]; rfl
@[go_sem] theorem chunk2 : chunk 7 2 (exprC x ++ exprC y) = [exprC x, exprC y] := by rw [exprC_mk x, exprC_mk y]; rfl
@[go_sem] theorem one2 : (exprC x ++ exprC y).all D.one = true := by rw [exprC_mk x, exprC_mk y]; rfl
@[go_sem] theorem frz2 : frzL (exprC x ++ exprC y) = some (exprC x ++ exprC y) := by rw [exprC_mk x, exprC_mk y]; rfl
@[go_sem] theorem tags2 : tagsL (exprC x ++ exprC y) = [] := by rw [exprC_mk x, exprC_mk y]; rfl
end
def ofAnd (l : List ExprM) : ExprM := .mk 2 0 noM l
def ofOr (l : List ExprM) : ExprM := .mk 3 0 noM l
def notX (x : ExprM) : ExprM := .mk 4 0 noM [x]
def atomX (a : Int) (s : SetM) : ExprM := .mk 1 a s []
theorem pureAt_nil {P : Program} {k : FuncId} {R : D → Prop} (h : PureAt P k [.sl none []] R) : PureAt P k [.val (.slice none 0 0)] R :=
  ⟨h.1, fun F w vs h1 h2 h3 => h.2 F w vs h1 h2 fun i d v hd hv => by
    cases i with
    | zero =>
      obtain rfl : D.sl none [] = d := by simpa using hd
      have := h3 0 _ v rfl hv
      cases this
      exact .nil
    | succ i => simp at hd⟩
theorem kexprAnd (l : List ExprM) (hl : l.length ≤ 1000) : PureAt Tryz.prog 21 [.sl none (l.map exprC)] (· = .agg (exprC (ofAnd l))) := by
  have p := kCloneX l hl
  refine pure_of r21 (by kernel_rfl) ?_
  unfold m21
  simp only [go_sem, Nat.reduceEqDiff, Nat.reduceAdd, Nat.reduceLeDiff, List.length_map]
  refine callP_eq rfl rfl p ?_
  simp only [ofAnd, ofOr, exprC_at, go_sem, Nat.reduceEqDiff, Nat.reduceAdd, Nat.reduceLeDiff, List.length_map]
  rfl
theorem kexprAnd_0 : PureAt Tryz.prog 21 [.val (.slice none 0 0)] (· = .agg (exprC (ofAnd []))) := pureAt_nil (kexprAnd [] (by simp))
theorem kexprOr (l : List ExprM) (hl : l.length ≤ 1000) : PureAt Tryz.prog 20 [.sl none (l.map exprC)] (· = .agg (exprC (ofOr l))) := by
  have p := kCloneX l hl
  refine pure_of r20 (by kernel_rfl) ?_
  unfold m20
  simp only [go_sem, Nat.reduceEqDiff, Nat.reduceAdd, Nat.reduceLeDiff, List.length_map]
  refine callP_eq rfl rfl p ?_
  simp only [ofAnd, ofOr, exprC_at, go_sem, Nat.reduceEqDiff, Nat.reduceAdd, Nat.reduceLeDiff, List.length_map]
  rfl
theorem kexprOr_0 : PureAt Tryz.prog 20 [.val (.slice none 0 0)] (· = .agg (exprC (ofOr []))) := pureAt_nil (kexprOr [] (by simp))
theorem kexprNot (x : ExprM) : PureAt Tryz.prog 25 [.agg (exprC x)] (· = .agg (exprC (notX x))) := by
  refine pure_of r25 (by kernel_rfl) ?_
  unfold m25 notX
  simp only [ofAnd, ofOr, exprC_at, go_sem, Nat.reduceEqDiff, Nat.reduceAdd, Nat.reduceLeDiff, List.length_map]
  rfl
theorem kexprAtom (a : Int) (s : SetM) : PureAt Tryz.prog 23 [.val (.int .i64 a), .agg (setC s)] (· = .agg (exprC (atomX a s))) := by
  refine pure_of r23 (by kernel_rfl) ?_
  unfold m23 atomX
  simp only [exprC_at, setC, go_sem, Nat.reduceEqDiff, Nat.reduceAdd, Nat.reduceLeDiff, List.length_map]
def fiveS : SetM := ⟨false, [(5, 5)], false, []⟩
theorem kfive (a : Int) : PureAt Tryz.prog 39 [.val (.int .i64 a)] (· = .agg (exprC (atomX a fiveS))) := by
  have p := kexprAtom a fiveS
  refine pure_of r39 (by kernel_rfl) ?_
  unfold m39
  simp only [go_sem, Nat.reduceEqDiff, Nat.reduceAdd, Nat.reduceLeDiff, List.length_map]
  refine callP_eq rfl rfl p ?_
  simp only [go_sem, Nat.reduceEqDiff, Nat.reduceAdd, Nat.reduceLeDiff, List.length_map]
end Go.Proofs
