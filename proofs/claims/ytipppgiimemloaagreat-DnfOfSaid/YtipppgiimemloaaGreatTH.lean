/- A part of the proof; what is proved stands in the last text. -/
import Derived.Test.YtipppgiimemloaaGreatT63
import Derived.Test.YtipppgiimemloaaGreatMY
set_option linter.unusedVariables false
set_option maxRecDepth 2000

namespace Go.Proofs
open Go.Vm
set_option linter.unusedSimpArgs false

theorem nb2 : (!(true == true)) = false := rfl
theorem gt00 : decide (((0 : Nat) : Int) > 0) = false := rfl
theorem all_next {l : List ExprM} {i : Nat} (f : ExprM → Bool) (h : i < l.length) : (l.take (i + 1)).all f = ((l.take i).all f && f (l.getD i x0)) := by
  rw [take_next h]; simp
theorem all_false {l : List ExprM} {i : Nat} {f : ExprM → Bool} (h : i < l.length) (hf : f (l.getD i x0) = false) : l.all f = false :=
  List.all_eq_false.2 ⟨_, memx h, by rw [hf]; simp⟩
theorem len_le_size (x : ExprM) : x.sub.length < sizeE x := by
  rw [sizeE_mk]
  have : ∀ l : List ExprM, l.length ≤ sizeL l := fun l => by
    induction l with
    | nil => simp
    | cons y l ih => simp only [sizeL, List.length_cons]; have := size_pos y; omega
  have := this x.sub; omega

def SetB (s : SetM) : Prop := (s.ints.length ≤ 100000 ∧ s.strs.length ≤ 100000) ∧ Bnd s
set_option maxHeartbeats 2000000 in
theorem kexprAll (x : ExprM) : sizeE x ≤ 1000 → setsOk SetB x → PureAt Tryz.prog 82 [.rp none (exprC x) 0] (· = .val (.bool (allX x))) := by
  refine ExprM.ind (p := fun x => sizeE x ≤ 1000 → setsOk SetB x → PureAt Tryz.prog 82 [.rp none (exprC x) 0] (· = .val (.bool (allX x)))) (fun k a s l ih => ?_) x
  intro hz hs
  have hsub : (ExprM.mk k a s l).sub = l := rfl
  generalize ExprM.mk k a s l = x at *
  subst hsub
  obtain ⟨hs1, hs2⟩ := (setsOk_mk _ x).1 hs
  have p1 := kexprOne x hs1.1 hs1.2
  have hl := len_le_size x
  have hz' := sizeE_mk x
  refine pure_of r82 (by kernel_rfl) ?_
  unfold m82
  simp only [go_sem, Nat.reduceEqDiff, Nat.reduceAdd, List.length_map]
  refine loop_N x.sub.length (fun i => (x.sub.take i).all allX = true) (fun i => ⟨[(0, .rp none (exprC x) 0), (8, .val (.int .i64 x.sub.length)), (9, .val (.int .i64 i))], [], []⟩)
    (by simp) (by simp only [go_sem, Nat.reduceEqDiff]; rfl) ?_
  rintro i hil q
  simp only [go_sem, Nat.reduceEqDiff]
  refine condE_split (fun h => ?_) (fun h => ?_)
  · have hi' : i < x.sub.length := by simpa using h
    have hm := memx hi'
    have e1 := size_mem hm
    simp only [nn0, Int.toNat_natCast, get_exprC hi', go_sem, Nat.reduceEqDiff, Nat.reduceAdd]
    refine callP_eq rfl rfl (ih _ hm (by omega) (hs2 _ hm)) ?_
    cases hc : allX (x.sub.getD i x0)
    · simp only [go_sem, Nat.reduceEqDiff]
      rw [allX_mk, all_false hi' hc]; rfl
    · simp only [up64 (show i < 1000000 by omega), go_sem, Nat.reduceEqDiff]
      refine invN_next hi' (by show (x.sub.take (i + 1)).all _ = _; rw [all_next _ hi', q, hc]; rfl) ?_
      simp only [go_sem, Nat.reduceEqDiff]
  · have hil' : i = x.sub.length := by simp at h; omega
    subst hil'
    rw [List.take_length] at q
    simp only [go_sem, Nat.reduceEqDiff]
    refine callP_eq rfl rfl p1 ?_
    simp only [go_sem, Nat.reduceEqDiff]
    rw [allX_mk, q]; rfl

theorem kexprRight (x : ExprM) (hs : setsOk SetB x) : PureAt Tryz.prog 43 [.agg (exprC x)] (· = .val (.bool (rightX x))) := by
  have p1 := kSize x
  have p2 := fun h => kexprAll x h hs
  refine pure_of r43 (by kernel_rfl) ?_
  unfold m43 rightX
  simp only [go_sem, Nat.reduceEqDiff, Nat.reduceAdd, Nat.reduceLeDiff]
  refine callP_eq (by first | rfl | (simp only [exprC_mk]; rfl)) (by first | rfl | (simp only [exprC_mk]; rfl)) p1 ?_
  cases hf : fitsE x
  · simp only [Bool.false_eq_true, if_false, gt00, go_sem, Nat.reduceEqDiff]
  · have h1 : sizeE x ≤ 1000 := by simp [fitsE] at hf; omega
    have h2 : decide ((sizeE x : Int) > 0) = true := by have := size_pos x; simp; omega
    simp only [h2, if_pos, go_sem, Nat.reduceEqDiff]
    refine callP_eq rfl rfl (p2 h1) ?_
    simp only [go_sem, Nat.reduceEqDiff]

theorem oneX_kind {x : ExprM} (h : oneX x = true) : (x.kind = 1 ∧ (0 ≤ x.attr ∧ x.attr < 4) ∧ x.sub.length = 0 ∧ rightM x.set = true ∧ smallM x.set = true) ∨ (x.kind = 2 ∧ x.attr = 0 ∧ sameM x.set noM = true) ∨ (x.kind = 3 ∧ x.attr = 0 ∧ sameM x.set noM = true) ∨ (x.kind = 4 ∧ (x.attr = 0 ∧ sameM x.set noM = true) ∧ x.sub.length = 1) := by
  unfold oneX oneF at h
  split at h
  · simp at h; exact .inl ⟨‹_›, ⟨h.1.1.1.1, h.1.1.1.2⟩, by simpa using h.1.1.2, h.1.2, h.2⟩
  split at h
  · simp at h; exact .inr (.inl ⟨‹_›, h.1, h.2⟩)
  split at h
  · simp at h; exact .inr (.inr (.inl ⟨‹_›, h.1, h.2⟩))
  split at h
  · simp at h; exact .inr (.inr (.inr ⟨‹_›, ⟨h.1.1, h.1.2⟩, h.2⟩))
  · simp at h
theorem allX_one {x : ExprM} (h : allX x = true) : oneX x = true := by rw [allX_mk] at h; simp at h; exact h.2
theorem allX_sub {x : ExprM} (h : allX x = true) : ∀ y ∈ x.sub, allX y = true := by rw [allX_mk] at h; simp at h; exact h.1
theorem four_of {a : Int} (h : 0 ≤ a ∧ a < 4) : a = 0 ∨ a = 1 ∨ a = 2 ∨ a = 3 := by omega

theorem kCloneX (l : List ExprM) (hl : l.length ≤ 1000) : PureAt Tryz.prog 56 [.sl none (l.map exprC)] (· = .sl none (l.map exprC)) := by
  refine pure_of r56 (by kernel_rfl) ?_
  unfold m56
  have all7 : ((l.map exprC).all fun e => decide (e.length = 7)) = true := by simp [go_sem]
  have hl' : decide (l.length ≤ 1000000) = true := by simp; omega
  simp only [go_sem, Nat.reduceEqDiff, Nat.reduceAdd]
  intro b hb
  refine condE_split (fun h => ?_) (fun h => ?_)
  · have : l = [] := by simpa using hb h
    subst this
    simp only [go_sem, Nat.reduceEqDiff]
  · simp only [List.length_map, go_sem, Nat.reduceEqDiff, Nat.reduceLeDiff, List.length_map]
    refine ⟨by simp [go_sem], by omega, by omega⟩
end Go.Proofs



namespace Go.Proofs
open Go.Vm
set_option linter.unusedSimpArgs false

section
variable (z0 z1 z2 z3 z4 z5 z6 z7 z8 z9 z10 z11 z12 z13 : D) (x y : ExprM)
@[go_sem] theorem put2a : putCells [z0, z1, z2, z3, z4, z5, z6, z7, z8, z9, z10, z11, z12, z13] 0 (exprC x) = exprC x ++ [z7, z8, z9, z10, z11, z12, z13] := by rw [exprC_mk]; rfl
@[go_sem] theorem put2b : putCells (exprC x ++ [z7, z8, z9, z10, z11, z12, z13]) 7 (exprC y) = exprC x ++ exprC y := by rw [exprC_mk x, exprC_mk y]; rfl
@[go_sem] theorem len2 : (exprC x ++ [z7, z8, z9, z10, z11, z12, z13]).length = 14 := by rw [exprC_mk]; rfl
@[go_sem] theorem one2 : (exprC x ++ exprC y).all D.one = true := by rw [exprC_mk x, exprC_mk y]; rfl
@[go_sem] theorem frz2 : frzL (exprC x ++ exprC y) = some (exprC x ++ exprC y) := by rw [exprC_mk x, exprC_mk y]; rfl
@[go_sem] theorem tags2 : tagsL (exprC x ++ exprC y) = [] := by rw [exprC_mk x, exprC_mk y]; rfl
end
def ofAnd (l : List ExprM) : ExprM := .mk 2 0 noM l
def ofOr (l : List ExprM) : ExprM := .mk 3 0 noM l
def notX (x : ExprM) : ExprM := .mk 4 0 noM [x]
def atomX (a : Int) (s : SetM) : ExprM := .mk 1 a s []
theorem kexprAnd (l : List ExprM) (hl : l.length ≤ 1000) : PureAt Tryz.prog 21 [.sl none (l.map exprC)] (· = .agg (exprC (ofAnd l))) := by
  have p := kCloneX l hl
  refine pure_of r21 (by kernel_rfl) ?_
  unfold m21
  simp only [go_sem, Nat.reduceEqDiff, Nat.reduceAdd]
  refine callP_eq rfl rfl p ?_
  simp only [ofAnd, exprC_at, go_sem, Nat.reduceEqDiff, Nat.reduceAdd, Nat.reduceLeDiff]
  rfl
theorem kexprOr (l : List ExprM) (hl : l.length ≤ 1000) : PureAt Tryz.prog 20 [.sl none (l.map exprC)] (· = .agg (exprC (ofOr l))) := by
  have p := kCloneX l hl
  refine pure_of r20 (by kernel_rfl) ?_
  unfold m20
  simp only [go_sem, Nat.reduceEqDiff, Nat.reduceAdd]
  refine callP_eq rfl rfl p ?_
  simp only [ofOr, exprC_at, go_sem, Nat.reduceEqDiff, Nat.reduceAdd, Nat.reduceLeDiff]
  rfl
theorem kexprNot (x : ExprM) : PureAt Tryz.prog 25 [.agg (exprC x)] (· = .agg (exprC (notX x))) := by
  refine pure_of r25 (by kernel_rfl) ?_
  unfold m25 notX
  simp only [exprC_at, go_sem, Nat.reduceEqDiff, Nat.reduceAdd, Nat.reduceLeDiff]
  rfl
theorem kexprAtom (a : Int) (s : SetM) : PureAt Tryz.prog 23 [.val (.int .i64 a), .agg (setC s)] (· = .agg (exprC (atomX a s))) := by
  refine pure_of r23 (by kernel_rfl) ?_
  unfold m23 atomX
  simp only [exprC_at, setC, go_sem, Nat.reduceEqDiff, Nat.reduceAdd, Nat.reduceLeDiff]
def fiveS : SetM := ⟨false, [(5, 5)], false, []⟩
theorem kfive (a : Int) : PureAt Tryz.prog 39 [.val (.int .i64 a)] (· = .agg (exprC (atomX a fiveS))) := by
  have p := kexprAtom a fiveS
  refine pure_of r39 (by kernel_rfl) ?_
  unfold m39
  simp only [go_sem, Nat.reduceEqDiff, Nat.reduceAdd, Nat.reduceLeDiff]
  refine callP_eq rfl rfl p ?_
  simp only [go_sem, Nat.reduceEqDiff, Nat.reduceAdd, Nat.reduceLeDiff]
end Go.Proofs

