/- A part of the proof; what is proved stands in the last text. -/
import Derived.Test.YtipppgiimemloaaGreatT62
set_option linter.unusedVariables false
set_option maxRecDepth 2000

namespace Go.Proofs
open Go.Vm
set_option linter.unusedSimpArgs false

inductive ExprM where
  | mk (kind attr : Int) (set : SetM) (sub : List ExprM)
def ExprM.kind : ExprM → Int | .mk k _ _ _ => k
def ExprM.attr : ExprM → Int | .mk _ a _ _ => a
def ExprM.set : ExprM → SetM | .mk _ _ s _ => s
def ExprM.sub : ExprM → List ExprM | .mk _ _ _ l => l
theorem ExprM.ind {p : ExprM → Prop} (h : ∀ k a s l, (∀ x ∈ l, p x) → p (.mk k a s l)) (x : ExprM) : p x := by
  refine ExprM.rec (motive_1 := p) (motive_2 := fun l => ∀ x ∈ l, p x) (fun k a s l ih => h k a s l ih) (by simp) (fun x l hx hl y hy => ?_) x
  rcases List.mem_cons.1 hy with rfl | hy
  · exact hx
  · exact hl y hy
mutual
def exprC : ExprM → List D
  | .mk k a s l => [.val (.int .i64 k), .val (.int .i64 a), .val (.bool s.absent), .sl none (s.ints.map encR), .val (.bool s.co), .sl none (s.strs.map encSt), .sl none (exprL l)]
def exprL : List ExprM → List (List D)
  | [] => []
  | x :: l => exprC x :: exprL l
end
theorem exprL_map : ∀ l : List ExprM, exprL l = l.map exprC
  | [] => by simp [exprL]
  | x :: l => by simp [exprL, exprL_map l]
theorem exprC_mk (x : ExprM) : exprC x = [.val (.int .i64 x.kind), .val (.int .i64 x.attr), .val (.bool x.set.absent), .sl none (x.set.ints.map encR), .val (.bool x.set.co), .sl none (x.set.strs.map encSt), .sl none (x.sub.map exprC)] := by
  cases x; simp [exprC, exprL_map, ExprM.kind, ExprM.attr, ExprM.set, ExprM.sub]
def x0 : ExprM := .mk 0 0 noM []
@[go_sem] theorem len_exprC (x : ExprM) : (exprC x).length = 7 := by rw [exprC_mk]; rfl
@[go_sem] theorem take_exprC (x : ExprM) : (exprC x).take 7 = exprC x := by rw [exprC_mk]; rfl
@[go_sem] theorem frz_exprC (x : ExprM) : frzL (exprC x) = some (exprC x) := by rw [exprC_mk]; rfl
@[go_sem] theorem one_exprC (x : ExprM) : (exprC x).all D.one = true := by rw [exprC_mk]; rfl
@[go_sem] theorem tags_exprC (x : ExprM) : tagsL (exprC x) = [] := by rw [exprC_mk]; rfl
@[go_sem] theorem av_exprC (p : Nat → Bool) (q : Tag → Bool) (x : ExprM) : D.avoids.avoidsL p q (exprC x) = true := by rw [exprC_mk]; rfl
@[go_sem] theorem keep_exprC (p : Nat → Bool) (q : Tag → Bool) (x : ExprM) : (exprC x).map (D.keep p q) = exprC x := by rw [exprC_mk]; rfl
@[go_sem] theorem put_exprC (z0 z1 z2 z3 z4 z5 z6 : D) (x : ExprM) : putCells [z0, z1, z2, z3, z4, z5, z6] 0 (exprC x) = exprC x := by rw [exprC_mk]; rfl
@[go_sem] theorem at_exprC0 (x : ExprM) : (exprC x)[0]? = some (.val (.int .i64 x.kind)) := by rw [exprC_mk]; rfl
@[go_sem] theorem at_exprC1 (x : ExprM) : (exprC x)[1]? = some (.val (.int .i64 x.attr)) := by rw [exprC_mk]; rfl
@[go_sem] theorem at_exprC6 (x : ExprM) : (exprC x)[6]? = some (.sl none (x.sub.map exprC)) := by rw [exprC_mk]; rfl
@[go_sem] theorem set_exprC (x : ExprM) : ((exprC x).drop 2).take 4 = setC x.set := by rw [exprC_mk]; rfl
theorem getDx {l : List ExprM} {i : Nat} (h : i < l.length) : l.getD i x0 = l[i] := by
  rw [List.getD_eq_getElem?_getD, List.getElem?_eq_getElem h]; rfl
theorem get_exprC {l : List ExprM} {i : Nat} (h : i < l.length) : (l.map exprC)[i]? = some (exprC (l.getD i x0)) := by
  rw [List.getElem?_map, List.getElem?_eq_getElem h, getDx h]; rfl
theorem memx {l : List ExprM} {i : Nat} (h : i < l.length) : l.getD i x0 ∈ l := by rw [getDx h]; exact List.getElem_mem h

mutual
def sizeE : ExprM → Nat
  | .mk _ _ _ l => sizeL l + 1
def sizeL : List ExprM → Nat
  | [] => 0
  | x :: l => sizeE x + sizeL l
end
mutual
def depE : ExprM → Nat
  | .mk _ _ _ l => depL l + 1
def depL : List ExprM → Nat
  | [] => 0
  | x :: l => max (depE x) (depL l)
end
theorem sizeE_mk (x : ExprM) : sizeE x = sizeL x.sub + 1 := by cases x; simp [sizeE, ExprM.sub]
theorem depE_mk (x : ExprM) : depE x = depL x.sub + 1 := by cases x; simp [depE, ExprM.sub]
theorem sizeL_append : ∀ l m : List ExprM, sizeL (l ++ m) = sizeL l + sizeL m
  | [], m => by simp [sizeL]
  | x :: l, m => by simp [sizeL, sizeL_append l m]; omega
theorem depL_append : ∀ l m : List ExprM, depL (l ++ m) = max (depL l) (depL m)
  | [], m => by simp [depL]
  | x :: l, m => by simp [depL, depL_append l m]
theorem take_next {l : List ExprM} {i : Nat} (h : i < l.length) : l.take (i + 1) = l.take i ++ [l.getD i x0] := by
  rw [getDx h, List.take_succ_eq_append_getElem h]
theorem sizeL_next {l : List ExprM} {i : Nat} (h : i < l.length) : sizeL (l.take (i + 1)) = sizeL (l.take i) + sizeE (l.getD i x0) := by
  rw [take_next h, sizeL_append]; simp [sizeL]
theorem depL_next {l : List ExprM} {i : Nat} (h : i < l.length) : depL (l.take (i + 1)) = max (depL (l.take i)) (depE (l.getD i x0)) := by
  rw [take_next h, depL_append]; simp [depL]
theorem sizeL_take_le (l : List ExprM) (i : Nat) : sizeL (l.take i) ≤ sizeL l := by
  have := sizeL_append (l.take i) (l.drop i)
  rw [List.take_append_drop] at this; omega
theorem depL_take_le (l : List ExprM) (i : Nat) : depL (l.take i) ≤ depL l := by
  have := depL_append (l.take i) (l.drop i)
  rw [List.take_append_drop] at this; omega
theorem size_pos (x : ExprM) : 1 ≤ sizeE x := by rw [sizeE_mk]; omega
theorem dep_pos (x : ExprM) : 1 ≤ depE x := by rw [depE_mk]; omega
theorem size_mem {l : List ExprM} {x : ExprM} (h : x ∈ l) : sizeE x ≤ sizeL l := by
  induction l with
  | nil => simp at h
  | cons y l ih =>
    simp only [sizeL]
    rcases List.mem_cons.1 h with rfl | h
    · omega
    · have := ih h; omega
theorem dep_mem {l : List ExprM} {x : ExprM} (h : x ∈ l) : depE x ≤ depL l := by
  induction l with
  | nil => simp at h
  | cons y l ih =>
    simp only [depL]
    rcases List.mem_cons.1 h with rfl | h
    · omega
    · have := ih h; omega

def mOk (x : ExprM) (left parts : Nat) : Bool := decide (depE x ≤ left) && decide (parts + sizeE x ≤ 40)
def mPost (x : ExprM) (left parts : Nat) (r : D) (hp : List (Nat × List D)) (tg : List (Tag × Bool)) : Prop :=
  ∃ (d q : Nat), r = .tup [.val (.int .i64 d), .val (.bool (mOk x left parts))] ∧ hp = [(1000000, [.val (.int .i64 q)])] ∧ tg = [] ∧ (mOk x left parts = true → d = depE x ∧ q = parts + sizeE x)
theorem max_cast (a b : Nat) : (if (b : Int) > (a : Int) then (b : Int) else (a : Int)) = ((max a b : Nat) : Int) := by
  split <;> omega
theorem int0 {n : Nat} : ((n : Int) == 0) = decide (n = 0) := by
  by_cases h : n = 0
  · subst h; simp
  · simp [h]
set_option maxHeartbeats 2000000 in
theorem kmeasure (x : ExprM) : ∀ left parts : Nat, left ≤ 100 → parts ≤ 40 →
    ObjAt Tryz.prog 120 ⟨[(0, .rp none (exprC x) 0), (1, .val (.int .i64 left)), (2, .ptr 1000000 0)], [(1000000, [.val (.int .i64 parts)])], []⟩ 3 (mPost x left parts) := by
  refine ExprM.ind (p := fun x => ∀ left parts : Nat, left ≤ 100 → parts ≤ 40 → ObjAt Tryz.prog 120 ⟨[(0, .rp none (exprC x) 0), (1, .val (.int .i64 left)), (2, .ptr 1000000 0)], [(1000000, [.val (.int .i64 parts)])], []⟩ 3 (mPost x left parts)) (fun k a s l ih => ?_) x
  intro left parts hl hp
  have hsub : (ExprM.mk k a s l).sub = l := rfl
  generalize ExprM.mk k a s l = x at *
  subst hsub
  have hd := depE_mk x
  have hz := sizeE_mk x
  refine obj_of [1000000] [] r120 (by kernel_rfl) ?_
  unfold m120
  have hw : IntKind.i64.wrap ((parts : Int) + 1) = ((parts + 1 : Nat) : Int) := by rw [wrap64 (by omega) (by omega)]; rfl
  simp only [hw, int0, go_sem, Nat.reduceEqDiff, Nat.reduceAdd, Nat.reduceLeDiff]
  have bad : mOk x left parts = false → ∀ q : Nat, mPost x left parts (.tup [.val (.int .i64 0), .val (.bool false)]) [(1000000, [.val (.int .i64 q)])] [] := fun h q => ⟨0, q, by rw [h]; rfl, rfl, rfl, by rw [h]; simp⟩
  first | refine condE_split (fun c0 => ?_) (fun c0 => ?_) | refine wantE_split (fun c0 => ?_) (fun c0 => ?_) | refine wantQ_split (fun c0 => ?_) (fun c0 => ?_)
  · simp only [c0, finO, go_sem, Nat.reduceEqDiff]
    refine bad ?_ _
    have : left = 0 := by simpa using c0
    simp [mOk]; omega
  have c0' : ¬ left = 0 := by simpa using c0
  simp only [c0, go_sem, Nat.reduceEqDiff]
  refine condE_split (fun c1 => ?_) (fun c1 => ?_)
  · simp only [finO, go_sem, Nat.reduceEqDiff]
    refine bad ?_ _
    have : parts + 1 > 40 := by simp at c1; omega
    simp [mOk]; omega
  have c1' : parts + 1 ≤ 40 := by simp at c1; omega
  clear c0 c1
  simp only [go_sem, Nat.reduceEqDiff, Nat.reduceAdd, List.length_map]
  have hwl : IntKind.i64.wrap ((left : Int) - 1) = ((left - 1 : Nat) : Int) := wrap_pred (by omega) (by omega)
  refine loop_N x.sub.length (fun i => depL (x.sub.take i) ≤ left - 1 ∧ parts + 1 + sizeL (x.sub.take i) ≤ 40 ∧ i ≤ sizeL (x.sub.take i)) (fun i => ⟨[(0, .rp none (exprC x) 0), (1, .val (.int .i64 left)), (2, .ptr 1000000 0), (6, .val (.int .i64 (depL (x.sub.take i) : Nat))), (28, .val (.int .i64 x.sub.length)), (29, .val (.int .i64 i))], [(1000000, [.val (.int .i64 (parts + 1 + sizeL (x.sub.take i) : Nat))])], []⟩)
    ⟨by simp [depL], by simp [sizeL]; omega, by omega⟩ (by simp only [List.take_zero, sizeL, depL, Nat.add_zero, go_sem, Nat.reduceEqDiff]; rfl) ?_
  rintro i hil ⟨q1, q2, q3⟩
  simp only [go_sem, Nat.reduceEqDiff]
  refine condE_split (fun h => ?_) (fun h => ?_)
  · have hi' : i < x.sub.length := by simpa using h
    have hm := memx hi'
    have e1 := sizeL_next hi'
    have e2 := depL_next hi'
    have e3 := size_pos (x.sub.getD i x0)
    have e4 := sizeL_take_le x.sub (i + 1)
    have e5 := depL_take_le x.sub (i + 1)
    simp only [nn0, Int.toNat_natCast, get_exprC hi', hwl, go_sem, Nat.reduceEqDiff, Nat.reduceAdd]
    refine callO_by rfl rfl rfl rfl rfl (ih _ hm (left - 1) (parts + 1 + sizeL (x.sub.take i)) (by omega) (by omega)) ?_
    rintro r hp' tg ⟨d, q, rfl, rfl, rfl, hok⟩
    cases hok' : mOk (x.sub.getD i x0) (left - 1) (parts + 1 + sizeL (x.sub.take i))
    · simp only [finO, go_sem, Nat.reduceEqDiff]
      refine bad ?_ _
      simp only [mOk, Bool.and_eq_false_iff, decide_eq_false_iff_not] at hok' ⊢
      omega
    · obtain ⟨rfl, rfl⟩ := hok hok'
      simp only [mOk, Bool.and_eq_true, decide_eq_true_eq] at hok'
      simp only [max_cast, up64 (show i < 1000000 by omega), go_sem, Nat.reduceEqDiff]
      refine invN_next hi' ⟨by omega, by omega, by omega⟩ ?_
      simp only [e1, e2, Nat.add_assoc, go_sem, Nat.reduceEqDiff]
  · have hil' : i = x.sub.length := by simp at h; omega
    subst hil'
    rw [List.take_length] at *
    have hw2 : IntKind.i64.wrap ((depL x.sub : Int) + 1) = ((depL x.sub + 1 : Nat) : Int) := by rw [wrap64 (by omega) (by omega)]; rfl
    simp only [hw2, finO, go_sem, Nat.reduceEqDiff]
    have hok : mOk x left parts = true := by simp [mOk]; omega
    exact ⟨depL x.sub + 1, parts + 1 + sizeL x.sub, by rw [hok], rfl, rfl, fun _ => ⟨hd.symm, by omega⟩⟩

def fitsE (x : ExprM) : Bool := decide (depE x ≤ 8) && decide (sizeE x ≤ 40)
theorem kSize (x : ExprM) : PureAt Tryz.prog 81 [.agg (exprC x)] (· = .tup [.val (.int .i64 (if fitsE x = true then sizeE x else 0 : Nat)), .val (.int .i64 (if fitsE x = true then depE x else 0 : Nat))]) := by
  have p := kmeasure x 8 0 (by omega) (by omega)
  refine pure_of r81 (by kernel_rfl) ?_
  unfold m81
  simp only [go_sem, Nat.reduceEqDiff, Nat.reduceAdd]
  refine callO_by rfl rfl rfl rfl rfl p ?_
  rintro r hp' tg ⟨d, q, rfl, rfl, rfl, hok⟩
  have e : mOk x 8 0 = fitsE x := by simp [mOk, fitsE]
  cases hf : fitsE x
  · rw [hf] at e
    simp only [e, go_sem, Nat.reduceEqDiff, Nat.reduceAdd, Nat.reduceLeDiff]
    rfl
  · rw [hf] at e
    obtain ⟨rfl, rfl⟩ := hok e
    simp only [e, Nat.zero_add, go_sem, Nat.reduceEqDiff, Nat.reduceLeDiff]

def oneF (k a : Int) (s : SetM) (n : Nat) : Bool :=
  if k = 1 then decide (a ≥ 0) && decide (a < 4) && decide (n = 0) && rightM s && smallM s
  else if k = 2 then decide (a = 0) && sameM s noM else if k = 3 then decide (a = 0) && sameM s noM else if k = 4 then decide (a = 0) && sameM s noM && decide (n = 1) else false
def oneX (x : ExprM) : Bool := oneF x.kind x.attr x.set x.sub.length
mutual
def allX : ExprM → Bool
  | .mk k a s l => allXL l && oneX (.mk k a s l)
def allXL : List ExprM → Bool
  | [] => true
  | x :: l => allX x && allXL l
end
theorem allXL_all : ∀ l : List ExprM, allXL l = l.all allX
  | [] => by simp [allXL]
  | x :: l => by simp [allXL, allXL_all l]
theorem allX_mk (x : ExprM) : allX x = (x.sub.all allX && oneX x) := by cases x; simp [allX, allXL_all, ExprM.sub]
def rightX (x : ExprM) : Bool := fitsE x && allX x
mutual
def setsOk (p : SetM → Prop) : ExprM → Prop
  | .mk _ _ s l => p s ∧ setsOkL p l
def setsOkL (p : SetM → Prop) : List ExprM → Prop
  | [] => True
  | x :: l => setsOk p x ∧ setsOkL p l
end
theorem setsOkL_all (p : SetM → Prop) : ∀ l : List ExprM, setsOkL p l ↔ ∀ x ∈ l, setsOk p x
  | [] => by simp [setsOkL]
  | x :: l => by simp [setsOkL, setsOkL_all p l]
theorem setsOk_mk (p : SetM → Prop) (x : ExprM) : setsOk p x ↔ p x.set ∧ ∀ y ∈ x.sub, setsOk p y := by cases x; simp [setsOk, setsOkL_all, ExprM.sub, ExprM.set]

theorem one_eq {n : Int} (k : Int) : (n == k) = decide (n = k) := by
  by_cases h : n = k <;> simp [h]
theorem len_eq (n : Nat) (k : Nat) : ((n : Int) == (k : Int)) = decide (n = k) := int_eq
theorem exprC_at (k a : Int) (s : SetM) (l : List ExprM) : exprC (.mk k a s l) = [.val (.int .i64 k), .val (.int .i64 a), .val (.bool s.absent), .sl none (s.ints.map encR), .val (.bool s.co), .sl none (s.strs.map encSt), .sl none (l.map exprC)] := by rw [exprC_mk]; rfl
set_option maxHeartbeats 4000000 in
theorem kexprOne (x : ExprM) (hs : x.set.ints.length ≤ 100000 ∧ x.set.strs.length ≤ 100000) (hb : Bnd x.set) : PureAt Tryz.prog 121 [.rp none (exprC x) 0] (· = .val (.bool (oneX x))) := by
  obtain ⟨k, a, s, l⟩ := x
  have p1 := kSame s noM (by have := hs.1; simp only [ExprM.set] at this; omega) (by have := hs.2; simp only [ExprM.set] at this; omega)
  have p2 := ksetRight s hs.1 hs.2 hb
  have p3 := ksetSmall s
  have e0 : ((l.length : Int) == 0) = decide (l.length = 0) := len_eq _ 0
  have e1 : ((l.length : Int) == 1) = decide (l.length = 1) := len_eq _ 1
  change PureAt _ _ _ (· = .val (.bool (oneF k a s l.length)))
  unfold oneF
  clear hs hb
  generalize sameM s noM = sm at *
  generalize rightM s = rm at *
  generalize smallM s = mm at *
  refine pure_of r121 (by kernel_rfl) ?_
  unfold m121
  simp only [exprC_at, go_sem, Nat.reduceEqDiff, Nat.reduceAdd]
  cases ha : decide (a = 0)
  · simp only [one_eq, ha, go_sem, Nat.reduceEqDiff, Nat.reduceAdd]
    by_cases k1 : k = 1
    · subst k1
      rw [if_pos rfl]
      simp only [decide_true, go_sem, Nat.reduceEqDiff, Nat.reduceAdd]
      cases hb0 : decide (a ≥ 0) <;> cases hb1 : decide (a < 4) <;> cases hl : decide (l.length = 0)
      all_goals
        rw [hl] at e0
        simp only [hb1, e0, go_sem, Nat.reduceEqDiff, Nat.reduceAdd, Nat.reduceLeDiff, List.length_map]
      refine callP_eq rfl rfl p2 ?_
      cases rm
      · simp only [go_sem, Nat.reduceEqDiff]
      simp only [go_sem, Nat.reduceEqDiff, Nat.reduceAdd, Nat.reduceLeDiff]
      refine callP_eq rfl rfl p3 ?_
      simp only [go_sem, Nat.reduceEqDiff]
    have k1' : decide (k = 1) = false := by simp [k1]
    rw [if_neg k1]
    simp only [one_eq, k1', go_sem, Nat.reduceEqDiff]
    by_cases k2 : k = 2
    · subst k2
      rw [if_pos rfl]
      simp only [decide_true, go_sem, Nat.reduceEqDiff]
    have k2' : decide (k = 2) = false := by simp [k2]
    rw [if_neg k2]
    simp only [one_eq, k2', go_sem, Nat.reduceEqDiff]
    by_cases k3 : k = 3
    · subst k3
      rw [if_pos rfl]
      simp only [decide_true, go_sem, Nat.reduceEqDiff]
    have k3' : decide (k = 3) = false := by simp [k3]
    rw [if_neg k3]
    simp only [one_eq, k3', go_sem, Nat.reduceEqDiff]
    by_cases k4 : k = 4
    · subst k4
      rw [if_pos rfl]
      simp only [decide_true, go_sem, Nat.reduceEqDiff]
    have k4' : decide (k = 4) = false := by simp [k4]
    rw [if_neg k4]
    simp only [k4', go_sem]
  · simp only [one_eq, ha, go_sem, Nat.reduceEqDiff, Nat.reduceAdd, Nat.reduceLeDiff]
    refine callP_eq rfl rfl p1 ?_
    cases sm
    · simp only [go_sem, Nat.reduceEqDiff, Nat.reduceAdd]
      by_cases k1 : k = 1
      · subst k1
        rw [if_pos rfl]
        simp only [one_eq, decide_true, go_sem, Nat.reduceEqDiff, Nat.reduceAdd]
        cases hb0 : decide (a ≥ 0) <;> cases hb1 : decide (a < 4) <;> cases hl : decide (l.length = 0)
        all_goals
          rw [hl] at e0
          simp only [hb1, e0, go_sem, Nat.reduceEqDiff, Nat.reduceAdd, Nat.reduceLeDiff, List.length_map]
        refine callP_eq rfl rfl p2 ?_
        cases rm
        · simp only [go_sem, Nat.reduceEqDiff]
        simp only [go_sem, Nat.reduceEqDiff, Nat.reduceAdd, Nat.reduceLeDiff]
        refine callP_eq rfl rfl p3 ?_
        simp only [go_sem, Nat.reduceEqDiff]
      have k1' : decide (k = 1) = false := by simp [k1]
      rw [if_neg k1]
      simp only [one_eq, k1', go_sem, Nat.reduceEqDiff]
      by_cases k2 : k = 2
      · subst k2
        rw [if_pos rfl]
        simp only [decide_true, go_sem, Nat.reduceEqDiff]
      have k2' : decide (k = 2) = false := by simp [k2]
      rw [if_neg k2]
      simp only [one_eq, k2', go_sem, Nat.reduceEqDiff]
      by_cases k3 : k = 3
      · subst k3
        rw [if_pos rfl]
        simp only [decide_true, go_sem, Nat.reduceEqDiff]
      have k3' : decide (k = 3) = false := by simp [k3]
      rw [if_neg k3]
      simp only [one_eq, k3', go_sem, Nat.reduceEqDiff]
      by_cases k4 : k = 4
      · subst k4
        rw [if_pos rfl]
        simp only [decide_true, go_sem, Nat.reduceEqDiff]
      have k4' : decide (k = 4) = false := by simp [k4]
      rw [if_neg k4]
      simp only [k4', go_sem]
    · simp only [go_sem, Nat.reduceEqDiff, Nat.reduceAdd]
      by_cases k1 : k = 1
      · subst k1
        rw [if_pos rfl]
        simp only [one_eq, decide_true, go_sem, Nat.reduceEqDiff, Nat.reduceAdd]
        cases hb0 : decide (a ≥ 0) <;> cases hb1 : decide (a < 4) <;> cases hl : decide (l.length = 0)
        all_goals
          rw [hl] at e0
          simp only [hb1, e0, go_sem, Nat.reduceEqDiff, Nat.reduceAdd, Nat.reduceLeDiff, List.length_map]
        refine callP_eq rfl rfl p2 ?_
        cases rm
        · simp only [go_sem, Nat.reduceEqDiff]
        simp only [go_sem, Nat.reduceEqDiff, Nat.reduceAdd, Nat.reduceLeDiff]
        refine callP_eq rfl rfl p3 ?_
        simp only [go_sem, Nat.reduceEqDiff]
      have k1' : decide (k = 1) = false := by simp [k1]
      rw [if_neg k1]
      simp only [one_eq, k1', go_sem, Nat.reduceEqDiff]
      by_cases k2 : k = 2
      · subst k2
        rw [if_pos rfl]
        simp only [decide_true, go_sem, Nat.reduceEqDiff]
      have k2' : decide (k = 2) = false := by simp [k2]
      rw [if_neg k2]
      simp only [one_eq, k2', go_sem, Nat.reduceEqDiff]
      by_cases k3 : k = 3
      · subst k3
        rw [if_pos rfl]
        simp only [decide_true, go_sem, Nat.reduceEqDiff]
      have k3' : decide (k = 3) = false := by simp [k3]
      rw [if_neg k3]
      simp only [one_eq, k3', go_sem, Nat.reduceEqDiff]
      by_cases k4 : k = 4
      · subst k4
        rw [if_pos rfl]
        simp only [decide_true, e1, go_sem, Nat.reduceEqDiff, Nat.reduceAdd, List.length_map]
      have k4' : decide (k = 4) = false := by simp [k4]
      rw [if_neg k4]
      simp only [k4', go_sem]
end Go.Proofs

