/- A part of the proof; what is proved stands in the last text. -/
import Derived.Test.YtaoppmjidjdgdaaGreatTG
import Derived.Test.YtaoppmjidjdgdaaGreatMS
set_option linter.unusedVariables false
set_option maxRecDepth 2000
namespace Go.Proofs
open Go.Vm
set_option linter.unusedSimpArgs false
structure SEnt where
 id : Int
 f : List BoxM
def entS (x : SEnt) : List D := [.val (.int .i64 x.id), .sl none (x.f.map boxC), .val (.int .u64 0)]
def intS (n : Int) : List D := [.val (.int .i64 n)]
def ent0 : SEnt := ⟨0, []⟩
theorem eget {l : List SEnt} {i : Nat} (h : i < l.length) : l.getD i ent0 = l[i] := by
 rw [List.getD_eq_getElem?_getD, List.getElem?_eq_getElem h]; rfl
theorem get_entS {l : List SEnt} {i : Nat} (h : i < l.length) : (l.map entS)[i]? = some (entS (l.getD i ent0)) := by
 rw [List.getElem?_map, List.getElem?_eq_getElem h, eget h]; rfl
theorem egetm {l : List SEnt} {i : Nat} (h : i < l.length) : l.getD i ent0 ∈ l := by rw [eget h]; exact List.getElem_mem h
@[go_sem] theorem len_entS (x : SEnt) : (entS x).length = 3 := rfl
@[go_sem] theorem frz_entS (x : SEnt) : frzL (entS x) = some (entS x) := rfl
@[go_sem] theorem tags_entS (x : SEnt) : tagsL (entS x) = [] := rfl
@[go_sem] theorem one_entS (x : SEnt) : (entS x).all D.one = true := rfl
@[go_sem] theorem take_entS (x : SEnt) : (entS x).take 3 = entS x := rfl
@[go_sem] theorem chunk_entS (x : SEnt) : chunk 3 1 (entS x) = [entS x] := rfl
@[go_sem] theorem keep_entS (p : Nat → Bool) (q : Tag → Bool) (x : SEnt) : (entS x).map (D.keep p q) = entS x := rfl
@[go_sem] theorem av_entS (p : Nat → Bool) (q : Tag → Bool) (x : SEnt) : D.avoids.avoidsL p q (entS x) = true := rfl
def idxS {α : Type} (p : α → Bool) (xs : List α) : Int := if xs.any p = true then ((xs.findIdx p : Nat) : Int) else -1
theorem kIndexFuncE (f : FuncId) (caps : List D) (hz : frzL caps = some caps) (ht : tagsL caps = []) (xs : List SEnt) (hx : xs.length ≤ 100000) (p : SEnt → Bool) (hf : ∀ r, r ∈ xs → PureAt Tryz.prog f (.agg (entS r) :: caps) (· = .val (.bool (p r)))) :
    PureAt Tryz.prog 25 [.sl none (xs.map entS), .fn f [] caps] (· = .val (.int .i64 (idxS p xs))) := by
 refine pure_of r25 (by kernel_rfl) ?_
 unfold m25
 simp only [go_sem, Nat.reduceEqDiff, Nat.reduceAdd, Nat.reduceLeDiff, List.length_map, Int.reduceLT, Int.reduceLE, Int.reduceToNat, Int.toNat_zero, Int.le_refl, Int.reduceAdd, decide_true, decide_false, Nat.reduceMul, Nat.reduceLT, Nat.lt_irrefl, true_and, and_self, ↓reduceIte]
 refine loop_N xs.length (fun i => ∀ j, j < i → p (xs.getD j ent0) = false) (fun i => ⟨[(0, .sl none (xs.map entS)), (1, .fn f [] caps), (7, .val (.int .i64 xs.length)), (8, .val (.int .i64 i))], [], []⟩) (fun j hj => by omega) (by simp only [go_sem, Nat.reduceEqDiff, Nat.reduceAdd, Nat.reduceLeDiff, List.length_map, Int.reduceLT, Int.reduceLE, Int.reduceToNat, Int.toNat_zero, Int.le_refl, Int.reduceAdd, decide_true, decide_false, Nat.reduceMul, Nat.reduceLT, Nat.lt_irrefl, true_and, and_self, ↓reduceIte]; rfl) ?_
 intro i hil hp
 simp only [go_sem, Nat.reduceEqDiff, Nat.reduceAdd, Nat.reduceLeDiff, List.length_map, Int.reduceLT, Int.reduceLE, Int.reduceToNat, Int.toNat_zero, Int.le_refl, Int.reduceAdd, decide_true, decide_false, Nat.reduceMul, Nat.reduceLT, Nat.lt_irrefl, true_and, and_self, ↓reduceIte]
 refine condE_split (fun h => ?_) (fun h => ?_)
 ·have hi' : i < xs.length := by simpa using h
  have hup := up64 (show i < 1000000 by omega)
  simp only [nn0, Int.toNat_natCast, get_entS hi', go_sem, Nat.reduceEqDiff, Nat.reduceAdd, Nat.reduceLeDiff, List.length_map, Int.reduceLT, Int.reduceLE, Int.reduceToNat, Int.toNat_zero, Int.le_refl, Int.reduceAdd, decide_true, decide_false, Nat.reduceMul, Nat.reduceLT, Nat.lt_irrefl, true_and, and_self, ↓reduceIte]
  refine callP_eq (d := .val (.bool (p (xs.getD i ent0)))) (fs := .agg (entS (xs.getD i ent0)) :: caps) (by simp only [hz, go_sem, Nat.reduceEqDiff, Nat.reduceAdd, Nat.reduceLeDiff, List.length_map, Int.reduceLT, Int.reduceLE, Int.reduceToNat, Int.toNat_zero, Int.le_refl, Int.reduceAdd, decide_true, decide_false, Nat.reduceMul, Nat.reduceLT, Nat.lt_irrefl, true_and, and_self, ↓reduceIte]) (by simp only [liveAll, ht, go_sem, Nat.reduceEqDiff, Nat.reduceAdd, Nat.reduceLeDiff, List.length_map, Int.reduceLT, Int.reduceLE, Int.reduceToNat, Int.toNat_zero, Int.le_refl, Int.reduceAdd, decide_true, decide_false, Nat.reduceMul, Nat.reduceLT, Nat.lt_irrefl, true_and, and_self, ↓reduceIte]) (hf _ (egetm hi')) ?_
  simp only [ht, List.append_nil, go_sem, Nat.reduceEqDiff, Nat.reduceAdd, Nat.reduceLeDiff, List.length_map, Int.reduceLT, Int.reduceLE, Int.reduceToNat, Int.toNat_zero, Int.le_refl, Int.reduceAdd, decide_true, decide_false, Nat.reduceMul, Nat.reduceLT, Nat.lt_irrefl, true_and, and_self, ↓reduceIte]
  refine condE_split (fun h2 => ?_) (fun h2 => ?_)
  ·simp only [go_sem, Nat.reduceEqDiff, Nat.reduceAdd, Nat.reduceLeDiff, List.length_map, Int.reduceLT, Int.reduceLE, Int.reduceToNat, Int.toNat_zero, Int.le_refl, Int.reduceAdd, decide_true, decide_false, Nat.reduceMul, Nat.reduceLT, Nat.lt_irrefl, true_and, and_self, ↓reduceIte]
   congr 3
   have ha : xs.any p = true := List.any_eq_true.2 ⟨_, egetm hi', h2⟩
   rw [idxS, if_pos ha]
   have := (List.findIdx_eq hi').2 ⟨by rw [← eget hi']; exact h2, fun j hj => by have := hp j hj; rw [eget (by omega)] at this; simp [this]⟩
   rw [this]
  ·simp only [hup, go_sem, Nat.reduceEqDiff, Nat.reduceAdd, Nat.reduceLeDiff, List.length_map, Int.reduceLT, Int.reduceLE, Int.reduceToNat, Int.toNat_zero, Int.le_refl, Int.reduceAdd, decide_true, decide_false, Nat.reduceMul, Nat.reduceLT, Nat.lt_irrefl, true_and, and_self, ↓reduceIte]
   exact invN_next hi' (nextP hp h2) (by simp only [go_sem, Nat.reduceEqDiff, Nat.reduceAdd, Nat.reduceLeDiff, List.length_map, Int.reduceLT, Int.reduceLE, Int.reduceToNat, Int.toNat_zero, Int.le_refl, Int.reduceAdd, decide_true, decide_false, Nat.reduceMul, Nat.reduceLT, Nat.lt_irrefl, true_and, and_self, ↓reduceIte])
 ·have hil' : i = xs.length := by simp at h; omega
  subst hil'
  simp only [go_sem, Nat.reduceEqDiff, Nat.reduceAdd, Nat.reduceLeDiff, List.length_map, Int.reduceLT, Int.reduceLE, Int.reduceToNat, Int.toNat_zero, Int.le_refl, Int.reduceAdd, decide_true, decide_false, Nat.reduceMul, Nat.reduceLT, Nat.lt_irrefl, true_and, and_self, ↓reduceIte]
  have ha : ¬ xs.any p = true := by
   intro ha
   obtain ⟨x, hx, hpx⟩ := List.any_eq_true.1 ha
   obtain ⟨j, hj, rfl⟩ := List.getElem_of_mem hx
   have := hp j hj
   rw [eget hj, hpx] at this; cases this
  rw [idxS, if_neg ha]
theorem idxS_nonneg {α : Type} (p : α → Bool) (xs : List α) : decide (0 ≤ idxS p xs) = xs.any p := by
 unfold idxS
 split
 ·rename_i h; rw [h]; simp
 ·rename_i h
  have : xs.any p = false := by simpa using h
  rw [this]; rfl
theorem kContainsFuncE (f : FuncId) (caps : List D) (hz : frzL caps = some caps) (ht : tagsL caps = []) (xs : List SEnt) (hx : xs.length ≤ 100000) (p : SEnt → Bool) (hf : ∀ r, r ∈ xs → PureAt Tryz.prog f (.agg (entS r) :: caps) (· = .val (.bool (p r)))) :
    PureAt Tryz.prog 33 [.sl none (xs.map entS), .fn f [] caps] (· = .val (.bool (xs.any p))) := by
 refine pure_of r33 (by kernel_rfl) ?_
 unfold m33
 simp only [go_sem, Nat.reduceEqDiff, Nat.reduceAdd, Nat.reduceLeDiff, List.length_map, Int.reduceLT, Int.reduceLE, Int.reduceToNat, Int.toNat_zero, Int.le_refl, Int.reduceAdd, decide_true, decide_false, Nat.reduceMul, Nat.reduceLT, Nat.lt_irrefl, true_and, and_self, ↓reduceIte]
 refine callL_eq (fs := [.sl none (xs.map entS), .fn f [] caps]) (by simp only [hz, go_sem, Nat.reduceEqDiff, Nat.reduceAdd, Nat.reduceLeDiff, List.length_map, Int.reduceLT, Int.reduceLE, Int.reduceToNat, Int.toNat_zero, Int.le_refl, Int.reduceAdd, decide_true, decide_false, Nat.reduceMul, Nat.reduceLT, Nat.lt_irrefl, true_and, and_self, ↓reduceIte]) (by simp only [liveAll, ht, go_sem, Nat.reduceEqDiff, Nat.reduceAdd, Nat.reduceLeDiff, List.length_map, Int.reduceLT, Int.reduceLE, Int.reduceToNat, Int.toNat_zero, Int.le_refl, Int.reduceAdd, decide_true, decide_false, Nat.reduceMul, Nat.reduceLT, Nat.lt_irrefl, true_and, and_self, ↓reduceIte]) rfl (kIndexFuncE f caps hz ht xs hx p hf) ?_
 simp only [ge_iff_le, idxS_nonneg, go_sem, Nat.reduceEqDiff, Nat.reduceAdd, Nat.reduceLeDiff, List.length_map, Int.reduceLT, Int.reduceLE, Int.reduceToNat, Int.toNat_zero, Int.le_refl, Int.reduceAdd, decide_true, decide_false, Nat.reduceMul, Nat.reduceLT, Nat.lt_irrefl, true_and, and_self, ↓reduceIte]
theorem ksRemoveF (x : SEnt) (n : Int) : PureAt Tryz.prog 26 [.agg (entS x), .rp none [.val (.int .i64 n)] 0] (· = .val (.bool (x.id == n))) := by
 refine pure_of r26 (by kernel_rfl) ?_
 unfold m26
 simp only [entS, go_sem, Nat.reduceEqDiff, Nat.reduceAdd, Nat.reduceLeDiff, List.length_map, Int.reduceLT, Int.reduceLE, Int.reduceToNat, Int.toNat_zero, Int.le_refl, Int.reduceAdd, decide_true, decide_false, Nat.reduceMul, Nat.reduceLT, Nat.lt_irrefl, true_and, and_self, ↓reduceIte]
theorem ksHasF (x : SEnt) (e : EvM) (hl : x.f.length ≤ 10000) (hf : ∀ b ∈ x.f, FewB 1000000 b) : PureAt Tryz.prog 34 [.agg (entS x), .rp none (evC e) 0] (· = .val (.bool (hasF x.f e))) := by
 refine pure_of r34 (by kernel_rfl) ?_
 unfold m34
 simp only [entS, go_sem, Nat.reduceEqDiff, Nat.reduceAdd, Nat.reduceLeDiff, List.length_map, Int.reduceLT, Int.reduceLE, Int.reduceToNat, Int.toNat_zero, Int.le_refl, Int.reduceAdd, decide_true, decide_false, Nat.reduceMul, Nat.reduceLT, Nat.lt_irrefl, true_and, and_self, ↓reduceIte]
 simp only [evC, go_sem, Nat.reduceEqDiff, Nat.reduceAdd, Nat.reduceLeDiff, List.length_map, Int.reduceLT, Int.reduceLE, Int.reduceToNat, Int.toNat_zero, Int.le_refl, Int.reduceAdd, decide_true, decide_false, Nat.reduceMul, Nat.reduceLT, Nat.lt_irrefl, true_and, and_self, ↓reduceIte]
 refine callP_eq rfl rfl (kdnfHas x.f e hl hf) ?_
 simp only [go_sem, Nat.reduceEqDiff, Nat.reduceAdd, Nat.reduceLeDiff, List.length_map, Int.reduceLT, Int.reduceLE, Int.reduceToNat, Int.toNat_zero, Int.le_refl, Int.reduceAdd, decide_true, decide_false, Nat.reduceMul, Nat.reduceLT, Nat.lt_irrefl, true_and, and_self, ↓reduceIte]
end Go.Proofs
