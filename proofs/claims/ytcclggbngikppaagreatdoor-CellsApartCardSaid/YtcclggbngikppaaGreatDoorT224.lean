/- A part of the proof; what is proved stands in the last text. -/
import Derived.Test.YtcclggbngikppaaGreatDoorCD
import Derived.Test.YtcclggbngikppaaGreatDoorT200
import Derived.Test.YtcclggbngikppaaGreatDoorMD
import Derived.Test.YtcclggbngikppaaGreatDoorVon
set_option linter.unusedVariables false
set_option maxRecDepth 2000
namespace Go.Proofs
open Go.Vm
set_option linter.unusedSimpArgs false
def filC (fs : List (List BoxM)) : List (List D) := fs.map fun f => [D.sl none (f.map boxC)]
def gridB (fs : List (List BoxM)) (d m : Int) (a b c e : List SetM) : List D := [.sl none (filC fs), .val (.int .u32 d), .val (.int .i32 m), .val (.int .u32 0), .sl none (a.map setC), .sl none (b.map setC), .sl none (c.map setC), .sl none (e.map setC)]
@[go_sem] theorem tags_grid (fs : List (List BoxM)) (d m : Int) (a b c e : List SetM) : tagsL (gridB fs d m a b c e) = [] := rfl
theorem get_filC {l : List (List BoxM)} {i : Nat} (h : i < l.length) : (filC l)[i]? = some [.sl none ((l.getD i []).map boxC)] := by
 unfold filC
 rw [List.getElem?_map, List.getElem?_eq_getElem h]; simp [h]
def upA (bs : List BoxM) (i k : Nat) : List SetM := if i < k then attrM bs i else []
structure GridOK (fs : List (List BoxM)) : Prop where
 n : fs.length ≤ 4
 m : ∀ f ∈ fs, f.length ≤ 20
 ok : ∀ f ∈ fs, ∀ b ∈ f, OKB b
 few : ∀ f ∈ fs, ∀ b ∈ f, FewB 40 b
theorem GridOK.all {fs : List (List BoxM)} (h : GridOK fs) : (∀ b ∈ fs.flatten, OKB b) ∧ (∀ b ∈ fs.flatten, FewB 40 b) ∧ fs.flatten.length ≤ 80 := by
 refine ⟨fun b hb => ?_, fun b hb => ?_, ?_⟩
 ·obtain ⟨f, hf, hb⟩ := List.mem_flatten.1 hb; exact h.ok f hf b hb
 ·obtain ⟨f, hf, hb⟩ := List.mem_flatten.1 hb; exact h.few f hf b hb
 ·have : ∀ l : List (List BoxM), (∀ f ∈ l, f.length ≤ 20) → l.flatten.length ≤ 20 * l.length := fun l => by
    induction l with
    | nil => simp
    | cons a l ih =>
     intro h
     have h1 := ih fun f hf => h f (by simp [hf])
     have h2 := h a (by simp)
     rw [List.flatten_cons, List.length_append, List.length_cons]; omega
  have := this fs h.m
  have := h.n
  omega
theorem kCutAt {fs : List (List BoxM)} (h : GridOK fs) {i : Nat} (hi : i < 4) : PureAt Tryz.prog 12 [.sl none ((setsAt fs.flatten i).map setC)] (· = .sl none ((attrM fs.flatten i).map setC)) := by
 obtain ⟨h1, h2, h3⟩ := h.all
 rw [attr_cut h1 hi]
 refine kCut _ (setsAt_ok h1 hi) (by unfold setsAt; rw [List.length_map]; omega) (fun s hs => ?_)
 obtain ⟨b, hb, rfl⟩ := List.mem_map.1 hs
 have := h2 b hb i hi
 exact ⟨by have := this.1; omega, by have := this.2; omega⟩
set_option maxHeartbeats 16000000 in
theorem kLay (fs : List (List BoxM)) (h : GridOK fs) : ObjAt Tryz.prog 84 ⟨[(0, .ptr 1000000 0)], [(1000000, gridB fs 0 1 [] [] [] [])], []⟩ 1
    (fun r hp tg => r = .tup [] ∧ hp = [(1000000, gridB fs 0 1 (attrM fs.flatten 0) (attrM fs.flatten 1) (attrM fs.flatten 2) (attrM fs.flatten 3))] ∧ tg = []) := by
 refine obj_of [1000000] [] r84 (by kernel_rfl) ?_
 unfold m84
 simp only [go_sem, Nat.reduceEqDiff, Nat.reduceAdd, Nat.reduceLeDiff, List.length_map, z4, at4, BoxM.at, EvM.at, fillB, Int.reduceLT, Int.reduceLE, Int.reduceToNat, Int.toNat_zero, Int.le_refl, Int.reduceAdd, decide_true, decide_false, wr1, wr2, wr3, wr4, c0, c1, c2, c3, c4, Nat.reduceMul, Nat.reduceLT, Nat.lt_irrefl, true_and, and_self, ↓reduceIte]
 refine loop_N 4 (fun _ => True) (fun k => ⟨[(0, .ptr 1000000 0), (7, .val (.int .i64 (z4 k)))], [(1000000, gridB fs 0 1 (upA fs.flatten 0 k) (upA fs.flatten 1 k) (upA fs.flatten 2 k) (upA fs.flatten 3 k))], []⟩) trivial (by simp only [upA, gridB, go_sem, Nat.reduceEqDiff, Nat.reduceAdd, Nat.reduceLeDiff, List.length_map]; rfl) ?_
 rintro k hk -
 have hk5 : k = 0 ∨ k = 1 ∨ k = 2 ∨ k = 3 ∨ k = 4 := by omega
 rcases hk5 with rfl | rfl | rfl | rfl | rfl
 ·simp only [gridB, go_sem, Nat.reduceEqDiff, Nat.reduceAdd, Nat.reduceLeDiff, List.length_map, z4, at4, BoxM.at, EvM.at, fillB, Int.reduceLT, Int.reduceLE, Int.reduceToNat, Int.toNat_zero, Int.le_refl, Int.reduceAdd, decide_true, decide_false, wr1, wr2, wr3, wr4, c0, c1, c2, c3, c4, Nat.reduceMul, Nat.reduceLT, Nat.lt_irrefl, true_and, and_self, ↓reduceIte]
  refine loop_N fs.length (fun _ => True) (fun i => ⟨[(0, .ptr 1000000 0), (2, .val (.int .i64 0)), (3, .sl (some (3, 31, 4)) ((setsAt (fs.take i).flatten 0).map setC)), (7, .val (.int .i64 0)), (13, .sl none (filC fs)), (14, .val (.int .i64 (filC fs).length)), (15, .val (.int .i64 i))], [(1000000, gridB fs 0 1 (upA fs.flatten 0 0) (upA fs.flatten 1 0) (upA fs.flatten 2 0) (upA fs.flatten 3 0))], [((3, 31, 4), true)]⟩) trivial (by simp only [gridB, setsAt, List.take_zero, List.flatten_nil, List.map_nil, go_sem, Nat.reduceEqDiff, Nat.reduceAdd, Nat.reduceLeDiff, List.length_map]; rfl) ?_
  rintro i hi -
  have hn := h.n
  have hlf : (filC fs).length = fs.length := by unfold filC; rw [List.length_map]
  simp only [hlf, go_sem, Nat.reduceEqDiff, Nat.reduceAdd, Nat.reduceLeDiff, List.length_map, z4, at4, BoxM.at, EvM.at, fillB, Int.reduceLT, Int.reduceLE, Int.reduceToNat, Int.toNat_zero, Int.le_refl, Int.reduceAdd, decide_true, decide_false, wr1, wr2, wr3, wr4, c0, c1, c2, c3, c4, Nat.reduceMul, Nat.reduceLT, Nat.lt_irrefl, true_and, and_self, ↓reduceIte]
  refine condE_split (fun hc => ?_) (fun hc => ?_)
  ·have hi' : i < fs.length := by simpa using hc
   have hup := up64 (show i < 1000000 by omega)
   have g1 := get_filC hi'
   have hm := h.m _ (List.getElem_mem hi')
   have e1 : fs.getD i [] = fs[i] := by simp [hi']
   rw [e1] at g1
   have hlt : (setsAt (fs.take i).flatten 0).length ≤ 80 := by
    unfold setsAt
    rw [List.length_map]
    exact Nat.le_trans (by rw [← List.take_append_drop i fs, List.flatten_append, List.length_append, List.take_append_drop]; exact Nat.le_add_right _ _) h.all.2.2
   have hft : (fs.take (i + 1)).flatten = (fs.take i).flatten ++ fs[i] := by rw [List.take_succ_eq_append_getElem hi', List.flatten_append]; simp
   generalize fs[i] = f at *
   simp only [nn0, Int.toNat_natCast, g1, go_sem, Nat.reduceEqDiff, Nat.reduceAdd, Nat.reduceLeDiff, List.length_map, z4, at4, BoxM.at, EvM.at, fillB, Int.reduceLT, Int.reduceLE, Int.reduceToNat, Int.toNat_zero, Int.le_refl, Int.reduceAdd, decide_true, decide_false, wr1, wr2, wr3, wr4, c0, c1, c2, c3, c4, Nat.reduceMul, Nat.reduceLT, Nat.lt_irrefl, true_and, and_self, ↓reduceIte]
   refine loop_N f.length (fun _ => True) (fun k => ⟨[(0, .ptr 1000000 0), (2, .val (.int .i64 0)), (3, .sl (some (3, 31, 4)) ((setsAt (fs.take i).flatten 0 ++ setsAt (f.take k) 0).map setC)), (5, .sl none (f.map boxC)), (7, .val (.int .i64 0)), (13, .sl none (filC fs)), (14, .val (.int .i64 fs.length)), (15, .val (.int .i64 i)), (20, .val (.int .i64 f.length)), (21, .val (.int .i64 k))], [(1000000, gridB fs 0 1 (upA fs.flatten 0 0) (upA fs.flatten 1 0) (upA fs.flatten 2 0) (upA fs.flatten 3 0))], [((3, 31, 4), true)]⟩) trivial (by simp only [gridB, setsAt, List.take_zero, List.flatten_nil, List.map_nil, List.append_nil, go_sem, Nat.reduceEqDiff, Nat.reduceAdd, Nat.reduceLeDiff, List.length_map]; rfl) ?_
   rintro k hk -
   simp only [go_sem, Nat.reduceEqDiff, Nat.reduceAdd, Nat.reduceLeDiff, List.length_map, z4, at4, BoxM.at, EvM.at, fillB, Int.reduceLT, Int.reduceLE, Int.reduceToNat, Int.toNat_zero, Int.le_refl, Int.reduceAdd, decide_true, decide_false, wr1, wr2, wr3, wr4, c0, c1, c2, c3, c4, Nat.reduceMul, Nat.reduceLT, Nat.lt_irrefl, true_and, and_self, ↓reduceIte]
   refine condE_split (fun hd => ?_) (fun hd => ?_)
   ·have hk' : k < f.length := by simpa using hd
    have hupk := up64 (show k < 1000000 by omega)
    have g2 := get_boxC hk'
    have hlk : (setsAt (f.take k) 0).length ≤ 20 := by unfold setsAt; rw [List.length_map, List.length_take]; omega
    have hst : setsAt (f.take (k + 1)) 0 = setsAt (f.take k) 0 ++ [(f.getD k allB).at 0] := by
     unfold setsAt
     rw [List.take_succ_eq_append_getElem hk', List.map_append]
     simp [hk']
    simp only [nn0, Int.toNat_natCast, g2, go_sem, Nat.reduceEqDiff, Nat.reduceAdd, Nat.reduceLeDiff, List.length_map, z4, at4, BoxM.at, EvM.at, fillB, Int.reduceLT, Int.reduceLE, Int.reduceToNat, Int.toNat_zero, Int.le_refl, Int.reduceAdd, decide_true, decide_false, wr1, wr2, wr3, wr4, c0, c1, c2, c3, c4, Nat.reduceMul, Nat.reduceLT, Nat.lt_irrefl, true_and, and_self, ↓reduceIte]
    generalize f.getD k allB = b at *
    simp only [boxC, go_sem, Nat.reduceEqDiff, Nat.reduceAdd, Nat.reduceLeDiff, List.length_map, z4, at4, BoxM.at, EvM.at, fillB, Int.reduceLT, Int.reduceLE, Int.reduceToNat, Int.toNat_zero, Int.le_refl, Int.reduceAdd, decide_true, decide_false, wr1, wr2, wr3, wr4, c0, c1, c2, c3, c4, Nat.reduceMul, Nat.reduceLT, Nat.lt_irrefl, true_and, and_self, ↓reduceIte]
    refine ⟨setC_len _, by rintro y rfl; rfl, by rw [List.length_append]; omega, by rw [List.length_append]; omega, ?_⟩
    simp only [hupk, go_sem, Nat.reduceEqDiff, Nat.reduceAdd, Nat.reduceLeDiff, List.length_map, z4, at4, BoxM.at, EvM.at, fillB, Int.reduceLT, Int.reduceLE, Int.reduceToNat, Int.toNat_zero, Int.le_refl, Int.reduceAdd, decide_true, decide_false, wr1, wr2, wr3, wr4, c0, c1, c2, c3, c4, Nat.reduceMul, Nat.reduceLT, Nat.lt_irrefl, true_and, and_self, ↓reduceIte]
    refine invN_next hk' trivial ?_
    simp only [gridB, hst, setC, BoxM.at, at4, List.map_append, List.map_cons, List.map_nil, ← List.append_assoc, go_sem, Nat.reduceEqDiff, Nat.reduceAdd, Nat.reduceLeDiff, List.length_map, z4, at4, BoxM.at, EvM.at, fillB, Int.reduceLT, Int.reduceLE, Int.reduceToNat, Int.toNat_zero, Int.le_refl, Int.reduceAdd, decide_true, decide_false, wr1, wr2, wr3, wr4, c0, c1, c2, c3, c4, Nat.reduceMul, Nat.reduceLT, Nat.lt_irrefl, true_and, and_self, ↓reduceIte]
   ·have : k = f.length := by simp at hd; omega
    subst this
    rw [List.take_length]
    simp only [hup, go_sem, Nat.reduceEqDiff, Nat.reduceAdd, Nat.reduceLeDiff, List.length_map, z4, at4, BoxM.at, EvM.at, fillB, Int.reduceLT, Int.reduceLE, Int.reduceToNat, Int.toNat_zero, Int.le_refl, Int.reduceAdd, decide_true, decide_false, wr1, wr2, wr3, wr4, c0, c1, c2, c3, c4, Nat.reduceMul, Nat.reduceLT, Nat.lt_irrefl, true_and, and_self, ↓reduceIte]
    refine invN_next hi' trivial ?_
    have hse : setsAt (fs.take i).flatten 0 ++ setsAt f 0 = setsAt (fs.take (i + 1)).flatten 0 := by rw [hft]; unfold setsAt; rw [List.map_append]
    simp only [gridB, hse, go_sem, Nat.reduceEqDiff, Nat.reduceAdd, Nat.reduceLeDiff, List.length_map, z4, at4, BoxM.at, EvM.at, fillB, Int.reduceLT, Int.reduceLE, Int.reduceToNat, Int.toNat_zero, Int.le_refl, Int.reduceAdd, decide_true, decide_false, wr1, wr2, wr3, wr4, c0, c1, c2, c3, c4, Nat.reduceMul, Nat.reduceLT, Nat.lt_irrefl, true_and, and_self, ↓reduceIte]
  ·have : i = fs.length := by simp at hc; omega
   subst this
   rw [List.take_length]
   simp only [gridB, go_sem, Nat.reduceEqDiff, Nat.reduceAdd, Nat.reduceLeDiff, List.length_map, z4, at4, BoxM.at, EvM.at, fillB, Int.reduceLT, Int.reduceLE, Int.reduceToNat, Int.toNat_zero, Int.le_refl, Int.reduceAdd, decide_true, decide_false, wr1, wr2, wr3, wr4, c0, c1, c2, c3, c4, Nat.reduceMul, Nat.reduceLT, Nat.lt_irrefl, true_and, and_self, ↓reduceIte]
   rw [show (St.fz _ [3]) = some _ from rfl]
   simp only [go_sem, Nat.reduceEqDiff, Nat.reduceAdd, Nat.reduceLeDiff, List.length_map, z4, at4, BoxM.at, EvM.at, fillB, Int.reduceLT, Int.reduceLE, Int.reduceToNat, Int.toNat_zero, Int.le_refl, Int.reduceAdd, decide_true, decide_false, wr1, wr2, wr3, wr4, c0, c1, c2, c3, c4, Nat.reduceMul, Nat.reduceLT, Nat.lt_irrefl, true_and, and_self, ↓reduceIte]
   refine callQ_by _ rfl rfl (kCutAt h (i := 0) (by omega)) ?_
   simp only [go_sem, Nat.reduceEqDiff, Nat.reduceAdd, Nat.reduceLeDiff, List.length_map, z4, at4, BoxM.at, EvM.at, fillB, Int.reduceLT, Int.reduceLE, Int.reduceToNat, Int.toNat_zero, Int.le_refl, Int.reduceAdd, decide_true, decide_false, wr1, wr2, wr3, wr4, c0, c1, c2, c3, c4, Nat.reduceMul, Nat.reduceLT, Nat.lt_irrefl, true_and, and_self, ↓reduceIte]
   refine invN_next (show 0 < 4 by omega) trivial ?_
   rfl
 ·simp only [gridB, go_sem, Nat.reduceEqDiff, Nat.reduceAdd, Nat.reduceLeDiff, List.length_map, z4, at4, BoxM.at, EvM.at, fillB, Int.reduceLT, Int.reduceLE, Int.reduceToNat, Int.toNat_zero, Int.le_refl, Int.reduceAdd, decide_true, decide_false, wr1, wr2, wr3, wr4, c0, c1, c2, c3, c4, Nat.reduceMul, Nat.reduceLT, Nat.lt_irrefl, true_and, and_self, ↓reduceIte]
  refine loop_N fs.length (fun _ => True) (fun i => ⟨[(0, .ptr 1000000 0), (2, .val (.int .i64 1)), (3, .sl (some (3, 31, 4)) ((setsAt (fs.take i).flatten 1).map setC)), (7, .val (.int .i64 1)), (13, .sl none (filC fs)), (14, .val (.int .i64 (filC fs).length)), (15, .val (.int .i64 i))], [(1000000, gridB fs 0 1 (upA fs.flatten 0 1) (upA fs.flatten 1 1) (upA fs.flatten 2 1) (upA fs.flatten 3 1))], [((3, 31, 4), true)]⟩) trivial (by simp only [gridB, setsAt, List.take_zero, List.flatten_nil, List.map_nil, go_sem, Nat.reduceEqDiff, Nat.reduceAdd, Nat.reduceLeDiff, List.length_map]; rfl) ?_
  rintro i hi -
  have hn := h.n
  have hlf : (filC fs).length = fs.length := by unfold filC; rw [List.length_map]
  simp only [hlf, go_sem, Nat.reduceEqDiff, Nat.reduceAdd, Nat.reduceLeDiff, List.length_map, z4, at4, BoxM.at, EvM.at, fillB, Int.reduceLT, Int.reduceLE, Int.reduceToNat, Int.toNat_zero, Int.le_refl, Int.reduceAdd, decide_true, decide_false, wr1, wr2, wr3, wr4, c0, c1, c2, c3, c4, Nat.reduceMul, Nat.reduceLT, Nat.lt_irrefl, true_and, and_self, ↓reduceIte]
  refine condE_split (fun hc => ?_) (fun hc => ?_)
  ·have hi' : i < fs.length := by simpa using hc
   have hup := up64 (show i < 1000000 by omega)
   have g1 := get_filC hi'
   have hm := h.m _ (List.getElem_mem hi')
   have e1 : fs.getD i [] = fs[i] := by simp [hi']
   rw [e1] at g1
   have hlt : (setsAt (fs.take i).flatten 1).length ≤ 80 := by
    unfold setsAt
    rw [List.length_map]
    exact Nat.le_trans (by rw [← List.take_append_drop i fs, List.flatten_append, List.length_append, List.take_append_drop]; exact Nat.le_add_right _ _) h.all.2.2
   have hft : (fs.take (i + 1)).flatten = (fs.take i).flatten ++ fs[i] := by rw [List.take_succ_eq_append_getElem hi', List.flatten_append]; simp
   generalize fs[i] = f at *
   simp only [nn0, Int.toNat_natCast, g1, go_sem, Nat.reduceEqDiff, Nat.reduceAdd, Nat.reduceLeDiff, List.length_map, z4, at4, BoxM.at, EvM.at, fillB, Int.reduceLT, Int.reduceLE, Int.reduceToNat, Int.toNat_zero, Int.le_refl, Int.reduceAdd, decide_true, decide_false, wr1, wr2, wr3, wr4, c0, c1, c2, c3, c4, Nat.reduceMul, Nat.reduceLT, Nat.lt_irrefl, true_and, and_self, ↓reduceIte]
   refine loop_N f.length (fun _ => True) (fun k => ⟨[(0, .ptr 1000000 0), (2, .val (.int .i64 1)), (3, .sl (some (3, 31, 4)) ((setsAt (fs.take i).flatten 1 ++ setsAt (f.take k) 1).map setC)), (5, .sl none (f.map boxC)), (7, .val (.int .i64 1)), (13, .sl none (filC fs)), (14, .val (.int .i64 fs.length)), (15, .val (.int .i64 i)), (20, .val (.int .i64 f.length)), (21, .val (.int .i64 k))], [(1000000, gridB fs 0 1 (upA fs.flatten 0 1) (upA fs.flatten 1 1) (upA fs.flatten 2 1) (upA fs.flatten 3 1))], [((3, 31, 4), true)]⟩) trivial (by simp only [gridB, setsAt, List.take_zero, List.flatten_nil, List.map_nil, List.append_nil, go_sem, Nat.reduceEqDiff, Nat.reduceAdd, Nat.reduceLeDiff, List.length_map]; rfl) ?_
   rintro k hk -
   simp only [go_sem, Nat.reduceEqDiff, Nat.reduceAdd, Nat.reduceLeDiff, List.length_map, z4, at4, BoxM.at, EvM.at, fillB, Int.reduceLT, Int.reduceLE, Int.reduceToNat, Int.toNat_zero, Int.le_refl, Int.reduceAdd, decide_true, decide_false, wr1, wr2, wr3, wr4, c0, c1, c2, c3, c4, Nat.reduceMul, Nat.reduceLT, Nat.lt_irrefl, true_and, and_self, ↓reduceIte]
   refine condE_split (fun hd => ?_) (fun hd => ?_)
   ·have hk' : k < f.length := by simpa using hd
    have hupk := up64 (show k < 1000000 by omega)
    have g2 := get_boxC hk'
    have hlk : (setsAt (f.take k) 1).length ≤ 20 := by unfold setsAt; rw [List.length_map, List.length_take]; omega
    have hst : setsAt (f.take (k + 1)) 1 = setsAt (f.take k) 1 ++ [(f.getD k allB).at 1] := by
     unfold setsAt
     rw [List.take_succ_eq_append_getElem hk', List.map_append]
     simp [hk']
    simp only [nn0, Int.toNat_natCast, g2, go_sem, Nat.reduceEqDiff, Nat.reduceAdd, Nat.reduceLeDiff, List.length_map, z4, at4, BoxM.at, EvM.at, fillB, Int.reduceLT, Int.reduceLE, Int.reduceToNat, Int.toNat_zero, Int.le_refl, Int.reduceAdd, decide_true, decide_false, wr1, wr2, wr3, wr4, c0, c1, c2, c3, c4, Nat.reduceMul, Nat.reduceLT, Nat.lt_irrefl, true_and, and_self, ↓reduceIte]
    generalize f.getD k allB = b at *
    simp only [boxC, go_sem, Nat.reduceEqDiff, Nat.reduceAdd, Nat.reduceLeDiff, List.length_map, z4, at4, BoxM.at, EvM.at, fillB, Int.reduceLT, Int.reduceLE, Int.reduceToNat, Int.toNat_zero, Int.le_refl, Int.reduceAdd, decide_true, decide_false, wr1, wr2, wr3, wr4, c0, c1, c2, c3, c4, Nat.reduceMul, Nat.reduceLT, Nat.lt_irrefl, true_and, and_self, ↓reduceIte]
    refine ⟨setC_len _, by rintro y rfl; rfl, by rw [List.length_append]; omega, by rw [List.length_append]; omega, ?_⟩
    simp only [hupk, go_sem, Nat.reduceEqDiff, Nat.reduceAdd, Nat.reduceLeDiff, List.length_map, z4, at4, BoxM.at, EvM.at, fillB, Int.reduceLT, Int.reduceLE, Int.reduceToNat, Int.toNat_zero, Int.le_refl, Int.reduceAdd, decide_true, decide_false, wr1, wr2, wr3, wr4, c0, c1, c2, c3, c4, Nat.reduceMul, Nat.reduceLT, Nat.lt_irrefl, true_and, and_self, ↓reduceIte]
    refine invN_next hk' trivial ?_
    simp only [gridB, hst, setC, BoxM.at, at4, List.map_append, List.map_cons, List.map_nil, ← List.append_assoc, go_sem, Nat.reduceEqDiff, Nat.reduceAdd, Nat.reduceLeDiff, List.length_map, z4, at4, BoxM.at, EvM.at, fillB, Int.reduceLT, Int.reduceLE, Int.reduceToNat, Int.toNat_zero, Int.le_refl, Int.reduceAdd, decide_true, decide_false, wr1, wr2, wr3, wr4, c0, c1, c2, c3, c4, Nat.reduceMul, Nat.reduceLT, Nat.lt_irrefl, true_and, and_self, ↓reduceIte]
   ·have : k = f.length := by simp at hd; omega
    subst this
    rw [List.take_length]
    simp only [hup, go_sem, Nat.reduceEqDiff, Nat.reduceAdd, Nat.reduceLeDiff, List.length_map, z4, at4, BoxM.at, EvM.at, fillB, Int.reduceLT, Int.reduceLE, Int.reduceToNat, Int.toNat_zero, Int.le_refl, Int.reduceAdd, decide_true, decide_false, wr1, wr2, wr3, wr4, c0, c1, c2, c3, c4, Nat.reduceMul, Nat.reduceLT, Nat.lt_irrefl, true_and, and_self, ↓reduceIte]
    refine invN_next hi' trivial ?_
    have hse : setsAt (fs.take i).flatten 1 ++ setsAt f 1 = setsAt (fs.take (i + 1)).flatten 1 := by rw [hft]; unfold setsAt; rw [List.map_append]
    simp only [gridB, hse, go_sem, Nat.reduceEqDiff, Nat.reduceAdd, Nat.reduceLeDiff, List.length_map, z4, at4, BoxM.at, EvM.at, fillB, Int.reduceLT, Int.reduceLE, Int.reduceToNat, Int.toNat_zero, Int.le_refl, Int.reduceAdd, decide_true, decide_false, wr1, wr2, wr3, wr4, c0, c1, c2, c3, c4, Nat.reduceMul, Nat.reduceLT, Nat.lt_irrefl, true_and, and_self, ↓reduceIte]
  ·have : i = fs.length := by simp at hc; omega
   subst this
   rw [List.take_length]
   simp only [gridB, go_sem, Nat.reduceEqDiff, Nat.reduceAdd, Nat.reduceLeDiff, List.length_map, z4, at4, BoxM.at, EvM.at, fillB, Int.reduceLT, Int.reduceLE, Int.reduceToNat, Int.toNat_zero, Int.le_refl, Int.reduceAdd, decide_true, decide_false, wr1, wr2, wr3, wr4, c0, c1, c2, c3, c4, Nat.reduceMul, Nat.reduceLT, Nat.lt_irrefl, true_and, and_self, ↓reduceIte]
   rw [show (St.fz _ [3]) = some _ from rfl]
   simp only [go_sem, Nat.reduceEqDiff, Nat.reduceAdd, Nat.reduceLeDiff, List.length_map, z4, at4, BoxM.at, EvM.at, fillB, Int.reduceLT, Int.reduceLE, Int.reduceToNat, Int.toNat_zero, Int.le_refl, Int.reduceAdd, decide_true, decide_false, wr1, wr2, wr3, wr4, c0, c1, c2, c3, c4, Nat.reduceMul, Nat.reduceLT, Nat.lt_irrefl, true_and, and_self, ↓reduceIte]
   refine callQ_by _ rfl rfl (kCutAt h (i := 1) (by omega)) ?_
   simp only [go_sem, Nat.reduceEqDiff, Nat.reduceAdd, Nat.reduceLeDiff, List.length_map, z4, at4, BoxM.at, EvM.at, fillB, Int.reduceLT, Int.reduceLE, Int.reduceToNat, Int.toNat_zero, Int.le_refl, Int.reduceAdd, decide_true, decide_false, wr1, wr2, wr3, wr4, c0, c1, c2, c3, c4, Nat.reduceMul, Nat.reduceLT, Nat.lt_irrefl, true_and, and_self, ↓reduceIte]
   refine invN_next (show 1 < 4 by omega) trivial ?_
   rfl
 ·simp only [gridB, go_sem, Nat.reduceEqDiff, Nat.reduceAdd, Nat.reduceLeDiff, List.length_map, z4, at4, BoxM.at, EvM.at, fillB, Int.reduceLT, Int.reduceLE, Int.reduceToNat, Int.toNat_zero, Int.le_refl, Int.reduceAdd, decide_true, decide_false, wr1, wr2, wr3, wr4, c0, c1, c2, c3, c4, Nat.reduceMul, Nat.reduceLT, Nat.lt_irrefl, true_and, and_self, ↓reduceIte]
  refine loop_N fs.length (fun _ => True) (fun i => ⟨[(0, .ptr 1000000 0), (2, .val (.int .i64 2)), (3, .sl (some (3, 31, 4)) ((setsAt (fs.take i).flatten 2).map setC)), (7, .val (.int .i64 2)), (13, .sl none (filC fs)), (14, .val (.int .i64 (filC fs).length)), (15, .val (.int .i64 i))], [(1000000, gridB fs 0 1 (upA fs.flatten 0 2) (upA fs.flatten 1 2) (upA fs.flatten 2 2) (upA fs.flatten 3 2))], [((3, 31, 4), true)]⟩) trivial (by simp only [gridB, setsAt, List.take_zero, List.flatten_nil, List.map_nil, go_sem, Nat.reduceEqDiff, Nat.reduceAdd, Nat.reduceLeDiff, List.length_map]; rfl) ?_
  rintro i hi -
  have hn := h.n
  have hlf : (filC fs).length = fs.length := by unfold filC; rw [List.length_map]
  simp only [hlf, go_sem, Nat.reduceEqDiff, Nat.reduceAdd, Nat.reduceLeDiff, List.length_map, z4, at4, BoxM.at, EvM.at, fillB, Int.reduceLT, Int.reduceLE, Int.reduceToNat, Int.toNat_zero, Int.le_refl, Int.reduceAdd, decide_true, decide_false, wr1, wr2, wr3, wr4, c0, c1, c2, c3, c4, Nat.reduceMul, Nat.reduceLT, Nat.lt_irrefl, true_and, and_self, ↓reduceIte]
  refine condE_split (fun hc => ?_) (fun hc => ?_)
  ·have hi' : i < fs.length := by simpa using hc
   have hup := up64 (show i < 1000000 by omega)
   have g1 := get_filC hi'
   have hm := h.m _ (List.getElem_mem hi')
   have e1 : fs.getD i [] = fs[i] := by simp [hi']
   rw [e1] at g1
   have hlt : (setsAt (fs.take i).flatten 2).length ≤ 80 := by
    unfold setsAt
    rw [List.length_map]
    exact Nat.le_trans (by rw [← List.take_append_drop i fs, List.flatten_append, List.length_append, List.take_append_drop]; exact Nat.le_add_right _ _) h.all.2.2
   have hft : (fs.take (i + 1)).flatten = (fs.take i).flatten ++ fs[i] := by rw [List.take_succ_eq_append_getElem hi', List.flatten_append]; simp
   generalize fs[i] = f at *
   simp only [nn0, Int.toNat_natCast, g1, go_sem, Nat.reduceEqDiff, Nat.reduceAdd, Nat.reduceLeDiff, List.length_map, z4, at4, BoxM.at, EvM.at, fillB, Int.reduceLT, Int.reduceLE, Int.reduceToNat, Int.toNat_zero, Int.le_refl, Int.reduceAdd, decide_true, decide_false, wr1, wr2, wr3, wr4, c0, c1, c2, c3, c4, Nat.reduceMul, Nat.reduceLT, Nat.lt_irrefl, true_and, and_self, ↓reduceIte]
   refine loop_N f.length (fun _ => True) (fun k => ⟨[(0, .ptr 1000000 0), (2, .val (.int .i64 2)), (3, .sl (some (3, 31, 4)) ((setsAt (fs.take i).flatten 2 ++ setsAt (f.take k) 2).map setC)), (5, .sl none (f.map boxC)), (7, .val (.int .i64 2)), (13, .sl none (filC fs)), (14, .val (.int .i64 fs.length)), (15, .val (.int .i64 i)), (20, .val (.int .i64 f.length)), (21, .val (.int .i64 k))], [(1000000, gridB fs 0 1 (upA fs.flatten 0 2) (upA fs.flatten 1 2) (upA fs.flatten 2 2) (upA fs.flatten 3 2))], [((3, 31, 4), true)]⟩) trivial (by simp only [gridB, setsAt, List.take_zero, List.flatten_nil, List.map_nil, List.append_nil, go_sem, Nat.reduceEqDiff, Nat.reduceAdd, Nat.reduceLeDiff, List.length_map]; rfl) ?_
   rintro k hk -
   simp only [go_sem, Nat.reduceEqDiff, Nat.reduceAdd, Nat.reduceLeDiff, List.length_map, z4, at4, BoxM.at, EvM.at, fillB, Int.reduceLT, Int.reduceLE, Int.reduceToNat, Int.toNat_zero, Int.le_refl, Int.reduceAdd, decide_true, decide_false, wr1, wr2, wr3, wr4, c0, c1, c2, c3, c4, Nat.reduceMul, Nat.reduceLT, Nat.lt_irrefl, true_and, and_self, ↓reduceIte]
   refine condE_split (fun hd => ?_) (fun hd => ?_)
   ·have hk' : k < f.length := by simpa using hd
    have hupk := up64 (show k < 1000000 by omega)
    have g2 := get_boxC hk'
    have hlk : (setsAt (f.take k) 2).length ≤ 20 := by unfold setsAt; rw [List.length_map, List.length_take]; omega
    have hst : setsAt (f.take (k + 1)) 2 = setsAt (f.take k) 2 ++ [(f.getD k allB).at 2] := by
     unfold setsAt
     rw [List.take_succ_eq_append_getElem hk', List.map_append]
     simp [hk']
    simp only [nn0, Int.toNat_natCast, g2, go_sem, Nat.reduceEqDiff, Nat.reduceAdd, Nat.reduceLeDiff, List.length_map, z4, at4, BoxM.at, EvM.at, fillB, Int.reduceLT, Int.reduceLE, Int.reduceToNat, Int.toNat_zero, Int.le_refl, Int.reduceAdd, decide_true, decide_false, wr1, wr2, wr3, wr4, c0, c1, c2, c3, c4, Nat.reduceMul, Nat.reduceLT, Nat.lt_irrefl, true_and, and_self, ↓reduceIte]
    generalize f.getD k allB = b at *
    simp only [boxC, go_sem, Nat.reduceEqDiff, Nat.reduceAdd, Nat.reduceLeDiff, List.length_map, z4, at4, BoxM.at, EvM.at, fillB, Int.reduceLT, Int.reduceLE, Int.reduceToNat, Int.toNat_zero, Int.le_refl, Int.reduceAdd, decide_true, decide_false, wr1, wr2, wr3, wr4, c0, c1, c2, c3, c4, Nat.reduceMul, Nat.reduceLT, Nat.lt_irrefl, true_and, and_self, ↓reduceIte]
    refine ⟨setC_len _, by rintro y rfl; rfl, by rw [List.length_append]; omega, by rw [List.length_append]; omega, ?_⟩
    simp only [hupk, go_sem, Nat.reduceEqDiff, Nat.reduceAdd, Nat.reduceLeDiff, List.length_map, z4, at4, BoxM.at, EvM.at, fillB, Int.reduceLT, Int.reduceLE, Int.reduceToNat, Int.toNat_zero, Int.le_refl, Int.reduceAdd, decide_true, decide_false, wr1, wr2, wr3, wr4, c0, c1, c2, c3, c4, Nat.reduceMul, Nat.reduceLT, Nat.lt_irrefl, true_and, and_self, ↓reduceIte]
    refine invN_next hk' trivial ?_
    simp only [gridB, hst, setC, BoxM.at, at4, List.map_append, List.map_cons, List.map_nil, ← List.append_assoc, go_sem, Nat.reduceEqDiff, Nat.reduceAdd, Nat.reduceLeDiff, List.length_map, z4, at4, BoxM.at, EvM.at, fillB, Int.reduceLT, Int.reduceLE, Int.reduceToNat, Int.toNat_zero, Int.le_refl, Int.reduceAdd, decide_true, decide_false, wr1, wr2, wr3, wr4, c0, c1, c2, c3, c4, Nat.reduceMul, Nat.reduceLT, Nat.lt_irrefl, true_and, and_self, ↓reduceIte]
   ·have : k = f.length := by simp at hd; omega
    subst this
    rw [List.take_length]
    simp only [hup, go_sem, Nat.reduceEqDiff, Nat.reduceAdd, Nat.reduceLeDiff, List.length_map, z4, at4, BoxM.at, EvM.at, fillB, Int.reduceLT, Int.reduceLE, Int.reduceToNat, Int.toNat_zero, Int.le_refl, Int.reduceAdd, decide_true, decide_false, wr1, wr2, wr3, wr4, c0, c1, c2, c3, c4, Nat.reduceMul, Nat.reduceLT, Nat.lt_irrefl, true_and, and_self, ↓reduceIte]
    refine invN_next hi' trivial ?_
    have hse : setsAt (fs.take i).flatten 2 ++ setsAt f 2 = setsAt (fs.take (i + 1)).flatten 2 := by rw [hft]; unfold setsAt; rw [List.map_append]
    simp only [gridB, hse, go_sem, Nat.reduceEqDiff, Nat.reduceAdd, Nat.reduceLeDiff, List.length_map, z4, at4, BoxM.at, EvM.at, fillB, Int.reduceLT, Int.reduceLE, Int.reduceToNat, Int.toNat_zero, Int.le_refl, Int.reduceAdd, decide_true, decide_false, wr1, wr2, wr3, wr4, c0, c1, c2, c3, c4, Nat.reduceMul, Nat.reduceLT, Nat.lt_irrefl, true_and, and_self, ↓reduceIte]
  ·have : i = fs.length := by simp at hc; omega
   subst this
   rw [List.take_length]
   simp only [gridB, go_sem, Nat.reduceEqDiff, Nat.reduceAdd, Nat.reduceLeDiff, List.length_map, z4, at4, BoxM.at, EvM.at, fillB, Int.reduceLT, Int.reduceLE, Int.reduceToNat, Int.toNat_zero, Int.le_refl, Int.reduceAdd, decide_true, decide_false, wr1, wr2, wr3, wr4, c0, c1, c2, c3, c4, Nat.reduceMul, Nat.reduceLT, Nat.lt_irrefl, true_and, and_self, ↓reduceIte]
   rw [show (St.fz _ [3]) = some _ from rfl]
   simp only [go_sem, Nat.reduceEqDiff, Nat.reduceAdd, Nat.reduceLeDiff, List.length_map, z4, at4, BoxM.at, EvM.at, fillB, Int.reduceLT, Int.reduceLE, Int.reduceToNat, Int.toNat_zero, Int.le_refl, Int.reduceAdd, decide_true, decide_false, wr1, wr2, wr3, wr4, c0, c1, c2, c3, c4, Nat.reduceMul, Nat.reduceLT, Nat.lt_irrefl, true_and, and_self, ↓reduceIte]
   refine callQ_by _ rfl rfl (kCutAt h (i := 2) (by omega)) ?_
   simp only [go_sem, Nat.reduceEqDiff, Nat.reduceAdd, Nat.reduceLeDiff, List.length_map, z4, at4, BoxM.at, EvM.at, fillB, Int.reduceLT, Int.reduceLE, Int.reduceToNat, Int.toNat_zero, Int.le_refl, Int.reduceAdd, decide_true, decide_false, wr1, wr2, wr3, wr4, c0, c1, c2, c3, c4, Nat.reduceMul, Nat.reduceLT, Nat.lt_irrefl, true_and, and_self, ↓reduceIte]
   refine invN_next (show 2 < 4 by omega) trivial ?_
   rfl
 ·simp only [gridB, go_sem, Nat.reduceEqDiff, Nat.reduceAdd, Nat.reduceLeDiff, List.length_map, z4, at4, BoxM.at, EvM.at, fillB, Int.reduceLT, Int.reduceLE, Int.reduceToNat, Int.toNat_zero, Int.le_refl, Int.reduceAdd, decide_true, decide_false, wr1, wr2, wr3, wr4, c0, c1, c2, c3, c4, Nat.reduceMul, Nat.reduceLT, Nat.lt_irrefl, true_and, and_self, ↓reduceIte]
  refine loop_N fs.length (fun _ => True) (fun i => ⟨[(0, .ptr 1000000 0), (2, .val (.int .i64 3)), (3, .sl (some (3, 31, 4)) ((setsAt (fs.take i).flatten 3).map setC)), (7, .val (.int .i64 3)), (13, .sl none (filC fs)), (14, .val (.int .i64 (filC fs).length)), (15, .val (.int .i64 i))], [(1000000, gridB fs 0 1 (upA fs.flatten 0 3) (upA fs.flatten 1 3) (upA fs.flatten 2 3) (upA fs.flatten 3 3))], [((3, 31, 4), true)]⟩) trivial (by simp only [gridB, setsAt, List.take_zero, List.flatten_nil, List.map_nil, go_sem, Nat.reduceEqDiff, Nat.reduceAdd, Nat.reduceLeDiff, List.length_map]; rfl) ?_
  rintro i hi -
  have hn := h.n
  have hlf : (filC fs).length = fs.length := by unfold filC; rw [List.length_map]
  simp only [hlf, go_sem, Nat.reduceEqDiff, Nat.reduceAdd, Nat.reduceLeDiff, List.length_map, z4, at4, BoxM.at, EvM.at, fillB, Int.reduceLT, Int.reduceLE, Int.reduceToNat, Int.toNat_zero, Int.le_refl, Int.reduceAdd, decide_true, decide_false, wr1, wr2, wr3, wr4, c0, c1, c2, c3, c4, Nat.reduceMul, Nat.reduceLT, Nat.lt_irrefl, true_and, and_self, ↓reduceIte]
  refine condE_split (fun hc => ?_) (fun hc => ?_)
  ·have hi' : i < fs.length := by simpa using hc
   have hup := up64 (show i < 1000000 by omega)
   have g1 := get_filC hi'
   have hm := h.m _ (List.getElem_mem hi')
   have e1 : fs.getD i [] = fs[i] := by simp [hi']
   rw [e1] at g1
   have hlt : (setsAt (fs.take i).flatten 3).length ≤ 80 := by
    unfold setsAt
    rw [List.length_map]
    exact Nat.le_trans (by rw [← List.take_append_drop i fs, List.flatten_append, List.length_append, List.take_append_drop]; exact Nat.le_add_right _ _) h.all.2.2
   have hft : (fs.take (i + 1)).flatten = (fs.take i).flatten ++ fs[i] := by rw [List.take_succ_eq_append_getElem hi', List.flatten_append]; simp
   generalize fs[i] = f at *
   simp only [nn0, Int.toNat_natCast, g1, go_sem, Nat.reduceEqDiff, Nat.reduceAdd, Nat.reduceLeDiff, List.length_map, z4, at4, BoxM.at, EvM.at, fillB, Int.reduceLT, Int.reduceLE, Int.reduceToNat, Int.toNat_zero, Int.le_refl, Int.reduceAdd, decide_true, decide_false, wr1, wr2, wr3, wr4, c0, c1, c2, c3, c4, Nat.reduceMul, Nat.reduceLT, Nat.lt_irrefl, true_and, and_self, ↓reduceIte]
   refine loop_N f.length (fun _ => True) (fun k => ⟨[(0, .ptr 1000000 0), (2, .val (.int .i64 3)), (3, .sl (some (3, 31, 4)) ((setsAt (fs.take i).flatten 3 ++ setsAt (f.take k) 3).map setC)), (5, .sl none (f.map boxC)), (7, .val (.int .i64 3)), (13, .sl none (filC fs)), (14, .val (.int .i64 fs.length)), (15, .val (.int .i64 i)), (20, .val (.int .i64 f.length)), (21, .val (.int .i64 k))], [(1000000, gridB fs 0 1 (upA fs.flatten 0 3) (upA fs.flatten 1 3) (upA fs.flatten 2 3) (upA fs.flatten 3 3))], [((3, 31, 4), true)]⟩) trivial (by simp only [gridB, setsAt, List.take_zero, List.flatten_nil, List.map_nil, List.append_nil, go_sem, Nat.reduceEqDiff, Nat.reduceAdd, Nat.reduceLeDiff, List.length_map]; rfl) ?_
   rintro k hk -
   simp only [go_sem, Nat.reduceEqDiff, Nat.reduceAdd, Nat.reduceLeDiff, List.length_map, z4, at4, BoxM.at, EvM.at, fillB, Int.reduceLT, Int.reduceLE, Int.reduceToNat, Int.toNat_zero, Int.le_refl, Int.reduceAdd, decide_true, decide_false, wr1, wr2, wr3, wr4, c0, c1, c2, c3, c4, Nat.reduceMul, Nat.reduceLT, Nat.lt_irrefl, true_and, and_self, ↓reduceIte]
   refine condE_split (fun hd => ?_) (fun hd => ?_)
   ·have hk' : k < f.length := by simpa using hd
    have hupk := up64 (show k < 1000000 by omega)
    have g2 := get_boxC hk'
    have hlk : (setsAt (f.take k) 3).length ≤ 20 := by unfold setsAt; rw [List.length_map, List.length_take]; omega
    have hst : setsAt (f.take (k + 1)) 3 = setsAt (f.take k) 3 ++ [(f.getD k allB).at 3] := by
     unfold setsAt
     rw [List.take_succ_eq_append_getElem hk', List.map_append]
     simp [hk']
    simp only [nn0, Int.toNat_natCast, g2, go_sem, Nat.reduceEqDiff, Nat.reduceAdd, Nat.reduceLeDiff, List.length_map, z4, at4, BoxM.at, EvM.at, fillB, Int.reduceLT, Int.reduceLE, Int.reduceToNat, Int.toNat_zero, Int.le_refl, Int.reduceAdd, decide_true, decide_false, wr1, wr2, wr3, wr4, c0, c1, c2, c3, c4, Nat.reduceMul, Nat.reduceLT, Nat.lt_irrefl, true_and, and_self, ↓reduceIte]
    generalize f.getD k allB = b at *
    simp only [boxC, go_sem, Nat.reduceEqDiff, Nat.reduceAdd, Nat.reduceLeDiff, List.length_map, z4, at4, BoxM.at, EvM.at, fillB, Int.reduceLT, Int.reduceLE, Int.reduceToNat, Int.toNat_zero, Int.le_refl, Int.reduceAdd, decide_true, decide_false, wr1, wr2, wr3, wr4, c0, c1, c2, c3, c4, Nat.reduceMul, Nat.reduceLT, Nat.lt_irrefl, true_and, and_self, ↓reduceIte]
    refine ⟨setC_len _, by rintro y rfl; rfl, by rw [List.length_append]; omega, by rw [List.length_append]; omega, ?_⟩
    simp only [hupk, go_sem, Nat.reduceEqDiff, Nat.reduceAdd, Nat.reduceLeDiff, List.length_map, z4, at4, BoxM.at, EvM.at, fillB, Int.reduceLT, Int.reduceLE, Int.reduceToNat, Int.toNat_zero, Int.le_refl, Int.reduceAdd, decide_true, decide_false, wr1, wr2, wr3, wr4, c0, c1, c2, c3, c4, Nat.reduceMul, Nat.reduceLT, Nat.lt_irrefl, true_and, and_self, ↓reduceIte]
    refine invN_next hk' trivial ?_
    simp only [gridB, hst, setC, BoxM.at, at4, List.map_append, List.map_cons, List.map_nil, ← List.append_assoc, go_sem, Nat.reduceEqDiff, Nat.reduceAdd, Nat.reduceLeDiff, List.length_map, z4, at4, BoxM.at, EvM.at, fillB, Int.reduceLT, Int.reduceLE, Int.reduceToNat, Int.toNat_zero, Int.le_refl, Int.reduceAdd, decide_true, decide_false, wr1, wr2, wr3, wr4, c0, c1, c2, c3, c4, Nat.reduceMul, Nat.reduceLT, Nat.lt_irrefl, true_and, and_self, ↓reduceIte]
   ·have : k = f.length := by simp at hd; omega
    subst this
    rw [List.take_length]
    simp only [hup, go_sem, Nat.reduceEqDiff, Nat.reduceAdd, Nat.reduceLeDiff, List.length_map, z4, at4, BoxM.at, EvM.at, fillB, Int.reduceLT, Int.reduceLE, Int.reduceToNat, Int.toNat_zero, Int.le_refl, Int.reduceAdd, decide_true, decide_false, wr1, wr2, wr3, wr4, c0, c1, c2, c3, c4, Nat.reduceMul, Nat.reduceLT, Nat.lt_irrefl, true_and, and_self, ↓reduceIte]
    refine invN_next hi' trivial ?_
    have hse : setsAt (fs.take i).flatten 3 ++ setsAt f 3 = setsAt (fs.take (i + 1)).flatten 3 := by rw [hft]; unfold setsAt; rw [List.map_append]
    simp only [gridB, hse, go_sem, Nat.reduceEqDiff, Nat.reduceAdd, Nat.reduceLeDiff, List.length_map, z4, at4, BoxM.at, EvM.at, fillB, Int.reduceLT, Int.reduceLE, Int.reduceToNat, Int.toNat_zero, Int.le_refl, Int.reduceAdd, decide_true, decide_false, wr1, wr2, wr3, wr4, c0, c1, c2, c3, c4, Nat.reduceMul, Nat.reduceLT, Nat.lt_irrefl, true_and, and_self, ↓reduceIte]
  ·have : i = fs.length := by simp at hc; omega
   subst this
   rw [List.take_length]
   simp only [gridB, go_sem, Nat.reduceEqDiff, Nat.reduceAdd, Nat.reduceLeDiff, List.length_map, z4, at4, BoxM.at, EvM.at, fillB, Int.reduceLT, Int.reduceLE, Int.reduceToNat, Int.toNat_zero, Int.le_refl, Int.reduceAdd, decide_true, decide_false, wr1, wr2, wr3, wr4, c0, c1, c2, c3, c4, Nat.reduceMul, Nat.reduceLT, Nat.lt_irrefl, true_and, and_self, ↓reduceIte]
   rw [show (St.fz _ [3]) = some _ from rfl]
   simp only [go_sem, Nat.reduceEqDiff, Nat.reduceAdd, Nat.reduceLeDiff, List.length_map, z4, at4, BoxM.at, EvM.at, fillB, Int.reduceLT, Int.reduceLE, Int.reduceToNat, Int.toNat_zero, Int.le_refl, Int.reduceAdd, decide_true, decide_false, wr1, wr2, wr3, wr4, c0, c1, c2, c3, c4, Nat.reduceMul, Nat.reduceLT, Nat.lt_irrefl, true_and, and_self, ↓reduceIte]
   refine callQ_by _ rfl rfl (kCutAt h (i := 3) (by omega)) ?_
   simp only [go_sem, Nat.reduceEqDiff, Nat.reduceAdd, Nat.reduceLeDiff, List.length_map, z4, at4, BoxM.at, EvM.at, fillB, Int.reduceLT, Int.reduceLE, Int.reduceToNat, Int.toNat_zero, Int.le_refl, Int.reduceAdd, decide_true, decide_false, wr1, wr2, wr3, wr4, c0, c1, c2, c3, c4, Nat.reduceMul, Nat.reduceLT, Nat.lt_irrefl, true_and, and_self, ↓reduceIte]
   refine invN_next (show 3 < 4 by omega) trivial ?_
   rfl
 ·simp only [gridB, upA, finO, go_sem, Nat.reduceEqDiff, Nat.reduceAdd, Nat.reduceLeDiff, List.length_map, z4, at4, BoxM.at, EvM.at, fillB, Int.reduceLT, Int.reduceLE, Int.reduceToNat, Int.toNat_zero, Int.le_refl, Int.reduceAdd, decide_true, decide_false, wr1, wr2, wr3, wr4, c0, c1, c2, c3, c4, Nat.reduceMul, Nat.reduceLT, Nat.lt_irrefl, true_and, and_self, ↓reduceIte]
  rfl
end Go.Proofs
