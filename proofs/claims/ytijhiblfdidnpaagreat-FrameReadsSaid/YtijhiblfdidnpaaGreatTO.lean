/- A part of the proof; what is proved stands in the last text. -/
import Derived.Test.YtijhiblfdidnpaaGreatT50
set_option linter.unusedVariables false
set_option maxRecDepth 2000
namespace Go.Proofs
open Go.Vm
set_option linter.unusedSimpArgs false
theorem nt {b : Bool} (h : (!b) = false) : b = true := by simpa using h
theorem tn {b : Bool} (h : b = false) : (!b) = true := by simpa using h
def emptyB (b : BoxM) : Bool := !all4 fun i => !emptyM (b.at i)
def stEmpty (b : BoxM) (i : Nat) : St := ⟨[(5, .agg (boxC b)), (6, .val (.int .i64 (z4 i)))], [], []⟩
theorem kboxEmpty (b : BoxM) : PureAt Tryz.prog 100 [.agg (boxC b)] (· = .val (.bool (emptyB b))) := by
 refine pure_of r100 (by kernel_rfl) ?_
 unfold m100
 simp only [boxC, go_sem, Nat.reduceEqDiff, Nat.reduceAdd, Nat.reduceLeDiff]
 refine ev_loop_by (inv4 (fun i => (!emptyM (b.at i)) = true) [5, 6] [] (stEmpty b)) 4 ⟨0, by simp, by simp, by simp, by simp only [stEmpty, boxC, go_sem, Nat.reduceEqDiff, z4, ↓reduceIte]⟩ ?_
 rintro n S ⟨i, hi, hn, hq, hS⟩
 rw [ev_trim, hS]
 subst hn
 clear hS S
 simp only [stEmpty]
 rcases four hi with rfl | rfl | rfl | rfl | rfl
 ·simp only [boxC, go_sem, Nat.reduceEqDiff, Nat.reduceAdd, Nat.reduceLeDiff, z4, at4, BoxM.at, Int.reduceLT, Int.toNat_zero, Int.le_refl, decide_true, c4, Nat.reduceMul, true_and, and_self, ↓reduceIte]
  refine callP_eq rfl rfl (kEmpty' (b.at 0)) ?_
  simp only [go_sem, Nat.reduceEqDiff]
  refine condE_split (fun h => ?_) (fun h => ?_)
  ·simp only [go_sem, at4, BoxM.at, true_and, ↓reduceIte]
   have : all4 (fun i => !emptyM (b.at i)) = false := all4_f (i := 0) (by omega) (by rw [h]; rfl)
   rw [emptyB, this]; rfl
  ·simp only [go_sem, Nat.reduceEqDiff, at4, BoxM.at, Int.reduceAdd, wr1, ↓reduceIte]
   refine inv4_next 0 (by omega) hq (tn h) ?_
   simp only [stEmpty, boxC, go_sem, Nat.reduceEqDiff, Nat.reduceAdd, z4, ↓reduceIte]
 ·simp only [boxC, go_sem, Nat.reduceEqDiff, Nat.reduceAdd, Nat.reduceLeDiff, z4, at4, BoxM.at, Int.reduceLT, Int.reduceLE, Int.reduceToNat, decide_true, c4, Nat.reduceMul, true_and, and_self, ↓reduceIte]
  refine callP_eq rfl rfl (kEmpty' (b.at 1)) ?_
  simp only [go_sem, Nat.reduceEqDiff]
  refine condE_split (fun h => ?_) (fun h => ?_)
  ·simp only [go_sem, at4, BoxM.at, true_and, ↓reduceIte]
   have : all4 (fun i => !emptyM (b.at i)) = false := all4_f (i := 1) (by omega) (by rw [h]; rfl)
   rw [emptyB, this]; rfl
  ·simp only [go_sem, Nat.reduceEqDiff, at4, BoxM.at, Int.reduceAdd, wr2, ↓reduceIte]
   refine inv4_next 1 (by omega) hq (tn h) ?_
   simp only [stEmpty, boxC, go_sem, Nat.reduceEqDiff, Nat.reduceAdd, z4, ↓reduceIte]
 ·simp only [boxC, go_sem, Nat.reduceEqDiff, Nat.reduceAdd, Nat.reduceLeDiff, z4, at4, BoxM.at, Int.reduceLT, Int.reduceLE, Int.reduceToNat, decide_true, c4, Nat.reduceMul, true_and, and_self, ↓reduceIte]
  refine callP_eq rfl rfl (kEmpty' (b.at 2)) ?_
  simp only [go_sem, Nat.reduceEqDiff]
  refine condE_split (fun h => ?_) (fun h => ?_)
  ·simp only [go_sem, at4, BoxM.at, true_and, ↓reduceIte]
   have : all4 (fun i => !emptyM (b.at i)) = false := all4_f (i := 2) (by omega) (by rw [h]; rfl)
   rw [emptyB, this]; rfl
  ·simp only [go_sem, Nat.reduceEqDiff, at4, BoxM.at, Int.reduceAdd, wr3, ↓reduceIte]
   refine inv4_next 2 (by omega) hq (tn h) ?_
   simp only [stEmpty, boxC, go_sem, Nat.reduceEqDiff, Nat.reduceAdd, z4, ↓reduceIte]
 ·simp only [boxC, go_sem, Nat.reduceEqDiff, Nat.reduceAdd, Nat.reduceLeDiff, z4, at4, BoxM.at, Int.reduceLT, Int.reduceLE, Int.reduceToNat, decide_true, c4, Nat.reduceMul, true_and, and_self, ↓reduceIte]
  refine callP_eq rfl rfl (kEmpty' (b.at 3)) ?_
  simp only [go_sem, Nat.reduceEqDiff]
  refine condE_split (fun h => ?_) (fun h => ?_)
  ·simp only [go_sem, at4, BoxM.at, true_and, ↓reduceIte]
   have : all4 (fun i => !emptyM (b.at i)) = false := all4_f (i := 3) (by omega) (by rw [h]; rfl)
   rw [emptyB, this]; rfl
  ·simp only [go_sem, Nat.reduceEqDiff, at4, BoxM.at, Int.reduceAdd, wr4, ↓reduceIte]
   refine inv4_next 3 (by omega) hq (tn h) ?_
   simp only [stEmpty, boxC, go_sem, Nat.reduceEqDiff, Nat.reduceAdd, z4, ↓reduceIte]
 ·simp only [go_sem, Nat.reduceEqDiff, z4, at4, BoxM.at, Int.reduceLT, decide_false, true_and, ↓reduceIte]
  rw [emptyB, all4_iff.2 hq]; rfl
def inB4 (a b : BoxM) : Bool := emptyB a || all4 fun i => inM (a.at i) (b.at i)
def stIn (a b : BoxM) (i : Nat) : St := ⟨[(2, .ptr 2 0), (3, .ptr 3 0), (8, .val (.int .i64 (z4 i)))], [(2, boxC a), (3, boxC b)], []⟩
theorem kboxIn (a b : BoxM) (ha : FewB 900 a) (hb : FewB 900 b) : PureAt Tryz.prog 107 [.agg (boxC a), .agg (boxC b)] (· = .val (.bool (inB4 a b))) := by
 refine pure_of r107 (by kernel_rfl) ?_
 unfold m107
 simp only [boxC, go_sem, Nat.reduceEqDiff, Nat.reduceAdd, Nat.reduceLeDiff]
 refine callP_eq rfl rfl (kboxEmpty a) ?_
 simp only [go_sem, Nat.reduceEqDiff]
 refine condE_split (fun h0 => ?_) (fun h0 => ?_)
 ·simp only [go_sem, Nat.reduceEqDiff]
  rw [inB4, h0]; rfl
 simp only [go_sem, Nat.reduceEqDiff]
 refine ev_loop_by (inv4 (fun i => inM (a.at i) (b.at i) = true) [2, 3, 8] [2, 3] (stIn a b)) 4 ⟨0, by simp, by simp, by simp, by simp only [stIn, boxC, go_sem, Nat.reduceEqDiff, z4, ↓reduceIte]⟩ ?_
 rintro n S ⟨i, hi, hn, hq, hS⟩
 rw [ev_trim, hS]
 subst hn
 clear hS S
 simp only [stIn]
 rcases four hi with rfl | rfl | rfl | rfl | rfl
 ·obtain ⟨k1, k2⟩ := ha 0 (by omega)
  obtain ⟨k3, k4⟩ := hb 0 (by omega)
  simp only [boxC, go_sem, Nat.reduceEqDiff, Nat.reduceAdd, Nat.reduceLeDiff, z4, at4, BoxM.at, Int.reduceLT, Int.toNat_zero, Int.le_refl, decide_true, c4, Nat.reduceMul, and_self, ↓reduceIte]
  refine callQ_by _ rfl rfl (kIn (a.at 0) (b.at 0) k1 k3 k2 k4) ?_
  simp only [go_sem, Nat.reduceEqDiff]
  refine condE_split (fun h => ?_) (fun h => ?_)
  ·simp only [go_sem, at4, BoxM.at, true_and, ↓reduceIte]
   have : all4 (fun i => inM (a.at i) (b.at i)) = false := all4_f (i := 0) (by omega) (by simpa using h)
   rw [inB4, h0, this]; rfl
  ·simp only [go_sem, Nat.reduceEqDiff, at4, BoxM.at, Int.reduceAdd, wr1, ↓reduceIte]
   refine inv4_next 0 (by omega) hq (nt h) ?_
   simp only [stIn, boxC, go_sem, Nat.reduceEqDiff, Nat.reduceAdd, z4, ↓reduceIte]
 ·obtain ⟨k1, k2⟩ := ha 1 (by omega)
  obtain ⟨k3, k4⟩ := hb 1 (by omega)
  simp only [boxC, go_sem, Nat.reduceEqDiff, Nat.reduceAdd, Nat.reduceLeDiff, z4, at4, BoxM.at, Int.reduceLT, Int.reduceLE, Int.reduceToNat, decide_true, c4, Nat.reduceMul, and_self, ↓reduceIte]
  refine callQ_by _ rfl rfl (kIn (a.at 1) (b.at 1) k1 k3 k2 k4) ?_
  simp only [go_sem, Nat.reduceEqDiff]
  refine condE_split (fun h => ?_) (fun h => ?_)
  ·simp only [go_sem, at4, BoxM.at, true_and, ↓reduceIte]
   have : all4 (fun i => inM (a.at i) (b.at i)) = false := all4_f (i := 1) (by omega) (by simpa using h)
   rw [inB4, h0, this]; rfl
  ·simp only [go_sem, Nat.reduceEqDiff, at4, BoxM.at, Int.reduceAdd, wr2, ↓reduceIte]
   refine inv4_next 1 (by omega) hq (nt h) ?_
   simp only [stIn, boxC, go_sem, Nat.reduceEqDiff, Nat.reduceAdd, z4, ↓reduceIte]
 ·obtain ⟨k1, k2⟩ := ha 2 (by omega)
  obtain ⟨k3, k4⟩ := hb 2 (by omega)
  simp only [boxC, go_sem, Nat.reduceEqDiff, Nat.reduceAdd, Nat.reduceLeDiff, z4, at4, BoxM.at, Int.reduceLT, Int.reduceLE, Int.reduceToNat, decide_true, c4, Nat.reduceMul, and_self, ↓reduceIte]
  refine callQ_by _ rfl rfl (kIn (a.at 2) (b.at 2) k1 k3 k2 k4) ?_
  simp only [go_sem, Nat.reduceEqDiff]
  refine condE_split (fun h => ?_) (fun h => ?_)
  ·simp only [go_sem, at4, BoxM.at, true_and, ↓reduceIte]
   have : all4 (fun i => inM (a.at i) (b.at i)) = false := all4_f (i := 2) (by omega) (by simpa using h)
   rw [inB4, h0, this]; rfl
  ·simp only [go_sem, Nat.reduceEqDiff, at4, BoxM.at, Int.reduceAdd, wr3, ↓reduceIte]
   refine inv4_next 2 (by omega) hq (nt h) ?_
   simp only [stIn, boxC, go_sem, Nat.reduceEqDiff, Nat.reduceAdd, z4, ↓reduceIte]
 ·obtain ⟨k1, k2⟩ := ha 3 (by omega)
  obtain ⟨k3, k4⟩ := hb 3 (by omega)
  simp only [boxC, go_sem, Nat.reduceEqDiff, Nat.reduceAdd, Nat.reduceLeDiff, z4, at4, BoxM.at, Int.reduceLT, Int.reduceLE, Int.reduceToNat, decide_true, c4, Nat.reduceMul, and_self, ↓reduceIte]
  refine callQ_by _ rfl rfl (kIn (a.at 3) (b.at 3) k1 k3 k2 k4) ?_
  simp only [go_sem, Nat.reduceEqDiff]
  refine condE_split (fun h => ?_) (fun h => ?_)
  ·simp only [go_sem, at4, BoxM.at, true_and, ↓reduceIte]
   have : all4 (fun i => inM (a.at i) (b.at i)) = false := all4_f (i := 3) (by omega) (by simpa using h)
   rw [inB4, h0, this]; rfl
  ·simp only [go_sem, Nat.reduceEqDiff, at4, BoxM.at, Int.reduceAdd, wr4, ↓reduceIte]
   refine inv4_next 3 (by omega) hq (nt h) ?_
   simp only [stIn, boxC, go_sem, Nat.reduceEqDiff, Nat.reduceAdd, z4, ↓reduceIte]
 ·simp only [go_sem, Nat.reduceEqDiff, z4, at4, BoxM.at, Int.reduceLT, decide_false, true_and, ↓reduceIte]
  rw [inB4, h0, all4_iff.2 hq]; rfl
def rightE (e : EvM) : Bool := all4 fun i => rightV (e.at i)
def stREv (e : EvM) (i : Nat) : St := ⟨[(1, .ptr 1 0), (3, .val (.int .i64 (z4 i)))], [(1, evC e)], []⟩
theorem kref1Event (e : EvM) : PureAt Tryz.prog 26 [.agg (evC e)] (· = .val (.bool (rightE e))) := by
 refine pure_of r26 (by kernel_rfl) ?_
 unfold m26
 simp only [evC, go_sem, Nat.reduceEqDiff, Nat.reduceAdd]
 refine ev_loop_by (inv4 (fun i => rightV (e.at i) = true) [1, 3] [1] (stREv e)) 4 ⟨0, by simp, by simp, by simp, by simp only [stREv, evC, go_sem, Nat.reduceEqDiff, z4, ↓reduceIte]⟩ ?_
 rintro n S ⟨i, hi, hn, hq, hS⟩
 rw [ev_trim, hS]
 subst hn
 clear hS S
 simp only [stREv]
 rcases four hi with rfl | rfl | rfl | rfl | rfl
 ·simp only [evC, go_sem, Nat.reduceEqDiff, Nat.reduceAdd, Nat.reduceLeDiff, z4, at4, EvM.at, Int.reduceLT, Int.toNat_zero, Int.le_refl, decide_true, c4, Nat.reduceMul, and_self, ↓reduceIte]
  refine callP_eq rfl rfl (kref1Right (e.at 0)) ?_
  simp only [go_sem, Nat.reduceEqDiff]
  refine condE_split (fun h => ?_) (fun h => ?_)
  ·simp only [go_sem, at4, EvM.at, true_and, ↓reduceIte]
   have : all4 (fun i => rightV (e.at i)) = false := all4_f (i := 0) (by omega) (by simpa using h)
   rw [rightE, this]
  ·simp only [go_sem, Nat.reduceEqDiff, at4, EvM.at, Int.reduceAdd, wr1, ↓reduceIte]
   refine inv4_next 0 (by omega) hq (nt h) ?_
   simp only [stREv, evC, go_sem, Nat.reduceEqDiff, Nat.reduceAdd, z4, ↓reduceIte]
 ·simp only [evC, go_sem, Nat.reduceEqDiff, Nat.reduceAdd, Nat.reduceLeDiff, z4, at4, EvM.at, Int.reduceLT, Int.reduceLE, Int.reduceToNat, decide_true, c4, Nat.reduceMul, and_self, ↓reduceIte]
  refine callP_eq rfl rfl (kref1Right (e.at 1)) ?_
  simp only [go_sem, Nat.reduceEqDiff]
  refine condE_split (fun h => ?_) (fun h => ?_)
  ·simp only [go_sem, at4, EvM.at, true_and, ↓reduceIte]
   have : all4 (fun i => rightV (e.at i)) = false := all4_f (i := 1) (by omega) (by simpa using h)
   rw [rightE, this]
  ·simp only [go_sem, Nat.reduceEqDiff, at4, EvM.at, Int.reduceAdd, wr2, ↓reduceIte]
   refine inv4_next 1 (by omega) hq (nt h) ?_
   simp only [stREv, evC, go_sem, Nat.reduceEqDiff, Nat.reduceAdd, z4, ↓reduceIte]
 ·simp only [evC, go_sem, Nat.reduceEqDiff, Nat.reduceAdd, Nat.reduceLeDiff, z4, at4, EvM.at, Int.reduceLT, Int.reduceLE, Int.reduceToNat, decide_true, c4, Nat.reduceMul, and_self, ↓reduceIte]
  refine callP_eq rfl rfl (kref1Right (e.at 2)) ?_
  simp only [go_sem, Nat.reduceEqDiff]
  refine condE_split (fun h => ?_) (fun h => ?_)
  ·simp only [go_sem, at4, EvM.at, true_and, ↓reduceIte]
   have : all4 (fun i => rightV (e.at i)) = false := all4_f (i := 2) (by omega) (by simpa using h)
   rw [rightE, this]
  ·simp only [go_sem, Nat.reduceEqDiff, at4, EvM.at, Int.reduceAdd, wr3, ↓reduceIte]
   refine inv4_next 2 (by omega) hq (nt h) ?_
   simp only [stREv, evC, go_sem, Nat.reduceEqDiff, Nat.reduceAdd, z4, ↓reduceIte]
 ·simp only [evC, go_sem, Nat.reduceEqDiff, Nat.reduceAdd, Nat.reduceLeDiff, z4, at4, EvM.at, Int.reduceLT, Int.reduceLE, Int.reduceToNat, decide_true, c4, Nat.reduceMul, and_self, ↓reduceIte]
  refine callP_eq rfl rfl (kref1Right (e.at 3)) ?_
  simp only [go_sem, Nat.reduceEqDiff]
  refine condE_split (fun h => ?_) (fun h => ?_)
  ·simp only [go_sem, at4, EvM.at, true_and, ↓reduceIte]
   have : all4 (fun i => rightV (e.at i)) = false := all4_f (i := 3) (by omega) (by simpa using h)
   rw [rightE, this]
  ·simp only [go_sem, Nat.reduceEqDiff, at4, EvM.at, Int.reduceAdd, wr4, ↓reduceIte]
   refine inv4_next 3 (by omega) hq (nt h) ?_
   simp only [stREv, evC, go_sem, Nat.reduceEqDiff, Nat.reduceAdd, z4, ↓reduceIte]
 ·simp only [go_sem, Nat.reduceEqDiff, z4, at4, EvM.at, Int.reduceLT, decide_false, true_and, ↓reduceIte]
  rw [rightE, all4_iff.2 hq]
def stVEv (e : EvM) (i : Nat) : St := ⟨[(5, .agg (evC e)), (6, .val (.int .i64 (z4 i)))], [], []⟩
theorem kvalEvent (e : EvM) : PureAt Tryz.prog 52 [.agg (evC e)] (· = .val (.bool (rightE e))) := by
 refine pure_of r52 (by kernel_rfl) ?_
 unfold m52
 simp only [evC, go_sem, Nat.reduceEqDiff, Nat.reduceAdd, Nat.reduceLeDiff]
 refine ev_loop_by (inv4 (fun i => rightV (e.at i) = true) [5, 6] [] (stVEv e)) 4 ⟨0, by simp, by simp, by simp, by simp only [stVEv, evC, go_sem, Nat.reduceEqDiff, z4, ↓reduceIte]⟩ ?_
 rintro n S ⟨i, hi, hn, hq, hS⟩
 rw [ev_trim, hS]
 subst hn
 clear hS S
 simp only [stVEv]
 rcases four hi with rfl | rfl | rfl | rfl | rfl
 ·simp only [evC, go_sem, Nat.reduceEqDiff, Nat.reduceAdd, Nat.reduceLeDiff, z4, at4, EvM.at, Int.reduceLT, Int.toNat_zero, Int.le_refl, decide_true, c4, Nat.reduceMul, true_and, and_self, ↓reduceIte]
  refine callP_eq rfl rfl (kvalRight (e.at 0)) ?_
  simp only [go_sem, Nat.reduceEqDiff]
  refine condE_split (fun h => ?_) (fun h => ?_)
  ·simp only [go_sem, at4, EvM.at, true_and, ↓reduceIte]
   have : all4 (fun i => rightV (e.at i)) = false := all4_f (i := 0) (by omega) (by simpa using h)
   rw [rightE, this]
  ·simp only [go_sem, Nat.reduceEqDiff, at4, EvM.at, Int.reduceAdd, wr1, ↓reduceIte]
   refine inv4_next 0 (by omega) hq (nt h) ?_
   simp only [stVEv, evC, go_sem, Nat.reduceEqDiff, Nat.reduceAdd, z4, ↓reduceIte]
 ·simp only [evC, go_sem, Nat.reduceEqDiff, Nat.reduceAdd, Nat.reduceLeDiff, z4, at4, EvM.at, Int.reduceLT, Int.reduceLE, Int.reduceToNat, decide_true, c4, Nat.reduceMul, true_and, and_self, ↓reduceIte]
  refine callP_eq rfl rfl (kvalRight (e.at 1)) ?_
  simp only [go_sem, Nat.reduceEqDiff]
  refine condE_split (fun h => ?_) (fun h => ?_)
  ·simp only [go_sem, at4, EvM.at, true_and, ↓reduceIte]
   have : all4 (fun i => rightV (e.at i)) = false := all4_f (i := 1) (by omega) (by simpa using h)
   rw [rightE, this]
  ·simp only [go_sem, Nat.reduceEqDiff, at4, EvM.at, Int.reduceAdd, wr2, ↓reduceIte]
   refine inv4_next 1 (by omega) hq (nt h) ?_
   simp only [stVEv, evC, go_sem, Nat.reduceEqDiff, Nat.reduceAdd, z4, ↓reduceIte]
 ·simp only [evC, go_sem, Nat.reduceEqDiff, Nat.reduceAdd, Nat.reduceLeDiff, z4, at4, EvM.at, Int.reduceLT, Int.reduceLE, Int.reduceToNat, decide_true, c4, Nat.reduceMul, true_and, and_self, ↓reduceIte]
  refine callP_eq rfl rfl (kvalRight (e.at 2)) ?_
  simp only [go_sem, Nat.reduceEqDiff]
  refine condE_split (fun h => ?_) (fun h => ?_)
  ·simp only [go_sem, at4, EvM.at, true_and, ↓reduceIte]
   have : all4 (fun i => rightV (e.at i)) = false := all4_f (i := 2) (by omega) (by simpa using h)
   rw [rightE, this]
  ·simp only [go_sem, Nat.reduceEqDiff, at4, EvM.at, Int.reduceAdd, wr3, ↓reduceIte]
   refine inv4_next 2 (by omega) hq (nt h) ?_
   simp only [stVEv, evC, go_sem, Nat.reduceEqDiff, Nat.reduceAdd, z4, ↓reduceIte]
 ·simp only [evC, go_sem, Nat.reduceEqDiff, Nat.reduceAdd, Nat.reduceLeDiff, z4, at4, EvM.at, Int.reduceLT, Int.reduceLE, Int.reduceToNat, decide_true, c4, Nat.reduceMul, true_and, and_self, ↓reduceIte]
  refine callP_eq rfl rfl (kvalRight (e.at 3)) ?_
  simp only [go_sem, Nat.reduceEqDiff]
  refine condE_split (fun h => ?_) (fun h => ?_)
  ·simp only [go_sem, at4, EvM.at, true_and, ↓reduceIte]
   have : all4 (fun i => rightV (e.at i)) = false := all4_f (i := 3) (by omega) (by simpa using h)
   rw [rightE, this]
  ·simp only [go_sem, Nat.reduceEqDiff, at4, EvM.at, Int.reduceAdd, wr4, ↓reduceIte]
   refine inv4_next 3 (by omega) hq (nt h) ?_
   simp only [stVEv, evC, go_sem, Nat.reduceEqDiff, Nat.reduceAdd, z4, ↓reduceIte]
 ·simp only [go_sem, Nat.reduceEqDiff, z4, at4, EvM.at, Int.reduceLT, decide_false, true_and, ↓reduceIte]
  rw [rightE, all4_iff.2 hq]
def rightB (b : BoxM) : Bool := all4 fun i => rightM (b.at i)
def stRight (b : BoxM) (i : Nat) : St := ⟨[(1, .ptr 1 0), (3, .val (.int .i64 (z4 i)))], [(1, boxC b)], []⟩
theorem krefRight4 (b : BoxM) (hb : FewB 1000000 b) : PureAt Tryz.prog 61 [.agg (boxC b)] (· = .val (.bool (rightB b))) := by
 refine pure_of r61 (by kernel_rfl) ?_
 unfold m61
 simp only [boxC, go_sem, Nat.reduceEqDiff, Nat.reduceAdd]
 refine ev_loop_by (inv4 (fun i => rightM (b.at i) = true) [1, 3] [1] (stRight b)) 4 ⟨0, by simp, by simp, by simp, by simp only [stRight, boxC, go_sem, Nat.reduceEqDiff, z4, ↓reduceIte]⟩ ?_
 rintro n S ⟨i, hi, hn, hq, hS⟩
 rw [ev_trim, hS]
 subst hn
 clear hS S
 simp only [stRight]
 rcases four hi with rfl | rfl | rfl | rfl | rfl
 ·obtain ⟨k1, k2⟩ := hb 0 (by omega)
  simp only [boxC, go_sem, Nat.reduceEqDiff, Nat.reduceAdd, Nat.reduceLeDiff, z4, at4, BoxM.at, Int.reduceLT, Int.toNat_zero, Int.le_refl, decide_true, c4, Nat.reduceMul, and_self, ↓reduceIte]
  refine callP_eq rfl rfl (krefRight3 (b.at 0) k1 k2) ?_
  simp only [go_sem, Nat.reduceEqDiff]
  refine condE_split (fun h => ?_) (fun h => ?_)
  ·simp only [go_sem, at4, BoxM.at, true_and, ↓reduceIte]
   have : all4 (fun i => rightM (b.at i)) = false := all4_f (i := 0) (by omega) (by simpa using h)
   rw [rightB, this]
  ·simp only [go_sem, Nat.reduceEqDiff, at4, BoxM.at, Int.reduceAdd, wr1, ↓reduceIte]
   refine inv4_next 0 (by omega) hq (nt h) ?_
   simp only [stRight, boxC, go_sem, Nat.reduceEqDiff, Nat.reduceAdd, z4, ↓reduceIte]
 ·obtain ⟨k1, k2⟩ := hb 1 (by omega)
  simp only [boxC, go_sem, Nat.reduceEqDiff, Nat.reduceAdd, Nat.reduceLeDiff, z4, at4, BoxM.at, Int.reduceLT, Int.reduceLE, Int.reduceToNat, decide_true, c4, Nat.reduceMul, and_self, ↓reduceIte]
  refine callP_eq rfl rfl (krefRight3 (b.at 1) k1 k2) ?_
  simp only [go_sem, Nat.reduceEqDiff]
  refine condE_split (fun h => ?_) (fun h => ?_)
  ·simp only [go_sem, at4, BoxM.at, true_and, ↓reduceIte]
   have : all4 (fun i => rightM (b.at i)) = false := all4_f (i := 1) (by omega) (by simpa using h)
   rw [rightB, this]
  ·simp only [go_sem, Nat.reduceEqDiff, at4, BoxM.at, Int.reduceAdd, wr2, ↓reduceIte]
   refine inv4_next 1 (by omega) hq (nt h) ?_
   simp only [stRight, boxC, go_sem, Nat.reduceEqDiff, Nat.reduceAdd, z4, ↓reduceIte]
 ·obtain ⟨k1, k2⟩ := hb 2 (by omega)
  simp only [boxC, go_sem, Nat.reduceEqDiff, Nat.reduceAdd, Nat.reduceLeDiff, z4, at4, BoxM.at, Int.reduceLT, Int.reduceLE, Int.reduceToNat, decide_true, c4, Nat.reduceMul, and_self, ↓reduceIte]
  refine callP_eq rfl rfl (krefRight3 (b.at 2) k1 k2) ?_
  simp only [go_sem, Nat.reduceEqDiff]
  refine condE_split (fun h => ?_) (fun h => ?_)
  ·simp only [go_sem, at4, BoxM.at, true_and, ↓reduceIte]
   have : all4 (fun i => rightM (b.at i)) = false := all4_f (i := 2) (by omega) (by simpa using h)
   rw [rightB, this]
  ·simp only [go_sem, Nat.reduceEqDiff, at4, BoxM.at, Int.reduceAdd, wr3, ↓reduceIte]
   refine inv4_next 2 (by omega) hq (nt h) ?_
   simp only [stRight, boxC, go_sem, Nat.reduceEqDiff, Nat.reduceAdd, z4, ↓reduceIte]
 ·obtain ⟨k1, k2⟩ := hb 3 (by omega)
  simp only [boxC, go_sem, Nat.reduceEqDiff, Nat.reduceAdd, Nat.reduceLeDiff, z4, at4, BoxM.at, Int.reduceLT, Int.reduceLE, Int.reduceToNat, decide_true, c4, Nat.reduceMul, and_self, ↓reduceIte]
  refine callP_eq rfl rfl (krefRight3 (b.at 3) k1 k2) ?_
  simp only [go_sem, Nat.reduceEqDiff]
  refine condE_split (fun h => ?_) (fun h => ?_)
  ·simp only [go_sem, at4, BoxM.at, true_and, ↓reduceIte]
   have : all4 (fun i => rightM (b.at i)) = false := all4_f (i := 3) (by omega) (by simpa using h)
   rw [rightB, this]
  ·simp only [go_sem, Nat.reduceEqDiff, at4, BoxM.at, Int.reduceAdd, wr4, ↓reduceIte]
   refine inv4_next 3 (by omega) hq (nt h) ?_
   simp only [stRight, boxC, go_sem, Nat.reduceEqDiff, Nat.reduceAdd, z4, ↓reduceIte]
 ·simp only [go_sem, Nat.reduceEqDiff, z4, at4, BoxM.at, Int.reduceLT, decide_false, true_and, ↓reduceIte]
  rw [rightB, all4_iff.2 hq]
end Go.Proofs

namespace Go.Proofs
open Go.Vm
set_option linter.unusedSimpArgs false
theorem lt4 {i : Nat} (h : i < 4) : i = 0 ∨ i = 1 ∨ i = 2 ∨ i = 3 := by omega
theorem at_allB (i : Nat) : allB.at i = allM := by
 match i with
 | 0 => rfl
 | 1 => rfl
 | 2 => rfl
 | _ + 3 => rfl
theorem at_withB (b : BoxM) (n : Int) (s : SetM) {i : Nat} (h : i < 4) : (withB b n s).at i = if n = (i : Int) then s else b.at i := by
 rcases lt4 h with rfl | rfl | rfl | rfl <;> rfl
def OKB (b : BoxM) : Prop := ∀ i, i < 4 → OK (b.at i)
def BndB (b : BoxM) : Prop := ∀ i, i < 4 → Bnd (b.at i)
theorem rightB_iff {b : BoxM} (hb : BndB b) : rightB b = true ↔ OKB b := by
 unfold rightB
 rw [all4_iff]
 exact ⟨fun h i hi => (right_iff (hb i hi)).1 (h i hi), fun h i hi => (h i hi).right⟩
theorem OKB.all : OKB allB := fun i _ => by rw [at_allB]; exact OK.all
theorem OKB.with {b : BoxM} (h : OKB b) {s : SetM} (hs : OK s) (n : Int) : OKB (withB b n s) := fun i hi => by
 rw [at_withB b n s hi]; split
 ·exact hs
 ·exact h i hi
theorem FewB.mono {k m : Nat} {b : BoxM} (h : FewB k b) (hk : k ≤ m) : FewB m b := fun i hi => ⟨Nat.le_trans (h i hi).1 hk, Nat.le_trans (h i hi).2 hk⟩
theorem FewB.all : FewB 1 allB := fun i _ => by rw [at_allB]; simp [allM]
theorem FewB.with {k : Nat} {b : BoxM} (h : FewB k b) {s : SetM} (h1 : s.ints.length ≤ k) (h2 : s.strs.length ≤ k) (n : Int) : FewB k (withB b n s) := fun i hi => by
 rw [at_withB b n s hi]; split
 ·exact ⟨h1, h2⟩
 ·exact h i hi
theorem Sub.all {a : SetM} (ha : OK a) : Sub a allM := ⟨fun _ => rfl, fun _ h => Cov_all.2 (ha.cov h), fun t _ _ => StrIn_all t⟩
def InE (e : EvM) : Prop := ∀ i, i < 4 → InRange (e.at i).n
def setR15 : SetM := ⟨false, [(1, 5)], false, []⟩
def boxR : BoxM := withB allB 0 setR15
theorem OK.r15 : OK setR15 := ⟨⟨by simp [setR15], by simp [setR15]⟩, by simp [setR15, InB], .nil, by simp [setR15]⟩
theorem okR : OKB boxR := OKB.all.with OK.r15 0
end Go.Proofs
