/- A part of the proof; what is proved stands in the last text. -/
import Derived.Test.YtijhiblfdidnpaaGreatWK
set_option linter.unusedVariables false
set_option maxRecDepth 2000
namespace Go.Proofs
open Go.Vm
set_option linter.unusedSimpArgs false
set_option maxHeartbeats 8000000 in
theorem kTakeF8 (s : Rd2) (h : In2 s) : ObjAt Tryz.prog 46 ⟨[(0, .ptr 1000000 0)], [(1000000, rd2C s)], []⟩ 1 (FilR s) := by
 refine obj_of [1000000] [] r46 (by kernel_rfl) ?_
 unfold m46
 simp only [go_sem, Nat.reduceEqDiff, ↓reduceIte]
 refine callO_eq rfl rfl rfl rfl rfl (kr2Uint s h) ?_
 have uin := uint2_in h
 have u1 := uint2_1 s
 have hmany := @filR_many s
 have hfew := @filR_few s
 have g4 : decide (((uint2 s).1 : Int) > 4) = decide (4 < (uint2 s).1) := by rw [decide_eq_decide]; omega
 simp only [g4, go_sem, Nat.reduceEqDiff, decide_false, ↓reduceIte]
 cases d4 : decide (4 < (uint2 s).1)
 rotate_left
 ·have hw := filR_bad (s := s) (s' := (uint2 s).2) u1 uin (takeFR_bad (hmany (of_decide_eq_true d4)))
  simp only [finO, go_sem, ↓reduceIte]
  exact hw
 have hfew := hfew (of_decide_eq_false d4)
 have n4 := of_decide_eq_false d4
 clear hmany
 generalize hc : uint2 s = c at *
 have cin : In2 c.2 := uin
 simp only [go_sem, Nat.reduceEqDiff, ↓reduceIte]
 refine loop_N c.1 (fun i => ∀ i', i' < i → ∀ j, j < 4 → okT2 (rdB2 c.2 i') j = true) (fun i => ⟨[(0, .ptr 1000000 0), (4, .val (.int .u64 c.1)), (5, .sl (some (5, 106, 16)) ((bxs2 c.2 i).map boxC)), (6, .val (.int .u64 i))], [(1000000, rd2C (rdB2 c.2 i))], [((5, 106, 16), true)]⟩) (fun i' hi' => by omega) (by simp only [go_sem, Nat.reduceEqDiff]; rfl) ?_
 rintro i hi hp
 have lq := bxs2_n c.2 i
 have hq1 := rdB2_1 c.2 i
 rw [u1] at hq1
 have qin := rdB2_in cin i
 have hS1 : rdB2 c.2 (i + 1) = rdT2 (rdB2 c.2 i) 4 := rfl
 have hS2 : bxs2 c.2 (i + 1) = bxs2 c.2 i ++ [bx2 (rdB2 c.2 i)] := rfl
 have ci : decide ((i : Int) < (c.1 : Int)) = decide (i < c.1) := by rw [decide_eq_decide]; omega
 simp only [ci, go_sem, Nat.reduceEqDiff, ↓reduceIte]
 cases d5 : decide (i < c.1)
 ·have : i = c.1 := by have := of_decide_eq_false d5; omega
  subst this
  obtain ⟨a1, a2⟩ := rdB2_abs cin c.1 hp
  have hF : filR (abs2 s) = (bxs2 c.2 c.1, abs2 (rdB2 c.2 c.1)) := by rw [hfew, a1, a2]
  have hok := rdBoxes_ok (abs2 c.2) c.1
  rw [← a1] at hok
  have p1 := kref6Right (bxs2 c.2 c.1) (by omega) (fun b hb => ((hok b hb).1).mono (by omega)) (fun b hb => (hok b hb).2)
  have e1 := abs2_err (rdB2 c.2 c.1)
  generalize rdB2 c.2 c.1 = q at *
  simp only [rd2C, go_sem, Nat.reduceEqDiff, Nat.reduceAdd, ↓reduceIte]
  cases c5 : q.2.2 == 0
  ·have n5 : ¬ q.2.2 = 0 := by simpa using c5
   have hw := filR_bad (s := s) (s' := q) hq1 qin (takeFR_bad (by rw [hF]; simp only; rw [e1]; exact n5))
   simp only [bne, c5, Bool.not_false, finO, go_sem, Nat.reduceEqDiff, decide_false, ↓reduceIte]
   exact hw
  ·have n5 : q.2.2 = 0 := by simpa using c5
   simp only [bne, c5, Bool.not_true, go_sem, Nat.reduceEqDiff, ↓reduceIte]
   refine callP_eq rfl rfl p1 ?_
   cases c6 : rightF (bxs2 c.2 c.1)
   ·have hR : takeFR (abs2 s) = failR (abs2 q) 2 := by
      unfold takeFR
      rw [hF, if_pos ⟨by simp only; rw [e1]; exact n5, c6⟩]
    have hw := filR_bad (s := s) (s' := q) hq1 qin (by rw [hR]; exact failR_ne _ _ (by decide))
    simp only [Bool.not_false, finO, go_sem, Nat.reduceEqDiff, decide_false, ↓reduceIte]
    exact hw
   ·have hR : takeFR (abs2 s) = abs2 q := by
      unfold takeFR
      rw [hF, if_neg (by rintro ⟨-, h⟩; rw [c6] at h; cases h)]
    have hX : takeFX (abs2 s) = (bxs2 c.2 c.1, abs2 q) := by
     unfold takeFX
     rw [hR, hF, if_pos (by rw [e1]; exact n5)]
    simp only [Bool.not_true, finO, go_sem, Nat.reduceEqDiff, ↓reduceIte]
    refine ⟨q, rfl, rfl, hq1, qin, ?_, fun _ => by rw [hX]⟩
    rw [hX]
    simp only
    rw [decide_eq_true (by rw [e1]; exact n5)]
 ·have lt := of_decide_eq_true d5
  have ok4 := fun (k : Nat) (h4 : k < 4) (hk : ∀ j, j < k → okT2 (rdB2 c.2 i) j = true) (hf : okT2 (rdB2 c.2 i) k = false) => takeFR_bad (s := abs2 s) (by rw [hfew]; exact rdB2_fail cin lt h4 hp hk hf)
  have hpn : (∀ j, j < 4 → okT2 (rdB2 c.2 i) j = true) → ∀ i', i' < i + 1 → ∀ j, j < 4 → okT2 (rdB2 c.2 i') j = true := fun hj i' hi' => by
   by_cases e : i' = i
   ·subst e; exact hj
   ·exact hp i' (by omega)
  generalize hqq : rdB2 c.2 i = q at *
  simp only [go_sem, Nat.reduceEqDiff, Nat.reduceAdd, Nat.reduceLeDiff, decide_false, true_and, ↓reduceIte]
  refine ev_loop_u 4 ?_
  simp only [go_sem, Nat.reduceEqDiff, Int.reduceLT, decide_true, ↓reduceIte]
  have k0 : ∀ j, j < 0 → okT2 q j = true := fun j hj => absurd hj (Nat.not_lt_zero j)
  have t0 : (take2 (rdT2 q 0)).2.2 = rdT2 q 1 := rfl
  refine callO_eq rfl rfl rfl rfl rfl (kTake8 (rdT2 q 0) (rdT2_in qin 0)) ?_
  cases o0 : okT2 q 0
  ·have hw := filR_bad (s := s) (s' := rdT2 q 1) (by rw [rdT2_1]; exact hq1) (rdT2_in qin 1) (ok4 0 (by omega) k0 o0)
   have o' : (take2 (rdT2 q 0)).2.1 = false := o0
   simp only [setC, t0, o', finO, go_sem, Nat.reduceEqDiff, Nat.reduceAdd, Nat.reduceLeDiff, decide_true, decide_false, true_and, ↓reduceIte]
   exact hw
  have v0 : (take2 (rdT2 q 0)).2.1 = true := o0
  simp only [setC, t0, v0, go_sem, Nat.reduceEqDiff, Nat.reduceAdd, Nat.reduceLeDiff, Int.reduceLT, Int.toNat_zero, Int.le_refl, Int.reduceAdd, decide_true, decide_false, wr1, c4, Nat.reduceMul, true_and, and_self, ↓reduceIte]
  have k1 : ∀ j, j < 1 → okT2 q j = true := fun j hj => by
   obtain rfl : j = 0 := by omega
   exact o0
  have t1 : (take2 (rdT2 q 1)).2.2 = rdT2 q 2 := rfl
  refine callO_eq rfl rfl rfl rfl rfl (kTake8 (rdT2 q 1) (rdT2_in qin 1)) ?_
  cases o1 : okT2 q 1
  ·have hw := filR_bad (s := s) (s' := rdT2 q 2) (by rw [rdT2_1]; exact hq1) (rdT2_in qin 2) (ok4 1 (by omega) k1 o1)
   have o' : (take2 (rdT2 q 1)).2.1 = false := o1
   simp only [setC, t1, o', finO, go_sem, Nat.reduceEqDiff, Nat.reduceAdd, Nat.reduceLeDiff, decide_true, decide_false, true_and, ↓reduceIte]
   exact hw
  have v1 : (take2 (rdT2 q 1)).2.1 = true := o1
  simp only [setC, t1, v1, go_sem, Nat.reduceEqDiff, Nat.reduceAdd, Nat.reduceLeDiff, Int.reduceLT, Int.reduceLE, Int.reduceToNat, Int.reduceAdd, decide_true, decide_false, wr2, c4, Nat.reduceMul, true_and, and_self, ↓reduceIte]
  have k2 : ∀ j, j < 2 → okT2 q j = true := fun j hj => by
   rcases (show j = 0 ∨ j = 1 by omega) with rfl | rfl
   ·exact o0
   ·exact o1
  have t2 : (take2 (rdT2 q 2)).2.2 = rdT2 q 3 := rfl
  refine callO_eq rfl rfl rfl rfl rfl (kTake8 (rdT2 q 2) (rdT2_in qin 2)) ?_
  cases o2 : okT2 q 2
  ·have hw := filR_bad (s := s) (s' := rdT2 q 3) (by rw [rdT2_1]; exact hq1) (rdT2_in qin 3) (ok4 2 (by omega) k2 o2)
   have o' : (take2 (rdT2 q 2)).2.1 = false := o2
   simp only [setC, t2, o', finO, go_sem, Nat.reduceEqDiff, Nat.reduceAdd, Nat.reduceLeDiff, decide_true, decide_false, true_and, ↓reduceIte]
   exact hw
  have v2 : (take2 (rdT2 q 2)).2.1 = true := o2
  simp only [setC, t2, v2, go_sem, Nat.reduceEqDiff, Nat.reduceAdd, Nat.reduceLeDiff, Int.reduceLT, Int.reduceLE, Int.reduceToNat, Int.reduceAdd, decide_true, decide_false, wr3, c4, Nat.reduceMul, true_and, and_self, ↓reduceIte]
  have k3 : ∀ j, j < 3 → okT2 q j = true := fun j hj => by
   rcases (show j = 0 ∨ j = 1 ∨ j = 2 by omega) with rfl | rfl | rfl
   ·exact o0
   ·exact o1
   ·exact o2
  have t3 : (take2 (rdT2 q 3)).2.2 = rdT2 q 4 := rfl
  refine callO_eq rfl rfl rfl rfl rfl (kTake8 (rdT2 q 3) (rdT2_in qin 3)) ?_
  cases o3 : okT2 q 3
  ·have hw := filR_bad (s := s) (s' := rdT2 q 4) (by rw [rdT2_1]; exact hq1) (rdT2_in qin 4) (ok4 3 (by omega) k3 o3)
   have o' : (take2 (rdT2 q 3)).2.1 = false := o3
   simp only [setC, t3, o', finO, go_sem, Nat.reduceEqDiff, Nat.reduceAdd, Nat.reduceLeDiff, decide_true, decide_false, true_and, ↓reduceIte]
   exact hw
  have v3 : (take2 (rdT2 q 3)).2.1 = true := o3
  simp only [setC, t3, v3, go_sem, Nat.reduceEqDiff, Nat.reduceAdd, Nat.reduceLeDiff, List.length_map, Int.reduceLT, Int.reduceLE, Int.reduceToNat, Int.reduceAdd, decide_true, decide_false, wr4, c4, Nat.reduceMul, true_and, and_self, ↓reduceIte]
  have k4 : ∀ j, j < 4 → okT2 q j = true := fun j hj => by
   rcases (show j = 0 ∨ j = 1 ∨ j = 2 ∨ j = 3 by omega) with rfl | rfl | rfl | rfl
   ·exact o0
   ·exact o1
   ·exact o2
   ·exact o3
  have w5 : IntKind.u64.wrap ((i : Int) + 1) = ((i + 1 : Nat) : Int) := by rw [wrap_u64 (by omega) (by omega)]; omega
  refine ⟨?_, (by rintro _ rfl; rfl), (by omega), (by omega), invN_next (by omega) (hpn k4) ?_⟩
  ·intro e he; obtain ⟨r, -, rfl⟩ := List.mem_map.1 he; rfl
  ·simp only [hS1, hS2, w5, List.map_append, List.map_cons, List.map_nil, bx2, boxC, go_sem, Nat.reduceEqDiff, ↓reduceIte]
end Go.Proofs

namespace Go.Proofs
open Go.Vm
set_option linter.unusedSimpArgs false
theorem abs2_0 (l : List UInt8) : abs2 (l, 0, 0) = (l, 0) := by
 unfold abs2; simp
theorem left2 {s : Rd2} (h : In2 s) (he : s.2.2 = 0) : decide ((abs2 s).1 = []) = decide (s.2.1 = s.1.length) := by
 rw [decide_eq_decide, ← List.length_eq_zero_iff, abs2_len h he]
 have := h.1
 omega
def val2 (s : Rd2) : ValM × Rd2 :=
 if (byte2 s).1 = 1 then (⟨1, unfoldN (uint2 (byte2 s).2).1, ⟨#[]⟩⟩, (uint2 (byte2 s).2).2)
 else if (byte2 s).1 = 2 then (⟨2, 0, lb (str2 8 (byte2 s).2).1⟩, (str2 8 (byte2 s).2).2) else (⟨(byte2 s).1, 0, ⟨#[]⟩⟩, (byte2 s).2)
def rdE2 (s : Rd2) : Nat → Rd2
 | 0 => s
 | k + 1 => (val2 (rdE2 s k)).2
def vE2 (s : Rd2) (j : Nat) : ValM := (val2 (rdE2 s j)).1
def evE2 (s : Rd2) (k : Nat) : EvM := ⟨if 0 < k then vE2 s 0 else zV, if 1 < k then vE2 s 1 else zV, if 2 < k then vE2 s 2 else zV, if 3 < k then vE2 s 3 else zV⟩
theorem val2_in {s : Rd2} (h : In2 s) : In2 (val2 s).2 := by
 have hb := byte2_in h
 unfold val2
 split
 ·exact uint2_in hb
 ·split
  ·exact str2_in hb
  ·exact hb
theorem rdE2_in {s : Rd2} (h : In2 s) : ∀ k, In2 (rdE2 s k)
 | 0 => h
 | k + 1 => val2_in (rdE2_in h k)
theorem val2_1 (s : Rd2) : (val2 s).2.1 = s.1 := by
 unfold val2
 split
 ·rw [uint2_1, byte2_1]
 ·split
  ·rw [str2_1, byte2_1]
  ·exact byte2_1 s
theorem rdE2_1 (s : Rd2) : ∀ k, (rdE2 s k).1 = s.1
 | 0 => rfl
 | k + 1 => by rw [rdE2, val2_1, rdE2_1 s k]
theorem val2_abs {s : Rd2} (h : In2 s) : (val2 s).1 = (valR (abs2 s)).1 ∧ abs2 (val2 s).2 = (valR (abs2 s)).2 := by
 obtain ⟨b1, b2⟩ := byte2_abs s
 obtain ⟨u1, u2⟩ := uint2_abs (byte2 s).2
 obtain ⟨s1, s2⟩ := str2_abs 8 (byte2 s).2 (byte2_in h)
 rw [b2] at u1 u2 s1 s2
 unfold val2 valR
 rw [b1]
 by_cases c1 : (byteR (abs2 s)).1 = 1
 ·rw [if_pos c1, if_pos c1, u1]
  exact ⟨rfl, u2⟩
 ·rw [if_neg c1, if_neg c1]
  by_cases c2 : (byteR (abs2 s)).1 = 2
  ·rw [if_pos c2, if_pos c2, s1]
   exact ⟨rfl, s2⟩
  ·rw [if_neg c2, if_neg c2]
   exact ⟨rfl, b2⟩
theorem rdE2_abs {s : Rd2} (h : In2 s) : ∀ k, abs2 (rdE2 s k) = rdK (abs2 s) k
 | 0 => rfl
 | k + 1 => by rw [rdE2, (val2_abs (rdE2_in h k)).2, rdE2_abs h k, rdK]
theorem evE2_abs {s : Rd2} (h : In2 s) (k : Nat) : evE2 s k = evK (abs2 s) k := by
 have e : ∀ j, vE2 s j = vK (abs2 s) j := fun j => by
  unfold vE2 vK
  rw [(val2_abs (rdE2_in h j)).1, rdE2_abs h j]
 unfold evE2 evK
 rw [e 0, e 1, e 2, e 3]
def EvR (s : Rd2) (r : D) (hp : List (Nat × List D)) (tg : List (Tag × Bool)) : Prop :=
 ∃ s' : Rd2, hp = [(1000000, rd2C s')] ∧ tg = [] ∧ s'.1 = s.1 ∧ In2 s' ∧ r = .tup [.agg (evC (takeEX (abs2 s)).1), .val (.bool (decide ((takeEX (abs2 s)).2.2 = 0)))] ∧ ((takeEX (abs2 s)).2.2 = 0 → abs2 s' = (takeEX (abs2 s)).2)
set_option maxHeartbeats 4000000 in
theorem kTakeE8 (s : Rd2) (h : In2 s) : ObjAt Tryz.prog 44 ⟨[(0, .ptr 1000000 0)], [(1000000, rd2C s)], []⟩ 1 (EvR s) := by
 refine obj_of [1000000] [] r44 (by kernel_rfl) ?_
 unfold m44
 simp only [go_sem, Nat.reduceEqDiff, Nat.reduceAdd, Nat.reduceLeDiff, decide_false, true_and, ↓reduceIte]
 refine loop_N 4 (fun _ => True) (fun k => ⟨[(0, .ptr 1000000 0), (2, .ptr 2 0), (4, .ptr 4 0), (5, .val (.int .i64 (z4 k)))], [(2, evC zE), (4, evC (evE2 s k)), (1000000, rd2C (rdE2 s k))], []⟩) trivial (by simp only [go_sem, Nat.reduceEqDiff]; rfl) ?_
 rintro k hk -
 have hin := rdE2_in h
 have hk5 : k = 0 ∨ k = 1 ∨ k = 2 ∨ k = 3 ∨ k = 4 := by omega
 rcases hk5 with rfl | rfl | rfl | rfl | rfl
 ·simp only [evC, evE2, go_sem, Nat.reduceEqDiff, z4, Int.reduceLT, decide_true, Nat.reduceLT, Nat.lt_irrefl, ↓reduceIte]
  have hnx : rdE2 s (0 + 1) = (val2 (rdE2 s 0)).2 := rfl
  have hvx : vE2 s 0 = (val2 (rdE2 s 0)).1 := rfl
  have hri := hin 0
  generalize hr : rdE2 s 0 = r at *
  refine callO_eq rfl rfl rfl rfl rfl (kr2Byte r hri) ?_
  have hb := byte2_lt r
  have hbi := byte2_in hri
  have wk : IntKind.i64.wrap ((byte2 r).1 : Int) = ((byte2 r).1 : Int) := wrap64 (by omega) (by omega)
  have b1 : (((byte2 r).1 : Int) == 1) = decide ((byte2 r).1 = 1) := by rw [Bool.eq_iff_iff]; simp; omega
  have b2 : (((byte2 r).1 : Int) == 2) = decide ((byte2 r).1 = 2) := by rw [Bool.eq_iff_iff]; simp; omega
  simp only [wk, b1, go_sem, Nat.reduceEqDiff, Nat.reduceAdd, Nat.reduceLeDiff, Int.reduceLT, Int.toNat_zero, Int.le_refl, decide_true, decide_false, c4, Nat.reduceMul, true_and, and_self, ↓reduceIte]
  cases c1 : decide ((byte2 r).1 = 1)
  ·have n1 := of_decide_eq_false c1
   simp only [b2, go_sem, Nat.reduceEqDiff, Nat.reduceAdd, Int.reduceLT, Int.toNat_zero, Int.le_refl, c4, Nat.reduceMul, and_self, ↓reduceIte]
   cases c2 : decide ((byte2 r).1 = 2)
   ·have n2 := of_decide_eq_false c2
    have hv : val2 r = (⟨(byte2 r).1, 0, ⟨#[]⟩⟩, (byte2 r).2) := by unfold val2; rw [if_neg n1, if_neg n2]
    rw [hv] at hnx hvx
    simp only [go_sem, Nat.reduceEqDiff, Int.reduceAdd, wr1, ↓reduceIte]
    refine invN_next (by omega) trivial ?_
    simp only [hnx, hvx, go_sem, Nat.reduceEqDiff, Nat.reduceAdd, Nat.reduceLT, Nat.lt_irrefl, ↓reduceIte]
    try rfl
   ·have n2 := of_decide_eq_true c2
    have hv : val2 r = (⟨2, 0, lb (str2 8 (byte2 r).2).1⟩, (str2 8 (byte2 r).2).2) := by unfold val2; rw [if_neg n1, if_pos n2]
    rw [hv] at hnx hvx
    simp only [go_sem, Nat.reduceEqDiff, ↓reduceIte]
    refine callO_eq rfl rfl rfl rfl rfl (kr2Str 8 (by omega) (byte2 r).2 hbi) ?_
    simp only [go_sem, Nat.reduceEqDiff, Nat.reduceAdd, Nat.reduceLeDiff, Int.reduceLT, Int.toNat_zero, Int.le_refl, Int.reduceAdd, decide_true, decide_false, wr1, c4, Nat.reduceMul, true_and, and_self, ↓reduceIte]
    refine invN_next (by omega) trivial ?_
    simp only [hnx, hvx, n2, go_sem, Nat.reduceEqDiff, Nat.reduceAdd, Nat.reduceLT, Nat.lt_irrefl, ↓reduceIte]
    try rfl
  ·have n1 := of_decide_eq_true c1
   have hv : val2 r = (⟨1, unfoldN (uint2 (byte2 r).2).1, ⟨#[]⟩⟩, (uint2 (byte2 r).2).2) := by unfold val2; rw [if_pos n1]
   rw [hv] at hnx hvx
   simp only [go_sem, Nat.reduceEqDiff, ↓reduceIte]
   refine callO_eq rfl rfl rfl rfl rfl (kr2Int (byte2 r).2 hbi) ?_
   have c2 : decide ((byte2 r).1 = 2) = false := decide_eq_false (by rw [n1]; decide)
   simp only [b2, go_sem, Nat.reduceEqDiff, Nat.reduceAdd, Nat.reduceLeDiff, Int.reduceLT, Int.toNat_zero, Int.le_refl, Int.reduceAdd, decide_true, decide_false, wr1, c2, c4, Nat.reduceMul, true_and, and_self, ↓reduceIte]
   refine invN_next (by omega) trivial ?_
   simp only [hnx, hvx, n1, go_sem, Nat.reduceEqDiff, Nat.reduceAdd, Nat.reduceLT, Nat.lt_irrefl, ↓reduceIte]
   try rfl
 ·simp only [evC, evE2, go_sem, Nat.reduceEqDiff, z4, Int.reduceLT, decide_true, Nat.reduceLT, Nat.lt_irrefl, ↓reduceIte]
  have hnx : rdE2 s (1 + 1) = (val2 (rdE2 s 1)).2 := rfl
  have hvx : vE2 s 1 = (val2 (rdE2 s 1)).1 := rfl
  have hri := hin 1
  generalize hr : rdE2 s 1 = r at *
  refine callO_eq rfl rfl rfl rfl rfl (kr2Byte r hri) ?_
  have hb := byte2_lt r
  have hbi := byte2_in hri
  have wk : IntKind.i64.wrap ((byte2 r).1 : Int) = ((byte2 r).1 : Int) := wrap64 (by omega) (by omega)
  have b1 : (((byte2 r).1 : Int) == 1) = decide ((byte2 r).1 = 1) := by rw [Bool.eq_iff_iff]; simp; omega
  have b2 : (((byte2 r).1 : Int) == 2) = decide ((byte2 r).1 = 2) := by rw [Bool.eq_iff_iff]; simp; omega
  simp only [wk, b1, go_sem, Nat.reduceEqDiff, Nat.reduceAdd, Nat.reduceLeDiff, Int.reduceLT, Int.reduceLE, Int.reduceToNat, decide_true, decide_false, c4, Nat.reduceMul, true_and, and_self, ↓reduceIte]
  cases c1 : decide ((byte2 r).1 = 1)
  ·have n1 := of_decide_eq_false c1
   simp only [b2, go_sem, Nat.reduceEqDiff, Nat.reduceAdd, Int.reduceLT, Int.reduceLE, Int.reduceToNat, c4, Nat.reduceMul, and_self, ↓reduceIte]
   cases c2 : decide ((byte2 r).1 = 2)
   ·have n2 := of_decide_eq_false c2
    have hv : val2 r = (⟨(byte2 r).1, 0, ⟨#[]⟩⟩, (byte2 r).2) := by unfold val2; rw [if_neg n1, if_neg n2]
    rw [hv] at hnx hvx
    simp only [go_sem, Nat.reduceEqDiff, Int.reduceAdd, wr2, ↓reduceIte]
    refine invN_next (by omega) trivial ?_
    simp only [hnx, hvx, go_sem, Nat.reduceEqDiff, Nat.reduceAdd, Nat.reduceLT, Nat.lt_irrefl, ↓reduceIte]
    try rfl
   ·have n2 := of_decide_eq_true c2
    have hv : val2 r = (⟨2, 0, lb (str2 8 (byte2 r).2).1⟩, (str2 8 (byte2 r).2).2) := by unfold val2; rw [if_neg n1, if_pos n2]
    rw [hv] at hnx hvx
    simp only [go_sem, Nat.reduceEqDiff, ↓reduceIte]
    refine callO_eq rfl rfl rfl rfl rfl (kr2Str 8 (by omega) (byte2 r).2 hbi) ?_
    simp only [go_sem, Nat.reduceEqDiff, Nat.reduceAdd, Nat.reduceLeDiff, Int.reduceLT, Int.reduceLE, Int.reduceToNat, Int.reduceAdd, decide_true, decide_false, wr2, c4, Nat.reduceMul, true_and, and_self, ↓reduceIte]
    refine invN_next (by omega) trivial ?_
    simp only [hnx, hvx, n2, go_sem, Nat.reduceEqDiff, Nat.reduceAdd, Nat.reduceLT, Nat.lt_irrefl, ↓reduceIte]
    try rfl
  ·have n1 := of_decide_eq_true c1
   have hv : val2 r = (⟨1, unfoldN (uint2 (byte2 r).2).1, ⟨#[]⟩⟩, (uint2 (byte2 r).2).2) := by unfold val2; rw [if_pos n1]
   rw [hv] at hnx hvx
   simp only [go_sem, Nat.reduceEqDiff, ↓reduceIte]
   refine callO_eq rfl rfl rfl rfl rfl (kr2Int (byte2 r).2 hbi) ?_
   have c2 : decide ((byte2 r).1 = 2) = false := decide_eq_false (by rw [n1]; decide)
   simp only [b2, go_sem, Nat.reduceEqDiff, Nat.reduceAdd, Nat.reduceLeDiff, Int.reduceLT, Int.reduceLE, Int.reduceToNat, Int.reduceAdd, decide_true, decide_false, wr2, c2, c4, Nat.reduceMul, true_and, and_self, ↓reduceIte]
   refine invN_next (by omega) trivial ?_
   simp only [hnx, hvx, n1, go_sem, Nat.reduceEqDiff, Nat.reduceAdd, Nat.reduceLT, Nat.lt_irrefl, ↓reduceIte]
   try rfl
 ·simp only [evC, evE2, go_sem, Nat.reduceEqDiff, z4, Int.reduceLT, decide_true, Nat.reduceLT, Nat.lt_irrefl, ↓reduceIte]
  have hnx : rdE2 s (2 + 1) = (val2 (rdE2 s 2)).2 := rfl
  have hvx : vE2 s 2 = (val2 (rdE2 s 2)).1 := rfl
  have hri := hin 2
  generalize hr : rdE2 s 2 = r at *
  refine callO_eq rfl rfl rfl rfl rfl (kr2Byte r hri) ?_
  have hb := byte2_lt r
  have hbi := byte2_in hri
  have wk : IntKind.i64.wrap ((byte2 r).1 : Int) = ((byte2 r).1 : Int) := wrap64 (by omega) (by omega)
  have b1 : (((byte2 r).1 : Int) == 1) = decide ((byte2 r).1 = 1) := by rw [Bool.eq_iff_iff]; simp; omega
  have b2 : (((byte2 r).1 : Int) == 2) = decide ((byte2 r).1 = 2) := by rw [Bool.eq_iff_iff]; simp; omega
  simp only [wk, b1, go_sem, Nat.reduceEqDiff, Nat.reduceAdd, Nat.reduceLeDiff, Int.reduceLT, Int.reduceLE, Int.reduceToNat, decide_true, decide_false, c4, Nat.reduceMul, true_and, and_self, ↓reduceIte]
  cases c1 : decide ((byte2 r).1 = 1)
  ·have n1 := of_decide_eq_false c1
   simp only [b2, go_sem, Nat.reduceEqDiff, Nat.reduceAdd, Int.reduceLT, Int.reduceLE, Int.reduceToNat, c4, Nat.reduceMul, and_self, ↓reduceIte]
   cases c2 : decide ((byte2 r).1 = 2)
   ·have n2 := of_decide_eq_false c2
    have hv : val2 r = (⟨(byte2 r).1, 0, ⟨#[]⟩⟩, (byte2 r).2) := by unfold val2; rw [if_neg n1, if_neg n2]
    rw [hv] at hnx hvx
    simp only [go_sem, Nat.reduceEqDiff, Int.reduceAdd, wr3, ↓reduceIte]
    refine invN_next (by omega) trivial ?_
    simp only [hnx, hvx, go_sem, Nat.reduceEqDiff, Nat.reduceAdd, Nat.reduceLT, Nat.lt_irrefl, ↓reduceIte]
    try rfl
   ·have n2 := of_decide_eq_true c2
    have hv : val2 r = (⟨2, 0, lb (str2 8 (byte2 r).2).1⟩, (str2 8 (byte2 r).2).2) := by unfold val2; rw [if_neg n1, if_pos n2]
    rw [hv] at hnx hvx
    simp only [go_sem, Nat.reduceEqDiff, ↓reduceIte]
    refine callO_eq rfl rfl rfl rfl rfl (kr2Str 8 (by omega) (byte2 r).2 hbi) ?_
    simp only [go_sem, Nat.reduceEqDiff, Nat.reduceAdd, Nat.reduceLeDiff, Int.reduceLT, Int.reduceLE, Int.reduceToNat, Int.reduceAdd, decide_true, decide_false, wr3, c4, Nat.reduceMul, true_and, and_self, ↓reduceIte]
    refine invN_next (by omega) trivial ?_
    simp only [hnx, hvx, n2, go_sem, Nat.reduceEqDiff, Nat.reduceAdd, Nat.reduceLT, Nat.lt_irrefl, ↓reduceIte]
    try rfl
  ·have n1 := of_decide_eq_true c1
   have hv : val2 r = (⟨1, unfoldN (uint2 (byte2 r).2).1, ⟨#[]⟩⟩, (uint2 (byte2 r).2).2) := by unfold val2; rw [if_pos n1]
   rw [hv] at hnx hvx
   simp only [go_sem, Nat.reduceEqDiff, ↓reduceIte]
   refine callO_eq rfl rfl rfl rfl rfl (kr2Int (byte2 r).2 hbi) ?_
   have c2 : decide ((byte2 r).1 = 2) = false := decide_eq_false (by rw [n1]; decide)
   simp only [b2, go_sem, Nat.reduceEqDiff, Nat.reduceAdd, Nat.reduceLeDiff, Int.reduceLT, Int.reduceLE, Int.reduceToNat, Int.reduceAdd, decide_true, decide_false, wr3, c2, c4, Nat.reduceMul, true_and, and_self, ↓reduceIte]
   refine invN_next (by omega) trivial ?_
   simp only [hnx, hvx, n1, go_sem, Nat.reduceEqDiff, Nat.reduceAdd, Nat.reduceLT, Nat.lt_irrefl, ↓reduceIte]
   try rfl
 ·simp only [evC, evE2, go_sem, Nat.reduceEqDiff, z4, Int.reduceLT, decide_true, Nat.reduceLT, Nat.lt_irrefl, ↓reduceIte]
  have hnx : rdE2 s (3 + 1) = (val2 (rdE2 s 3)).2 := rfl
  have hvx : vE2 s 3 = (val2 (rdE2 s 3)).1 := rfl
  have hri := hin 3
  generalize hr : rdE2 s 3 = r at *
  refine callO_eq rfl rfl rfl rfl rfl (kr2Byte r hri) ?_
  have hb := byte2_lt r
  have hbi := byte2_in hri
  have wk : IntKind.i64.wrap ((byte2 r).1 : Int) = ((byte2 r).1 : Int) := wrap64 (by omega) (by omega)
  have b1 : (((byte2 r).1 : Int) == 1) = decide ((byte2 r).1 = 1) := by rw [Bool.eq_iff_iff]; simp; omega
  have b2 : (((byte2 r).1 : Int) == 2) = decide ((byte2 r).1 = 2) := by rw [Bool.eq_iff_iff]; simp; omega
  simp only [wk, b1, go_sem, Nat.reduceEqDiff, Nat.reduceAdd, Nat.reduceLeDiff, Int.reduceLT, Int.reduceLE, Int.reduceToNat, decide_true, decide_false, c4, Nat.reduceMul, true_and, and_self, ↓reduceIte]
  cases c1 : decide ((byte2 r).1 = 1)
  ·have n1 := of_decide_eq_false c1
   simp only [b2, go_sem, Nat.reduceEqDiff, Nat.reduceAdd, Int.reduceLT, Int.reduceLE, Int.reduceToNat, c4, Nat.reduceMul, and_self, ↓reduceIte]
   cases c2 : decide ((byte2 r).1 = 2)
   ·have n2 := of_decide_eq_false c2
    have hv : val2 r = (⟨(byte2 r).1, 0, ⟨#[]⟩⟩, (byte2 r).2) := by unfold val2; rw [if_neg n1, if_neg n2]
    rw [hv] at hnx hvx
    simp only [go_sem, Nat.reduceEqDiff, Int.reduceAdd, wr4, ↓reduceIte]
    refine invN_next (by omega) trivial ?_
    simp only [hnx, hvx, go_sem, Nat.reduceEqDiff, Nat.reduceAdd, Nat.reduceLT, ↓reduceIte]
    try rfl
   ·have n2 := of_decide_eq_true c2
    have hv : val2 r = (⟨2, 0, lb (str2 8 (byte2 r).2).1⟩, (str2 8 (byte2 r).2).2) := by unfold val2; rw [if_neg n1, if_pos n2]
    rw [hv] at hnx hvx
    simp only [go_sem, Nat.reduceEqDiff, ↓reduceIte]
    refine callO_eq rfl rfl rfl rfl rfl (kr2Str 8 (by omega) (byte2 r).2 hbi) ?_
    simp only [go_sem, Nat.reduceEqDiff, Nat.reduceAdd, Nat.reduceLeDiff, Int.reduceLT, Int.reduceLE, Int.reduceToNat, Int.reduceAdd, decide_true, decide_false, wr4, c4, Nat.reduceMul, true_and, and_self, ↓reduceIte]
    refine invN_next (by omega) trivial ?_
    simp only [hnx, hvx, n2, go_sem, Nat.reduceEqDiff, Nat.reduceAdd, Nat.reduceLT, ↓reduceIte]
    try rfl
  ·have n1 := of_decide_eq_true c1
   have hv : val2 r = (⟨1, unfoldN (uint2 (byte2 r).2).1, ⟨#[]⟩⟩, (uint2 (byte2 r).2).2) := by unfold val2; rw [if_pos n1]
   rw [hv] at hnx hvx
   simp only [go_sem, Nat.reduceEqDiff, ↓reduceIte]
   refine callO_eq rfl rfl rfl rfl rfl (kr2Int (byte2 r).2 hbi) ?_
   have c2 : decide ((byte2 r).1 = 2) = false := decide_eq_false (by rw [n1]; decide)
   simp only [b2, go_sem, Nat.reduceEqDiff, Nat.reduceAdd, Nat.reduceLeDiff, Int.reduceLT, Int.reduceLE, Int.reduceToNat, Int.reduceAdd, decide_true, decide_false, wr4, c2, c4, Nat.reduceMul, true_and, and_self, ↓reduceIte]
   refine invN_next (by omega) trivial ?_
   simp only [hnx, hvx, n1, go_sem, Nat.reduceEqDiff, Nat.reduceAdd, Nat.reduceLT, ↓reduceIte]
   try rfl
 ·have e1 := evE2_abs h 4
  have e2 := rdE2_abs h 4
  have h1 := rdE2_1 s 4
  have hi4 := hin 4
  have e3 := abs2_err (rdE2 s 4)
  have hX : takeEX (abs2 s) = (if (if rightE (evE2 s 4) = true then abs2 (rdE2 s 4) else failR (abs2 (rdE2 s 4)) 2).2 = 0 then evE2 s 4 else zE, if rightE (evE2 s 4) = true then abs2 (rdE2 s 4) else failR (abs2 (rdE2 s 4)) 2) := by unfold takeEX; rw [e1, e2]
  clear e1 e2 hin
  generalize hE : evE2 s 4 = E at *
  generalize hR : rdE2 s 4 = r at *
  have zz : evC zE = [.val (.int .i64 0), .val (.int .i64 0), .val (.string ⟨#[]⟩), .val (.int .i64 0), .val (.int .i64 0), .val (.string ⟨#[]⟩), .val (.int .i64 0), .val (.int .i64 0), .val (.string ⟨#[]⟩), .val (.int .i64 0), .val (.int .i64 0), .val (.string ⟨#[]⟩)] := rfl
  have bad : (takeEX (abs2 s)).2.2 ≠ 0 → takeEX (abs2 s) = (zE, (takeEX (abs2 s)).2) → EvR s (.tup [.agg (evC zE), .val (.bool false)]) [(1000000, rd2C r)] [] := fun hb hx => by
   refine ⟨r, rfl, rfl, h1, hi4, ?_, fun h => absurd h hb⟩
   rw [decide_eq_false hb, hx]
  simp only [rd2C, go_sem, Nat.reduceEqDiff, Nat.reduceAdd, z4, Int.reduceLT, decide_false, ↓reduceIte]
  cases c0 : r.2.2 == 0
  ·have n0 : ¬ r.2.2 = 0 := by simpa using c0
   have hne : (if rightE E = true then abs2 r else failR (abs2 r) 2).2 ≠ 0 := by
    split
    ·rw [e3]; exact n0
    ·exact failR_ne _ _ (by decide)
   rw [if_neg hne] at hX
   have := bad (by rw [hX]; exact hne) (by rw [hX])
   simp only [bne, Bool.not_false, evC, finO, go_sem, Nat.reduceEqDiff, Nat.reduceAdd, Nat.reduceLeDiff, c0, true_and, ↓reduceIte]
   rw [zz] at this
   exact this
  ·have n0 : r.2.2 = 0 := by simpa using c0
   simp only [bne, Bool.not_true, evC, go_sem, Nat.reduceEqDiff, Nat.reduceAdd, Nat.reduceLeDiff, c0, ↓reduceIte]
   refine callP_eq rfl rfl (kref1Event E) ?_
   cases c1 : rightE E
   ·have k : (if rightE E = true then abs2 r else failR (abs2 r) 2) = failR (abs2 r) 2 := if_neg (by rw [c1]; simp)
    rw [k] at hX
    have hne := failR_ne (abs2 r) 2 (by decide)
    rw [if_neg hne] at hX
    have := bad (by rw [hX]; exact hne) (by rw [hX])
    simp only [Bool.not_false, finO, go_sem, Nat.reduceEqDiff, Nat.reduceAdd, Nat.reduceLeDiff, true_and, ↓reduceIte]
    rw [zz] at this
    exact this
   ·have k : (if rightE E = true then abs2 r else failR (abs2 r) 2) = abs2 r := if_pos c1
    rw [k, e3, if_pos n0] at hX
    simp only [Bool.not_true, finO, go_sem, Nat.reduceEqDiff, Nat.reduceAdd, Nat.reduceLeDiff, true_and, ↓reduceIte]
    refine ⟨r, rfl, rfl, h1, hi4, ?_, fun _ => by rw [hX]⟩
    rw [hX]
    simp only
    rw [decide_eq_true (by rw [e3]; exact n0)]
    rfl
end Go.Proofs

namespace Go.Proofs
open Go.Vm
set_option linter.unusedSimpArgs false
theorem uintG_forth : ∀ (l : List UInt8) (first : Bool) (m : Nat), (first = true → m = 0) → (first = false → m ≠ 0) → (uintG first m l).2.2 = 0 → (encHi m).map UInt8.ofNat ++ l = encB (uintG first m l).1 ++ (uintG first m l).2.1
 | [], first, m, _, _, h => by simp [uintG] at h
 | c :: t, first, m, h1, h2, h => by
  have hc := UInt8.toNat_lt c
  unfold uintG at h ⊢
  by_cases k1 : (first && c.toNat == 128) = true
  ·rw [if_pos k1] at h; simp at h
  ·rw [if_neg k1] at h ⊢
   by_cases k2 : 144115188075855871 < m
   ·rw [if_pos k2] at h; simp at h
   ·rw [if_neg k2] at h ⊢
    by_cases k3 : c.toNat < 128
    ·rw [if_pos k3] at h ⊢
     simp only
     rw [encB, encN, show (m * 128 + c.toNat) / 128 = m by omega, show (m * 128 + c.toNat) % 128 = c.toNat by omega, List.map_append, List.append_assoc]
     simp
    ·rw [if_neg k3] at h ⊢
     have hm : m * 128 + (c.toNat - 128) ≠ 0 := by
      intro h0
      have hm0 : m = 0 := by omega
      have hc0 : c.toNat = 128 := by omega
      cases first with
      | true => simp [hc0] at k1
      | false => exact h2 rfl hm0
     have ih := uintG_forth t false (m * 128 + (c.toNat - 128)) (fun h => by cases h) (fun _ => hm) h
     rw [← ih]
     conv => rhs; rw [encHi]
     rw [dif_neg hm, show (m * 128 + (c.toNat - 128)) / 128 = m by omega, show (m * 128 + (c.toNat - 128)) % 128 + 128 = c.toNat by omega]
     simp
theorem uint_forth {s : Rdr} (h : (uintR s).2.2 = 0) : s.2 = 0 ∧ s.1 = encB (uintR s).1 ++ (uintR s).2.1 := by
 by_cases h0 : s.2 = 0
 ·refine ⟨h0, ?_⟩
  unfold uintR at h ⊢
  rw [if_pos h0] at h ⊢
  have := uintG_forth s.1 true 0 (fun _ => rfl) (fun h => by cases h) h
  rw [encHi, dif_pos rfl] at this
  exact this
 ·rw [uintR_stop h0] at h
  exact absurd h h0
theorem fold_unfold {n : Nat} : foldN (unfoldN n) = n := by
 unfold foldN unfoldN
 split <;> split <;> omega
theorem rg_forth {s : Rdr} (h : (rgR s).2.2 = 0) : s.2 = 0 ∧ s.1 = rgB (rgR s).1 ++ (rgR s).2.1 := by
 unfold rgR at h ⊢
 obtain ⟨h1, h2⟩ := uint_forth h
 obtain ⟨h3, h4⟩ := uint_forth h1
 refine ⟨h3, ?_⟩
 rw [rgB]
 simp only
 rw [fold_unfold, fold_unfold, List.append_assoc, ← h2, ← h4]
theorem rgs_forth : ∀ (k : Nat) (s : Rdr), (rdRgs s k).2.2 = 0 → s.2 = 0 ∧ s.1 = (rdRgs s k).1.flatMap rgB ++ (rdRgs s k).2.1
 | 0, s, h => ⟨h, by simp [rdRgs]⟩
 | k + 1, s, h => by
  rw [rdRgs_head] at h ⊢
  obtain ⟨h1, h2⟩ := rgs_forth k _ h
  obtain ⟨h3, h4⟩ := rg_forth h1
  refine ⟨h3, ?_⟩
  rw [List.flatMap_cons, List.append_assoc]
  simp only
  rw [← h2, ← h4]
theorem str_forth {m : Nat} {s : Rdr} (h : (strR m s).2.2 = 0) : s.2 = 0 ∧ s.1 = strB (lb (strR m s).1) ++ (strR m s).2.1 := by
 unfold strR at h ⊢
 by_cases h0 : (strS m s).2 = 0
 ·rw [if_pos h0]
  unfold strS at h0 ⊢
  by_cases c1 : m < (uintR s).1
  ·rw [if_pos c1] at h0
   exact absurd h0 (failR_ne _ _ (by decide))
  ·rw [if_neg c1] at h0 ⊢
   by_cases c2 : (uintR s).2.1.length < (uintR s).1
   ·rw [if_pos c2] at h0
    exact absurd h0 (failR_ne _ _ (by decide))
   ·rw [if_neg c2] at h0 ⊢
    obtain ⟨h1, h2⟩ := uint_forth h0
    refine ⟨h1, ?_⟩
    have e : bl (lb ((uintR s).2.1.take (uintR s).1)) = (uintR s).2.1.take (uintR s).1 := by simp [bl, lb]
    rw [strB, size_lb, e, List.length_take, Nat.min_eq_left (by omega), List.append_assoc]
    simp only
    rw [List.take_append_drop]
    exact h2
 ·rw [if_neg h0] at h
  exact absurd h h0
theorem strs_forth : ∀ (k : Nat) (s : Rdr), (rdStrs s k).2.2 = 0 → s.2 = 0 ∧ s.1 = (rdStrs s k).1.flatMap strB ++ (rdStrs s k).2.1
 | 0, s, h => ⟨h, by simp [rdStrs]⟩
 | k + 1, s, h => by
  rw [rdStrs_head] at h ⊢
  obtain ⟨h1, h2⟩ := strs_forth k _ h
  obtain ⟨h3, h4⟩ := str_forth h1
  refine ⟨h3, ?_⟩
  rw [List.flatMap_cons, List.append_assoc]
  simp only
  rw [← h2, ← h4]
theorem count_forth {m : Nat} {s : Rdr} (h : (countR m s).2.2 = 0) : s.2 = 0 ∧ s.1 = encB (countR m s).1 ++ (countR m s).2.1 := by
 unfold countR at h ⊢
 by_cases c1 : m < (uintR s).1
 ·rw [if_pos c1] at h
  exact absurd h (failR_ne _ _ (by decide))
 ·rw [if_neg c1] at h ⊢
  exact uint_forth h
theorem byte_forth {s : Rdr} (h : (byteR s).2.2 = 0) : s.2 = 0 ∧ s.1 = UInt8.ofNat (byteR s).1 :: (byteR s).2.1 := by
 obtain ⟨l, e⟩ := s
 cases l with
 | nil => exact absurd h (failR_ne _ _ (by decide))
 | cons c t => exact ⟨h, by simp [byteR]⟩
theorem flag_forth : ∀ c, c ≤ 3 → ∀ is ss, flagN ⟨absN c, is, coN c, ss⟩ = c
 | 0, _, _, _ => rfl
 | 1, _, _, _ => rfl
 | 2, _, _, _ => rfl
 | 3, _, _, _ => rfl
 | c + 4, h, _, _ => by omega
theorem set_forth {s : Rdr} (h : (takeSX s).2.2 = 0) : s.2 = 0 ∧ s.1 = setB (takeSX s).1 ++ (takeSX s).2.1 := by
 change (ssR s).2.2 = 0 at h
 have h' := h
 unfold ssR at h'
 obtain ⟨h1, h2⟩ := strs_forth _ _ h'
 obtain ⟨h3, h4⟩ := count_forth h1
 have h3' := h3
 unfold isR at h3'
 obtain ⟨h5, h6⟩ := rgs_forth _ _ h3'
 obtain ⟨h7, h8⟩ := count_forth h5
 by_cases c3 : 3 < (byteR s).1
 ·unfold flR at h7
  rw [if_pos c3] at h7
  exact absurd h7 (failR_ne _ _ (by decide))
 ·have hf : flR s = (byteR s).2 := by unfold flR; rw [if_neg c3]
  rw [hf] at h7 h8
  obtain ⟨h9, h10⟩ := byte_forth h7
  refine ⟨h9, ?_⟩
  have n1 := rdRgs_n (countR 6 (flR s)).2 (countR 6 (flR s)).1
  have n2 := rdStrs_n (countR 6 (isR s).2).2 (countR 6 (isR s).2).1
  have e1 : (isR s).1.length = (countR 6 (flR s)).1 := n1
  have e2 : (ssR s).1.length = (countR 6 (isR s).2).1 := n2
  unfold takeSX setB
  simp only
  rw [flag_forth _ (by omega), e1, e2, h10, h8, hf]
  rw [hf] at h6
  rw [h6]
  have h6' : (rdRgs (countR 6 (byteR s).2).2 (countR 6 (byteR s).2).1) = isR s := by unfold isR; rw [hf]
  rw [h6', h4, h2]
  have h2' : rdStrs (countR 6 (isR s).2).2 (countR 6 (isR s).2).1 = ssR s := rfl
  rw [h2']
  simp
theorem rdS_forth : ∀ (k : Nat) (s : Rdr), (rdS s k).2 = 0 → s.2 = 0 ∧ s.1 = ((List.range k).flatMap fun j => setB (sK s j)) ++ (rdS s k).1
 | 0, s, h => ⟨h, by simp [rdS]⟩
 | k + 1, s, h => by
  obtain ⟨h1, h2⟩ := set_forth h
  obtain ⟨h3, h4⟩ := rdS_forth k s h1
  refine ⟨h3, ?_⟩
  rw [List.range_succ, List.flatMap_append, List.append_assoc]
  rw [h2] at h4
  simpa [rdS, sK] using h4
theorem bx_forth {s : Rdr} (h : (bxR s).2.2 = 0) : s.2 = 0 ∧ s.1 = boxB (bxR s).1 ++ (bxR s).2.1 := by
 rw [bxR_2] at h ⊢
 obtain ⟨h1, h2⟩ := rdS_forth 4 s h
 refine ⟨h1, ?_⟩
 rw [boxB_four, bxR]
 simpa [List.range_succ] using h2
theorem bxs_forth (k : Nat) : ∀ (s : Rdr), (rdBoxes s k).2.2 = 0 → s.2 = 0 ∧ s.1 = (rdBoxes s k).1.flatMap boxB ++ (rdBoxes s k).2.1 := by
 induction k with
 | zero => exact fun s h => ⟨h, by simp [rdBoxes]⟩
 | succ k ih =>
  intro s h
  rw [rdBoxes_head] at h ⊢
  simp only at h ⊢
  obtain ⟨h1, h2⟩ := ih (bxR s).2 h
  obtain ⟨h3, h4⟩ := bx_forth (s := s) h1
  refine ⟨h3, ?_⟩
  rw [List.flatMap_cons, List.append_assoc, ← h2, ← h4]
theorem filter_forth {s : Rdr} (h : (takeFX s).2.2 = 0) : s.2 = 0 ∧ s.1 = filterB (takeFX s).1 ++ (takeFX s).2.1 ∧ rightF (takeFX s).1 = true ∧ ∀ b ∈ (takeFX s).1, BndB b := by
 change (takeFR s).2 = 0 at h
 have hX : takeFX s = ((filR s).1, takeFR s) := by unfold takeFX; rw [if_pos h]
 unfold takeFR at h
 by_cases c1 : (filR s).2.2 = 0 ∧ rightF (filR s).1 = false
 ·rw [if_pos c1] at h
  exact absurd h (failR_ne _ _ (by decide))
 ·rw [if_neg c1] at h
  have hR : takeFR s = (filR s).2 := by unfold takeFR; rw [if_neg c1]
  rw [hX, hR]
  have h' := h
  unfold filR at h'
  obtain ⟨h1, h2⟩ := bxs_forth _ _ h'
  obtain ⟨h3, h4⟩ := count_forth h1
  refine ⟨h3, ?_, ?_, ?_⟩
  ·have n1 : (filR s).1.length = (countR 4 s).1 := rdBoxes_n _ _
   simp only
   rw [filterB, n1, List.append_assoc, h4, h2]
   rfl
  ·cases hr : rightF (filR s).1
   ·exact absurd ⟨h, hr⟩ c1
   ·rfl
  ·exact fun b hb => (rdBoxes_ok _ _ b hb).2
theorem val_forth {s : Rdr} (h : (valR s).2.2 = 0) : s.2 = 0 ∧ s.1 = valB (valR s).1 ++ (valR s).2.1 ∧ InRange (valR s).1.n := by
 have z : InRange 0 := ⟨by omega, by omega⟩
 unfold valR at h ⊢
 by_cases c1 : (byteR s).1 = 1
 ·rw [if_pos c1] at h ⊢
  obtain ⟨h1, h2⟩ := uint_forth h
  obtain ⟨h3, h4⟩ := byte_forth h1
  refine ⟨h3, ?_, unfold_in (uintR_lt _)⟩
  rw [h4, h2, c1]
  simp [valB, fold_unfold]
 ·rw [if_neg c1] at h ⊢
  by_cases c2 : (byteR s).1 = 2
  ·rw [if_pos c2] at h ⊢
   obtain ⟨h1, h2⟩ := str_forth h
   obtain ⟨h3, h4⟩ := byte_forth h1
   refine ⟨h3, ?_, z⟩
   rw [h4, h2, c2]
   simp [valB]
  ·rw [if_neg c2] at h ⊢
   obtain ⟨h3, h4⟩ := byte_forth h
   refine ⟨h3, ?_, z⟩
   have k1 : ¬ (((byteR s).1 : Int) = 1) := by omega
   have k2 : ¬ (((byteR s).1 : Int) = 2) := by omega
   simp only [valB, if_neg k1, if_neg k2, Int.toNat_natCast]
   exact h4
theorem rdK_forth : ∀ (k : Nat) (s : Rdr), (rdK s k).2 = 0 → s.2 = 0 ∧ s.1 = ((List.range k).flatMap fun j => valB (vK s j)) ++ (rdK s k).1 ∧ ∀ j, j < k → InRange (vK s j).n
 | 0, s, h => ⟨h, by simp [rdK], fun j hj => by omega⟩
 | k + 1, s, h => by
  obtain ⟨h1, h2, h5⟩ := val_forth h
  obtain ⟨h3, h4, h6⟩ := rdK_forth k s h1
  refine ⟨h3, ?_, fun j hj => ?_⟩
  ·rw [List.range_succ, List.flatMap_append, List.append_assoc]
   rw [h2] at h4
   simpa [rdK, vK] using h4
  ·by_cases e : j = k
   ·subst e; exact h5
   ·exact h6 j (by omega)
theorem event_forth {s : Rdr} (h : (takeEX s).2.2 = 0) : s.2 = 0 ∧ s.1 = eventB (takeEX s).1 ++ (takeEX s).2.1 ∧ rightE (takeEX s).1 = true ∧ InE (takeEX s).1 := by
 unfold takeEX at h ⊢
 simp only at h ⊢
 cases hr : rightE (evK s 4)
 ·rw [hr, if_neg (by simp)] at h
  exact absurd h (failR_ne _ _ (by decide))
 ·rw [hr, if_pos rfl] at h
  rw [if_pos rfl, if_pos h]
  obtain ⟨h1, h2, h3⟩ := rdK_forth 4 s h
  refine ⟨h1, ?_, hr, fun i hi => ?_⟩
  ·simpa [eventB, valsB, List.range_succ, evK, EvM.at, at4] using h2
  ·rcases lt4 hi with rfl | rfl | rfl | rfl
   ·exact h3 0 (by omega)
   ·exact h3 1 (by omega)
   ·exact h3 2 (by omega)
   ·exact h3 3 (by omega)
end Go.Proofs

namespace Go.Proofs
open Go.Vm
set_option linter.unusedSimpArgs false
end Go.Proofs
