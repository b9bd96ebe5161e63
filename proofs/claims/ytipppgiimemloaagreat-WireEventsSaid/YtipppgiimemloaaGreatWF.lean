/- A part of the proof; what is proved stands in the last text. -/
import Derived.Test.YtipppgiimemloaaGreatWE
import Derived.Test.YtipppgiimemloaaGreatMT
set_option linter.unusedVariables false
set_option maxRecDepth 2000

namespace Go.Proofs
open Go.Vm
set_option linter.unusedSimpArgs false

def zV : ValM := ⟨0, 0, ⟨#[]⟩⟩
def zE : EvM := ⟨zV, zV, zV, zV⟩
def valR (s : Rdr) : ValM × Rdr :=
  if (byteR s).1 = 1 then (⟨1, unfoldN (uintR (byteR s).2).1, ⟨#[]⟩⟩, (uintR (byteR s).2).2)
  else if (byteR s).1 = 2 then (⟨2, 0, lb (strR 8 (byteR s).2).1⟩, (strR 8 (byteR s).2).2) else (⟨(byteR s).1, 0, ⟨#[]⟩⟩, (byteR s).2)
def rdK (s : Rdr) : Nat → Rdr
  | 0 => s
  | k + 1 => (valR (rdK s k)).2
def vK (s : Rdr) (j : Nat) : ValM := (valR (rdK s j)).1
def evK (s : Rdr) (k : Nat) : EvM := ⟨if 0 < k then vK s 0 else zV, if 1 < k then vK s 1 else zV, if 2 < k then vK s 2 else zV, if 3 < k then vK s 3 else zV⟩
def takeEX (s : Rdr) : EvM × Rdr :=
  let r := if rightE (evK s 4) = true then rdK s 4 else failR (rdK s 4) 2
  (if r.2 = 0 then evK s 4 else zE, r)
theorem failR_len (s : Rdr) (e : Int) : (failR s e).1.length ≤ s.1.length := by
  unfold failR; split <;> simp
theorem byteR_len (s : Rdr) : (byteR s).2.1.length ≤ s.1.length := by
  obtain ⟨l, e⟩ := s
  cases l with
  | nil => exact failR_len _ _
  | cons c l => simp [byteR]
theorem byteR_lt (s : Rdr) : (byteR s).1 < 256 := by
  obtain ⟨l, e⟩ := s
  cases l with
  | nil => simp [byteR]
  | cons c l => exact UInt8.toNat_lt c
theorem strS_len (m : Nat) (s : Rdr) : (strS m s).1.length ≤ s.1.length := by
  have := uintR_len s
  unfold strS
  split
  · exact Nat.le_trans (failR_len _ _) this
  · split
    · exact Nat.le_trans (failR_len _ _) this
    · exact this
theorem strR_len (m : Nat) (s : Rdr) : (strR m s).2.1.length ≤ s.1.length := by
  have := strS_len m s
  unfold strR
  split
  · simp; omega
  · exact this
theorem valR_len (s : Rdr) : (valR s).2.1.length ≤ s.1.length := by
  have h1 := byteR_len s
  unfold valR
  split
  · exact Nat.le_trans (uintR_len _) h1
  · split
    · exact Nat.le_trans (strR_len _ _) h1
    · exact h1
theorem rdK_len (s : Rdr) : ∀ k, (rdK s k).1.length ≤ s.1.length
  | 0 => Nat.le_refl _
  | k + 1 => Nat.le_trans (valR_len _) (rdK_len s k)
set_option maxHeartbeats 4000000 in
theorem krTakeEvent (s : Rdr) (hs : s.1.length ≤ 1000000) : RdAt 72 [] s (.agg (evC (takeEX s).1)) (takeEX s).2 := by
  refine obj_of [1000000] [] r72 (by kernel_rfl) ?_
  unfold m72
  simp only [go_sem, Nat.reduceEqDiff, Nat.reduceAdd, Nat.reduceLeDiff, List.length_map]
  refine loop_N 4 (fun _ => True) (fun k => ⟨[(0, .ptr 1000000 0), (2, .ptr 2 0), (5, .val (.int .i64 (z4 k)))], [(2, evC (evK s k)), (1000000, rdC (rdK s k))], []⟩) trivial (by simp only [go_sem, Nat.reduceEqDiff, Nat.reduceAdd, Nat.reduceLeDiff, List.length_map]; rfl) ?_
  rintro k hk -
  have hlen := rdK_len s k
  have hk5 : k = 0 ∨ k = 1 ∨ k = 2 ∨ k = 3 ∨ k = 4 := by omega
  rcases hk5 with rfl | rfl | rfl | rfl | rfl
  · simp only [evC, evK, go_sem, Nat.reduceEqDiff, Nat.reduceAdd, Nat.reduceLeDiff, List.length_map, z4, at4, BoxM.at, EvM.at, fillB, Int.reduceLT, Int.reduceLE, Int.reduceToNat, Int.toNat_zero, Int.le_refl, Int.reduceAdd, decide_true, decide_false, wr1, wr2, wr3, wr4, c0, c1, c2, c3, c4, Nat.reduceMul, Nat.reduceLT, Nat.lt_irrefl, true_and, and_self, ↓reduceIte]
    have hnx : rdK s (0 + 1) = (valR (rdK s 0)).2 := rfl
    have hvx : vK s 0 = (valR (rdK s 0)).1 := rfl
    generalize hr : rdK s 0 = r at *
    refine callO_eq rfl rfl rfl rfl rfl (krByte r) ?_
    have hb := byteR_lt r
    have hbl := byteR_len r
    have wk : IntKind.i64.wrap ((byteR r).1 : Int) = ((byteR r).1 : Int) := wrap64 (by omega) (by omega)
    have b1 : (((byteR r).1 : Int) == 1) = decide ((byteR r).1 = 1) := by rw [Bool.eq_iff_iff]; simp; omega
    have b2 : (((byteR r).1 : Int) == 2) = decide ((byteR r).1 = 2) := by rw [Bool.eq_iff_iff]; simp; omega
    simp only [wk, b1, b2, go_sem, Nat.reduceEqDiff, Nat.reduceAdd, Nat.reduceLeDiff, List.length_map, z4, at4, BoxM.at, EvM.at, fillB, Int.reduceLT, Int.reduceLE, Int.reduceToNat, Int.toNat_zero, Int.le_refl, Int.reduceAdd, decide_true, decide_false, wr1, wr2, wr3, wr4, c0, c1, c2, c3, c4, Nat.reduceMul, Nat.reduceLT, Nat.lt_irrefl, true_and, and_self, ↓reduceIte]
    cases c1 : decide ((byteR r).1 = 1)
    · have n1 := of_decide_eq_false c1
      simp only [c1, go_sem, Nat.reduceEqDiff, Nat.reduceAdd, Nat.reduceLeDiff, List.length_map, z4, at4, BoxM.at, EvM.at, fillB, Int.reduceLT, Int.reduceLE, Int.reduceToNat, Int.toNat_zero, Int.le_refl, Int.reduceAdd, decide_true, decide_false, wr1, wr2, wr3, wr4, c0, c1, c2, c3, c4, Nat.reduceMul, Nat.reduceLT, Nat.lt_irrefl, true_and, and_self, ↓reduceIte]
      cases c2 : decide ((byteR r).1 = 2)
      · have n2 := of_decide_eq_false c2
        have hv : valR r = (⟨(byteR r).1, 0, ⟨#[]⟩⟩, (byteR r).2) := by unfold valR; rw [if_neg n1, if_neg n2]
        rw [hv] at hnx hvx
        simp only [b2, c2, go_sem, Nat.reduceEqDiff, Nat.reduceAdd, Nat.reduceLeDiff, List.length_map, z4, at4, BoxM.at, EvM.at, fillB, Int.reduceLT, Int.reduceLE, Int.reduceToNat, Int.toNat_zero, Int.le_refl, Int.reduceAdd, decide_true, decide_false, wr1, wr2, wr3, wr4, c0, c1, c2, c3, c4, Nat.reduceMul, Nat.reduceLT, Nat.lt_irrefl, true_and, and_self, ↓reduceIte]
        refine invN_next (by omega) trivial ?_
        simp only [hnx, evC, evK, hvx, go_sem, Nat.reduceEqDiff, Nat.reduceAdd, Nat.reduceLeDiff, List.length_map, z4, at4, BoxM.at, EvM.at, fillB, Int.reduceLT, Int.reduceLE, Int.reduceToNat, Int.toNat_zero, Int.le_refl, Int.reduceAdd, decide_true, decide_false, wr1, wr2, wr3, wr4, c0, c1, c2, c3, c4, Nat.reduceMul, Nat.reduceLT, Nat.lt_irrefl, true_and, and_self, ↓reduceIte]
        try rfl
      · have n2 := of_decide_eq_true c2
        have hv : valR r = (⟨2, 0, lb (strR 8 (byteR r).2).1⟩, (strR 8 (byteR r).2).2) := by unfold valR; rw [if_neg n1, if_pos n2]
        rw [hv] at hnx hvx
        simp only [b2, c2, go_sem, Nat.reduceEqDiff, Nat.reduceAdd, Nat.reduceLeDiff, List.length_map, z4, at4, BoxM.at, EvM.at, fillB, Int.reduceLT, Int.reduceLE, Int.reduceToNat, Int.toNat_zero, Int.le_refl, Int.reduceAdd, decide_true, decide_false, wr1, wr2, wr3, wr4, c0, c1, c2, c3, c4, Nat.reduceMul, Nat.reduceLT, Nat.lt_irrefl, true_and, and_self, ↓reduceIte]
        refine callO_eq rfl rfl rfl rfl rfl (krStr 8 (by omega) (byteR r).2 (by omega)) ?_
        simp only [go_sem, Nat.reduceEqDiff, Nat.reduceAdd, Nat.reduceLeDiff, List.length_map, z4, at4, BoxM.at, EvM.at, fillB, Int.reduceLT, Int.reduceLE, Int.reduceToNat, Int.toNat_zero, Int.le_refl, Int.reduceAdd, decide_true, decide_false, wr1, wr2, wr3, wr4, c0, c1, c2, c3, c4, Nat.reduceMul, Nat.reduceLT, Nat.lt_irrefl, true_and, and_self, ↓reduceIte]
        refine invN_next (by omega) trivial ?_
        simp only [hnx, evC, evK, hvx, n2, go_sem, Nat.reduceEqDiff, Nat.reduceAdd, Nat.reduceLeDiff, List.length_map, z4, at4, BoxM.at, EvM.at, fillB, Int.reduceLT, Int.reduceLE, Int.reduceToNat, Int.toNat_zero, Int.le_refl, Int.reduceAdd, decide_true, decide_false, wr1, wr2, wr3, wr4, c0, c1, c2, c3, c4, Nat.reduceMul, Nat.reduceLT, Nat.lt_irrefl, true_and, and_self, ↓reduceIte]
        try rfl
    · have n1 := of_decide_eq_true c1
      have hv : valR r = (⟨1, unfoldN (uintR (byteR r).2).1, ⟨#[]⟩⟩, (uintR (byteR r).2).2) := by unfold valR; rw [if_pos n1]
      rw [hv] at hnx hvx
      simp only [c1, go_sem, Nat.reduceEqDiff, Nat.reduceAdd, Nat.reduceLeDiff, List.length_map, z4, at4, BoxM.at, EvM.at, fillB, Int.reduceLT, Int.reduceLE, Int.reduceToNat, Int.toNat_zero, Int.le_refl, Int.reduceAdd, decide_true, decide_false, wr1, wr2, wr3, wr4, c0, c1, c2, c3, c4, Nat.reduceMul, Nat.reduceLT, Nat.lt_irrefl, true_and, and_self, ↓reduceIte]
      refine callO_eq rfl rfl rfl rfl rfl (krInt (byteR r).2) ?_
      simp only [go_sem, Nat.reduceEqDiff, Nat.reduceAdd, Nat.reduceLeDiff, List.length_map, z4, at4, BoxM.at, EvM.at, fillB, Int.reduceLT, Int.reduceLE, Int.reduceToNat, Int.toNat_zero, Int.le_refl, Int.reduceAdd, decide_true, decide_false, wr1, wr2, wr3, wr4, c0, c1, c2, c3, c4, Nat.reduceMul, Nat.reduceLT, Nat.lt_irrefl, true_and, and_self, ↓reduceIte]
      refine invN_next (by omega) trivial ?_
      simp only [hnx, evC, evK, hvx, n1, go_sem, Nat.reduceEqDiff, Nat.reduceAdd, Nat.reduceLeDiff, List.length_map, z4, at4, BoxM.at, EvM.at, fillB, Int.reduceLT, Int.reduceLE, Int.reduceToNat, Int.toNat_zero, Int.le_refl, Int.reduceAdd, decide_true, decide_false, wr1, wr2, wr3, wr4, c0, c1, c2, c3, c4, Nat.reduceMul, Nat.reduceLT, Nat.lt_irrefl, true_and, and_self, ↓reduceIte]
      try rfl
  · simp only [evC, evK, go_sem, Nat.reduceEqDiff, Nat.reduceAdd, Nat.reduceLeDiff, List.length_map, z4, at4, BoxM.at, EvM.at, fillB, Int.reduceLT, Int.reduceLE, Int.reduceToNat, Int.toNat_zero, Int.le_refl, Int.reduceAdd, decide_true, decide_false, wr1, wr2, wr3, wr4, c0, c1, c2, c3, c4, Nat.reduceMul, Nat.reduceLT, Nat.lt_irrefl, true_and, and_self, ↓reduceIte]
    have hnx : rdK s (1 + 1) = (valR (rdK s 1)).2 := rfl
    have hvx : vK s 1 = (valR (rdK s 1)).1 := rfl
    generalize hr : rdK s 1 = r at *
    refine callO_eq rfl rfl rfl rfl rfl (krByte r) ?_
    have hb := byteR_lt r
    have hbl := byteR_len r
    have wk : IntKind.i64.wrap ((byteR r).1 : Int) = ((byteR r).1 : Int) := wrap64 (by omega) (by omega)
    have b1 : (((byteR r).1 : Int) == 1) = decide ((byteR r).1 = 1) := by rw [Bool.eq_iff_iff]; simp; omega
    have b2 : (((byteR r).1 : Int) == 2) = decide ((byteR r).1 = 2) := by rw [Bool.eq_iff_iff]; simp; omega
    simp only [wk, b1, b2, go_sem, Nat.reduceEqDiff, Nat.reduceAdd, Nat.reduceLeDiff, List.length_map, z4, at4, BoxM.at, EvM.at, fillB, Int.reduceLT, Int.reduceLE, Int.reduceToNat, Int.toNat_zero, Int.le_refl, Int.reduceAdd, decide_true, decide_false, wr1, wr2, wr3, wr4, c0, c1, c2, c3, c4, Nat.reduceMul, Nat.reduceLT, Nat.lt_irrefl, true_and, and_self, ↓reduceIte]
    cases c1 : decide ((byteR r).1 = 1)
    · have n1 := of_decide_eq_false c1
      simp only [c1, go_sem, Nat.reduceEqDiff, Nat.reduceAdd, Nat.reduceLeDiff, List.length_map, z4, at4, BoxM.at, EvM.at, fillB, Int.reduceLT, Int.reduceLE, Int.reduceToNat, Int.toNat_zero, Int.le_refl, Int.reduceAdd, decide_true, decide_false, wr1, wr2, wr3, wr4, c0, c1, c2, c3, c4, Nat.reduceMul, Nat.reduceLT, Nat.lt_irrefl, true_and, and_self, ↓reduceIte]
      cases c2 : decide ((byteR r).1 = 2)
      · have n2 := of_decide_eq_false c2
        have hv : valR r = (⟨(byteR r).1, 0, ⟨#[]⟩⟩, (byteR r).2) := by unfold valR; rw [if_neg n1, if_neg n2]
        rw [hv] at hnx hvx
        simp only [b2, c2, go_sem, Nat.reduceEqDiff, Nat.reduceAdd, Nat.reduceLeDiff, List.length_map, z4, at4, BoxM.at, EvM.at, fillB, Int.reduceLT, Int.reduceLE, Int.reduceToNat, Int.toNat_zero, Int.le_refl, Int.reduceAdd, decide_true, decide_false, wr1, wr2, wr3, wr4, c0, c1, c2, c3, c4, Nat.reduceMul, Nat.reduceLT, Nat.lt_irrefl, true_and, and_self, ↓reduceIte]
        refine invN_next (by omega) trivial ?_
        simp only [hnx, evC, evK, hvx, go_sem, Nat.reduceEqDiff, Nat.reduceAdd, Nat.reduceLeDiff, List.length_map, z4, at4, BoxM.at, EvM.at, fillB, Int.reduceLT, Int.reduceLE, Int.reduceToNat, Int.toNat_zero, Int.le_refl, Int.reduceAdd, decide_true, decide_false, wr1, wr2, wr3, wr4, c0, c1, c2, c3, c4, Nat.reduceMul, Nat.reduceLT, Nat.lt_irrefl, true_and, and_self, ↓reduceIte]
        try rfl
      · have n2 := of_decide_eq_true c2
        have hv : valR r = (⟨2, 0, lb (strR 8 (byteR r).2).1⟩, (strR 8 (byteR r).2).2) := by unfold valR; rw [if_neg n1, if_pos n2]
        rw [hv] at hnx hvx
        simp only [b2, c2, go_sem, Nat.reduceEqDiff, Nat.reduceAdd, Nat.reduceLeDiff, List.length_map, z4, at4, BoxM.at, EvM.at, fillB, Int.reduceLT, Int.reduceLE, Int.reduceToNat, Int.toNat_zero, Int.le_refl, Int.reduceAdd, decide_true, decide_false, wr1, wr2, wr3, wr4, c0, c1, c2, c3, c4, Nat.reduceMul, Nat.reduceLT, Nat.lt_irrefl, true_and, and_self, ↓reduceIte]
        refine callO_eq rfl rfl rfl rfl rfl (krStr 8 (by omega) (byteR r).2 (by omega)) ?_
        simp only [go_sem, Nat.reduceEqDiff, Nat.reduceAdd, Nat.reduceLeDiff, List.length_map, z4, at4, BoxM.at, EvM.at, fillB, Int.reduceLT, Int.reduceLE, Int.reduceToNat, Int.toNat_zero, Int.le_refl, Int.reduceAdd, decide_true, decide_false, wr1, wr2, wr3, wr4, c0, c1, c2, c3, c4, Nat.reduceMul, Nat.reduceLT, Nat.lt_irrefl, true_and, and_self, ↓reduceIte]
        refine invN_next (by omega) trivial ?_
        simp only [hnx, evC, evK, hvx, n2, go_sem, Nat.reduceEqDiff, Nat.reduceAdd, Nat.reduceLeDiff, List.length_map, z4, at4, BoxM.at, EvM.at, fillB, Int.reduceLT, Int.reduceLE, Int.reduceToNat, Int.toNat_zero, Int.le_refl, Int.reduceAdd, decide_true, decide_false, wr1, wr2, wr3, wr4, c0, c1, c2, c3, c4, Nat.reduceMul, Nat.reduceLT, Nat.lt_irrefl, true_and, and_self, ↓reduceIte]
        try rfl
    · have n1 := of_decide_eq_true c1
      have hv : valR r = (⟨1, unfoldN (uintR (byteR r).2).1, ⟨#[]⟩⟩, (uintR (byteR r).2).2) := by unfold valR; rw [if_pos n1]
      rw [hv] at hnx hvx
      simp only [c1, go_sem, Nat.reduceEqDiff, Nat.reduceAdd, Nat.reduceLeDiff, List.length_map, z4, at4, BoxM.at, EvM.at, fillB, Int.reduceLT, Int.reduceLE, Int.reduceToNat, Int.toNat_zero, Int.le_refl, Int.reduceAdd, decide_true, decide_false, wr1, wr2, wr3, wr4, c0, c1, c2, c3, c4, Nat.reduceMul, Nat.reduceLT, Nat.lt_irrefl, true_and, and_self, ↓reduceIte]
      refine callO_eq rfl rfl rfl rfl rfl (krInt (byteR r).2) ?_
      simp only [go_sem, Nat.reduceEqDiff, Nat.reduceAdd, Nat.reduceLeDiff, List.length_map, z4, at4, BoxM.at, EvM.at, fillB, Int.reduceLT, Int.reduceLE, Int.reduceToNat, Int.toNat_zero, Int.le_refl, Int.reduceAdd, decide_true, decide_false, wr1, wr2, wr3, wr4, c0, c1, c2, c3, c4, Nat.reduceMul, Nat.reduceLT, Nat.lt_irrefl, true_and, and_self, ↓reduceIte]
      refine invN_next (by omega) trivial ?_
      simp only [hnx, evC, evK, hvx, n1, go_sem, Nat.reduceEqDiff, Nat.reduceAdd, Nat.reduceLeDiff, List.length_map, z4, at4, BoxM.at, EvM.at, fillB, Int.reduceLT, Int.reduceLE, Int.reduceToNat, Int.toNat_zero, Int.le_refl, Int.reduceAdd, decide_true, decide_false, wr1, wr2, wr3, wr4, c0, c1, c2, c3, c4, Nat.reduceMul, Nat.reduceLT, Nat.lt_irrefl, true_and, and_self, ↓reduceIte]
      try rfl
  · simp only [evC, evK, go_sem, Nat.reduceEqDiff, Nat.reduceAdd, Nat.reduceLeDiff, List.length_map, z4, at4, BoxM.at, EvM.at, fillB, Int.reduceLT, Int.reduceLE, Int.reduceToNat, Int.toNat_zero, Int.le_refl, Int.reduceAdd, decide_true, decide_false, wr1, wr2, wr3, wr4, c0, c1, c2, c3, c4, Nat.reduceMul, Nat.reduceLT, Nat.lt_irrefl, true_and, and_self, ↓reduceIte]
    have hnx : rdK s (2 + 1) = (valR (rdK s 2)).2 := rfl
    have hvx : vK s 2 = (valR (rdK s 2)).1 := rfl
    generalize hr : rdK s 2 = r at *
    refine callO_eq rfl rfl rfl rfl rfl (krByte r) ?_
    have hb := byteR_lt r
    have hbl := byteR_len r
    have wk : IntKind.i64.wrap ((byteR r).1 : Int) = ((byteR r).1 : Int) := wrap64 (by omega) (by omega)
    have b1 : (((byteR r).1 : Int) == 1) = decide ((byteR r).1 = 1) := by rw [Bool.eq_iff_iff]; simp; omega
    have b2 : (((byteR r).1 : Int) == 2) = decide ((byteR r).1 = 2) := by rw [Bool.eq_iff_iff]; simp; omega
    simp only [wk, b1, b2, go_sem, Nat.reduceEqDiff, Nat.reduceAdd, Nat.reduceLeDiff, List.length_map, z4, at4, BoxM.at, EvM.at, fillB, Int.reduceLT, Int.reduceLE, Int.reduceToNat, Int.toNat_zero, Int.le_refl, Int.reduceAdd, decide_true, decide_false, wr1, wr2, wr3, wr4, c0, c1, c2, c3, c4, Nat.reduceMul, Nat.reduceLT, Nat.lt_irrefl, true_and, and_self, ↓reduceIte]
    cases c1 : decide ((byteR r).1 = 1)
    · have n1 := of_decide_eq_false c1
      simp only [c1, go_sem, Nat.reduceEqDiff, Nat.reduceAdd, Nat.reduceLeDiff, List.length_map, z4, at4, BoxM.at, EvM.at, fillB, Int.reduceLT, Int.reduceLE, Int.reduceToNat, Int.toNat_zero, Int.le_refl, Int.reduceAdd, decide_true, decide_false, wr1, wr2, wr3, wr4, c0, c1, c2, c3, c4, Nat.reduceMul, Nat.reduceLT, Nat.lt_irrefl, true_and, and_self, ↓reduceIte]
      cases c2 : decide ((byteR r).1 = 2)
      · have n2 := of_decide_eq_false c2
        have hv : valR r = (⟨(byteR r).1, 0, ⟨#[]⟩⟩, (byteR r).2) := by unfold valR; rw [if_neg n1, if_neg n2]
        rw [hv] at hnx hvx
        simp only [b2, c2, go_sem, Nat.reduceEqDiff, Nat.reduceAdd, Nat.reduceLeDiff, List.length_map, z4, at4, BoxM.at, EvM.at, fillB, Int.reduceLT, Int.reduceLE, Int.reduceToNat, Int.toNat_zero, Int.le_refl, Int.reduceAdd, decide_true, decide_false, wr1, wr2, wr3, wr4, c0, c1, c2, c3, c4, Nat.reduceMul, Nat.reduceLT, Nat.lt_irrefl, true_and, and_self, ↓reduceIte]
        refine invN_next (by omega) trivial ?_
        simp only [hnx, evC, evK, hvx, go_sem, Nat.reduceEqDiff, Nat.reduceAdd, Nat.reduceLeDiff, List.length_map, z4, at4, BoxM.at, EvM.at, fillB, Int.reduceLT, Int.reduceLE, Int.reduceToNat, Int.toNat_zero, Int.le_refl, Int.reduceAdd, decide_true, decide_false, wr1, wr2, wr3, wr4, c0, c1, c2, c3, c4, Nat.reduceMul, Nat.reduceLT, Nat.lt_irrefl, true_and, and_self, ↓reduceIte]
        try rfl
      · have n2 := of_decide_eq_true c2
        have hv : valR r = (⟨2, 0, lb (strR 8 (byteR r).2).1⟩, (strR 8 (byteR r).2).2) := by unfold valR; rw [if_neg n1, if_pos n2]
        rw [hv] at hnx hvx
        simp only [b2, c2, go_sem, Nat.reduceEqDiff, Nat.reduceAdd, Nat.reduceLeDiff, List.length_map, z4, at4, BoxM.at, EvM.at, fillB, Int.reduceLT, Int.reduceLE, Int.reduceToNat, Int.toNat_zero, Int.le_refl, Int.reduceAdd, decide_true, decide_false, wr1, wr2, wr3, wr4, c0, c1, c2, c3, c4, Nat.reduceMul, Nat.reduceLT, Nat.lt_irrefl, true_and, and_self, ↓reduceIte]
        refine callO_eq rfl rfl rfl rfl rfl (krStr 8 (by omega) (byteR r).2 (by omega)) ?_
        simp only [go_sem, Nat.reduceEqDiff, Nat.reduceAdd, Nat.reduceLeDiff, List.length_map, z4, at4, BoxM.at, EvM.at, fillB, Int.reduceLT, Int.reduceLE, Int.reduceToNat, Int.toNat_zero, Int.le_refl, Int.reduceAdd, decide_true, decide_false, wr1, wr2, wr3, wr4, c0, c1, c2, c3, c4, Nat.reduceMul, Nat.reduceLT, Nat.lt_irrefl, true_and, and_self, ↓reduceIte]
        refine invN_next (by omega) trivial ?_
        simp only [hnx, evC, evK, hvx, n2, go_sem, Nat.reduceEqDiff, Nat.reduceAdd, Nat.reduceLeDiff, List.length_map, z4, at4, BoxM.at, EvM.at, fillB, Int.reduceLT, Int.reduceLE, Int.reduceToNat, Int.toNat_zero, Int.le_refl, Int.reduceAdd, decide_true, decide_false, wr1, wr2, wr3, wr4, c0, c1, c2, c3, c4, Nat.reduceMul, Nat.reduceLT, Nat.lt_irrefl, true_and, and_self, ↓reduceIte]
        try rfl
    · have n1 := of_decide_eq_true c1
      have hv : valR r = (⟨1, unfoldN (uintR (byteR r).2).1, ⟨#[]⟩⟩, (uintR (byteR r).2).2) := by unfold valR; rw [if_pos n1]
      rw [hv] at hnx hvx
      simp only [c1, go_sem, Nat.reduceEqDiff, Nat.reduceAdd, Nat.reduceLeDiff, List.length_map, z4, at4, BoxM.at, EvM.at, fillB, Int.reduceLT, Int.reduceLE, Int.reduceToNat, Int.toNat_zero, Int.le_refl, Int.reduceAdd, decide_true, decide_false, wr1, wr2, wr3, wr4, c0, c1, c2, c3, c4, Nat.reduceMul, Nat.reduceLT, Nat.lt_irrefl, true_and, and_self, ↓reduceIte]
      refine callO_eq rfl rfl rfl rfl rfl (krInt (byteR r).2) ?_
      simp only [go_sem, Nat.reduceEqDiff, Nat.reduceAdd, Nat.reduceLeDiff, List.length_map, z4, at4, BoxM.at, EvM.at, fillB, Int.reduceLT, Int.reduceLE, Int.reduceToNat, Int.toNat_zero, Int.le_refl, Int.reduceAdd, decide_true, decide_false, wr1, wr2, wr3, wr4, c0, c1, c2, c3, c4, Nat.reduceMul, Nat.reduceLT, Nat.lt_irrefl, true_and, and_self, ↓reduceIte]
      refine invN_next (by omega) trivial ?_
      simp only [hnx, evC, evK, hvx, n1, go_sem, Nat.reduceEqDiff, Nat.reduceAdd, Nat.reduceLeDiff, List.length_map, z4, at4, BoxM.at, EvM.at, fillB, Int.reduceLT, Int.reduceLE, Int.reduceToNat, Int.toNat_zero, Int.le_refl, Int.reduceAdd, decide_true, decide_false, wr1, wr2, wr3, wr4, c0, c1, c2, c3, c4, Nat.reduceMul, Nat.reduceLT, Nat.lt_irrefl, true_and, and_self, ↓reduceIte]
      try rfl
  · simp only [evC, evK, go_sem, Nat.reduceEqDiff, Nat.reduceAdd, Nat.reduceLeDiff, List.length_map, z4, at4, BoxM.at, EvM.at, fillB, Int.reduceLT, Int.reduceLE, Int.reduceToNat, Int.toNat_zero, Int.le_refl, Int.reduceAdd, decide_true, decide_false, wr1, wr2, wr3, wr4, c0, c1, c2, c3, c4, Nat.reduceMul, Nat.reduceLT, Nat.lt_irrefl, true_and, and_self, ↓reduceIte]
    have hnx : rdK s (3 + 1) = (valR (rdK s 3)).2 := rfl
    have hvx : vK s 3 = (valR (rdK s 3)).1 := rfl
    generalize hr : rdK s 3 = r at *
    refine callO_eq rfl rfl rfl rfl rfl (krByte r) ?_
    have hb := byteR_lt r
    have hbl := byteR_len r
    have wk : IntKind.i64.wrap ((byteR r).1 : Int) = ((byteR r).1 : Int) := wrap64 (by omega) (by omega)
    have b1 : (((byteR r).1 : Int) == 1) = decide ((byteR r).1 = 1) := by rw [Bool.eq_iff_iff]; simp; omega
    have b2 : (((byteR r).1 : Int) == 2) = decide ((byteR r).1 = 2) := by rw [Bool.eq_iff_iff]; simp; omega
    simp only [wk, b1, b2, go_sem, Nat.reduceEqDiff, Nat.reduceAdd, Nat.reduceLeDiff, List.length_map, z4, at4, BoxM.at, EvM.at, fillB, Int.reduceLT, Int.reduceLE, Int.reduceToNat, Int.toNat_zero, Int.le_refl, Int.reduceAdd, decide_true, decide_false, wr1, wr2, wr3, wr4, c0, c1, c2, c3, c4, Nat.reduceMul, Nat.reduceLT, Nat.lt_irrefl, true_and, and_self, ↓reduceIte]
    cases c1 : decide ((byteR r).1 = 1)
    · have n1 := of_decide_eq_false c1
      simp only [c1, go_sem, Nat.reduceEqDiff, Nat.reduceAdd, Nat.reduceLeDiff, List.length_map, z4, at4, BoxM.at, EvM.at, fillB, Int.reduceLT, Int.reduceLE, Int.reduceToNat, Int.toNat_zero, Int.le_refl, Int.reduceAdd, decide_true, decide_false, wr1, wr2, wr3, wr4, c0, c1, c2, c3, c4, Nat.reduceMul, Nat.reduceLT, Nat.lt_irrefl, true_and, and_self, ↓reduceIte]
      cases c2 : decide ((byteR r).1 = 2)
      · have n2 := of_decide_eq_false c2
        have hv : valR r = (⟨(byteR r).1, 0, ⟨#[]⟩⟩, (byteR r).2) := by unfold valR; rw [if_neg n1, if_neg n2]
        rw [hv] at hnx hvx
        simp only [b2, c2, go_sem, Nat.reduceEqDiff, Nat.reduceAdd, Nat.reduceLeDiff, List.length_map, z4, at4, BoxM.at, EvM.at, fillB, Int.reduceLT, Int.reduceLE, Int.reduceToNat, Int.toNat_zero, Int.le_refl, Int.reduceAdd, decide_true, decide_false, wr1, wr2, wr3, wr4, c0, c1, c2, c3, c4, Nat.reduceMul, Nat.reduceLT, Nat.lt_irrefl, true_and, and_self, ↓reduceIte]
        refine invN_next (by omega) trivial ?_
        simp only [hnx, evC, evK, hvx, go_sem, Nat.reduceEqDiff, Nat.reduceAdd, Nat.reduceLeDiff, List.length_map, z4, at4, BoxM.at, EvM.at, fillB, Int.reduceLT, Int.reduceLE, Int.reduceToNat, Int.toNat_zero, Int.le_refl, Int.reduceAdd, decide_true, decide_false, wr1, wr2, wr3, wr4, c0, c1, c2, c3, c4, Nat.reduceMul, Nat.reduceLT, Nat.lt_irrefl, true_and, and_self, ↓reduceIte]
        try rfl
      · have n2 := of_decide_eq_true c2
        have hv : valR r = (⟨2, 0, lb (strR 8 (byteR r).2).1⟩, (strR 8 (byteR r).2).2) := by unfold valR; rw [if_neg n1, if_pos n2]
        rw [hv] at hnx hvx
        simp only [b2, c2, go_sem, Nat.reduceEqDiff, Nat.reduceAdd, Nat.reduceLeDiff, List.length_map, z4, at4, BoxM.at, EvM.at, fillB, Int.reduceLT, Int.reduceLE, Int.reduceToNat, Int.toNat_zero, Int.le_refl, Int.reduceAdd, decide_true, decide_false, wr1, wr2, wr3, wr4, c0, c1, c2, c3, c4, Nat.reduceMul, Nat.reduceLT, Nat.lt_irrefl, true_and, and_self, ↓reduceIte]
        refine callO_eq rfl rfl rfl rfl rfl (krStr 8 (by omega) (byteR r).2 (by omega)) ?_
        simp only [go_sem, Nat.reduceEqDiff, Nat.reduceAdd, Nat.reduceLeDiff, List.length_map, z4, at4, BoxM.at, EvM.at, fillB, Int.reduceLT, Int.reduceLE, Int.reduceToNat, Int.toNat_zero, Int.le_refl, Int.reduceAdd, decide_true, decide_false, wr1, wr2, wr3, wr4, c0, c1, c2, c3, c4, Nat.reduceMul, Nat.reduceLT, Nat.lt_irrefl, true_and, and_self, ↓reduceIte]
        refine invN_next (by omega) trivial ?_
        simp only [hnx, evC, evK, hvx, n2, go_sem, Nat.reduceEqDiff, Nat.reduceAdd, Nat.reduceLeDiff, List.length_map, z4, at4, BoxM.at, EvM.at, fillB, Int.reduceLT, Int.reduceLE, Int.reduceToNat, Int.toNat_zero, Int.le_refl, Int.reduceAdd, decide_true, decide_false, wr1, wr2, wr3, wr4, c0, c1, c2, c3, c4, Nat.reduceMul, Nat.reduceLT, Nat.lt_irrefl, true_and, and_self, ↓reduceIte]
        try rfl
    · have n1 := of_decide_eq_true c1
      have hv : valR r = (⟨1, unfoldN (uintR (byteR r).2).1, ⟨#[]⟩⟩, (uintR (byteR r).2).2) := by unfold valR; rw [if_pos n1]
      rw [hv] at hnx hvx
      simp only [c1, go_sem, Nat.reduceEqDiff, Nat.reduceAdd, Nat.reduceLeDiff, List.length_map, z4, at4, BoxM.at, EvM.at, fillB, Int.reduceLT, Int.reduceLE, Int.reduceToNat, Int.toNat_zero, Int.le_refl, Int.reduceAdd, decide_true, decide_false, wr1, wr2, wr3, wr4, c0, c1, c2, c3, c4, Nat.reduceMul, Nat.reduceLT, Nat.lt_irrefl, true_and, and_self, ↓reduceIte]
      refine callO_eq rfl rfl rfl rfl rfl (krInt (byteR r).2) ?_
      simp only [go_sem, Nat.reduceEqDiff, Nat.reduceAdd, Nat.reduceLeDiff, List.length_map, z4, at4, BoxM.at, EvM.at, fillB, Int.reduceLT, Int.reduceLE, Int.reduceToNat, Int.toNat_zero, Int.le_refl, Int.reduceAdd, decide_true, decide_false, wr1, wr2, wr3, wr4, c0, c1, c2, c3, c4, Nat.reduceMul, Nat.reduceLT, Nat.lt_irrefl, true_and, and_self, ↓reduceIte]
      refine invN_next (by omega) trivial ?_
      simp only [hnx, evC, evK, hvx, n1, go_sem, Nat.reduceEqDiff, Nat.reduceAdd, Nat.reduceLeDiff, List.length_map, z4, at4, BoxM.at, EvM.at, fillB, Int.reduceLT, Int.reduceLE, Int.reduceToNat, Int.toNat_zero, Int.le_refl, Int.reduceAdd, decide_true, decide_false, wr1, wr2, wr3, wr4, c0, c1, c2, c3, c4, Nat.reduceMul, Nat.reduceLT, Nat.lt_irrefl, true_and, and_self, ↓reduceIte]
      try rfl
  · generalize hE : evK s 4 = E at *
    generalize hR : rdK s 4 = r at *
    have hX : takeEX s = (if (if rightE E = true then r else failR r 2).2 = 0 then E else zE, if rightE E = true then r else failR r 2) := by unfold takeEX; rw [hE, hR]
    rw [hX]
    simp only [evC, go_sem, Nat.reduceEqDiff, Nat.reduceAdd, Nat.reduceLeDiff, List.length_map, z4, at4, BoxM.at, EvM.at, fillB, Int.reduceLT, Int.reduceLE, Int.reduceToNat, Int.toNat_zero, Int.le_refl, Int.reduceAdd, decide_true, decide_false, wr1, wr2, wr3, wr4, c0, c1, c2, c3, c4, Nat.reduceMul, Nat.reduceLT, Nat.lt_irrefl, true_and, and_self, ↓reduceIte]
    refine callP_eq rfl rfl (kvalEvent E) ?_
    simp only [go_sem, Nat.reduceEqDiff, Nat.reduceAdd, Nat.reduceLeDiff, List.length_map, z4, at4, BoxM.at, EvM.at, fillB, Int.reduceLT, Int.reduceLE, Int.reduceToNat, Int.toNat_zero, Int.le_refl, Int.reduceAdd, decide_true, decide_false, wr1, wr2, wr3, wr4, c0, c1, c2, c3, c4, Nat.reduceMul, Nat.reduceLT, Nat.lt_irrefl, true_and, and_self, ↓reduceIte]
    cases c1 : rightE E
    · simp only [c1, Bool.not_false, Bool.false_eq_true, if_false, go_sem, Nat.reduceEqDiff, Nat.reduceAdd, Nat.reduceLeDiff, List.length_map, z4, at4, BoxM.at, EvM.at, fillB, Int.reduceLT, Int.reduceLE, Int.reduceToNat, Int.toNat_zero, Int.le_refl, Int.reduceAdd, decide_true, decide_false, wr1, wr2, wr3, wr4, c0, c1, c2, c3, c4, Nat.reduceMul, Nat.reduceLT, Nat.lt_irrefl, true_and, and_self, ↓reduceIte]
      have hz := failR_ne r 2 (by decide)
      have hz0 : ((failR r 2).2 == 0) = false := by simpa using hz
      refine callO_eq rfl rfl rfl rfl rfl (krFail r 2) ?_
      simp only [go_sem, Nat.reduceEqDiff, Nat.reduceAdd, Nat.reduceLeDiff, List.length_map, z4, at4, BoxM.at, EvM.at, fillB, Int.reduceLT, Int.reduceLE, Int.reduceToNat, Int.toNat_zero, Int.le_refl, Int.reduceAdd, decide_true, decide_false, wr1, wr2, wr3, wr4, c0, c1, c2, c3, c4, Nat.reduceMul, Nat.reduceLT, Nat.lt_irrefl, true_and, and_self, ↓reduceIte]
      refine callO_eq rfl rfl rfl rfl rfl (krErr (failR r 2)) ?_
      simp only [bne, hz0, Bool.not_false, finO, if_neg hz, go_sem, Nat.reduceEqDiff, Nat.reduceAdd, Nat.reduceLeDiff, List.length_map, z4, at4, BoxM.at, EvM.at, fillB, Int.reduceLT, Int.reduceLE, Int.reduceToNat, Int.toNat_zero, Int.le_refl, Int.reduceAdd, decide_true, decide_false, wr1, wr2, wr3, wr4, c0, c1, c2, c3, c4, Nat.reduceMul, Nat.reduceLT, Nat.lt_irrefl, true_and, and_self, ↓reduceIte]
      exact ⟨rfl, rfl⟩
    · simp only [c1, Bool.not_true, if_true, go_sem, Nat.reduceEqDiff, Nat.reduceAdd, Nat.reduceLeDiff, List.length_map, z4, at4, BoxM.at, EvM.at, fillB, Int.reduceLT, Int.reduceLE, Int.reduceToNat, Int.toNat_zero, Int.le_refl, Int.reduceAdd, decide_true, decide_false, wr1, wr2, wr3, wr4, c0, c1, c2, c3, c4, Nat.reduceMul, Nat.reduceLT, Nat.lt_irrefl, true_and, and_self, ↓reduceIte]
      refine callO_eq rfl rfl rfl rfl rfl (krErr r) ?_
      simp only [bne, go_sem, Nat.reduceEqDiff, Nat.reduceAdd, Nat.reduceLeDiff, List.length_map, z4, at4, BoxM.at, EvM.at, fillB, Int.reduceLT, Int.reduceLE, Int.reduceToNat, Int.toNat_zero, Int.le_refl, Int.reduceAdd, decide_true, decide_false, wr1, wr2, wr3, wr4, c0, c1, c2, c3, c4, Nat.reduceMul, Nat.reduceLT, Nat.lt_irrefl, true_and, and_self, ↓reduceIte]
      cases c2 : r.2 == 0
      · have n2 : ¬ r.2 = 0 := by simpa using c2
        simp only [c2, Bool.not_false, finO, if_neg n2, go_sem, Nat.reduceEqDiff, Nat.reduceAdd, Nat.reduceLeDiff, List.length_map, z4, at4, BoxM.at, EvM.at, fillB, Int.reduceLT, Int.reduceLE, Int.reduceToNat, Int.toNat_zero, Int.le_refl, Int.reduceAdd, decide_true, decide_false, wr1, wr2, wr3, wr4, c0, c1, c2, c3, c4, Nat.reduceMul, Nat.reduceLT, Nat.lt_irrefl, true_and, and_self, ↓reduceIte]
        exact ⟨rfl, rfl⟩
      · have n2 : r.2 = 0 := by simpa using c2
        simp only [c2, Bool.not_true, finO, if_pos n2, go_sem, Nat.reduceEqDiff, Nat.reduceAdd, Nat.reduceLeDiff, List.length_map, z4, at4, BoxM.at, EvM.at, fillB, Int.reduceLT, Int.reduceLE, Int.reduceToNat, Int.toNat_zero, Int.le_refl, Int.reduceAdd, decide_true, decide_false, wr1, wr2, wr3, wr4, c0, c1, c2, c3, c4, Nat.reduceMul, Nat.reduceLT, Nat.lt_irrefl, true_and, and_self, ↓reduceIte]
        rfl
end Go.Proofs



namespace Go.Proofs
open Go.Vm
set_option linter.unusedSimpArgs false

def readEX (l : List UInt8) : EvM × Int := if (takeEX (l, 0)).2.2 = 0 ∧ (takeEX (l, 0)).2.1 = [] then ((takeEX (l, 0)).1, 0) else (zE, 2)
set_option maxHeartbeats 1000000 in
theorem kReadEvent (s : ByteArray) (hs : s.size ≤ 1000000) : PureAt Tryz.prog 33 [.val (.string s)] (· = .tup [.agg (evC (readEX (bl s)).1), .val (.int .i64 (readEX (bl s)).2)]) := by
  refine pure_of r33 (by kernel_rfl) ?_
  unfold m33
  simp only [go_sem, Nat.reduceEqDiff, Nat.reduceAdd, Nat.reduceLeDiff, List.length_map]
  refine callO_eq rfl rfl rfl rfl rfl (kcRead s) ?_
  simp only [go_sem, Nat.reduceEqDiff, Nat.reduceAdd, Nat.reduceLeDiff, List.length_map]
  refine callO_eq rfl rfl rfl rfl rfl (krTakeEvent (bl s, 0) (by rw [size_bl]; exact hs)) ?_
  have hX : readEX (bl s) = if (takeEX (bl s, 0)).2.2 = 0 ∧ (takeEX (bl s, 0)).2.1 = [] then ((takeEX (bl s, 0)).1, 0) else (zE, 2) := rfl
  rw [hX]
  generalize takeEX (bl s, 0) = t
  obtain ⟨E, r⟩ := t
  simp only [evC, go_sem, Nat.reduceEqDiff, Nat.reduceAdd, Nat.reduceLeDiff, List.length_map]
  refine callO_eq rfl rfl rfl rfl rfl (krErr r) ?_
  cases c2 : r.2 == 0
  · have n2 : ¬ r.2 = 0 := by simpa using c2
    rw [if_neg (fun h => n2 h.1)]
    simp only [bne, c2, Bool.not_false, beq_self_eq_true, go_sem, Nat.reduceEqDiff, Nat.reduceAdd, Nat.reduceLeDiff, List.length_map]
    rfl
  · have n2 : r.2 = 0 := by simpa using c2
    simp only [bne, c2, Bool.not_true, beq_self_eq_true, go_sem, Nat.reduceEqDiff, Nat.reduceAdd, Nat.reduceLeDiff, List.length_map]
    refine callO_eq rfl rfl rfl rfl rfl (krLeft r) ?_
    have g0 : decide ((r.1.length : Int) > 0) = !r.1.isEmpty := by cases r.1 <;> simp
    simp only [g0, go_sem, Nat.reduceEqDiff, Nat.reduceAdd, Nat.reduceLeDiff, List.length_map]
    cases c3 : r.1.isEmpty
    · have n3 : ¬ r.1 = [] := fun h => by rw [h] at c3; cases c3
      rw [if_neg (fun h => n3 h.2)]
      simp only [c3, evC, Bool.not_false, go_sem, Nat.reduceEqDiff, Nat.reduceAdd, Nat.reduceLeDiff, List.length_map]
      rfl
    · have n3 : r.1 = [] := List.isEmpty_iff.1 c3
      rw [if_pos ⟨n2, n3⟩]
      simp only [c3, evC, Bool.not_true, go_sem, Nat.reduceEqDiff, Nat.reduceAdd, Nat.reduceLeDiff, List.length_map]
end Go.Proofs



namespace Go.Proofs
open Go.Vm
set_option linter.unusedSimpArgs false

theorem byteR_stop {e : Int} (he : e ≠ 0) : byteR ([], e) = (0, ([], e)) := by
  simp [byteR, failR, he]
theorem countR_stop {e : Int} (he : e ≠ 0) (m : Nat) : countR m ([], e) = (0, ([], e)) := by
  simp [countR, uintR, he]
set_option maxHeartbeats 1000000 in
theorem krTakeSetE (e0 e : Int) (hb : byteR ([], e0) = (0, ([], e))) (he : e ≠ 0) : RdAt 106 [] ([], e0) (.agg (setC noM)) ([], e) := by
  refine obj_of [1000000] [] r106 (by kernel_rfl) ?_
  unfold m106
  have p1 := krByte ([], e0)
  rw [hb] at p1
  have p2 := kwcount 6 (by omega) ([], e)
  rw [countR_stop he] at p2
  simp only [go_sem, Nat.reduceEqDiff, Nat.reduceAdd, Nat.reduceLeDiff, List.length_map]
  refine callO_eq rfl rfl rfl rfl rfl p1 ?_
  have d0 : (decide (((0 : Nat) : Int) > 3)) = false := rfl
  have d1 : (IntKind.u8.wrap (((BitVec.ofInt 8 ((0 : Nat) : Int) &&& BitVec.ofInt 8 1).toNat : Nat) : Int) != 0) = false := by decide
  have d2 : (IntKind.u8.wrap (((BitVec.ofInt 8 ((0 : Nat) : Int) &&& BitVec.ofInt 8 2).toNat : Nat) : Int) != 0) = false := by decide
  simp only [d0, d1, d2, go_sem, Nat.reduceEqDiff, Nat.reduceAdd, Nat.reduceLeDiff, List.length_map]
  refine callO_eq rfl rfl rfl rfl rfl p2 ?_
  simp only [go_sem, Nat.reduceEqDiff, Nat.reduceAdd, Nat.reduceLeDiff, List.length_map]
  refine loop_N 0 (fun _ => True) (fun i => ⟨[(0, .ptr 1000000 0), (2, .ptr 2 0), (20, .val (.int .i64 0)), (21, .val (.int .i64 0))], [(2, setC noM), (1000000, rdC ([], e))], []⟩) trivial (by simp only [go_sem, Nat.reduceEqDiff, Nat.reduceAdd, Nat.reduceLeDiff, List.length_map]; rfl) ?_
  rintro i hi -
  simp only [go_sem, Nat.reduceEqDiff, Nat.reduceAdd, Nat.reduceLeDiff, List.length_map, z4, at4, BoxM.at, EvM.at, fillB, Int.reduceLT, Int.reduceLE, Int.reduceToNat, Int.toNat_zero, Int.le_refl, Int.reduceAdd, decide_true, decide_false, wr1, wr2, wr3, wr4, c0, c1, c2, c3, c4, Nat.reduceMul, Nat.reduceLT, Nat.lt_irrefl, true_and, and_self, ↓reduceIte]
  refine callO_eq rfl rfl rfl rfl rfl p2 ?_
  simp only [go_sem, Nat.reduceEqDiff, Nat.reduceAdd, Nat.reduceLeDiff, List.length_map, z4, at4, BoxM.at, EvM.at, fillB, Int.reduceLT, Int.reduceLE, Int.reduceToNat, Int.toNat_zero, Int.le_refl, Int.reduceAdd, decide_true, decide_false, wr1, wr2, wr3, wr4, c0, c1, c2, c3, c4, Nat.reduceMul, Nat.reduceLT, Nat.lt_irrefl, true_and, and_self, ↓reduceIte]
  refine loop_N 0 (fun _ => True) (fun i => ⟨[(0, .ptr 1000000 0), (2, .ptr 2 0), (36, .val (.int .i64 0)), (37, .val (.int .i64 0))], [(2, setC noM), (1000000, rdC ([], e))], []⟩) trivial (by simp only [go_sem, Nat.reduceEqDiff, Nat.reduceAdd, Nat.reduceLeDiff, List.length_map]; rfl) ?_
  rintro i hi -
  simp only [finO, setC, noM, go_sem, Nat.reduceEqDiff, Nat.reduceAdd, Nat.reduceLeDiff, List.length_map, z4, at4, BoxM.at, EvM.at, fillB, Int.reduceLT, Int.reduceLE, Int.reduceToNat, Int.toNat_zero, Int.le_refl, Int.reduceAdd, decide_true, decide_false, wr1, wr2, wr3, wr4, c0, c1, c2, c3, c4, Nat.reduceMul, Nat.reduceLT, Nat.lt_irrefl, true_and, and_self, ↓reduceIte]
  rfl
theorem krTakeSet0 (e : Int) (he : e ≠ 0) : RdAt 106 [] ([], e) (.agg (setC noM)) ([], e) := krTakeSetE e e (byteR_stop he) he
theorem krTakeSet1 : RdAt 106 [] ([], 0) (.agg (setC noM)) ([], 3) := krTakeSetE 0 3 rfl (by decide)
end Go.Proofs



namespace Go.Proofs
open Go.Vm
set_option linter.unusedSimpArgs false

set_option maxHeartbeats 4000000 in
theorem krTakeFilter1 : ObjAt Tryz.prog 62 ⟨[(0, .ptr 1000000 0)], [(1000000, rdC ([1], 0))], []⟩ 1 (fun r hp tg => r = .sl (some (2, 49, 16)) [] ∧ hp = [(1000000, rdC ([], 3))] ∧ tg = [((2, 49, 16), true)]) := by
  refine obj_of [1000000] [(2, 49, 16)] r62 (by kernel_rfl) ?_
  unfold m62
  have p1 : RdAt 105 [(1, .val (.int .i64 4))] ([1], 0) (.val (.int .i64 1)) ([], 0) := kwcount 4 (by omega) ([1], 0)
  simp only [go_sem, Nat.reduceEqDiff, Nat.reduceAdd, Nat.reduceLeDiff, List.length_map]
  refine callO_eq rfl rfl rfl rfl rfl p1 ?_
  simp only [go_sem, Nat.reduceEqDiff, Nat.reduceAdd, Nat.reduceLeDiff, List.length_map]
  refine loop_N 1 (fun _ => True) (fun i => ⟨[(0, .ptr 1000000 0), (2, .sl (some (2, 49, 16)) ((List.replicate i allB).map fun _ => boxC ⟨noM, noM, noM, noM⟩)), (6, .val (.int .i64 1)), (7, .val (.int .i64 i))], [(1000000, rdC ([], if i = 0 then 0 else 3))], [((2, 49, 16), true)]⟩) trivial (by simp only [go_sem, Nat.reduceEqDiff, Nat.reduceAdd, Nat.reduceLeDiff, List.length_map]; rfl) ?_
  rintro i hi -
  have hi2 : i = 0 ∨ i = 1 := by omega
  rcases hi2 with rfl | rfl
  · simp only [go_sem, Nat.reduceEqDiff, Nat.reduceAdd, Nat.reduceLeDiff, List.length_map, z4, at4, BoxM.at, EvM.at, fillB, Int.reduceLT, Int.reduceLE, Int.reduceToNat, Int.toNat_zero, Int.le_refl, Int.reduceAdd, decide_true, decide_false, wr1, wr2, wr3, wr4, c0, c1, c2, c3, c4, Nat.reduceMul, Nat.reduceLT, Nat.lt_irrefl, true_and, and_self, ↓reduceIte]
    refine ev_loop_u 4 ?_
    simp only [go_sem, Nat.reduceEqDiff, Nat.reduceAdd, Nat.reduceLeDiff, List.length_map, z4, at4, BoxM.at, EvM.at, fillB, Int.reduceLT, Int.reduceLE, Int.reduceToNat, Int.toNat_zero, Int.le_refl, Int.reduceAdd, decide_true, decide_false, wr1, wr2, wr3, wr4, c0, c1, c2, c3, c4, Nat.reduceMul, Nat.reduceLT, Nat.lt_irrefl, true_and, and_self, ↓reduceIte]
    refine callO_eq rfl rfl rfl rfl rfl krTakeSet1 ?_
    simp only [setC, go_sem, Nat.reduceEqDiff, Nat.reduceAdd, Nat.reduceLeDiff, List.length_map, z4, at4, BoxM.at, EvM.at, fillB, Int.reduceLT, Int.reduceLE, Int.reduceToNat, Int.toNat_zero, Int.le_refl, Int.reduceAdd, decide_true, decide_false, wr1, wr2, wr3, wr4, c0, c1, c2, c3, c4, Nat.reduceMul, Nat.reduceLT, Nat.lt_irrefl, true_and, and_self, ↓reduceIte]
    refine callO_eq rfl rfl rfl rfl rfl (krTakeSet0 3 (by decide)) ?_
    simp only [setC, go_sem, Nat.reduceEqDiff, Nat.reduceAdd, Nat.reduceLeDiff, List.length_map, z4, at4, BoxM.at, EvM.at, fillB, Int.reduceLT, Int.reduceLE, Int.reduceToNat, Int.toNat_zero, Int.le_refl, Int.reduceAdd, decide_true, decide_false, wr1, wr2, wr3, wr4, c0, c1, c2, c3, c4, Nat.reduceMul, Nat.reduceLT, Nat.lt_irrefl, true_and, and_self, ↓reduceIte]
    refine callO_eq rfl rfl rfl rfl rfl (krTakeSet0 3 (by decide)) ?_
    simp only [setC, go_sem, Nat.reduceEqDiff, Nat.reduceAdd, Nat.reduceLeDiff, List.length_map, z4, at4, BoxM.at, EvM.at, fillB, Int.reduceLT, Int.reduceLE, Int.reduceToNat, Int.toNat_zero, Int.le_refl, Int.reduceAdd, decide_true, decide_false, wr1, wr2, wr3, wr4, c0, c1, c2, c3, c4, Nat.reduceMul, Nat.reduceLT, Nat.lt_irrefl, true_and, and_self, ↓reduceIte]
    refine callO_eq rfl rfl rfl rfl rfl (krTakeSet0 3 (by decide)) ?_
    simp only [setC, go_sem, Nat.reduceEqDiff, Nat.reduceAdd, Nat.reduceLeDiff, List.length_map, z4, at4, BoxM.at, EvM.at, fillB, Int.reduceLT, Int.reduceLE, Int.reduceToNat, Int.toNat_zero, Int.le_refl, Int.reduceAdd, decide_true, decide_false, wr1, wr2, wr3, wr4, c0, c1, c2, c3, c4, Nat.reduceMul, Nat.reduceLT, Nat.lt_irrefl, true_and, and_self, ↓reduceIte]
    refine ⟨(by intro e he; cases he), (by rintro _ rfl; rfl), (by simp), (by simp), invN_next (by omega) trivial ?_⟩
    simp only [go_sem, Nat.reduceEqDiff, Nat.reduceAdd, Nat.reduceLeDiff, List.length_map]
    rfl
  · simp only [go_sem, Nat.reduceEqDiff, Nat.reduceAdd, Nat.reduceLeDiff, List.length_map, z4, at4, BoxM.at, EvM.at, fillB, Int.reduceLT, Int.reduceLE, Int.reduceToNat, Int.toNat_zero, Int.le_refl, Int.reduceAdd, decide_true, decide_false, wr1, wr2, wr3, wr4, c0, c1, c2, c3, c4, Nat.reduceMul, Nat.reduceLT, Nat.lt_irrefl, true_and, and_self, ↓reduceIte]
    refine callO_eq rfl rfl rfl rfl rfl (krErr ([], 3)) ?_
    simp only [bne, show ((3 : Int) == 0) = false from rfl, Bool.not_false, go_sem, Nat.reduceEqDiff, Nat.reduceAdd, Nat.reduceLeDiff, List.length_map, z4, at4, BoxM.at, EvM.at, fillB, Int.reduceLT, Int.reduceLE, Int.reduceToNat, Int.toNat_zero, Int.le_refl, Int.reduceAdd, decide_true, decide_false, wr1, wr2, wr3, wr4, c0, c1, c2, c3, c4, Nat.reduceMul, Nat.reduceLT, Nat.lt_irrefl, true_and, and_self, ↓reduceIte]
    refine callO_eq rfl rfl rfl rfl rfl (krErr ([], 3)) ?_
    simp only [bne, show ((3 : Int) == 0) = false from rfl, Bool.not_false, finO, go_sem, Nat.reduceEqDiff, Nat.reduceAdd, Nat.reduceLeDiff, List.length_map, z4, at4, BoxM.at, EvM.at, fillB, Int.reduceLT, Int.reduceLE, Int.reduceToNat, Int.toNat_zero, Int.le_refl, Int.reduceAdd, decide_true, decide_false, wr1, wr2, wr3, wr4, c0, c1, c2, c3, c4, Nat.reduceMul, Nat.reduceLT, Nat.lt_irrefl, true_and, and_self, ↓reduceIte]
    rfl
theorem kReadFilter1 : PureAt Tryz.prog 29 [.val (.string (lb [1]))] (· = .tup [.sl none [], .val (.int .i64 2)]) := by
  refine pure_of r29 (by kernel_rfl) ?_
  unfold m29
  simp only [go_sem, Nat.reduceEqDiff, Nat.reduceAdd, Nat.reduceLeDiff, List.length_map]
  refine callO_eq rfl rfl rfl rfl rfl (kcRead (lb [1])) ?_
  simp only [go_sem, Nat.reduceEqDiff, Nat.reduceAdd, Nat.reduceLeDiff, List.length_map]
  refine callO_eq rfl rfl rfl rfl rfl krTakeFilter1 ?_
  simp only [go_sem, Nat.reduceEqDiff, Nat.reduceAdd, Nat.reduceLeDiff, List.length_map]
  refine callO_eq rfl rfl rfl rfl rfl (krErr ([], 3)) ?_
  simp only [bne, show ((3 : Int) == 0) = false from rfl, Bool.not_false, beq_self_eq_true, go_sem, Nat.reduceEqDiff, Nat.reduceAdd, Nat.reduceLeDiff, List.length_map]
end Go.Proofs

