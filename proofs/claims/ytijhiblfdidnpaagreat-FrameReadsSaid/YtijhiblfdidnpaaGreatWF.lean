/- A part of the proof; what is proved stands in the last text. -/
import Derived.Test.YtijhiblfdidnpaaGreatWE
import Derived.Test.YtijhiblfdidnpaaGreatMM
set_option linter.unusedVariables false
set_option maxRecDepth 2000
namespace Go.Proofs
open Go.Vm
set_option linter.unusedSimpArgs false
def zV : ValM := ⟨0, 0, ⟨#[]⟩⟩
def zE : EvM := ⟨zV, zV, zV, zV⟩
def valR (s : Rdr) : ValM × Rdr :=
 if (byteR s).1 = 1 then (⟨1, unfoldN (uintR (byteR s).2).1, ⟨#[]⟩⟩, (uintR (byteR s).2).2)
 else if (byteR s).1 = 2 then (⟨2, 0, lb (strR 8 (byteR s).2).1⟩, (strR 8 (byteR s).2).2) else (⟨(byteR s).1, 0, ⟨#[]⟩⟩, (byteR s).2)
def rdK (s : Rdr) : Nat → Rdr
 | 0 => s
 | k + 1 => (valR (rdK s k)).2
def vK (s : Rdr) (j : Nat) : ValM := (valR (rdK s j)).1
def evK (s : Rdr) (k : Nat) : EvM := ⟨if 0 < k then vK s 0 else zV, if 1 < k then vK s 1 else zV, if 2 < k then vK s 2 else zV, if 3 < k then vK s 3 else zV⟩
def takeEX (s : Rdr) : EvM × Rdr :=
 let r := if rightE (evK s 4) = true then rdK s 4 else failR (rdK s 4) 2
 (if r.2 = 0 then evK s 4 else zE, r)
theorem failR_len (s : Rdr) (e : Int) : (failR s e).1.length ≤ s.1.length := by
 unfold failR; split <;> simp
theorem byteR_len (s : Rdr) : (byteR s).2.1.length ≤ s.1.length := by
 obtain ⟨l, e⟩ := s
 cases l with
 | nil => exact failR_len _ _
 | cons c l => simp [byteR]
theorem byteR_lt (s : Rdr) : (byteR s).1 < 256 := by
 obtain ⟨l, e⟩ := s
 cases l with
 | nil => simp [byteR]
 | cons c l => exact UInt8.toNat_lt c
theorem strS_len (m : Nat) (s : Rdr) : (strS m s).1.length ≤ s.1.length := by
 have := uintR_len s
 unfold strS
 split
 ·exact Nat.le_trans (failR_len _ _) this
 ·split
  ·exact Nat.le_trans (failR_len _ _) this
  ·exact this
theorem strR_len (m : Nat) (s : Rdr) : (strR m s).2.1.length ≤ s.1.length := by
 have := strS_len m s
 unfold strR
 split
 ·simp; omega
 ·exact this
theorem valR_len (s : Rdr) : (valR s).2.1.length ≤ s.1.length := by
 have h1 := byteR_len s
 unfold valR
 split
 ·exact Nat.le_trans (uintR_len _) h1
 ·split
  ·exact Nat.le_trans (strR_len _ _) h1
  ·exact h1
theorem rdK_len (s : Rdr) : ∀ k, (rdK s k).1.length ≤ s.1.length
 | 0 => Nat.le_refl _
 | k + 1 => Nat.le_trans (valR_len _) (rdK_len s k)
set_option maxHeartbeats 4000000 in
theorem krTakeEvent (s : Rdr) (hs : s.1.length ≤ 1000000) : RdAt 32 [] s (.agg (evC (takeEX s).1)) (takeEX s).2 := by
 refine obj_of [1000000] [] r32 (by kernel_rfl) ?_
 unfold m32
 simp only [go_sem, Nat.reduceEqDiff]
 refine loop_N 4 (fun _ => True) (fun k => ⟨[(0, .ptr 1000000 0), (2, .ptr 2 0), (5, .val (.int .i64 (z4 k)))], [(2, evC (evK s k)), (1000000, rdC (rdK s k))], []⟩) trivial (by simp only [go_sem, Nat.reduceEqDiff]; rfl) ?_
 rintro k hk -
 have hlen := rdK_len s k
 have hk5 : k = 0 ∨ k = 1 ∨ k = 2 ∨ k = 3 ∨ k = 4 := by omega
 rcases hk5 with rfl | rfl | rfl | rfl | rfl
 ·simp only [evC, evK, go_sem, Nat.reduceEqDiff, Nat.reduceAdd, z4, Int.reduceLT, Int.toNat_zero, Int.le_refl, decide_true, c4, Nat.reduceMul, Nat.reduceLT, Nat.lt_irrefl, and_self, ↓reduceIte]
  have hnx : rdK s (0 + 1) = (valR (rdK s 0)).2 := rfl
  have hvx : vK s 0 = (valR (rdK s 0)).1 := rfl
  generalize hr : rdK s 0 = r at *
  refine callO_eq rfl rfl rfl rfl rfl (krByte r) ?_
  have hb := byteR_lt r
  have hbl := byteR_len r
  have wk : IntKind.i64.wrap ((byteR r).1 : Int) = ((byteR r).1 : Int) := wrap64 (by omega) (by omega)
  have b1 : (((byteR r).1 : Int) == 1) = decide ((byteR r).1 = 1) := by rw [Bool.eq_iff_iff]; simp; omega
  have b2 : (((byteR r).1 : Int) == 2) = decide ((byteR r).1 = 2) := by rw [Bool.eq_iff_iff]; simp; omega
  simp only [wk, b1, go_sem, Nat.reduceEqDiff, Nat.reduceAdd, Nat.reduceLeDiff, decide_true, decide_false, true_and, ↓reduceIte]
  cases c1 : decide ((byteR r).1 = 1)
  ·have n1 := of_decide_eq_false c1
   simp only [go_sem, Nat.reduceEqDiff, ↓reduceIte]
   cases c2 : decide ((byteR r).1 = 2)
   ·have n2 := of_decide_eq_false c2
    have hv : valR r = (⟨(byteR r).1, 0, ⟨#[]⟩⟩, (byteR r).2) := by unfold valR; rw [if_neg n1, if_neg n2]
    rw [hv] at hnx hvx
    simp only [b2, go_sem, Nat.reduceEqDiff, Int.reduceAdd, wr1, c2, ↓reduceIte]
    refine invN_next (by omega) trivial ?_
    simp only [hnx, hvx, go_sem, Nat.reduceEqDiff, Nat.reduceAdd, Nat.reduceLT, Nat.lt_irrefl, ↓reduceIte]
    try rfl
   ·have n2 := of_decide_eq_true c2
    have hv : valR r = (⟨2, 0, lb (strR 8 (byteR r).2).1⟩, (strR 8 (byteR r).2).2) := by unfold valR; rw [if_neg n1, if_pos n2]
    rw [hv] at hnx hvx
    simp only [b2, go_sem, Nat.reduceEqDiff, c2, ↓reduceIte]
    refine callO_eq rfl rfl rfl rfl rfl (krStr 8 (by omega) (byteR r).2 (by omega)) ?_
    simp only [go_sem, Nat.reduceEqDiff, Nat.reduceAdd, Nat.reduceLeDiff, Int.reduceAdd, decide_true, decide_false, wr1, true_and, ↓reduceIte]
    refine invN_next (by omega) trivial ?_
    simp only [hnx, hvx, n2, go_sem, Nat.reduceEqDiff, Nat.reduceAdd, Nat.reduceLT, Nat.lt_irrefl, ↓reduceIte]
    try rfl
  ·have n1 := of_decide_eq_true c1
   have hv : valR r = (⟨1, unfoldN (uintR (byteR r).2).1, ⟨#[]⟩⟩, (uintR (byteR r).2).2) := by unfold valR; rw [if_pos n1]
   rw [hv] at hnx hvx
   simp only [go_sem, Nat.reduceEqDiff, ↓reduceIte]
   refine callO_eq rfl rfl rfl rfl rfl (krInt (byteR r).2) ?_
   simp only [go_sem, Nat.reduceEqDiff, Nat.reduceAdd, Nat.reduceLeDiff, Int.reduceAdd, decide_true, decide_false, wr1, true_and, ↓reduceIte]
   refine invN_next (by omega) trivial ?_
   simp only [hnx, hvx, n1, go_sem, Nat.reduceEqDiff, Nat.reduceAdd, Nat.reduceLT, Nat.lt_irrefl, ↓reduceIte]
   try rfl
 ·simp only [evC, evK, go_sem, Nat.reduceEqDiff, Nat.reduceAdd, z4, Int.reduceLT, Int.reduceLE, Int.reduceToNat, decide_true, c4, Nat.reduceMul, Nat.reduceLT, Nat.lt_irrefl, and_self, ↓reduceIte]
  have hnx : rdK s (1 + 1) = (valR (rdK s 1)).2 := rfl
  have hvx : vK s 1 = (valR (rdK s 1)).1 := rfl
  generalize hr : rdK s 1 = r at *
  refine callO_eq rfl rfl rfl rfl rfl (krByte r) ?_
  have hb := byteR_lt r
  have hbl := byteR_len r
  have wk : IntKind.i64.wrap ((byteR r).1 : Int) = ((byteR r).1 : Int) := wrap64 (by omega) (by omega)
  have b1 : (((byteR r).1 : Int) == 1) = decide ((byteR r).1 = 1) := by rw [Bool.eq_iff_iff]; simp; omega
  have b2 : (((byteR r).1 : Int) == 2) = decide ((byteR r).1 = 2) := by rw [Bool.eq_iff_iff]; simp; omega
  simp only [wk, b1, go_sem, Nat.reduceEqDiff, Nat.reduceAdd, Nat.reduceLeDiff, decide_true, decide_false, true_and, ↓reduceIte]
  cases c1 : decide ((byteR r).1 = 1)
  ·have n1 := of_decide_eq_false c1
   simp only [go_sem, Nat.reduceEqDiff, ↓reduceIte]
   cases c2 : decide ((byteR r).1 = 2)
   ·have n2 := of_decide_eq_false c2
    have hv : valR r = (⟨(byteR r).1, 0, ⟨#[]⟩⟩, (byteR r).2) := by unfold valR; rw [if_neg n1, if_neg n2]
    rw [hv] at hnx hvx
    simp only [b2, go_sem, Nat.reduceEqDiff, Int.reduceAdd, wr2, c2, ↓reduceIte]
    refine invN_next (by omega) trivial ?_
    simp only [hnx, hvx, go_sem, Nat.reduceEqDiff, Nat.reduceAdd, Nat.reduceLT, Nat.lt_irrefl, ↓reduceIte]
    try rfl
   ·have n2 := of_decide_eq_true c2
    have hv : valR r = (⟨2, 0, lb (strR 8 (byteR r).2).1⟩, (strR 8 (byteR r).2).2) := by unfold valR; rw [if_neg n1, if_pos n2]
    rw [hv] at hnx hvx
    simp only [b2, go_sem, Nat.reduceEqDiff, c2, ↓reduceIte]
    refine callO_eq rfl rfl rfl rfl rfl (krStr 8 (by omega) (byteR r).2 (by omega)) ?_
    simp only [go_sem, Nat.reduceEqDiff, Nat.reduceAdd, Nat.reduceLeDiff, Int.reduceAdd, decide_true, decide_false, wr2, true_and, ↓reduceIte]
    refine invN_next (by omega) trivial ?_
    simp only [hnx, hvx, n2, go_sem, Nat.reduceEqDiff, Nat.reduceAdd, Nat.reduceLT, Nat.lt_irrefl, ↓reduceIte]
    try rfl
  ·have n1 := of_decide_eq_true c1
   have hv : valR r = (⟨1, unfoldN (uintR (byteR r).2).1, ⟨#[]⟩⟩, (uintR (byteR r).2).2) := by unfold valR; rw [if_pos n1]
   rw [hv] at hnx hvx
   simp only [go_sem, Nat.reduceEqDiff, ↓reduceIte]
   refine callO_eq rfl rfl rfl rfl rfl (krInt (byteR r).2) ?_
   simp only [go_sem, Nat.reduceEqDiff, Nat.reduceAdd, Nat.reduceLeDiff, Int.reduceAdd, decide_true, decide_false, wr2, true_and, ↓reduceIte]
   refine invN_next (by omega) trivial ?_
   simp only [hnx, hvx, n1, go_sem, Nat.reduceEqDiff, Nat.reduceAdd, Nat.reduceLT, Nat.lt_irrefl, ↓reduceIte]
   try rfl
 ·simp only [evC, evK, go_sem, Nat.reduceEqDiff, Nat.reduceAdd, z4, Int.reduceLT, Int.reduceLE, Int.reduceToNat, decide_true, c4, Nat.reduceMul, Nat.reduceLT, Nat.lt_irrefl, and_self, ↓reduceIte]
  have hnx : rdK s (2 + 1) = (valR (rdK s 2)).2 := rfl
  have hvx : vK s 2 = (valR (rdK s 2)).1 := rfl
  generalize hr : rdK s 2 = r at *
  refine callO_eq rfl rfl rfl rfl rfl (krByte r) ?_
  have hb := byteR_lt r
  have hbl := byteR_len r
  have wk : IntKind.i64.wrap ((byteR r).1 : Int) = ((byteR r).1 : Int) := wrap64 (by omega) (by omega)
  have b1 : (((byteR r).1 : Int) == 1) = decide ((byteR r).1 = 1) := by rw [Bool.eq_iff_iff]; simp; omega
  have b2 : (((byteR r).1 : Int) == 2) = decide ((byteR r).1 = 2) := by rw [Bool.eq_iff_iff]; simp; omega
  simp only [wk, b1, go_sem, Nat.reduceEqDiff, Nat.reduceAdd, Nat.reduceLeDiff, decide_true, decide_false, true_and, ↓reduceIte]
  cases c1 : decide ((byteR r).1 = 1)
  ·have n1 := of_decide_eq_false c1
   simp only [go_sem, Nat.reduceEqDiff, ↓reduceIte]
   cases c2 : decide ((byteR r).1 = 2)
   ·have n2 := of_decide_eq_false c2
    have hv : valR r = (⟨(byteR r).1, 0, ⟨#[]⟩⟩, (byteR r).2) := by unfold valR; rw [if_neg n1, if_neg n2]
    rw [hv] at hnx hvx
    simp only [b2, go_sem, Nat.reduceEqDiff, Int.reduceAdd, wr3, c2, ↓reduceIte]
    refine invN_next (by omega) trivial ?_
    simp only [hnx, hvx, go_sem, Nat.reduceEqDiff, Nat.reduceAdd, Nat.reduceLT, Nat.lt_irrefl, ↓reduceIte]
    try rfl
   ·have n2 := of_decide_eq_true c2
    have hv : valR r = (⟨2, 0, lb (strR 8 (byteR r).2).1⟩, (strR 8 (byteR r).2).2) := by unfold valR; rw [if_neg n1, if_pos n2]
    rw [hv] at hnx hvx
    simp only [b2, go_sem, Nat.reduceEqDiff, c2, ↓reduceIte]
    refine callO_eq rfl rfl rfl rfl rfl (krStr 8 (by omega) (byteR r).2 (by omega)) ?_
    simp only [go_sem, Nat.reduceEqDiff, Nat.reduceAdd, Nat.reduceLeDiff, Int.reduceAdd, decide_true, decide_false, wr3, true_and, ↓reduceIte]
    refine invN_next (by omega) trivial ?_
    simp only [hnx, hvx, n2, go_sem, Nat.reduceEqDiff, Nat.reduceAdd, Nat.reduceLT, Nat.lt_irrefl, ↓reduceIte]
    try rfl
  ·have n1 := of_decide_eq_true c1
   have hv : valR r = (⟨1, unfoldN (uintR (byteR r).2).1, ⟨#[]⟩⟩, (uintR (byteR r).2).2) := by unfold valR; rw [if_pos n1]
   rw [hv] at hnx hvx
   simp only [go_sem, Nat.reduceEqDiff, ↓reduceIte]
   refine callO_eq rfl rfl rfl rfl rfl (krInt (byteR r).2) ?_
   simp only [go_sem, Nat.reduceEqDiff, Nat.reduceAdd, Nat.reduceLeDiff, Int.reduceAdd, decide_true, decide_false, wr3, true_and, ↓reduceIte]
   refine invN_next (by omega) trivial ?_
   simp only [hnx, hvx, n1, go_sem, Nat.reduceEqDiff, Nat.reduceAdd, Nat.reduceLT, Nat.lt_irrefl, ↓reduceIte]
   try rfl
 ·simp only [evC, evK, go_sem, Nat.reduceEqDiff, Nat.reduceAdd, z4, Int.reduceLT, Int.reduceLE, Int.reduceToNat, decide_true, c4, Nat.reduceMul, Nat.reduceLT, Nat.lt_irrefl, and_self, ↓reduceIte]
  have hnx : rdK s (3 + 1) = (valR (rdK s 3)).2 := rfl
  have hvx : vK s 3 = (valR (rdK s 3)).1 := rfl
  generalize hr : rdK s 3 = r at *
  refine callO_eq rfl rfl rfl rfl rfl (krByte r) ?_
  have hb := byteR_lt r
  have hbl := byteR_len r
  have wk : IntKind.i64.wrap ((byteR r).1 : Int) = ((byteR r).1 : Int) := wrap64 (by omega) (by omega)
  have b1 : (((byteR r).1 : Int) == 1) = decide ((byteR r).1 = 1) := by rw [Bool.eq_iff_iff]; simp; omega
  have b2 : (((byteR r).1 : Int) == 2) = decide ((byteR r).1 = 2) := by rw [Bool.eq_iff_iff]; simp; omega
  simp only [wk, b1, go_sem, Nat.reduceEqDiff, Nat.reduceAdd, Nat.reduceLeDiff, decide_true, decide_false, true_and, ↓reduceIte]
  cases c1 : decide ((byteR r).1 = 1)
  ·have n1 := of_decide_eq_false c1
   simp only [go_sem, Nat.reduceEqDiff, ↓reduceIte]
   cases c2 : decide ((byteR r).1 = 2)
   ·have n2 := of_decide_eq_false c2
    have hv : valR r = (⟨(byteR r).1, 0, ⟨#[]⟩⟩, (byteR r).2) := by unfold valR; rw [if_neg n1, if_neg n2]
    rw [hv] at hnx hvx
    simp only [b2, go_sem, Nat.reduceEqDiff, Int.reduceAdd, wr4, c2, ↓reduceIte]
    refine invN_next (by omega) trivial ?_
    simp only [hnx, hvx, go_sem, Nat.reduceEqDiff, Nat.reduceAdd, Nat.reduceLT, ↓reduceIte]
    try rfl
   ·have n2 := of_decide_eq_true c2
    have hv : valR r = (⟨2, 0, lb (strR 8 (byteR r).2).1⟩, (strR 8 (byteR r).2).2) := by unfold valR; rw [if_neg n1, if_pos n2]
    rw [hv] at hnx hvx
    simp only [b2, go_sem, Nat.reduceEqDiff, c2, ↓reduceIte]
    refine callO_eq rfl rfl rfl rfl rfl (krStr 8 (by omega) (byteR r).2 (by omega)) ?_
    simp only [go_sem, Nat.reduceEqDiff, Nat.reduceAdd, Nat.reduceLeDiff, Int.reduceAdd, decide_true, decide_false, wr4, true_and, ↓reduceIte]
    refine invN_next (by omega) trivial ?_
    simp only [hnx, hvx, n2, go_sem, Nat.reduceEqDiff, Nat.reduceAdd, Nat.reduceLT, ↓reduceIte]
    try rfl
  ·have n1 := of_decide_eq_true c1
   have hv : valR r = (⟨1, unfoldN (uintR (byteR r).2).1, ⟨#[]⟩⟩, (uintR (byteR r).2).2) := by unfold valR; rw [if_pos n1]
   rw [hv] at hnx hvx
   simp only [go_sem, Nat.reduceEqDiff, ↓reduceIte]
   refine callO_eq rfl rfl rfl rfl rfl (krInt (byteR r).2) ?_
   simp only [go_sem, Nat.reduceEqDiff, Nat.reduceAdd, Nat.reduceLeDiff, Int.reduceAdd, decide_true, decide_false, wr4, true_and, ↓reduceIte]
   refine invN_next (by omega) trivial ?_
   simp only [hnx, hvx, n1, go_sem, Nat.reduceEqDiff, Nat.reduceAdd, Nat.reduceLT, ↓reduceIte]
   try rfl
 ·generalize hE : evK s 4 = E at *
  generalize hR : rdK s 4 = r at *
  have hX : takeEX s = (if (if rightE E = true then r else failR r 2).2 = 0 then E else zE, if rightE E = true then r else failR r 2) := by unfold takeEX; rw [hE, hR]
  rw [hX]
  simp only [evC, go_sem, Nat.reduceEqDiff, Nat.reduceAdd, Nat.reduceLeDiff, z4, Int.reduceLT, decide_false, ↓reduceIte]
  refine callP_eq rfl rfl (kvalEvent E) ?_
  simp only [go_sem, Nat.reduceEqDiff, ↓reduceIte]
  cases c1 : rightE E
  ·simp only [Bool.not_false, Bool.false_eq_true, go_sem, ↓reduceIte]
   have hz := failR_ne r 2 (by decide)
   have hz0 : ((failR r 2).2 == 0) = false := by simpa using hz
   refine callO_eq rfl rfl rfl rfl rfl (krFail r 2) ?_
   simp only [go_sem, Nat.reduceEqDiff, decide_true, decide_false, ↓reduceIte]
   refine callO_eq rfl rfl rfl rfl rfl (krErr (failR r 2)) ?_
   simp only [bne, hz0, Bool.not_false, finO, if_neg hz, go_sem, Nat.reduceEqDiff, Nat.reduceAdd, Nat.reduceLeDiff, decide_true, decide_false, true_and, ↓reduceIte]
   exact ⟨rfl, rfl⟩
  ·simp only [Bool.not_true, go_sem, Nat.reduceEqDiff, ↓reduceIte]
   refine callO_eq rfl rfl rfl rfl rfl (krErr r) ?_
   simp only [bne, go_sem, Nat.reduceEqDiff, decide_true, decide_false, ↓reduceIte]
   cases c2 : r.2 == 0
   ·have n2 : ¬ r.2 = 0 := by simpa using c2
    simp only [Bool.not_false, finO, if_neg n2, go_sem, Nat.reduceEqDiff, Nat.reduceAdd, Nat.reduceLeDiff, true_and, ↓reduceIte]
    exact ⟨rfl, rfl⟩
   ·have n2 : r.2 = 0 := by simpa using c2
    simp only [Bool.not_true, finO, if_pos n2, go_sem, Nat.reduceEqDiff, Nat.reduceAdd, Nat.reduceLeDiff, true_and, ↓reduceIte]
    rfl
end Go.Proofs

namespace Go.Proofs
open Go.Vm
set_option linter.unusedSimpArgs false
end Go.Proofs

namespace Go.Proofs
open Go.Vm
set_option linter.unusedSimpArgs false
def rgR (s : Rdr) : Rg × Rdr := ((unfoldN (uintR s).1, unfoldN (uintR (uintR s).2).1), (uintR (uintR s).2).2)
def rdRgs (s : Rdr) : Nat → List Rg × Rdr
 | 0 => ([], s)
 | k + 1 => ((rdRgs s k).1 ++ [(rgR (rdRgs s k).2).1], (rgR (rdRgs s k).2).2)
def rdStrs (s : Rdr) : Nat → List ByteArray × Rdr
 | 0 => ([], s)
 | k + 1 => ((rdStrs s k).1 ++ [lb (strR 8 (rdStrs s k).2).1], (strR 8 (rdStrs s k).2).2)
def flR (s : Rdr) : Rdr := if 3 < (byteR s).1 then failR (byteR s).2 2 else (byteR s).2
def isR (s : Rdr) : List Rg × Rdr := rdRgs (countR 6 (flR s)).2 (countR 6 (flR s)).1
def ssR (s : Rdr) : List ByteArray × Rdr := rdStrs (countR 6 (isR s).2).2 (countR 6 (isR s).2).1
def absN (n : Nat) : Bool := decide (n % 2 = 1)
def coN (n : Nat) : Bool := decide (n / 2 % 2 = 1)
def takeSX (s : Rdr) : SetM × Rdr := (⟨absN (byteR s).1, (isR s).1, coN (byteR s).1, (ssR s).1⟩, (ssR s).2)
theorem countR_le (m : Nat) (s : Rdr) : (countR m s).1 ≤ m := by
 unfold countR; split
 ·simp
 ·omega
theorem bit_abs0 : ∀ n : Nat, n < 256 → IntKind.u8.wrap (((BitVec.ofInt 8 (n : Int) &&& BitVec.ofInt 8 1).toNat : Nat) : Int) = if absN n then 1 else 0 := by decide +kernel
theorem bit_co0 : ∀ n : Nat, n < 256 → IntKind.u8.wrap (((BitVec.ofInt 8 (n : Int) &&& BitVec.ofInt 8 2).toNat : Nat) : Int) = if coN n then 2 else 0 := by decide +kernel
theorem bit1 (b : Bool) : ((if b = true then (1 : Int) else 0) != 0) = b := by cases b <;> rfl
theorem bit2 (b : Bool) : ((if b = true then (2 : Int) else 0) != 0) = b := by cases b <;> rfl
theorem bit_abs (n : Nat) (h : n < 256) : (IntKind.u8.wrap (((BitVec.ofInt 8 (n : Int) &&& BitVec.ofInt 8 1).toNat : Nat) : Int) != 0) = absN n := by rw [bit_abs0 n h]; exact bit1 _
theorem bit_co (n : Nat) (h : n < 256) : (IntKind.u8.wrap (((BitVec.ofInt 8 (n : Int) &&& BitVec.ofInt 8 2).toNat : Nat) : Int) != 0) = coN n := by rw [bit_co0 n h]; exact bit2 _
theorem countR_len (m : Nat) (s : Rdr) : (countR m s).2.1.length ≤ s.1.length := by
 unfold countR
 split
 ·exact Nat.le_trans (failR_len _ _) (uintR_len _)
 ·exact uintR_len _
theorem rgR_len (s : Rdr) : (rgR s).2.1.length ≤ s.1.length := Nat.le_trans (uintR_len _) (uintR_len _)
theorem rdRgs_len (s : Rdr) : ∀ k, (rdRgs s k).2.1.length ≤ s.1.length
 | 0 => Nat.le_refl _
 | k + 1 => Nat.le_trans (rgR_len _) (rdRgs_len s k)
theorem rdStrs_len (s : Rdr) : ∀ k, (rdStrs s k).2.1.length ≤ s.1.length
 | 0 => Nat.le_refl _
 | k + 1 => Nat.le_trans (strR_len _ _) (rdStrs_len s k)
theorem flR_len (s : Rdr) : (flR s).1.length ≤ s.1.length := by
 unfold flR
 split
 ·exact Nat.le_trans (failR_len _ _) (byteR_len _)
 ·exact byteR_len _
theorem isR_len (s : Rdr) : (isR s).2.1.length ≤ s.1.length := Nat.le_trans (rdRgs_len _ _) (Nat.le_trans (countR_len _ _) (flR_len _))
theorem ssR_len (s : Rdr) : (ssR s).2.1.length ≤ s.1.length := Nat.le_trans (rdStrs_len _ _) (Nat.le_trans (countR_len _ _) (isR_len _))
theorem takeSX_len (s : Rdr) : (takeSX s).2.1.length ≤ s.1.length := ssR_len s
@[go_sem] theorem keep_rdC (p : Nat → Bool) (q : Tag → Bool) (s : Rdr) : (rdC s).map (D.keep p q) = rdC s := rfl
@[go_sem] theorem fzb_rdC (o : Nat) (fs : List D) (s : Rdr) : (rdC s).map (D.fzb o fs) = rdC s := rfl
theorem rdRgs_n (s : Rdr) : ∀ k, (rdRgs s k).1.length = k
 | 0 => rfl
 | k + 1 => by simp [rdRgs, rdRgs_n s k]
theorem rdStrs_n (s : Rdr) : ∀ k, (rdStrs s k).1.length = k
 | 0 => rfl
 | k + 1 => by simp [rdStrs, rdStrs_n s k]
theorem condE_join {P : Program} {S : St} {K : Ex → St → Prop} {t : Bool} {x y : MC} {G : Prop} (h2 : t = false → G → ev P y S K) (h1 : t = true → G → ev P x S K) (h : G) : condE P (some (.val (.bool t))) x y S K :=
 ⟨fun e => h1 e h, fun e => h2 e h⟩
def setO (t u : Tag) (s : SetM) : List D := [.val (.bool s.absent), .sl (some t) (s.ints.map encR), .val (.bool s.co), .sl (some u) (s.strs.map encSt)]
set_option maxHeartbeats 4000000 in
theorem krTakeSet (s : Rdr) (hs : s.1.length ≤ 1000000) : RdAt 92 [] s (.agg (setC (takeSX s).1)) (takeSX s).2 := by
 have hb := byteR_lt s
 have hfl : flR s = if 3 < (byteR s).1 then failR (byteR s).2 2 else (byteR s).2 := rfl
 have q1 := countR_le 6 (flR s)
 have q2 := countR_le 6 (isR s).2
 have l1 := flR_len s
 refine obj_of [1000000] [] r92 (by kernel_rfl) ?_
 unfold m92
 simp only [go_sem, Nat.reduceEqDiff, decide_false, Nat.reduceLT, true_and, and_self, ↓reduceIte]
 refine callO_eq rfl rfl rfl rfl rfl (krByte s) ?_
 have d1 := bit_abs _ hb
 have d2 := bit_co _ hb
 have g3 : decide (((byteR s).1 : Int) > 3) = decide (3 < (byteR s).1) := by rw [decide_eq_decide]; omega
 simp only [g3, go_sem, Nat.reduceEqDiff, decide_true, decide_false, true_and, and_self, ↓reduceIte]
 apply condE_join
 ·intro c3 hG
  have n3 := of_decide_eq_false c3
  rw [if_neg n3] at hfl
  simp only [go_sem, Nat.reduceEqDiff, Nat.reduceAdd, Nat.reduceLeDiff, c3, true_and, and_self, ↓reduceIte]
  rw [← hfl]
  exact hG
 ·intro c3 hG
  have n3 := of_decide_eq_true c3
  rw [if_pos n3] at hfl
  simp only [go_sem, c3, ↓reduceIte]
  refine callO_eq rfl rfl rfl rfl rfl (krFail (byteR s).2 2) ?_
  simp only [go_sem, Nat.reduceEqDiff, Nat.reduceAdd, Nat.reduceLeDiff, decide_true, decide_false, true_and, and_self, ↓reduceIte]
  rw [← hfl]
  exact hG
 refine callO_eq rfl rfl rfl rfl rfl (kwcount 6 (by omega) (flR s)) ?_
 simp only [go_sem, Nat.reduceEqDiff, decide_true, decide_false, true_and, and_self, ↓reduceIte]
 have E : ∀ X Y, X = absN (byteR s).1 → Y = coN (byteR s).1 → (⟨[(0, .ptr 1000000 0), (2, .ptr 2 0), (20, .val (.int .i64 (countR 6 (flR s)).1)), (21, .val (.int .i64 0))],
  [(2, [.val (.bool X), .sl (some (2, 128, 2)) [], .val (.bool Y), .sl (some (2, 9, 1)) []]), (1000000, rdC (countR 6 (flR s)).2)], [((2, 128, 2), true), ((2, 9, 1), true)]⟩ : St) =
  ⟨[(0, .ptr 1000000 0), (2, .ptr 2 0), (20, .val (.int .i64 (countR 6 (flR s)).1)), (21, .val (.int .i64 ((0 : Nat) : Int)))],
  [(2, setO (2, 128, 2) (2, 9, 1) ⟨absN (byteR s).1, (rdRgs (countR 6 (flR s)).2 0).1, coN (byteR s).1, []⟩), (1000000, rdC (rdRgs (countR 6 (flR s)).2 0).2)], [((2, 128, 2), true), ((2, 9, 1), true)]⟩ := by
  rintro _ _ rfl rfl; rfl
 refine loop_N (countR 6 (flR s)).1 (fun _ => True) (fun i => ⟨[(0, .ptr 1000000 0), (2, .ptr 2 0), (20, .val (.int .i64 (countR 6 (flR s)).1)), (21, .val (.int .i64 i))],
  [(2, setO (2, 128, 2) (2, 9, 1) ⟨absN (byteR s).1, (rdRgs (countR 6 (flR s)).2 i).1, coN (byteR s).1, []⟩), (1000000, rdC (rdRgs (countR 6 (flR s)).2 i).2)], [((2, 128, 2), true), ((2, 9, 1), true)]⟩) trivial (by simp only [go_sem, Nat.reduceEqDiff]; exact E _ _ d1 d2) ?_
 rintro i hi -
 have lq := rdRgs_n (countR 6 (flR s)).2 i
 have li := isR_len s
 have hR : isR s = rdRgs (countR 6 (flR s)).2 (countR 6 (flR s)).1 := rfl
 have hS : rdRgs (countR 6 (flR s)).2 (i + 1) = ((rdRgs (countR 6 (flR s)).2 i).1 ++ [(rgR (rdRgs (countR 6 (flR s)).2 i).2).1], (rgR (rdRgs (countR 6 (flR s)).2 i).2).2) := rfl
 have ci : decide ((i : Int) < ((countR 6 (flR s)).1 : Int)) = decide (i < (countR 6 (flR s)).1) := by rw [decide_eq_decide]; omega
 simp only [ci, go_sem, Nat.reduceEqDiff, true_and, and_self, ↓reduceIte]
 cases c4 : decide (i < (countR 6 (flR s)).1)
 ·have : i = (countR 6 (flR s)).1 := by have := of_decide_eq_false c4; omega
  subst this
  rw [← hR]
  simp only [setO, go_sem, Nat.reduceEqDiff, true_and, and_self, ↓reduceIte]
  refine callO_eq rfl rfl rfl rfl rfl (kwcount 6 (by omega) (isR s).2) ?_
  simp only [go_sem, Nat.reduceEqDiff, decide_true, decide_false, true_and, and_self, ↓reduceIte]
  have lq2 := rdStrs_n (countR 6 (isR s).2).2
  refine loop_N (countR 6 (isR s).2).1 (fun _ => True) (fun i => ⟨[(0, .ptr 1000000 0), (2, .ptr 2 0), (36, .val (.int .i64 (countR 6 (isR s).2).1)), (37, .val (.int .i64 i))],
   [(2, setO (2, 128, 2) (2, 9, 1) ⟨absN (byteR s).1, (isR s).1, coN (byteR s).1, (rdStrs (countR 6 (isR s).2).2 i).1⟩), (1000000, rdC (rdStrs (countR 6 (isR s).2).2 i).2)], [((2, 128, 2), true), ((2, 9, 1), true)]⟩) trivial (by simp only [go_sem, Nat.reduceEqDiff]; rfl) ?_
  rintro i hi -
  have lq := rdStrs_n (countR 6 (isR s).2).2 i
  have ll : (rdStrs (countR 6 (isR s).2).2 i).2.1.length ≤ 1000000 := Nat.le_trans (rdStrs_len _ _) (Nat.le_trans (countR_len _ _) (by omega))
  have hR : ssR s = rdStrs (countR 6 (isR s).2).2 (countR 6 (isR s).2).1 := rfl
  have hS : rdStrs (countR 6 (isR s).2).2 (i + 1) = ((rdStrs (countR 6 (isR s).2).2 i).1 ++ [lb (strR 8 (rdStrs (countR 6 (isR s).2).2 i).2).1], (strR 8 (rdStrs (countR 6 (isR s).2).2 i).2).2) := rfl
  have ci : decide ((i : Int) < ((countR 6 (isR s).2).1 : Int)) = decide (i < (countR 6 (isR s).2).1) := by rw [decide_eq_decide]; omega
  simp only [ci, go_sem, Nat.reduceEqDiff, true_and, and_self, ↓reduceIte]
  cases c4 : decide (i < (countR 6 (isR s).2).1)
  ·have : i = (countR 6 (isR s).2).1 := by have := of_decide_eq_false c4; omega
   subst this
   rw [← hR]
   simp only [setO, finO, go_sem, Nat.reduceEqDiff, Nat.reduceAdd, Nat.reduceLeDiff, true_and, and_self, ↓reduceIte]
   exact ⟨rfl, rfl⟩
  ·have lt := of_decide_eq_true c4
   generalize hq : rdStrs (countR 6 (isR s).2).2 i = q at *
   simp only [setO, go_sem, Nat.reduceEqDiff, Nat.reduceAdd, decide_true, decide_false, true_and, and_self, ↓reduceIte]
   have w1 : IntKind.i64.wrap ((i : Int) + 1) = ((i + 1 : Nat) : Int) := wrap64 (by omega) (by omega)
   repeat' (first | (refine callO_eq rfl rfl rfl rfl rfl (krStr 8 (by omega) q.2 ll) ?_; simp only [go_sem, Nat.reduceEqDiff, Nat.reduceAdd, Nat.reduceLeDiff, List.length_map, decide_true, decide_false, true_and, and_self, ↓reduceIte]) | apply And.intro)
   all_goals first
    | (intro e he; obtain ⟨r, -, rfl⟩ := List.mem_map.1 he; rfl)
    | (rintro _ rfl; rfl)
    | omega
    | (refine invN_next (by omega) trivial ?_
       simp only [hS, w1, List.map_append, List.map_cons, List.map_nil, go_sem, Nat.reduceEqDiff, true_and, and_self, ↓reduceIte]
       rfl)
 ·have lt := of_decide_eq_true c4
  generalize hq : rdRgs (countR 6 (flR s)).2 i = q at *
  simp only [go_sem, Nat.reduceEqDiff, true_and, and_self, ↓reduceIte]
  refine callO_eq rfl rfl rfl rfl rfl (krInt q.2) ?_
  simp only [setO, go_sem, Nat.reduceEqDiff, Nat.reduceAdd, decide_true, decide_false, true_and, and_self, ↓reduceIte]
  have w1 : IntKind.i64.wrap ((i : Int) + 1) = ((i + 1 : Nat) : Int) := wrap64 (by omega) (by omega)
  repeat' (first | (refine callO_eq rfl rfl rfl rfl rfl (krInt (uintR q.2).2) ?_; simp only [go_sem, Nat.reduceEqDiff, Nat.reduceAdd, Nat.reduceLeDiff, List.length_map, decide_true, decide_false, true_and, and_self, ↓reduceIte]) | apply And.intro)
  all_goals first
   | (intro e he; obtain ⟨r, -, rfl⟩ := List.mem_map.1 he; rfl)
   | (rintro _ rfl; rfl)
   | omega
   | (refine invN_next (by omega) trivial ?_
      simp only [hS, w1, List.map_append, List.map_cons, List.map_nil, go_sem, Nat.reduceEqDiff, true_and, and_self, ↓reduceIte]
      rfl)
  done
end Go.Proofs

namespace Go.Proofs
open Go.Vm
set_option linter.unusedSimpArgs false
def rdS (s : Rdr) : Nat → Rdr
 | 0 => s
 | k + 1 => (takeSX (rdS s k)).2
def sK (s : Rdr) (j : Nat) : SetM := (takeSX (rdS s j)).1
def bxR (s : Rdr) : BoxM × Rdr := (⟨sK s 0, sK s 1, sK s 2, sK s 3⟩, rdS s 4)
def rdBoxes (s : Rdr) : Nat → List BoxM × Rdr
 | 0 => ([], s)
 | k + 1 => ((rdBoxes s k).1 ++ [(bxR (rdBoxes s k).2).1], (bxR (rdBoxes s k).2).2)
def filR (s : Rdr) : List BoxM × Rdr := rdBoxes (countR 4 s).2 (countR 4 s).1
def takeFR (s : Rdr) : Rdr := if (filR s).2.2 = 0 ∧ rightF (filR s).1 = false then failR (filR s).2 2 else (filR s).2
def takeFX (s : Rdr) : List BoxM × Rdr := (if (takeFR s).2 = 0 then (filR s).1 else [], takeFR s)
theorem unfold_in {n : Nat} (h : n < 18446744073709551616) : InRange (unfoldN n) := by
 unfold unfoldN InRange
 split <;> constructor <;> omega
theorem rdRgs_bnd (s : Rdr) : ∀ k, ∀ r ∈ (rdRgs s k).1, InB r
 | 0, r, h => by simp [rdRgs] at h
 | k + 1, r, h => by
  simp only [rdRgs, List.mem_append, List.mem_singleton] at h
  rcases h with h | rfl
  ·exact rdRgs_bnd s k r h
  ·have h1 := unfold_in (uintR_lt (rdRgs s k).2)
   have h2 := unfold_in (uintR_lt (uintR (rdRgs s k).2).2)
   obtain ⟨a1, a2⟩ := h1
   obtain ⟨b1, b2⟩ := h2
   exact ⟨⟨a1, a2⟩, ⟨b1, b2⟩⟩
theorem takeSX_ok (s : Rdr) : (takeSX s).1.ints.length ≤ 6 ∧ (takeSX s).1.strs.length ≤ 6 ∧ Bnd (takeSX s).1 := by
 refine ⟨?_, ?_, fun r h => rdRgs_bnd _ _ r h⟩
 ·show (rdRgs _ _).1.length ≤ 6
  rw [rdRgs_n]; exact countR_le _ _
 ·show (rdStrs _ _).1.length ≤ 6
  rw [rdStrs_n]; exact countR_le _ _
theorem bxR_ok (s : Rdr) : FewB 900 (bxR s).1 ∧ BndB (bxR s).1 := by
 constructor
 ·intro i hi
  rcases lt4 hi with rfl | rfl | rfl | rfl
  all_goals exact ⟨Nat.le_trans (takeSX_ok _).1 (by omega), Nat.le_trans (takeSX_ok _).2.1 (by omega)⟩
 ·intro i hi
  rcases lt4 hi with rfl | rfl | rfl | rfl
  all_goals exact (takeSX_ok _).2.2
theorem rdBoxes_n (s : Rdr) : ∀ k, (rdBoxes s k).1.length = k
 | 0 => rfl
 | k + 1 => by simp [rdBoxes, rdBoxes_n s k]
theorem rdBoxes_ok (s : Rdr) : ∀ k, ∀ b ∈ (rdBoxes s k).1, FewB 900 b ∧ BndB b
 | 0, b, h => by simp [rdBoxes] at h
 | k + 1, b, h => by
  simp only [rdBoxes, List.mem_append, List.mem_singleton] at h
  rcases h with h | rfl
  ·exact rdBoxes_ok s k b h
  ·exact bxR_ok _
theorem rdS_len (s : Rdr) : ∀ k, (rdS s k).1.length ≤ s.1.length
 | 0 => Nat.le_refl _
 | k + 1 => Nat.le_trans (takeSX_len _) (rdS_len s k)
theorem bxR_len (s : Rdr) : (bxR s).2.1.length ≤ s.1.length := by
 show (rdS s 4).1.length ≤ _
 exact rdS_len s 4
theorem rdBoxes_len (s : Rdr) : ∀ k, (rdBoxes s k).2.1.length ≤ s.1.length
 | 0 => Nat.le_refl _
 | k + 1 => by
  show (bxR (rdBoxes s k).2).2.1.length ≤ _
  exact Nat.le_trans (bxR_len (rdBoxes s k).2) (rdBoxes_len s k)
theorem filR_len (s : Rdr) : (filR s).2.1.length ≤ s.1.length := Nat.le_trans (rdBoxes_len _ _) (countR_len _ _)
theorem takeFX_len (s : Rdr) : (takeFX s).2.1.length ≤ s.1.length := by
 show (takeFR s).1.length ≤ _
 unfold takeFR
 split
 ·exact Nat.le_trans (failR_len _ _) (filR_len s)
 ·exact filR_len s
def FilAt (k : FuncId) (s : Rdr) (l : List BoxM) (s' : Rdr) : Prop := RdAt k [] s (.sl none (l.map boxC)) s'
set_option maxHeartbeats 4000000 in
theorem krTakeFilter (s : Rdr) (hs : s.1.length ≤ 1000000) : FilAt 65 s (takeFX s).1 (takeFX s).2 := by
 have q1 := countR_le 4 s
 have l1 := countR_len 4 s
 refine obj_of [1000000] [] r65 (by kernel_rfl) ?_
 unfold m65
 simp only [go_sem, Nat.reduceEqDiff, ↓reduceIte]
 refine callO_eq rfl rfl rfl rfl rfl (kwcount 4 (by omega) s) ?_
 simp only [go_sem, Nat.reduceEqDiff, decide_false, ↓reduceIte]
 refine loop_N (countR 4 s).1 (fun _ => True) (fun i => ⟨[(0, .ptr 1000000 0), (2, .sl (some (2, 106, 16)) ((rdBoxes (countR 4 s).2 i).1.map boxC)), (6, .val (.int .i64 (countR 4 s).1)), (7, .val (.int .i64 i))], [(1000000, rdC (rdBoxes (countR 4 s).2 i).2)], [((2, 106, 16), true)]⟩) trivial (by simp only [go_sem, Nat.reduceEqDiff]; rfl) ?_
 rintro i hi -
 have lq := rdBoxes_n (countR 4 s).2 i
 have ll : (rdBoxes (countR 4 s).2 i).2.1.length ≤ 1000000 := Nat.le_trans (rdBoxes_len _ _) (by omega)
 have hR : filR s = rdBoxes (countR 4 s).2 (countR 4 s).1 := rfl
 have hS : rdBoxes (countR 4 s).2 (i + 1) = ((rdBoxes (countR 4 s).2 i).1 ++ [(bxR (rdBoxes (countR 4 s).2 i).2).1], (bxR (rdBoxes (countR 4 s).2 i).2).2) := rfl
 have ci : decide ((i : Int) < ((countR 4 s).1 : Int)) = decide (i < (countR 4 s).1) := by rw [decide_eq_decide]; omega
 simp only [ci, go_sem, Nat.reduceEqDiff, ↓reduceIte]
 cases d4 : decide (i < (countR 4 s).1)
 ·have : i = (countR 4 s).1 := by have := of_decide_eq_false d4; omega
  subst this
  have hok := rdBoxes_ok (countR 4 s).2 (countR 4 s).1
  rw [← hR] at lq hok ⊢
  have p1 := kdnfRight (filR s).1 (by omega) (fun b hb => (hok b hb).1) (fun b hb => (hok b hb).2)
  have hX : takeFX s = (if (takeFR s).2 = 0 then (filR s).1 else [], takeFR s) := rfl
  have hX2 : takeFR s = if (filR s).2.2 = 0 ∧ rightF (filR s).1 = false then failR (filR s).2 2 else (filR s).2 := rfl
  generalize filR s = p at *
  simp only [go_sem, Nat.reduceEqDiff, ↓reduceIte]
  refine callO_eq rfl rfl rfl rfl rfl (krErr p.2) ?_
  simp only [go_sem, decide_false, ↓reduceIte]
  cases c5 : p.2.2 == 0
  ·have n5 : ¬ p.2.2 = 0 := by simpa using c5
   rw [if_neg (fun h => n5 h.1)] at hX2
   rw [hX2, if_neg n5] at hX
   rw [hX]
   simp only [go_sem, Nat.reduceEqDiff, ↓reduceIte]
   refine callO_eq rfl rfl rfl rfl rfl (krErr p.2) ?_
   simp only [bne, c5, Bool.not_false, finO, go_sem, Nat.reduceEqDiff, decide_true, decide_false, ↓reduceIte]
   exact ⟨rfl, rfl⟩
  ·have n5 : p.2.2 = 0 := by simpa using c5
   simp only [go_sem, Nat.reduceEqDiff, ↓reduceIte]
   refine callP_eq rfl rfl p1 ?_
   cases c6 : rightF p.1
   ·rw [if_pos ⟨n5, c6⟩] at hX2
    have hz := failR_ne p.2 2 (by decide)
    have hz0 : ((failR p.2 2).2 == 0) = false := by simpa using hz
    rw [hX2, if_neg hz] at hX
    rw [hX]
    simp only [go_sem, Nat.reduceEqDiff, ↓reduceIte]
    refine callO_eq rfl rfl rfl rfl rfl (krFail p.2 2) ?_
    simp only [go_sem, Nat.reduceEqDiff, decide_false, ↓reduceIte]
    refine callO_eq rfl rfl rfl rfl rfl (krErr (failR p.2 2)) ?_
    simp only [bne, hz0, Bool.not_false, finO, go_sem, Nat.reduceEqDiff, decide_true, decide_false, ↓reduceIte]
    exact ⟨rfl, rfl⟩
   ·rw [if_neg (by rintro ⟨-, h⟩; rw [c6] at h; cases h)] at hX2
    rw [hX2, if_pos n5] at hX
    rw [hX]
    simp only [go_sem, Nat.reduceEqDiff, ↓reduceIte]
    refine callO_eq rfl rfl rfl rfl rfl (krErr p.2) ?_
    simp only [bne, c5, Bool.not_true, finO, go_sem, Nat.reduceEqDiff, decide_false, ↓reduceIte]
    exact ⟨rfl, rfl⟩
 ·have lt := of_decide_eq_true d4
  generalize hq : rdBoxes (countR 4 s).2 i = q at *
  have e0 := rdS_len q.2
  have s1 : (takeSX (rdS q.2 0)).2 = rdS q.2 1 := rfl
  have s2 : (takeSX (rdS q.2 1)).2 = rdS q.2 2 := rfl
  have s3 : (takeSX (rdS q.2 2)).2 = rdS q.2 3 := rfl
  have s4 : (takeSX (rdS q.2 3)).2 = rdS q.2 4 := rfl
  simp only [go_sem, Nat.reduceEqDiff, decide_false, ↓reduceIte]
  refine ev_loop_u 4 ?_
  simp only [go_sem, Nat.reduceEqDiff, Int.reduceLT, decide_true, ↓reduceIte]
  refine callO_eq rfl rfl rfl rfl rfl (krTakeSet (rdS q.2 0) (by have := e0 0; omega)) ?_
  simp only [setC, s1, go_sem, Nat.reduceEqDiff, Nat.reduceAdd, Nat.reduceLeDiff, Int.reduceLT, Int.toNat_zero, Int.le_refl, Int.reduceAdd, decide_true, decide_false, wr1, c4, Nat.reduceMul, true_and, and_self, ↓reduceIte]
  refine callO_eq rfl rfl rfl rfl rfl (krTakeSet (rdS q.2 1) (by have := e0 1; omega)) ?_
  simp only [setC, s2, go_sem, Nat.reduceEqDiff, Nat.reduceAdd, Nat.reduceLeDiff, Int.reduceLT, Int.reduceLE, Int.reduceToNat, Int.reduceAdd, decide_true, decide_false, wr2, c4, Nat.reduceMul, true_and, and_self, ↓reduceIte]
  refine callO_eq rfl rfl rfl rfl rfl (krTakeSet (rdS q.2 2) (by have := e0 2; omega)) ?_
  simp only [setC, s3, go_sem, Nat.reduceEqDiff, Nat.reduceAdd, Nat.reduceLeDiff, Int.reduceLT, Int.reduceLE, Int.reduceToNat, Int.reduceAdd, decide_true, decide_false, wr3, c4, Nat.reduceMul, true_and, and_self, ↓reduceIte]
  refine callO_eq rfl rfl rfl rfl rfl (krTakeSet (rdS q.2 3) (by have := e0 3; omega)) ?_
  simp only [setC, s4, go_sem, Nat.reduceEqDiff, Nat.reduceAdd, Nat.reduceLeDiff, List.length_map, Int.reduceLT, Int.reduceLE, Int.reduceToNat, Int.reduceAdd, decide_true, decide_false, wr4, c4, Nat.reduceMul, true_and, and_self, ↓reduceIte]
  have w1 : IntKind.i64.wrap ((i : Int) + 1) = ((i + 1 : Nat) : Int) := wrap64 (by omega) (by omega)
  refine ⟨?_, (by rintro _ rfl; rfl), (by omega), (by omega), invN_next (by omega) trivial ?_⟩
  ·intro e he; obtain ⟨r, -, rfl⟩ := List.mem_map.1 he; rfl
  ·simp only [hS, w1, List.map_append, List.map_cons, List.map_nil, bxR, sK, boxC, go_sem, Nat.reduceEqDiff, ↓reduceIte]
end Go.Proofs
