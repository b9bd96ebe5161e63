/- A part of the proof; what is proved stands in the last text. -/
import Derived.Test.YtijhiblfdidnpaaGreatWD
import Derived.Test.YtijhiblfdidnpaaGreatMM
set_option linter.unusedVariables false
set_option maxRecDepth 2000
namespace Go.Proofs
open Go.Vm
set_option linter.unusedSimpArgs false
end Go.Proofs

namespace Go.Proofs
open Go.Vm
set_option linter.unusedSimpArgs false
end Go.Proofs

namespace Go.Proofs
open Go.Vm
set_option linter.unusedSimpArgs false
theorem app_lb2 (l m : List UInt8) : lb l ++ lb m = lb (l ++ m) := by
 rw [app_lb]
 rfl
end Go.Proofs

namespace Go.Proofs
open Go.Vm
set_option linter.unusedSimpArgs false
theorem toNat_of (x : Nat) (h : x < 256) : (UInt8.ofNat x).toNat = x := by simp; omega
theorem uintG_hi : ∀ (m : Nat), m ≤ 144115188075855871 → ∀ t : List UInt8, uintG true 0 ((encHi m).map UInt8.ofNat ++ t) = uintG (decide (m = 0)) m t := by
 intro m
 induction m using Nat.strongRecOn with
 | _ m ih =>
  intro hm t
  rw [encHi]
  split
  ·rename_i h; subst h; rfl
  ·rename_i h
   rw [List.map_append, List.append_assoc, ih (m / 128) (by omega) (by omega)]
   show uintG _ _ (UInt8.ofNat (m % 128 + 128) :: t) = _
   rw [uintG, toNat_of _ (by omega)]
   have h1 : (decide (m / 128 = 0) && m % 128 + 128 == 128) = false := by
    by_cases h0 : m / 128 = 0
    ·have : ¬ m % 128 + 128 = 128 := by omega
     rw [beq_eq_false_iff_ne.2 this, Bool.and_false]
    ·simp [h0]
   rw [if_neg (by rw [h1]; simp), if_neg (by omega), if_neg (by omega), decide_eq_false h]
   congr 1
   omega
theorem uint_back (n : Nat) (hn : n < 18446744073709551616) (t : List UInt8) : uintR (encB n ++ t, 0) = (n, (t, 0)) := by
 show uintG true 0 (encB n ++ t) = _
 rw [encB, encN, List.map_append, List.append_assoc, uintG_hi _ (by omega)]
 show uintG _ _ (UInt8.ofNat (n % 128) :: t) = _
 rw [uintG, toNat_of _ (by omega)]
 have h1 : ¬ (decide (n / 128 = 0) && n % 128 == 128) = true := by
  have : ¬ n % 128 = 128 := by omega
  simp [this]
 rw [if_neg h1, if_neg (by omega), if_pos (by omega)]
 congr 1
 omega
theorem str_back (most : Nat) (s : ByteArray) (h : s.size ≤ most) (hm : most < 1000) (t : List UInt8) : strR most (strB s ++ t, 0) = (bl s, (t, 0)) := by
 have hu : uintR (strB s ++ t, 0) = (s.size, (bl s ++ t, 0)) := by
  rw [strB, List.append_assoc]; exact uint_back _ (by omega) _
 have hl : (bl s).length = s.size := size_bl s
 have hs : strS most (strB s ++ t, 0) = (bl s ++ t, 0) := by
  unfold strS
  rw [hu, if_neg (by simp; omega), if_neg (by simp; omega)]
 unfold strR
 rw [hs, hu, if_pos rfl]
 simp [← hl]
theorem int_back (n : Int) (h : InRange n) (t : List UInt8) : uintR (encB (foldN n) ++ t, 0) = (foldN n, (t, 0)) ∧ unfoldN (foldN n) = n :=
 ⟨uint_back _ (unfold_fold h).2 t, (unfold_fold h).1⟩
end Go.Proofs
