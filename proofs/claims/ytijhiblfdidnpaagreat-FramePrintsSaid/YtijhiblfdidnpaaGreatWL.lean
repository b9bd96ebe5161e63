/- A part of the proof; what is proved stands in the last text. -/
import Derived.Test.YtijhiblfdidnpaaGreatWK
set_option linter.unusedVariables false
set_option maxRecDepth 2000
namespace Go.Proofs
open Go.Vm
set_option linter.unusedSimpArgs false
end Go.Proofs

namespace Go.Proofs
open Go.Vm
set_option linter.unusedSimpArgs false
end Go.Proofs

namespace Go.Proofs
open Go.Vm
set_option linter.unusedSimpArgs false
theorem uintG_forth : ∀ (l : List UInt8) (first : Bool) (m : Nat), (first = true → m = 0) → (first = false → m ≠ 0) → (uintG first m l).2.2 = 0 → (encHi m).map UInt8.ofNat ++ l = encB (uintG first m l).1 ++ (uintG first m l).2.1
 | [], first, m, _, _, h => by simp [uintG] at h
 | c :: t, first, m, h1, h2, h => by
  have hc := UInt8.toNat_lt c
  unfold uintG at h ⊢
  by_cases k1 : (first && c.toNat == 128) = true
  ·rw [if_pos k1] at h; simp at h
  ·rw [if_neg k1] at h ⊢
   by_cases k2 : 144115188075855871 < m
   ·rw [if_pos k2] at h; simp at h
   ·rw [if_neg k2] at h ⊢
    by_cases k3 : c.toNat < 128
    ·rw [if_pos k3] at h ⊢
     simp only
     rw [encB, encN, show (m * 128 + c.toNat) / 128 = m by omega, show (m * 128 + c.toNat) % 128 = c.toNat by omega, List.map_append, List.append_assoc]
     simp
    ·rw [if_neg k3] at h ⊢
     have hm : m * 128 + (c.toNat - 128) ≠ 0 := by
      intro h0
      have hm0 : m = 0 := by omega
      have hc0 : c.toNat = 128 := by omega
      cases first with
      | true => simp [hc0] at k1
      | false => exact h2 rfl hm0
     have ih := uintG_forth t false (m * 128 + (c.toNat - 128)) (fun h => by cases h) (fun _ => hm) h
     rw [← ih]
     conv => rhs; rw [encHi]
     rw [dif_neg hm, show (m * 128 + (c.toNat - 128)) / 128 = m by omega, show (m * 128 + (c.toNat - 128)) % 128 + 128 = c.toNat by omega]
     simp
theorem uint_forth {s : Rdr} (h : (uintR s).2.2 = 0) : s.2 = 0 ∧ s.1 = encB (uintR s).1 ++ (uintR s).2.1 := by
 by_cases h0 : s.2 = 0
 ·refine ⟨h0, ?_⟩
  unfold uintR at h ⊢
  rw [if_pos h0] at h ⊢
  have := uintG_forth s.1 true 0 (fun _ => rfl) (fun h => by cases h) h
  rw [encHi, dif_pos rfl] at this
  exact this
 ·rw [uintR_stop h0] at h
  exact absurd h h0
theorem fold_unfold {n : Nat} : foldN (unfoldN n) = n := by
 unfold foldN unfoldN
 split <;> split <;> omega
theorem rg_forth {s : Rdr} (h : (rgR s).2.2 = 0) : s.2 = 0 ∧ s.1 = rgB (rgR s).1 ++ (rgR s).2.1 := by
 unfold rgR at h ⊢
 obtain ⟨h1, h2⟩ := uint_forth h
 obtain ⟨h3, h4⟩ := uint_forth h1
 refine ⟨h3, ?_⟩
 rw [rgB]
 simp only
 rw [fold_unfold, fold_unfold, List.append_assoc, ← h2, ← h4]
theorem rgs_forth : ∀ (k : Nat) (s : Rdr), (rdRgs s k).2.2 = 0 → s.2 = 0 ∧ s.1 = (rdRgs s k).1.flatMap rgB ++ (rdRgs s k).2.1
 | 0, s, h => ⟨h, by simp [rdRgs]⟩
 | k + 1, s, h => by
  rw [rdRgs_head] at h ⊢
  obtain ⟨h1, h2⟩ := rgs_forth k _ h
  obtain ⟨h3, h4⟩ := rg_forth h1
  refine ⟨h3, ?_⟩
  rw [List.flatMap_cons, List.append_assoc]
  simp only
  rw [← h2, ← h4]
theorem str_forth {m : Nat} {s : Rdr} (h : (strR m s).2.2 = 0) : s.2 = 0 ∧ s.1 = strB (lb (strR m s).1) ++ (strR m s).2.1 := by
 unfold strR at h ⊢
 by_cases h0 : (strS m s).2 = 0
 ·rw [if_pos h0]
  unfold strS at h0 ⊢
  by_cases c1 : m < (uintR s).1
  ·rw [if_pos c1] at h0
   exact absurd h0 (failR_ne _ _ (by decide))
  ·rw [if_neg c1] at h0 ⊢
   by_cases c2 : (uintR s).2.1.length < (uintR s).1
   ·rw [if_pos c2] at h0
    exact absurd h0 (failR_ne _ _ (by decide))
   ·rw [if_neg c2] at h0 ⊢
    obtain ⟨h1, h2⟩ := uint_forth h0
    refine ⟨h1, ?_⟩
    have e : bl (lb ((uintR s).2.1.take (uintR s).1)) = (uintR s).2.1.take (uintR s).1 := by simp [bl, lb]
    rw [strB, size_lb, e, List.length_take, Nat.min_eq_left (by omega), List.append_assoc]
    simp only
    rw [List.take_append_drop]
    exact h2
 ·rw [if_neg h0] at h
  exact absurd h h0
theorem strs_forth : ∀ (k : Nat) (s : Rdr), (rdStrs s k).2.2 = 0 → s.2 = 0 ∧ s.1 = (rdStrs s k).1.flatMap strB ++ (rdStrs s k).2.1
 | 0, s, h => ⟨h, by simp [rdStrs]⟩
 | k + 1, s, h => by
  rw [rdStrs_head] at h ⊢
  obtain ⟨h1, h2⟩ := strs_forth k _ h
  obtain ⟨h3, h4⟩ := str_forth h1
  refine ⟨h3, ?_⟩
  rw [List.flatMap_cons, List.append_assoc]
  simp only
  rw [← h2, ← h4]
theorem count_forth {m : Nat} {s : Rdr} (h : (countR m s).2.2 = 0) : s.2 = 0 ∧ s.1 = encB (countR m s).1 ++ (countR m s).2.1 := by
 unfold countR at h ⊢
 by_cases c1 : m < (uintR s).1
 ·rw [if_pos c1] at h
  exact absurd h (failR_ne _ _ (by decide))
 ·rw [if_neg c1] at h ⊢
  exact uint_forth h
theorem byte_forth {s : Rdr} (h : (byteR s).2.2 = 0) : s.2 = 0 ∧ s.1 = UInt8.ofNat (byteR s).1 :: (byteR s).2.1 := by
 obtain ⟨l, e⟩ := s
 cases l with
 | nil => exact absurd h (failR_ne _ _ (by decide))
 | cons c t => exact ⟨h, by simp [byteR]⟩
theorem flag_forth : ∀ c, c ≤ 3 → ∀ is ss, flagN ⟨absN c, is, coN c, ss⟩ = c
 | 0, _, _, _ => rfl
 | 1, _, _, _ => rfl
 | 2, _, _, _ => rfl
 | 3, _, _, _ => rfl
 | c + 4, h, _, _ => by omega
theorem set_forth {s : Rdr} (h : (takeSX s).2.2 = 0) : s.2 = 0 ∧ s.1 = setB (takeSX s).1 ++ (takeSX s).2.1 := by
 change (ssR s).2.2 = 0 at h
 have h' := h
 unfold ssR at h'
 obtain ⟨h1, h2⟩ := strs_forth _ _ h'
 obtain ⟨h3, h4⟩ := count_forth h1
 have h3' := h3
 unfold isR at h3'
 obtain ⟨h5, h6⟩ := rgs_forth _ _ h3'
 obtain ⟨h7, h8⟩ := count_forth h5
 by_cases c3 : 3 < (byteR s).1
 ·unfold flR at h7
  rw [if_pos c3] at h7
  exact absurd h7 (failR_ne _ _ (by decide))
 ·have hf : flR s = (byteR s).2 := by unfold flR; rw [if_neg c3]
  rw [hf] at h7 h8
  obtain ⟨h9, h10⟩ := byte_forth h7
  refine ⟨h9, ?_⟩
  have n1 := rdRgs_n (countR 6 (flR s)).2 (countR 6 (flR s)).1
  have n2 := rdStrs_n (countR 6 (isR s).2).2 (countR 6 (isR s).2).1
  have e1 : (isR s).1.length = (countR 6 (flR s)).1 := n1
  have e2 : (ssR s).1.length = (countR 6 (isR s).2).1 := n2
  unfold takeSX setB
  simp only
  rw [flag_forth _ (by omega), e1, e2, h10, h8, hf]
  rw [hf] at h6
  rw [h6]
  have h6' : (rdRgs (countR 6 (byteR s).2).2 (countR 6 (byteR s).2).1) = isR s := by unfold isR; rw [hf]
  rw [h6', h4, h2]
  have h2' : rdStrs (countR 6 (isR s).2).2 (countR 6 (isR s).2).1 = ssR s := rfl
  rw [h2']
  simp
theorem rdS_forth : ∀ (k : Nat) (s : Rdr), (rdS s k).2 = 0 → s.2 = 0 ∧ s.1 = ((List.range k).flatMap fun j => setB (sK s j)) ++ (rdS s k).1
 | 0, s, h => ⟨h, by simp [rdS]⟩
 | k + 1, s, h => by
  obtain ⟨h1, h2⟩ := set_forth h
  obtain ⟨h3, h4⟩ := rdS_forth k s h1
  refine ⟨h3, ?_⟩
  rw [List.range_succ, List.flatMap_append, List.append_assoc]
  rw [h2] at h4
  simpa [rdS, sK] using h4
theorem bx_forth {s : Rdr} (h : (bxR s).2.2 = 0) : s.2 = 0 ∧ s.1 = boxB (bxR s).1 ++ (bxR s).2.1 := by
 rw [bxR_2] at h ⊢
 obtain ⟨h1, h2⟩ := rdS_forth 4 s h
 refine ⟨h1, ?_⟩
 rw [boxB_four, bxR]
 simpa [List.range_succ] using h2
theorem bxs_forth (k : Nat) : ∀ (s : Rdr), (rdBoxes s k).2.2 = 0 → s.2 = 0 ∧ s.1 = (rdBoxes s k).1.flatMap boxB ++ (rdBoxes s k).2.1 := by
 induction k with
 | zero => exact fun s h => ⟨h, by simp [rdBoxes]⟩
 | succ k ih =>
  intro s h
  rw [rdBoxes_head] at h ⊢
  simp only at h ⊢
  obtain ⟨h1, h2⟩ := ih (bxR s).2 h
  obtain ⟨h3, h4⟩ := bx_forth (s := s) h1
  refine ⟨h3, ?_⟩
  rw [List.flatMap_cons, List.append_assoc, ← h2, ← h4]
theorem filter_forth {s : Rdr} (h : (takeFX s).2.2 = 0) : s.2 = 0 ∧ s.1 = filterB (takeFX s).1 ++ (takeFX s).2.1 ∧ rightF (takeFX s).1 = true ∧ ∀ b ∈ (takeFX s).1, BndB b := by
 change (takeFR s).2 = 0 at h
 have hX : takeFX s = ((filR s).1, takeFR s) := by unfold takeFX; rw [if_pos h]
 unfold takeFR at h
 by_cases c1 : (filR s).2.2 = 0 ∧ rightF (filR s).1 = false
 ·rw [if_pos c1] at h
  exact absurd h (failR_ne _ _ (by decide))
 ·rw [if_neg c1] at h
  have hR : takeFR s = (filR s).2 := by unfold takeFR; rw [if_neg c1]
  rw [hX, hR]
  have h' := h
  unfold filR at h'
  obtain ⟨h1, h2⟩ := bxs_forth _ _ h'
  obtain ⟨h3, h4⟩ := count_forth h1
  refine ⟨h3, ?_, ?_, ?_⟩
  ·have n1 : (filR s).1.length = (countR 4 s).1 := rdBoxes_n _ _
   simp only
   rw [filterB, n1, List.append_assoc, h4, h2]
   rfl
  ·cases hr : rightF (filR s).1
   ·exact absurd ⟨h, hr⟩ c1
   ·rfl
  ·exact fun b hb => (rdBoxes_ok _ _ b hb).2
theorem val_forth {s : Rdr} (h : (valR s).2.2 = 0) : s.2 = 0 ∧ s.1 = valB (valR s).1 ++ (valR s).2.1 ∧ InRange (valR s).1.n := by
 have z : InRange 0 := ⟨by omega, by omega⟩
 unfold valR at h ⊢
 by_cases c1 : (byteR s).1 = 1
 ·rw [if_pos c1] at h ⊢
  obtain ⟨h1, h2⟩ := uint_forth h
  obtain ⟨h3, h4⟩ := byte_forth h1
  refine ⟨h3, ?_, unfold_in (uintR_lt _)⟩
  rw [h4, h2, c1]
  simp [valB, fold_unfold]
 ·rw [if_neg c1] at h ⊢
  by_cases c2 : (byteR s).1 = 2
  ·rw [if_pos c2] at h ⊢
   obtain ⟨h1, h2⟩ := str_forth h
   obtain ⟨h3, h4⟩ := byte_forth h1
   refine ⟨h3, ?_, z⟩
   rw [h4, h2, c2]
   simp [valB]
  ·rw [if_neg c2] at h ⊢
   obtain ⟨h3, h4⟩ := byte_forth h
   refine ⟨h3, ?_, z⟩
   have k1 : ¬ (((byteR s).1 : Int) = 1) := by omega
   have k2 : ¬ (((byteR s).1 : Int) = 2) := by omega
   simp only [valB, if_neg k1, if_neg k2, Int.toNat_natCast]
   exact h4
theorem rdK_forth : ∀ (k : Nat) (s : Rdr), (rdK s k).2 = 0 → s.2 = 0 ∧ s.1 = ((List.range k).flatMap fun j => valB (vK s j)) ++ (rdK s k).1 ∧ ∀ j, j < k → InRange (vK s j).n
 | 0, s, h => ⟨h, by simp [rdK], fun j hj => by omega⟩
 | k + 1, s, h => by
  obtain ⟨h1, h2, h5⟩ := val_forth h
  obtain ⟨h3, h4, h6⟩ := rdK_forth k s h1
  refine ⟨h3, ?_, fun j hj => ?_⟩
  ·rw [List.range_succ, List.flatMap_append, List.append_assoc]
   rw [h2] at h4
   simpa [rdK, vK] using h4
  ·by_cases e : j = k
   ·subst e; exact h5
   ·exact h6 j (by omega)
theorem event_forth {s : Rdr} (h : (takeEX s).2.2 = 0) : s.2 = 0 ∧ s.1 = eventB (takeEX s).1 ++ (takeEX s).2.1 ∧ rightE (takeEX s).1 = true ∧ InE (takeEX s).1 := by
 unfold takeEX at h ⊢
 simp only at h ⊢
 cases hr : rightE (evK s 4)
 ·rw [hr, if_neg (by simp)] at h
  exact absurd h (failR_ne _ _ (by decide))
 ·rw [hr, if_pos rfl] at h
  rw [if_pos rfl, if_pos h]
  obtain ⟨h1, h2, h3⟩ := rdK_forth 4 s h
  refine ⟨h1, ?_, hr, fun i hi => ?_⟩
  ·simpa [eventB, valsB, List.range_succ, evK, EvM.at, at4] using h2
  ·rcases lt4 hi with rfl | rfl | rfl | rfl
   ·exact h3 0 (by omega)
   ·exact h3 1 (by omega)
   ·exact h3 2 (by omega)
   ·exact h3 3 (by omega)
end Go.Proofs

namespace Go.Proofs
open Go.Vm
set_option linter.unusedSimpArgs false
end Go.Proofs
