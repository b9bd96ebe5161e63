/- A part of the proof; what is proved stands in the last text. -/
import Derived.Test.YtijhiblfdidnpaaGreatT128
set_option linter.unusedVariables false
set_option maxRecDepth 2000
namespace Go.Proofs
open Go.Vm
set_option linter.unusedSimpArgs false
def abs2 (s : Rd2) : Rdr := if s.2.2 = 0 then (s.1.drop s.2.1, 0) else ([], s.2.2)
theorem abs2_err (s : Rd2) : (abs2 s).2 = s.2.2 := by
 unfold abs2; split
 ·rename_i h; exact h.symm
 ·rfl
theorem stop2_abs (s : Rd2) (e : Int) (he : e ≠ 0) : abs2 (stop2 s e) = failR (abs2 s) e := by
 unfold stop2 failR
 rw [abs2_err]
 by_cases h : s.2.2 = 0
 ·rw [if_pos h, if_pos ⟨h, he⟩]
  simp only [abs2, if_neg he]
 ·rw [if_neg h, if_neg (fun h' => h h'.1)]
theorem byte2_abs (s : Rd2) : (byte2 s).1 = (byteR (abs2 s)).1 ∧ abs2 (byte2 s).2 = (byteR (abs2 s)).2 := by
 unfold byte2
 split
 ·rename_i h
  have hn : (abs2 s).1 = [] := by
   unfold abs2; split
   ·rename_i h0
    rcases h with h | h
    ·exact absurd h0 h
    ·exact List.drop_eq_nil_of_le h
   ·rfl
  unfold byteR
  rw [hn]
  exact ⟨rfl, stop2_abs s 3 (by decide)⟩
 ·rename_i h
  have h0 : s.2.2 = 0 := by simp only [not_or, Decidable.not_not] at h; exact h.1
  have h1 : s.2.1 < s.1.length := by omega
  have ha : abs2 s = (s.1.getD s.2.1 0 :: s.1.drop (s.2.1 + 1), 0) := by
   unfold abs2
   rw [if_pos h0, List.drop_eq_getElem_cons h1]
   simp [List.getD_eq_getElem?_getD, List.getElem?_eq_getElem h1]
  rw [ha]
  refine ⟨rfl, ?_⟩
  unfold abs2
  simp only [if_pos h0, byteR]
theorem uint2F_abs : ∀ (m : Nat) (first : Bool) (n : Nat) (s : Rd2), s.2.2 = 0 → s.1.length - s.2.1 + 1 ≤ m → (uint2F m first n s).1 = (uintG first n (s.1.drop s.2.1)).1 ∧ abs2 (uint2F m first n s).2 = (uintG first n (s.1.drop s.2.1)).2
 | 0, _, _, s, _, h => by omega
 | m + 1, first, n, s, he, h => by
  obtain ⟨b1, b2⟩ := byte2_abs s
  have ha : abs2 s = (s.1.drop s.2.1, 0) := by unfold abs2; rw [if_pos he]
  rw [ha] at b1 b2
  have hat := @byte2_at s
  unfold uint2F
  cases hd : s.1.drop s.2.1 with
  | nil =>
   rw [hd] at b1 b2
   have e3 : (byte2 s).2.2.2 = 3 := by rw [← abs2_err, b2]; rfl
   rw [if_pos (by rw [e3]; decide)]
   exact ⟨rfl, b2⟩
  | cons c t =>
   rw [hd] at b1 b2
   simp only [byteR] at b1 b2
   have e0 : (byte2 s).2.2.2 = 0 := by rw [← abs2_err, b2]
   rw [if_neg (by simp [e0])]
   obtain ⟨h1, h2, h3⟩ := hat e0
   have ht : (byte2 s).2.1.drop (byte2 s).2.2.1 = t := by
    rw [h2]
    have := List.drop_eq_getElem_cons h1
    rw [hd] at this
    injection this with _ this
    exact this.symm
   have hc := UInt8.toNat_lt c
   unfold uintG
   rw [b1]
   by_cases k1 : (first && c.toNat == 128) = true
   ·rw [if_pos (.inl k1), if_pos k1]
    refine ⟨rfl, ?_⟩
    rw [stop2_abs _ _ (by decide), b2]; rfl
   ·rw [if_neg k1]
    by_cases k2 : 144115188075855872 ≤ n
    ·rw [if_pos (.inr k2), if_pos (show 144115188075855871 < n by omega)]
     refine ⟨rfl, ?_⟩
     rw [stop2_abs _ _ (by decide), b2]; rfl
    ·rw [if_neg (by rintro (h | h)
                    ·exact k1 h
                    ·exact k2 h), if_neg (show ¬ 144115188075855871 < n by omega)]
     by_cases k3 : c.toNat < 128
     ·rw [if_pos k3, if_pos k3]
      exact ⟨rfl, b2⟩
     ·rw [if_neg k3, if_neg k3]
      have := uint2F_abs m false (n * 128 + c.toNat % 128) (byte2 s).2 e0 (by rw [h2]; simp only; omega)
      rw [ht, show c.toNat % 128 = c.toNat - 128 by omega] at this
      rw [show c.toNat % 128 = c.toNat - 128 by omega]
      exact this
theorem byte2_stop {s : Rd2} (h : s.2.2 ≠ 0) : byte2 s = (0, s) := by
 unfold byte2; rw [if_pos (.inl h), stop2, if_neg h]
theorem uint2_abs (s : Rd2) : (uint2 s).1 = (uintR (abs2 s)).1 ∧ abs2 (uint2 s).2 = (uintR (abs2 s)).2 := by
 by_cases h : s.2.2 = 0
 ·have := uint2F_abs (s.1.length - s.2.1 + 2) true 0 s h (by omega)
  have ha : abs2 s = (s.1.drop s.2.1, 0) := by unfold abs2; rw [if_pos h]
  rw [ha]
  exact this
 ·have hu : uint2 s = (0, s) := by
    unfold uint2 uint2F
    rw [byte2_stop h, if_pos h]
  have ha : abs2 s = ([], s.2.2) := by unfold abs2; rw [if_neg h]
  rw [hu, ha]
  unfold uintR
  rw [if_neg h]
  exact ⟨rfl, rfl⟩
theorem abs2_len {s : Rd2} (h : In2 s) (he : s.2.2 = 0) : (abs2 s).1.length = s.1.length - s.2.1 := by
 unfold abs2; rw [if_pos he]; simp
theorem uintR_stop {s : Rdr} (h : s.2 ≠ 0) : uintR s = (0, s) := by
 unfold uintR; rw [if_neg h]
theorem uintG_err : ∀ (l : List UInt8) (first : Bool) (n : Nat), (uintG first n l).2.2 ≠ 0 → (uintG first n l).1 = 0
 | [], _, _, _ => rfl
 | c :: t, first, n, h => by
  unfold uintG at h ⊢
  split at h
  ·rename_i k; rw [if_pos k]
  ·rename_i k
   rw [if_neg k]
   split at h
   ·rename_i k; rw [if_pos k]
   ·rename_i k
    rw [if_neg k]
    split at h
    ·exact absurd rfl h
    ·rename_i k
     rw [if_neg k]
     exact uintG_err t _ _ h
theorem str2_abs (most : Nat) (s : Rd2) (h : In2 s) : (str2 most s).1 = (strR most (abs2 s)).1 ∧ abs2 (str2 most s).2 = (strR most (abs2 s)).2 := by
 obtain ⟨u1, u2⟩ := uint2_abs s
 have hin := uint2_in h
 have hF : abs2 (fix2 most s) = strS most (abs2 s) := by
  unfold fix2 strS
  simp only
  rw [← u1, ← u2]
  generalize uint2 s = u at *
  by_cases c0 : u.2.2.2 = 0
  ·by_cases c1 : most < u.1
   ·have k : (if u.2.2.2 = 0 ∧ most < u.1 then stop2 u.2 9 else u.2) = stop2 u.2 9 := if_pos ⟨c0, c1⟩
    have hne : ¬ (stop2 u.2 9).2.2 = 0 := by
     unfold stop2; rw [if_pos c0]
     show ¬ (9 : Int) = 0
     decide
    rw [k, if_pos c1, ← stop2_abs _ _ (by decide), if_neg (fun h => hne h.1)]
   ·have k : (if u.2.2.2 = 0 ∧ most < u.1 then stop2 u.2 9 else u.2) = u.2 := if_neg (fun h => c1 h.2)
    rw [k, if_neg c1, abs2_len hin c0]
    by_cases c2 : u.2.1.length - u.2.2.1 < u.1
    ·rw [if_pos ⟨c0, c2⟩, if_pos c2, stop2_abs _ _ (by decide)]
    ·rw [if_neg (fun h => c2 h.2), if_neg c2]
  ·have hn : (abs2 u.2).2 ≠ 0 := by rw [abs2_err]; exact c0
   have hu0 : u.1 = 0 := by
    rw [u1]
    by_cases hs : (abs2 s).2 = 0
    ·rw [u2] at hn
     unfold uintR at hn ⊢
     rw [if_pos hs] at hn ⊢
     exact uintG_err _ _ _ hn
    ·rw [uintR_stop hs]
   have k : (if u.2.2.2 = 0 ∧ most < u.1 then stop2 u.2 9 else u.2) = u.2 := if_neg (fun h => c0 h.1)
   rw [k, if_neg (fun h => c0 h.1), hu0, if_neg (by omega), if_neg (by omega)]
 have hfi := fix2_in (most := most) h
 have hff := fix2_fit (most := most) (s := s)
 unfold str2 strR
 rw [← hF, abs2_err, ← u1]
 generalize fix2 most s = b at *
 by_cases c0 : b.2.2 = 0
 ·rw [if_neg (by simp [c0]), if_pos c0]
  have ha : abs2 b = (b.1.drop b.2.1, 0) := by unfold abs2; rw [if_pos c0]
  rw [ha]
  refine ⟨rfl, ?_⟩
  unfold abs2
  simp only [List.drop_drop, c0, if_true]
 ·rw [if_pos c0, if_neg c0]
  exact ⟨rfl, rfl⟩
theorem countR_stop' {s : Rdr} (h : s.2 ≠ 0) (m : Nat) : countR m s = (0, s) := by
 unfold countR
 rw [uintR_stop h]
 simp
theorem isR_stop {s : Rdr} (h : (flR s).2 ≠ 0) : (isR s).2 = flR s := by
 unfold isR
 rw [countR_stop' h]
 rfl
theorem ssR_stop {s : Rdr} (h : (isR s).2.2 ≠ 0) : (ssR s).2 = (isR s).2 := by
 unfold ssR
 rw [countR_stop' h]
 rfl
theorem byteR_stop' {s : Rdr} (h : s.2 ≠ 0) : (byteR s).2.2 ≠ 0 := by
 unfold byteR
 split
 ·exact failR_ne _ _ (by decide)
 ·exact h
theorem takeSX_stop {s : Rdr} (h : s.2 ≠ 0) : (takeSX s).2.2 ≠ 0 := by
 have h1 := byteR_stop' h
 have h2 : (flR s).2 ≠ 0 := by
  unfold flR; split
  ·exact failR_ne _ _ (by decide)
  ·exact h1
 show (ssR s).2.2 ≠ 0
 have h3 : (isR s).2.2 ≠ 0 := by rw [isR_stop h2]; exact h2
 rw [ssR_stop h3]; exact h3
theorem rdS_stop {s : Rdr} (h : s.2 ≠ 0) : ∀ k, (rdS s k).2 ≠ 0
 | 0 => h
 | k + 1 => takeSX_stop (rdS_stop h k)
theorem rdBoxes_stop {s : Rdr} (h : s.2 ≠ 0) : ∀ k, (rdBoxes s k).2.2 ≠ 0
 | 0 => h
 | k + 1 => by
  rw [rdBoxes]
  exact rdS_stop (rdBoxes_stop h k) 4
theorem rgs2_abs (s : Rd2) : ∀ k, (rgs2 s k).1 = (rdRgs (abs2 s) k).1 ∧ abs2 (rgs2 s k).2 = (rdRgs (abs2 s) k).2
 | 0 => ⟨rfl, rfl⟩
 | k + 1 => by
  obtain ⟨h1, h2⟩ := rgs2_abs s k
  obtain ⟨a1, a2⟩ := uint2_abs (rgs2 s k).2
  obtain ⟨b1, b2⟩ := uint2_abs (uint2 (rgs2 s k).2).2
  rw [rgs2, rdRgs]
  simp only [rg2, rgR]
  rw [h1, ← h2, a1, ← a2, b1, b2]
  exact ⟨rfl, rfl⟩
theorem strs2_abs {s : Rd2} (h : In2 s) : ∀ k, (strs2 s k).1 = (rdStrs (abs2 s) k).1 ∧ abs2 (strs2 s k).2 = (rdStrs (abs2 s) k).2
 | 0 => ⟨rfl, rfl⟩
 | k + 1 => by
  obtain ⟨h1, h2⟩ := strs2_abs h k
  obtain ⟨a1, a2⟩ := str2_abs 8 (strs2 s k).2 (strs2_in h k)
  rw [strs2, rdStrs]
  simp only
  rw [h1, ← h2, a1, a2]
  exact ⟨rfl, rfl⟩
theorem take2_abs {s : Rd2} (h : In2 s) : (take2 s).2.1 = decide ((takeSX (abs2 s)).2.2 = 0) ∧ ((take2 s).2.1 = true → (take2 s).1 = (takeSX (abs2 s)).1 ∧ abs2 (take2 s).2.2 = (takeSX (abs2 s)).2) := by
 obtain ⟨b1, b2⟩ := byte2_abs s
 obtain ⟨n1, n2'⟩ := uint2_abs (byte2 s).2
 change (n2 s).1 = _ at n1
 change abs2 (n2 s).2 = _ at n2'
 rw [b2] at n1 n2'
 have hX : (takeSX (abs2 s)).2 = (ssR (abs2 s)).2 := rfl
 have bad : (isR (abs2 s)).2.2 ≠ 0 → decide ((takeSX (abs2 s)).2.2 = 0) = false := fun hb => by
  rw [hX, ssR_stop hb]; exact decide_eq_false hb
 unfold take2
 by_cases c1 : 3 < (byte2 s).1
 ·rw [if_pos (.inl c1)]
  refine ⟨?_, fun h => by cases h⟩
  have hf : (flR (abs2 s)).2 ≠ 0 := by
   unfold flR
   rw [if_pos (by rw [← b1]; exact c1)]
   exact failR_ne _ _ (by decide)
  rw [bad (by rw [isR_stop hf]; exact hf)]
 ·have hf : flR (abs2 s) = (byteR (abs2 s)).2 := by
    unfold flR; rw [if_neg (by rw [← b1]; exact c1)]
  by_cases c2 : 6 < (n2 s).1
  ·rw [if_pos (.inr c2)]
   refine ⟨?_, fun h => by cases h⟩
   have hc : countR 6 (flR (abs2 s)) = (0, failR (uintR (byteR (abs2 s)).2).2 2) := by
    unfold countR; rw [hf, if_pos (by rw [← n1]; exact c2)]
   rw [bad (by unfold isR; rw [hc]; exact failR_ne _ _ (by decide))]
  ·rw [if_neg (by rintro (h | h)
                  ·exact c1 h
                  ·exact c2 h)]
   have hc : countR 6 (flR (abs2 s)) = ((n2 s).1, abs2 (n2 s).2) := by
    unfold countR; rw [hf, if_neg (by rw [← n1]; exact c2), n1, n2']
   have hi : isR (abs2 s) = ((is2 s).1, abs2 (is2 s).2) := by
    obtain ⟨r1, r2⟩ := rgs2_abs (n2 s).2 (n2 s).1
    unfold isR is2
    rw [hc, r1, r2]
   obtain ⟨m1, m2'⟩ := uint2_abs (is2 s).2
   change (m2 s).1 = _ at m1
   change abs2 (m2 s).2 = _ at m2'
   by_cases c3 : 6 < (m2 s).1
   ·rw [if_pos c3]
    refine ⟨?_, fun h => by cases h⟩
    have hd : countR 6 (isR (abs2 s)).2 = (0, failR (uintR (abs2 (is2 s).2)).2 2) := by
     unfold countR; rw [hi, if_pos (by rw [← m1]; exact c3)]
    rw [hX]
    unfold ssR
    rw [hd]
    exact (decide_eq_false (failR_ne _ _ (by decide))).symm
   ·rw [if_neg c3]
    have hd : countR 6 (isR (abs2 s)).2 = ((m2 s).1, abs2 (m2 s).2) := by
     unfold countR; rw [hi, if_neg (by rw [← m1]; exact c3), m1, m2']
    have hs : ssR (abs2 s) = ((ss2 s).1, abs2 (ss2 s).2) := by
     obtain ⟨r1, r2⟩ := strs2_abs (m2_in h) (m2 s).1
     unfold ssR ss2
     rw [hd, r1, r2]
    have hb4 : (byteR (abs2 s)).1 ≤ 3 := by rw [← b1]; omega
    have hA : fA s = absN (byteR (abs2 s)).1 := by unfold fA absN; rw [b1]
    have hC : fC s = coN (byteR (abs2 s)).1 := by
     unfold fC coN; rw [b1, decide_eq_decide]; omega
    unfold takeSX
    rw [hs, hi, hA, hC]
    exact ⟨by simp only [abs2_err], fun _ => ⟨rfl, rfl⟩⟩
end Go.Proofs

namespace Go.Proofs
open Go.Vm
set_option linter.unusedSimpArgs false
theorem stop2_1 (s : Rd2) (e : Int) : (stop2 s e).1 = s.1 := by unfold stop2; split <;> rfl
theorem byte2_1 (s : Rd2) : (byte2 s).2.1 = s.1 := by
 unfold byte2; split
 ·exact stop2_1 _ _
 ·rfl
theorem uint2F_1 : ∀ (m : Nat) (first : Bool) (n : Nat) (s : Rd2), (uint2F m first n s).2.1 = s.1
 | 0, _, _, s => rfl
 | m + 1, first, n, s => by
  have hb := byte2_1 s
  unfold uint2F
  split
  ·exact hb
  ·split
   ·rw [stop2_1]; exact hb
   ·split
    ·exact hb
    ·rw [uint2F_1]; exact hb
theorem uint2_1 (s : Rd2) : (uint2 s).2.1 = s.1 := uint2F_1 _ _ _ _
theorem fix2_1 (m : Nat) (s : Rd2) : (fix2 m s).1 = s.1 := by
 unfold fix2
 simp only
 have h2 : (if (uint2 s).2.2.2 = 0 ∧ m < (uint2 s).1 then stop2 (uint2 s).2 9 else (uint2 s).2).1 = s.1 := by
  split
  ·rw [stop2_1, uint2_1]
  ·rw [uint2_1]
 generalize (if (uint2 s).2.2.2 = 0 ∧ m < (uint2 s).1 then stop2 (uint2 s).2 9 else (uint2 s).2) = a at *
 split
 ·rw [stop2_1, h2]
 ·exact h2
theorem str2_1 (m : Nat) (s : Rd2) : (str2 m s).2.1 = s.1 := by
 unfold str2
 split
 ·exact fix2_1 m s
 ·exact fix2_1 m s
theorem rgs2_1 (s : Rd2) : ∀ k, (rgs2 s k).2.1 = s.1
 | 0 => rfl
 | k + 1 => by
  rw [rgs2]
  simp only [rg2]
  rw [uint2_1, uint2_1, rgs2_1 s k]
theorem strs2_1 (s : Rd2) : ∀ k, (strs2 s k).2.1 = s.1
 | 0 => rfl
 | k + 1 => by
  rw [strs2]
  simp only
  rw [str2_1, strs2_1 s k]
theorem n2_1 (s : Rd2) : (n2 s).2.1 = s.1 := by unfold n2; rw [uint2_1, byte2_1]
theorem is2_1 (s : Rd2) : (is2 s).2.1 = s.1 := by unfold is2; rw [rgs2_1, n2_1]
theorem m2_1 (s : Rd2) : (m2 s).2.1 = s.1 := by unfold m2; rw [uint2_1, is2_1]
theorem ss2_1 (s : Rd2) : (ss2 s).2.1 = s.1 := by unfold ss2; rw [strs2_1, m2_1]
theorem take2_1 (s : Rd2) : (take2 s).2.2.1 = s.1 := by
 unfold take2
 split
 ·exact n2_1 s
 ·split
  ·exact m2_1 s
  ·exact ss2_1 s
def rdT2 (s : Rd2) : Nat → Rd2
 | 0 => s
 | k + 1 => (take2 (rdT2 s k)).2.2
def okT2 (s : Rd2) (k : Nat) : Bool := (take2 (rdT2 s k)).2.1
def bx2 (s : Rd2) : BoxM := ⟨(take2 (rdT2 s 0)).1, (take2 (rdT2 s 1)).1, (take2 (rdT2 s 2)).1, (take2 (rdT2 s 3)).1⟩
def rdB2 (s : Rd2) : Nat → Rd2
 | 0 => s
 | k + 1 => rdT2 (rdB2 s k) 4
def bxs2 (s : Rd2) : Nat → List BoxM
 | 0 => []
 | k + 1 => bxs2 s k ++ [bx2 (rdB2 s k)]
theorem bxs2_n (s : Rd2) : ∀ k, (bxs2 s k).length = k
 | 0 => rfl
 | k + 1 => by simp [bxs2, bxs2_n s k]
theorem rdT2_in {s : Rd2} (h : In2 s) : ∀ k, In2 (rdT2 s k)
 | 0 => h
 | k + 1 => take2_in (rdT2_in h k)
theorem rdB2_in {s : Rd2} (h : In2 s) : ∀ k, In2 (rdB2 s k)
 | 0 => h
 | k + 1 => rdT2_in (rdB2_in h k) 4
theorem rdT2_1 (s : Rd2) : ∀ k, (rdT2 s k).1 = s.1
 | 0 => rfl
 | k + 1 => by rw [rdT2, take2_1, rdT2_1 s k]
theorem rdB2_1 (s : Rd2) : ∀ k, (rdB2 s k).1 = s.1
 | 0 => rfl
 | k + 1 => by rw [rdB2, rdT2_1, rdB2_1 s k]
theorem rdT2_abs {s : Rd2} (h : In2 s) : ∀ k, (∀ j, j < k → okT2 s j = true) → abs2 (rdT2 s k) = rdS (abs2 s) k
 | 0, _ => rfl
 | k + 1, hk => by
  have h1 := rdT2_abs h k (fun j hj => hk j (by omega))
  have h2 := (take2_abs (rdT2_in h k)).2 (hk k (by omega))
  rw [rdT2, h2.2, h1, rdS]
theorem bxR_2 (s : Rdr) : (bxR s).2 = rdS s 4 := by rw [bxR]
theorem bx2_abs {s : Rd2} (h : In2 s) (hk : ∀ j, j < 4 → okT2 s j = true) : bx2 s = (bxR (abs2 s)).1 ∧ abs2 (rdT2 s 4) = (bxR (abs2 s)).2 := by
 refine ⟨?_, by rw [bxR_2]; exact rdT2_abs h 4 hk⟩
 have e : ∀ j, j < 4 → (take2 (rdT2 s j)).1 = sK (abs2 s) j := fun j hj => by
  unfold sK
  rw [← rdT2_abs h j (fun i hi => hk i (by omega))]
  exact ((take2_abs (rdT2_in h j)).2 (hk j hj)).1
 unfold bx2 bxR
 rw [e 0 (by omega), e 1 (by omega), e 2 (by omega), e 3 (by omega)]
theorem rdS_add (s : Rdr) (a : Nat) : ∀ b, rdS s (a + b) = rdS (rdS s a) b
 | 0 => rfl
 | b + 1 => by rw [← Nat.add_assoc, rdS, rdS_add s a b, rdS]
theorem bx2_fail {s : Rd2} (h : In2 s) {k : Nat} (h4 : k < 4) (hk : ∀ j, j < k → okT2 s j = true) (hf : okT2 s k = false) : (bxR (abs2 s)).2.2 ≠ 0 := by
 have h1 := (take2_abs (rdT2_in h k)).1
 rw [show (take2 (rdT2 s k)).2.1 = false from hf, rdT2_abs h k hk] at h1
 have h2 : (rdS (abs2 s) (k + 1)).2 ≠ 0 := of_decide_eq_false h1.symm
 rw [bxR_2]
 rw [show 4 = (k + 1) + (3 - k) by omega, rdS_add]
 exact rdS_stop h2 _
theorem rdB2_abs {s : Rd2} (h : In2 s) : ∀ k, (∀ i, i < k → ∀ j, j < 4 → okT2 (rdB2 s i) j = true) → bxs2 s k = (rdBoxes (abs2 s) k).1 ∧ abs2 (rdB2 s k) = (rdBoxes (abs2 s) k).2
 | 0, _ => ⟨rfl, rfl⟩
 | k + 1, hk => by
  obtain ⟨h1, h2⟩ := rdB2_abs h k (fun i hi => hk i (by omega))
  obtain ⟨h3, h4⟩ := bx2_abs (rdB2_in h k) (hk k (by omega))
  rw [bxs2, rdB2, rdBoxes]
  simp only
  rw [h1, h3, h4, h2]
  exact ⟨rfl, rfl⟩
theorem rdBoxes_add (s : Rdr) (a : Nat) : ∀ b, (rdBoxes s (a + b)).2 = (rdBoxes (rdBoxes s a).2 b).2
 | 0 => rfl
 | b + 1 => by
  rw [← Nat.add_assoc, rdBoxes, rdBoxes]
  simp only
  rw [rdBoxes_add s a b]
theorem rdB2_fail {s : Rd2} (h : In2 s) {n i k : Nat} (hi : i < n) (h4 : k < 4) (hb : ∀ i', i' < i → ∀ j, j < 4 → okT2 (rdB2 s i') j = true) (hk : ∀ j, j < k → okT2 (rdB2 s i) j = true) (hf : okT2 (rdB2 s i) k = false) : (rdBoxes (abs2 s) n).2.2 ≠ 0 := by
 have h1 := bx2_fail (rdB2_in h i) h4 hk hf
 rw [(rdB2_abs h i hb).2] at h1
 have h2 : (rdBoxes (abs2 s) (i + 1)).2.2 ≠ 0 := by
  rw [rdBoxes]; exact h1
 rw [show n = (i + 1) + (n - i - 1) by omega, rdBoxes_add]
 exact rdBoxes_stop h2 _
def FilR (s : Rd2) (r : D) (hp : List (Nat × List D)) (tg : List (Tag × Bool)) : Prop :=
 ∃ s' : Rd2, hp = [(1000000, rd2C s')] ∧ tg = [] ∧ s'.1 = s.1 ∧ In2 s' ∧ r = .tup [.sl none ((takeFX (abs2 s)).1.map boxC), .val (.bool (decide ((takeFX (abs2 s)).2.2 = 0)))] ∧ ((takeFX (abs2 s)).2.2 = 0 → abs2 s' = (takeFX (abs2 s)).2)
theorem filR_bad {s s' : Rd2} (h1 : s'.1 = s.1) (h2 : In2 s') (hf : (takeFR (abs2 s)).2 ≠ 0) : FilR s (.tup [.sl none [], .val (.bool false)]) [(1000000, rd2C s')] [] := by
 refine ⟨s', rfl, rfl, h1, h2, ?_, fun h => absurd h hf⟩
 unfold takeFX
 rw [if_neg hf]
 simp only
 rw [decide_eq_false hf]
 rfl
theorem takeFR_bad {s : Rdr} (h : (filR s).2.2 ≠ 0) : (takeFR s).2 ≠ 0 := by
 unfold takeFR
 rw [if_neg (fun h' => h h'.1)]
 exact h
theorem filR_many {s : Rd2} (h : 4 < (uint2 s).1) : (filR (abs2 s)).2.2 ≠ 0 := by
 obtain ⟨a1, a2⟩ := uint2_abs s
 unfold filR
 have hc : countR 4 (abs2 s) = (0, failR (uintR (abs2 s)).2 2) := by
  unfold countR; rw [if_pos (by rw [← a1]; exact h)]
 rw [hc]
 exact failR_ne _ _ (by decide)
theorem filR_few {s : Rd2} (h : ¬ 4 < (uint2 s).1) : filR (abs2 s) = rdBoxes (abs2 (uint2 s).2) (uint2 s).1 := by
 obtain ⟨a1, a2⟩ := uint2_abs s
 unfold filR
 have hc : countR 4 (abs2 s) = ((uint2 s).1, abs2 (uint2 s).2) := by
  unfold countR; rw [if_neg (by rw [← a1]; exact h), a1, a2]
 rw [hc]
end Go.Proofs
