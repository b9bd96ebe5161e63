/- A part of the proof; what is proved stands in the last text. -/
import Derived.Test.YtijhiblfdidnpaaGreatFD
set_option linter.unusedVariables false
set_option maxRecDepth 2000
namespace Go.Proofs
open Go.Vm
set_option linter.unusedSimpArgs false
def zW (a b : Option Tag) (es : List EntM) (ns : List Int) : List D := [.val (.bool false), .sl a (es.map entC), .sl b (intsC ns), .val (.int .i64 0), .val (.int .i64 0),
 .val (.int .i64 0), .val (.int .i64 0), .val (.string ⟨#[]⟩), .val (.int .i64 0), .val (.int .i64 0), .val (.string ⟨#[]⟩), .val (.int .i64 0), .val (.int .i64 0), .val (.string ⟨#[]⟩), .val (.int .i64 0), .val (.int .i64 0), .val (.string ⟨#[]⟩)]
theorem zFrC : frC zFr = [.val (.bool false), .sl none [], .sl none [], .val (.int .i64 0), .val (.int .i64 0),
 .val (.int .i64 0), .val (.int .i64 0), .val (.string ⟨#[]⟩), .val (.int .i64 0), .val (.int .i64 0), .val (.string ⟨#[]⟩), .val (.int .i64 0), .val (.int .i64 0), .val (.string ⟨#[]⟩), .val (.int .i64 0), .val (.int .i64 0), .val (.string ⟨#[]⟩)] := rfl
def stR1 (s : ByteArray) (kd n i : Nat) (acc : List EntM) (t : Rd2) : St := ⟨[(0, .val (.string s)), (2, .ptr 2 0), (4, .ptr 18 0), (5, .ptr 5 0), (6, .val (.int .u8 kd)), (9, .val (.int .i64 n)), (10, .val (.int .i64 i))],
 [(2, frC zFr), (5, zW (some (5, 67, 3)) (some (5, 3, 1)) acc []), (18, rd2C t)], [((5, 67, 3), true), ((5, 3, 1), true)]⟩
def invR1 (s : ByteArray) (kd n : Nat) (g : List EntM × Rdr) (S : St) (k : Nat) : Prop := ∃ (acc : List EntM) (t : Rd2), k ≤ n ∧ (acc ++ (rdEs k (abs2 t)).1, (rdEs k (abs2 t)).2) = g ∧ ((abs2 t).2 = 0 → acc.length + (abs2 t).1.length ≤ 1000000) ∧ acc.length ≤ 1000001 ∧ In2 t ∧ t.1 = bl s ∧
 S.trim [0, 2, 4, 5, 6, 9, 10] [2, 5, 18] [(5, 67, 3), (5, 3, 1)] = stR1 s kd n (n - k) acc t
def stR2 (s : ByteArray) (kd n i : Nat) (es : List EntM) (acc : List Int) (t : Rd2) : St := ⟨[(0, .val (.string s)), (2, .ptr 2 0), (4, .ptr 18 0), (5, .ptr 5 0), (6, .val (.int .u8 kd)), (14, .val (.int .i64 n)), (15, .val (.int .i64 i))],
 [(2, frC zFr), (5, zW (some (5, 67, 3)) (some (5, 3, 1)) es acc), (18, rd2C t)], [((5, 67, 3), true), ((5, 3, 1), true)]⟩
def invR2 (s : ByteArray) (kd n : Nat) (es : List EntM) (g : List Int × Rdr) (S : St) (k : Nat) : Prop := ∃ (acc : List Int) (t : Rd2), k ≤ n ∧ (acc ++ (rdNs k (abs2 t)).1, (rdNs k (abs2 t)).2) = g ∧ ((abs2 t).2 = 0 → acc.length + (abs2 t).1.length ≤ 1000000) ∧ acc.length ≤ 1000001 ∧ In2 t ∧ t.1 = bl s ∧
 S.trim [0, 2, 4, 5, 6, 14, 15] [2, 5, 18] [(5, 67, 3), (5, 3, 1)] = stR2 s kd n (n - k) es acc t
theorem abs2_short (s : Rd2) {n : Nat} (h : s.1.length ≤ n) : (abs2 s).1.length ≤ n := by
 unfold abs2; split
 ·simp; omega
 ·simp
theorem delta_bad {s : Rdr} (h : (esR s).2.2 ≠ 0) : (deltaR s).2.2 ≠ 0 := by
 show (nsR (esR s).2).2.2 ≠ 0
 unfold nsR
 rw [num_err h]
 exact h
set_option maxHeartbeats 16000000 in
theorem kRead15 (s : ByteArray) (hs : s.size ≤ 90000) : PureAt Tryz.prog 14 [.val (.string s)] (· = .tup [.agg (frC (readX (bl s)).1), .val (.bool (decide ((readX (bl s)).2 = 0)))]) := by
 have hX : readX (bl s) = if (frR (bl s, 0)).2.2 = 0 ∧ (frR (bl s, 0)).2.1 = [] ∧ mayX (frR (bl s, 0)).1 = true then ((frR (bl s, 0)).1, 0) else (zFr, 2) := rfl
 have hl0 : (bl s).length ≤ 90000 := by rw [size_bl]; exact hs
 have hB := frR_B (bl s, 0) hl0
 have hF : frR (bl s, 0) = if (byteR (bl s, 0)).1 = 0 then (⟨false, (deltaR (byteR (bl s, 0)).2).1.1, (deltaR (byteR (bl s, 0)).2).1.2, 0, 0, zE⟩, (deltaR (byteR (bl s, 0)).2).2)
  else if (byteR (bl s, 0)).1 = 1 then (⟨true, [], [], (numR (byteR (bl s, 0)).2).1, (numR (numR (byteR (bl s, 0)).2).2).1, (takeEX (numR (numR (byteR (bl s, 0)).2).2).2).1⟩, (takeEX (numR (numR (byteR (bl s, 0)).2).2).2).2)
  else (zFr, failR (byteR (bl s, 0)).2 2) := rfl
 obtain ⟨b1, b2⟩ := byte2_abs (bl s, 0, 0)
 have hin0 : In2 (bl s, 0, 0) := ⟨Nat.zero_le _, by simp only; omega⟩
 have hin1 := byte2_in hin0
 have h11 := byte2_1 (bl s, 0, 0)
 have hlt := byte2_lt (bl s, 0, 0)
 rw [abs2_0] at b1 b2
 rw [← b1, ← b2] at hF
 rw [hX]
 clear hX b1 b2
 generalize frR (bl s, 0) = g at *
 refine pure_of r14 (by kernel_rfl) ?_
 unfold m14
 simp only [go_sem, Nat.reduceEqDiff, Nat.reduceAdd, Nat.reduceLeDiff, decide_false, Nat.reduceLT, true_and, and_self, ↓reduceIte]
 have p0 := kr2Byte (bl s, 0, 0) hin0
 unfold Rd2At at p0
 simp only [List.length_nil, Nat.zero_add] at p0
 have e0 : rd2C (bl s, 0, 0) = [.val (.string s), .val (.int .i64 0), .val (.int .i64 0)] := by unfold rd2C; rw [lb_bl]; rfl
 rw [e0] at p0
 refine callO_by rfl rfl rfl rfl rfl p0 ?_
 rintro _ _ _ ⟨rfl, rfl, rfl⟩
 generalize byte2 (bl s, 0, 0) = b at *
 obtain ⟨kd, t0⟩ := b
 simp only at *
 have k1 : ((kd : Int) == 1) = decide (kd = 1) := by rw [Bool.eq_iff_iff]; simp; omega
 simp only [k1, go_sem, Nat.reduceEqDiff]
 cases d1 : decide (kd = 1)
 rotate_left
 ·have n1 := of_decide_eq_true d1
  rw [if_neg (by omega), if_pos n1] at hF
  obtain ⟨a1, a2⟩ := num2_abs t0
  rw [← a1, ← a2] at hF
  obtain ⟨a3, a4⟩ := num2_abs (num2 t0).2
  rw [← a3, ← a4] at hF
  have hi1 := num2_in hin1
  have hi2 := num2_in hi1
  have j1 := num2_1 t0
  have j2 := num2_1 (num2 t0).2
  simp only [go_sem, Nat.reduceEqDiff, Nat.reduceAdd, Nat.reduceLeDiff]
  refine callO_eq rfl rfl rfl rfl rfl (ktake15 t0 hin1) ?_
  generalize num2 t0 = u at *
  simp only [go_sem, Nat.reduceEqDiff, Nat.reduceAdd, Nat.reduceLeDiff]
  refine callO_eq rfl rfl rfl rfl rfl (ktake15 u.2 hi1) ?_
  generalize num2 u.2 = w at *
  simp only [go_sem, Nat.reduceEqDiff, Nat.reduceAdd, Nat.reduceLeDiff]
  refine callO_by rfl rfl rfl rfl rfl (kTakeE8 w.2 hi2) ?_
  rintro _ _ _ ⟨q, rfl, rfl, q1, hin, rfl, hab⟩
  generalize takeEX (abs2 w.2) = E at *
  obtain ⟨e, r⟩ := E
  simp only at *
  cases dk : decide (r.2 = 0)
  ·rw [if_neg (fun h => of_decide_eq_false dk (by rw [hF] at h; exact h.1))]
   simp only [evC, zFrC, Bool.not_false, go_sem, Nat.reduceEqDiff, Nat.reduceAdd, Nat.reduceLeDiff]
   rfl
  have hr := hab (of_decide_eq_true dk)
  have hq1 : q.1 = bl s := by rw [q1, j2, j1, h11]
  have hgg : kd ≤ 1 → g = ((⟨true, [], [], (u.1 : Int), (w.1 : Int), e⟩ : FrM), abs2 q) := fun _ => by rw [hF, hr]
  have hne : q.2.2 ≠ 0 → g.2.2 ≠ 0 := fun h => by rw [hF, ← hr]; simp only; rw [abs2_err]; exact h
  have hgt : 1 < kd → g.2.2 ≠ 0 := fun h => by omega
  generalize hf : (⟨true, [], [], (u.1 : Int), (w.1 : Int), e⟩ : FrM) = f at *
  simp only [evC, Bool.not_true, go_sem, Nat.reduceEqDiff, Nat.reduceAdd, Nat.reduceLeDiff]
  -- q, f, kd; hne : q.2.2 ≠ 0 → g.2.2 ≠ 0; hgt : 1 < kd → g.2.2 ≠ 0; hgg : kd ≤ 1 → g = (f, abs2 q); hq1 : q.1 = bl s; hin : In2 q; hB; hf : .. = f
  cases c2 : q.2.2 == 0
  ·have n2 : ¬ q.2.2 = 0 := by simpa using c2
   rw [if_neg (fun h => hne n2 h.1)]
   simp only [rd2C, bne, c2, Bool.not_false, zFrC, go_sem, Nat.reduceEqDiff, Nat.reduceAdd, Nat.reduceLeDiff]
   rfl
  have n2 : q.2.2 = 0 := by simpa using c2
  have hk1 : decide ((kd : Int) > 1) = decide (1 < kd) := by rw [decide_eq_decide]; omega
  cases ck : decide (1 < kd)
  rotate_left
  ·rw [if_neg (fun h => hgt (of_decide_eq_true ck) h.1)]
   simp only [rd2C, bne, c2, Bool.not_true, hk1, ck, zFrC, go_sem, Nat.reduceEqDiff, Nat.reduceAdd, Nat.reduceLeDiff]
   rfl
  have gg := hgg (by have := of_decide_eq_false ck; omega)
  have hl := left2 hin n2
  have g0 : (((q.2.1 : Nat) : Int) == ((s.size : Nat) : Int)) = decide ((abs2 q).1 = []) := by
   rw [hl, hq1, size_bl, Bool.eq_iff_iff]; simp; omega
  have p9 := kMay15 f (by rw [gg] at hB; exact hB (by rw [abs2_err]; exact n2))
  unfold frC at p9
  rw [gg]
  cases c3 : decide ((abs2 q).1 = [])
  ·rw [c3] at g0
   rw [if_neg (fun h => of_decide_eq_false c3 h.2.1)]
   simp only [rd2C, bne, c2, Bool.not_true, hk1, ck, g0, Bool.not_false, zFrC, go_sem, Nat.reduceEqDiff, Nat.reduceAdd, Nat.reduceLeDiff]
   rfl
  rw [c3] at g0
  simp only [rd2C, bne, c2, Bool.not_true, hk1, ck, g0, go_sem, Nat.reduceEqDiff, Nat.reduceAdd, Nat.reduceLeDiff]
  cases c4 : mayX f
  ·rw [if_neg (fun h => by cases h.2.2)]
   rw [c4] at p9
   subst hf
   refine callP_eq rfl rfl p9 ?_
   simp only [Bool.not_false, zFrC, go_sem, Nat.reduceEqDiff, Nat.reduceAdd, Nat.reduceLeDiff]
   rfl
  ·rw [if_pos ⟨by rw [abs2_err]; exact n2, of_decide_eq_true c3, rfl⟩]
   rw [c4] at p9
   subst hf
   refine callP_eq rfl rfl p9 ?_
   simp only [Bool.not_true, go_sem, Nat.reduceEqDiff, Nat.reduceAdd, Nat.reduceLeDiff]
   rfl
 have n1 := of_decide_eq_false d1
 have hgt : 1 < kd → g.2.2 ≠ 0 := fun h => by
  rw [hF, if_neg (by omega), if_neg (by omega)]
  exact failR_ne _ _ (by decide)
 have hbad : (esR (abs2 t0)).2.2 ≠ 0 → g.2.2 ≠ 0 := fun h => by
  by_cases hk : kd = 0
  ·rw [hF, if_pos hk]; exact delta_bad h
  ·exact hgt (by omega)
 simp only [go_sem, Nat.reduceEqDiff]
 refine callO_eq rfl rfl rfl rfl rfl (ktake15 t0 hin1) ?_
 have hle := num2_le t0
 obtain ⟨a1, a2⟩ := num2_abs t0
 have hi1 := num2_in hin1
 have j1 := num2_1 t0
 have hsh : (abs2 (num2 t0).2).1.length ≤ 90000 := abs2_short _ (by rw [j1, h11]; exact hl0)
 have hE0 : esR (abs2 t0) = rdEs (num2 t0).1 (abs2 (num2 t0).2) := by unfold esR; rw [a1, a2]
 clear a1 a2
 generalize num2 t0 = u at *
 simp only [go_sem, Nat.reduceEqDiff]
 refine ev_loop_by (invR1 s kd u.1 (esR (abs2 t0))) u.1 ⟨[], u.2, Nat.le_refl _, by rw [hE0]; rfl, fun _ => by simp; omega, by simp, hi1, by rw [j1, h11], by rw [Nat.sub_self]; simp only [go_sem, Nat.reduceEqDiff]; rfl⟩ ?_
 rintro k S ⟨acc, t, hkn, hg, h0, h1, ht, ht1, hS⟩
 rw [ev_trim, hS]
 clear hS S
 simp only [stR1]
 have hte := abs2_err t
 cases k with
 | zero =>
  have hE : esR (abs2 t0) = (acc, abs2 t) := by rw [← hg]; simp [rdEs]
  have ck0 : decide (((u.1 - 0 : Nat) : Int) < (u.1 : Int)) = false := by simp
  simp only [ck0, go_sem, Nat.reduceEqDiff]
  refine callO_eq rfl rfl rfl rfl rfl (ktake15 t ht) ?_
  have ule := num2_le t
  obtain ⟨c1', c2'⟩ := num2_abs t
  have ui := num2_in ht
  have u1 := num2_1 t
  have ush : (abs2 (num2 t).2).1.length ≤ 90000 := abs2_short _ (by rw [u1, ht1]; exact hl0)
  have hN0 : nsR (abs2 t) = rdNs (num2 t).1 (abs2 (num2 t).2) := by unfold nsR; rw [c1', c2']
  clear c1' c2'
  generalize num2 t = m at *
  simp only [go_sem, Nat.reduceEqDiff]
  refine ev_loop_by (invR2 s kd m.1 acc (nsR (abs2 t))) m.1 ⟨[], m.2, Nat.le_refl _, by rw [hN0]; rfl, fun _ => by simp; omega, by simp, ui, by rw [u1, ht1], by rw [Nat.sub_self]; simp only [go_sem, Nat.reduceEqDiff]; rfl⟩ ?_
  rintro k S ⟨bcc, q, kn, hg2, i0, i1, hin, hq1, hS⟩
  rw [ev_trim, hS]
  clear hS S
  simp only [stR2]
  have hqe := abs2_err q
  have fin2 : nsR (abs2 t) = (bcc, abs2 q) → (kd ≤ 1 → g = ((⟨false, acc, bcc, 0, 0, zE⟩ : FrM), abs2 q)) ∧ (q.2.2 ≠ 0 → g.2.2 ≠ 0) := fun hN => by
   have hD : deltaR (abs2 t0) = ((acc, bcc), abs2 q) := by unfold deltaR; rw [hE]; simp only; rw [hN]
   have h1 : kd ≤ 1 → g = ((⟨false, acc, bcc, 0, 0, zE⟩ : FrM), abs2 q) := fun h => by
    rw [hF, if_pos (by omega), hD]
   refine ⟨h1, fun h => ?_⟩
   by_cases hk : kd ≤ 1
   ·rw [h1 hk]; simp only; rw [hqe]; exact h
   ·exact hgt (by omega)
  cases k with
  | zero =>
   obtain ⟨hgg, hne⟩ := fin2 (by rw [← hg2]; simp [rdNs])
   clear fin2
   have ck0 : decide (((m.1 - 0 : Nat) : Int) < (m.1 : Int)) = false := by simp
   generalize hf : (⟨false, acc, bcc, 0, 0, zE⟩ : FrM) = f at *
   simp only [ck0, go_sem, Nat.reduceEqDiff]
   -- q, f, kd; hne : q.2.2 ≠ 0 → g.2.2 ≠ 0; hgt : 1 < kd → g.2.2 ≠ 0; hgg : kd ≤ 1 → g = (f, abs2 q); hq1 : q.1 = bl s; hin : In2 q; hB; hf : .. = f
   cases c2 : q.2.2 == 0
   ·have n2 : ¬ q.2.2 = 0 := by simpa using c2
    rw [if_neg (fun h => hne n2 h.1)]
    simp only [rd2C, zW, bne, c2, Bool.not_false, zFrC, go_sem, Nat.reduceEqDiff, Nat.reduceAdd, Nat.reduceLeDiff]
    rfl
   have n2 : q.2.2 = 0 := by simpa using c2
   have hk1 : decide ((kd : Int) > 1) = decide (1 < kd) := by rw [decide_eq_decide]; omega
   cases ck : decide (1 < kd)
   rotate_left
   ·rw [if_neg (fun h => hgt (of_decide_eq_true ck) h.1)]
    simp only [rd2C, zW, bne, c2, Bool.not_true, hk1, ck, zFrC, go_sem, Nat.reduceEqDiff, Nat.reduceAdd, Nat.reduceLeDiff]
    rfl
   have gg := hgg (by have := of_decide_eq_false ck; omega)
   have hl := left2 hin n2
   have g0 : (((q.2.1 : Nat) : Int) == ((s.size : Nat) : Int)) = decide ((abs2 q).1 = []) := by
    rw [hl, hq1, size_bl, Bool.eq_iff_iff]; simp; omega
   have p9 := kMay15 f (by rw [gg] at hB; exact hB (by rw [abs2_err]; exact n2))
   unfold frC at p9
   rw [gg]
   cases c3 : decide ((abs2 q).1 = [])
   ·rw [c3] at g0
    rw [if_neg (fun h => of_decide_eq_false c3 h.2.1)]
    simp only [rd2C, zW, bne, c2, Bool.not_true, hk1, ck, g0, Bool.not_false, zFrC, go_sem, Nat.reduceEqDiff, Nat.reduceAdd, Nat.reduceLeDiff]
    rfl
   rw [c3] at g0
   simp only [rd2C, zW, bne, c2, Bool.not_true, hk1, ck, g0, go_sem, Nat.reduceEqDiff, Nat.reduceAdd, Nat.reduceLeDiff]
   cases c4 : mayX f
   ·rw [if_neg (fun h => by cases h.2.2)]
    rw [c4] at p9
    subst hf
    refine callP_eq rfl rfl p9 ?_
    simp only [Bool.not_false, zFrC, go_sem, Nat.reduceEqDiff, Nat.reduceAdd, Nat.reduceLeDiff]
    rfl
   ·rw [if_pos ⟨by rw [abs2_err]; exact n2, of_decide_eq_true c3, rfl⟩]
    rw [c4] at p9
    subst hf
    refine callP_eq rfl rfl p9 ?_
    simp only [Bool.not_true, zFrC, go_sem, Nat.reduceEqDiff, Nat.reduceAdd, Nat.reduceLeDiff]
    rfl
  | succ k =>
   have ck1 : decide (((m.1 - (k + 1) : Nat) : Int) < (m.1 : Int)) = true := by simp; omega
   cases d3 : q.2.2 == 0
   ·have n3 : ¬ q.2.2 = 0 := by simpa using d3
    obtain ⟨hgg, hne⟩ := fin2 (by rw [← hg2, rdNs_stop (by rw [hqe]; exact n3)]; simp)
    clear fin2
    generalize hf : (⟨false, acc, bcc, 0, 0, zE⟩ : FrM) = f at *
    simp only [ck1, rd2C, d3, go_sem, Nat.reduceEqDiff, Nat.reduceAdd]
    have hrd : [D.val (.string (lb q.1)), .val (.int .i64 q.2.1), .val (.int .i64 q.2.2)] = rd2C q := rfl
    rw [hrd]
    -- q, f, kd; hne : q.2.2 ≠ 0 → g.2.2 ≠ 0; hgt : 1 < kd → g.2.2 ≠ 0; hgg : kd ≤ 1 → g = (f, abs2 q); hq1 : q.1 = bl s; hin : In2 q; hB; hf : .. = f
    cases c2 : q.2.2 == 0
    ·have n2 : ¬ q.2.2 = 0 := by simpa using c2
     rw [if_neg (fun h => hne n2 h.1)]
     simp only [rd2C, zW, bne, c2, Bool.not_false, zFrC, go_sem, Nat.reduceEqDiff, Nat.reduceAdd, Nat.reduceLeDiff]
     rfl
    have n2 : q.2.2 = 0 := by simpa using c2
    have hk1 : decide ((kd : Int) > 1) = decide (1 < kd) := by rw [decide_eq_decide]; omega
    cases ck : decide (1 < kd)
    rotate_left
    ·rw [if_neg (fun h => hgt (of_decide_eq_true ck) h.1)]
     simp only [rd2C, zW, bne, c2, Bool.not_true, hk1, ck, zFrC, go_sem, Nat.reduceEqDiff, Nat.reduceAdd, Nat.reduceLeDiff]
     rfl
    have gg := hgg (by have := of_decide_eq_false ck; omega)
    have hl := left2 hin n2
    have g0 : (((q.2.1 : Nat) : Int) == ((s.size : Nat) : Int)) = decide ((abs2 q).1 = []) := by
     rw [hl, hq1, size_bl, Bool.eq_iff_iff]; simp; omega
    have p9 := kMay15 f (by rw [gg] at hB; exact hB (by rw [abs2_err]; exact n2))
    unfold frC at p9
    rw [gg]
    cases c3 : decide ((abs2 q).1 = [])
    ·rw [c3] at g0
     rw [if_neg (fun h => of_decide_eq_false c3 h.2.1)]
     simp only [rd2C, zW, bne, c2, Bool.not_true, hk1, ck, g0, Bool.not_false, zFrC, go_sem, Nat.reduceEqDiff, Nat.reduceAdd, Nat.reduceLeDiff]
     rfl
    rw [c3] at g0
    simp only [rd2C, zW, bne, c2, Bool.not_true, hk1, ck, g0, go_sem, Nat.reduceEqDiff, Nat.reduceAdd, Nat.reduceLeDiff]
    cases c4 : mayX f
    ·rw [if_neg (fun h => by cases h.2.2)]
     rw [c4] at p9
     subst hf
     refine callP_eq rfl rfl p9 ?_
     simp only [Bool.not_false, zFrC, go_sem, Nat.reduceEqDiff, Nat.reduceAdd, Nat.reduceLeDiff]
     rfl
    ·rw [if_pos ⟨by rw [abs2_err]; exact n2, of_decide_eq_true c3, rfl⟩]
     rw [c4] at p9
     subst hf
     refine callP_eq rfl rfl p9 ?_
     simp only [Bool.not_true, zFrC, go_sem, Nat.reduceEqDiff, Nat.reduceAdd, Nat.reduceLeDiff]
     rfl
   ·have n3 : q.2.2 = 0 := by simpa using d3
    clear fin2
    obtain ⟨v1, v2⟩ := num2_abs q
    have vi := num2_in hin
    have vq := num2_1 q
    have hS : rdNs (k + 1) (abs2 q) = (((num2 q).1 : Int) :: (rdNs k (abs2 (num2 q).2)).1, (rdNs k (abs2 (num2 q).2)).2) := by
     conv => lhs; unfold rdNs; rw [if_pos (by rw [hqe]; exact n3)]
     rw [v1, v2]
    have ls : (abs2 (num2 q).2).2 = 0 → (abs2 (num2 q).2).1.length < (abs2 q).1.length := fun h => by rw [v2] at h ⊢; exact (num_short h).2
    have w1 : IntKind.i64.wrap (((m.1 - (k + 1) : Nat) : Int) + 1) = ((m.1 - k : Nat) : Int) := by rw [wrap64 (by omega) (by omega)]; omega
    simp only [ck1, rd2C, d3, go_sem, Nat.reduceEqDiff, Nat.reduceAdd]
    have hrd : [D.val (.string (lb q.1)), .val (.int .i64 q.2.1), .val (.int .i64 q.2.2)] = rd2C q := rfl
    rw [hrd]
    simp only [zW, go_sem, Nat.reduceEqDiff, Nat.reduceAdd, decide_true, decide_false, ↓reduceIte]
    repeat' (first | (refine callO_eq rfl rfl rfl rfl rfl (ktake15 q hin) ?_; simp only [go_sem, Nat.reduceEqDiff, Nat.reduceAdd, Nat.reduceLeDiff, List.length_map, decide_true, decide_false, true_and, and_self, ↓reduceIte]) | apply And.intro)
    all_goals first
     | (intro e he; obtain ⟨r, -, rfl⟩ := List.mem_map.1 he; rfl)
     | (rintro _ rfl; rfl)
     | omega
     | (refine ⟨k, by omega, bcc ++ [((num2 q).1 : Int)], (num2 q).2, by omega, ?_, ?_, ?_, vi, by rw [vq, hq1], ?_⟩
        ·rw [← hg2, hS]; simp
        ·intro he; have := ls he; have := i0 (by rw [hqe]; exact n3); simp; omega
        ·have := i0 (by rw [hqe]; exact n3); simp; omega
        ·simp only [w1, stR2, zW, intsC, zFrC, List.map_append, List.map_cons, List.map_nil, go_sem, Nat.reduceEqDiff, true_and, and_self, ↓reduceIte])
 | succ k =>
  have ck1 : decide (((u.1 - (k + 1) : Nat) : Int) < (u.1 : Int)) = true := by simp; omega
  cases d2 : t.2.2 == 0
  ·have n2 : ¬ t.2.2 = 0 := by simpa using d2
   have hE : esR (abs2 t0) = (acc, abs2 t) := by rw [← hg, rdEs_stop (by rw [hte]; exact n2)]; simp
   simp only [ck1, rd2C, d2, go_sem, Nat.reduceEqDiff, Nat.reduceAdd]
   have hrd : [D.val (.string (lb t.1)), .val (.int .i64 t.2.1), .val (.int .i64 t.2.2)] = rd2C t := rfl
   rw [hrd]
   refine callO_eq rfl rfl rfl rfl rfl (ktake15 t ht) ?_
   have ule := num2_le t
   obtain ⟨c1', c2'⟩ := num2_abs t
   have ui := num2_in ht
   have u1 := num2_1 t
   have ush : (abs2 (num2 t).2).1.length ≤ 90000 := abs2_short _ (by rw [u1, ht1]; exact hl0)
   have hN0 : nsR (abs2 t) = rdNs (num2 t).1 (abs2 (num2 t).2) := by unfold nsR; rw [c1', c2']
   clear c1' c2'
   generalize num2 t = m at *
   simp only [go_sem, Nat.reduceEqDiff]
   refine ev_loop_by (invR2 s kd m.1 acc (nsR (abs2 t))) m.1 ⟨[], m.2, Nat.le_refl _, by rw [hN0]; rfl, fun _ => by simp; omega, by simp, ui, by rw [u1, ht1], by rw [Nat.sub_self]; simp only [go_sem, Nat.reduceEqDiff]; rfl⟩ ?_
   rintro k S ⟨bcc, q, kn, hg2, i0, i1, hin, hq1, hS⟩
   rw [ev_trim, hS]
   clear hS S
   simp only [stR2]
   have hqe := abs2_err q
   have fin2 : nsR (abs2 t) = (bcc, abs2 q) → (kd ≤ 1 → g = ((⟨false, acc, bcc, 0, 0, zE⟩ : FrM), abs2 q)) ∧ (q.2.2 ≠ 0 → g.2.2 ≠ 0) := fun hN => by
    have hD : deltaR (abs2 t0) = ((acc, bcc), abs2 q) := by unfold deltaR; rw [hE]; simp only; rw [hN]
    have h1 : kd ≤ 1 → g = ((⟨false, acc, bcc, 0, 0, zE⟩ : FrM), abs2 q) := fun h => by
     rw [hF, if_pos (by omega), hD]
    refine ⟨h1, fun h => ?_⟩
    by_cases hk : kd ≤ 1
    ·rw [h1 hk]; simp only; rw [hqe]; exact h
    ·exact hgt (by omega)
   cases k with
   | zero =>
    obtain ⟨hgg, hne⟩ := fin2 (by rw [← hg2]; simp [rdNs])
    clear fin2
    have ck0 : decide (((m.1 - 0 : Nat) : Int) < (m.1 : Int)) = false := by simp
    generalize hf : (⟨false, acc, bcc, 0, 0, zE⟩ : FrM) = f at *
    simp only [ck0, go_sem, Nat.reduceEqDiff]
    -- q, f, kd; hne : q.2.2 ≠ 0 → g.2.2 ≠ 0; hgt : 1 < kd → g.2.2 ≠ 0; hgg : kd ≤ 1 → g = (f, abs2 q); hq1 : q.1 = bl s; hin : In2 q; hB; hf : .. = f
    cases c2 : q.2.2 == 0
    ·have n2 : ¬ q.2.2 = 0 := by simpa using c2
     rw [if_neg (fun h => hne n2 h.1)]
     simp only [rd2C, zW, bne, c2, Bool.not_false, zFrC, go_sem, Nat.reduceEqDiff, Nat.reduceAdd, Nat.reduceLeDiff]
     rfl
    have n2 : q.2.2 = 0 := by simpa using c2
    have hk1 : decide ((kd : Int) > 1) = decide (1 < kd) := by rw [decide_eq_decide]; omega
    cases ck : decide (1 < kd)
    rotate_left
    ·rw [if_neg (fun h => hgt (of_decide_eq_true ck) h.1)]
     simp only [rd2C, zW, bne, c2, Bool.not_true, hk1, ck, zFrC, go_sem, Nat.reduceEqDiff, Nat.reduceAdd, Nat.reduceLeDiff]
     rfl
    have gg := hgg (by have := of_decide_eq_false ck; omega)
    have hl := left2 hin n2
    have g0 : (((q.2.1 : Nat) : Int) == ((s.size : Nat) : Int)) = decide ((abs2 q).1 = []) := by
     rw [hl, hq1, size_bl, Bool.eq_iff_iff]; simp; omega
    have p9 := kMay15 f (by rw [gg] at hB; exact hB (by rw [abs2_err]; exact n2))
    unfold frC at p9
    rw [gg]
    cases c3 : decide ((abs2 q).1 = [])
    ·rw [c3] at g0
     rw [if_neg (fun h => of_decide_eq_false c3 h.2.1)]
     simp only [rd2C, zW, bne, c2, Bool.not_true, hk1, ck, g0, Bool.not_false, zFrC, go_sem, Nat.reduceEqDiff, Nat.reduceAdd, Nat.reduceLeDiff]
     rfl
    rw [c3] at g0
    simp only [rd2C, zW, bne, c2, Bool.not_true, hk1, ck, g0, go_sem, Nat.reduceEqDiff, Nat.reduceAdd, Nat.reduceLeDiff]
    cases c4 : mayX f
    ·rw [if_neg (fun h => by cases h.2.2)]
     rw [c4] at p9
     subst hf
     refine callP_eq rfl rfl p9 ?_
     simp only [Bool.not_false, zFrC, go_sem, Nat.reduceEqDiff, Nat.reduceAdd, Nat.reduceLeDiff]
     rfl
    ·rw [if_pos ⟨by rw [abs2_err]; exact n2, of_decide_eq_true c3, rfl⟩]
     rw [c4] at p9
     subst hf
     refine callP_eq rfl rfl p9 ?_
     simp only [Bool.not_true, zFrC, go_sem, Nat.reduceEqDiff, Nat.reduceAdd, Nat.reduceLeDiff]
     rfl
   | succ k =>
    have ck1 : decide (((m.1 - (k + 1) : Nat) : Int) < (m.1 : Int)) = true := by simp; omega
    cases d3 : q.2.2 == 0
    ·have n3 : ¬ q.2.2 = 0 := by simpa using d3
     obtain ⟨hgg, hne⟩ := fin2 (by rw [← hg2, rdNs_stop (by rw [hqe]; exact n3)]; simp)
     clear fin2
     generalize hf : (⟨false, acc, bcc, 0, 0, zE⟩ : FrM) = f at *
     simp only [ck1, rd2C, d3, go_sem, Nat.reduceEqDiff, Nat.reduceAdd]
     have hrd : [D.val (.string (lb q.1)), .val (.int .i64 q.2.1), .val (.int .i64 q.2.2)] = rd2C q := rfl
     rw [hrd]
     -- q, f, kd; hne : q.2.2 ≠ 0 → g.2.2 ≠ 0; hgt : 1 < kd → g.2.2 ≠ 0; hgg : kd ≤ 1 → g = (f, abs2 q); hq1 : q.1 = bl s; hin : In2 q; hB; hf : .. = f
     cases c2 : q.2.2 == 0
     ·have n2 : ¬ q.2.2 = 0 := by simpa using c2
      rw [if_neg (fun h => hne n2 h.1)]
      simp only [rd2C, zW, bne, c2, Bool.not_false, zFrC, go_sem, Nat.reduceEqDiff, Nat.reduceAdd, Nat.reduceLeDiff]
      rfl
     have n2 : q.2.2 = 0 := by simpa using c2
     have hk1 : decide ((kd : Int) > 1) = decide (1 < kd) := by rw [decide_eq_decide]; omega
     cases ck : decide (1 < kd)
     rotate_left
     ·rw [if_neg (fun h => hgt (of_decide_eq_true ck) h.1)]
      simp only [rd2C, zW, bne, c2, Bool.not_true, hk1, ck, zFrC, go_sem, Nat.reduceEqDiff, Nat.reduceAdd, Nat.reduceLeDiff]
      rfl
     have gg := hgg (by have := of_decide_eq_false ck; omega)
     have hl := left2 hin n2
     have g0 : (((q.2.1 : Nat) : Int) == ((s.size : Nat) : Int)) = decide ((abs2 q).1 = []) := by
      rw [hl, hq1, size_bl, Bool.eq_iff_iff]; simp; omega
     have p9 := kMay15 f (by rw [gg] at hB; exact hB (by rw [abs2_err]; exact n2))
     unfold frC at p9
     rw [gg]
     cases c3 : decide ((abs2 q).1 = [])
     ·rw [c3] at g0
      rw [if_neg (fun h => of_decide_eq_false c3 h.2.1)]
      simp only [rd2C, zW, bne, c2, Bool.not_true, hk1, ck, g0, Bool.not_false, zFrC, go_sem, Nat.reduceEqDiff, Nat.reduceAdd, Nat.reduceLeDiff]
      rfl
     rw [c3] at g0
     simp only [rd2C, zW, bne, c2, Bool.not_true, hk1, ck, g0, go_sem, Nat.reduceEqDiff, Nat.reduceAdd, Nat.reduceLeDiff]
     cases c4 : mayX f
     ·rw [if_neg (fun h => by cases h.2.2)]
      rw [c4] at p9
      subst hf
      refine callP_eq rfl rfl p9 ?_
      simp only [Bool.not_false, zFrC, go_sem, Nat.reduceEqDiff, Nat.reduceAdd, Nat.reduceLeDiff]
      rfl
     ·rw [if_pos ⟨by rw [abs2_err]; exact n2, of_decide_eq_true c3, rfl⟩]
      rw [c4] at p9
      subst hf
      refine callP_eq rfl rfl p9 ?_
      simp only [Bool.not_true, zFrC, go_sem, Nat.reduceEqDiff, Nat.reduceAdd, Nat.reduceLeDiff]
      rfl
    ·have n3 : q.2.2 = 0 := by simpa using d3
     clear fin2
     obtain ⟨v1, v2⟩ := num2_abs q
     have vi := num2_in hin
     have vq := num2_1 q
     have hS : rdNs (k + 1) (abs2 q) = (((num2 q).1 : Int) :: (rdNs k (abs2 (num2 q).2)).1, (rdNs k (abs2 (num2 q).2)).2) := by
      conv => lhs; unfold rdNs; rw [if_pos (by rw [hqe]; exact n3)]
      rw [v1, v2]
     have ls : (abs2 (num2 q).2).2 = 0 → (abs2 (num2 q).2).1.length < (abs2 q).1.length := fun h => by rw [v2] at h ⊢; exact (num_short h).2
     have w1 : IntKind.i64.wrap (((m.1 - (k + 1) : Nat) : Int) + 1) = ((m.1 - k : Nat) : Int) := by rw [wrap64 (by omega) (by omega)]; omega
     simp only [ck1, rd2C, d3, go_sem, Nat.reduceEqDiff, Nat.reduceAdd]
     have hrd : [D.val (.string (lb q.1)), .val (.int .i64 q.2.1), .val (.int .i64 q.2.2)] = rd2C q := rfl
     rw [hrd]
     simp only [zW, go_sem, Nat.reduceEqDiff, Nat.reduceAdd, decide_true, decide_false, ↓reduceIte]
     repeat' (first | (refine callO_eq rfl rfl rfl rfl rfl (ktake15 q hin) ?_; simp only [go_sem, Nat.reduceEqDiff, Nat.reduceAdd, Nat.reduceLeDiff, List.length_map, decide_true, decide_false, true_and, and_self, ↓reduceIte]) | apply And.intro)
     all_goals first
      | (intro e he; obtain ⟨r, -, rfl⟩ := List.mem_map.1 he; rfl)
      | (rintro _ rfl; rfl)
      | omega
      | (refine ⟨k, by omega, bcc ++ [((num2 q).1 : Int)], (num2 q).2, by omega, ?_, ?_, ?_, vi, by rw [vq, hq1], ?_⟩
         ·rw [← hg2, hS]; simp
         ·intro he; have := ls he; have := i0 (by rw [hqe]; exact n3); simp; omega
         ·have := i0 (by rw [hqe]; exact n3); simp; omega
         ·simp only [w1, stR2, zW, intsC, zFrC, List.map_append, List.map_cons, List.map_nil, go_sem, Nat.reduceEqDiff, true_and, and_self, ↓reduceIte])
  ·have n2 : t.2.2 = 0 := by simpa using d2
   obtain ⟨v1, v2⟩ := num2_abs t
   have vi := num2_in ht
   have vq := num2_1 t
   obtain ⟨y1, y2⟩ := uint2_abs (num2 t).2
   have yi := uint2_in vi
   have yq := uint2_1 (num2 t).2
   have hEn : entR (abs2 t) = (⟨(num2 t).1, (takeFX (abs2 (uint2 (num2 t).2).2)).1, (uint2 (num2 t).2).1⟩, (takeFX (abs2 (uint2 (num2 t).2).2)).2) := by
    unfold entR
    rw [← v1, ← v2, ← y1, ← y2]
   have hS : rdEs (k + 1) (abs2 t) = ((entR (abs2 t)).1 :: (rdEs k (entR (abs2 t)).2).1, (rdEs k (entR (abs2 t)).2).2) := by
    conv => lhs; unfold rdEs; rw [if_pos (by rw [hte]; exact n2)]
   have ls : (entR (abs2 t)).2.2 = 0 → (entR (abs2 t)).2.1.length < (abs2 t).1.length := ent_short
   rw [hEn] at hS ls
   have w1 : IntKind.i64.wrap (((u.1 - (k + 1) : Nat) : Int) + 1) = ((u.1 - k : Nat) : Int) := by rw [wrap64 (by omega) (by omega)]; omega
   have ult := uint2_lt (num2 t).2
   simp only [ck1, rd2C, d2, go_sem, Nat.reduceEqDiff, Nat.reduceAdd]
   have hrd : [D.val (.string (lb t.1)), .val (.int .i64 t.2.1), .val (.int .i64 t.2.2)] = rd2C t := rfl
   rw [hrd]
   refine callO_eq rfl rfl rfl rfl rfl (ktake15 t ht) ?_
   clear v1 v2 y1 y2 hEn
   generalize num2 t = v at *
   simp only [go_sem, Nat.reduceEqDiff, Nat.reduceAdd, Nat.reduceLeDiff]
   refine callO_eq rfl rfl rfl rfl rfl (kr2Uint v.2 vi) ?_
   generalize uint2 v.2 = y at *
   simp only [go_sem, Nat.reduceEqDiff, Nat.reduceAdd, Nat.reduceLeDiff]
   refine callO_by rfl rfl rfl rfl rfl (kTakeF8 y.2 yi) ?_
   rintro _ _ _ ⟨q, rfl, rfl, q1, hin, rfl, hab⟩
   generalize takeFX (abs2 y.2) = F at *
   cases dk : decide (F.2.2 = 0)
   ·have nk := of_decide_eq_false dk
    have hE : (esR (abs2 t0)).2.2 ≠ 0 := by
     rw [← hg, hS, rdEs_stop nk]
     exact nk
    rw [if_neg (fun h => hbad hE h.1)]
    simp only [zFrC, zW, Bool.not_false, go_sem, Nat.reduceEqDiff, Nat.reduceAdd, Nat.reduceLeDiff]
    rfl
   ·have nk := of_decide_eq_true dk
    have ha := hab nk
    simp only [Bool.not_true, zW, go_sem, Nat.reduceEqDiff, Nat.reduceAdd, Nat.reduceLeDiff, List.length_map, decide_true, decide_false, true_and, and_self, ↓reduceIte]
    refine ⟨?_, (by rintro _ rfl; rfl), (by omega), (by omega), k, by omega, acc ++ [⟨v.1, F.1, y.1⟩], q, by omega, ?_, ?_, ?_, hin, by rw [q1, yq, vq, ht1], ?_⟩
    ·intro e he; obtain ⟨r, -, rfl⟩ := List.mem_map.1 he; rfl
    ·rw [← hg, hS, ha]; simp
    ·rw [ha]; intro he; have := ls he; simp only at this; have := h0 (by rw [hte]; exact n2); simp; omega
    ·have := h0 (by rw [hte]; exact n2); simp; omega
    ·simp only [w1, stR1, zW, zFrC, List.map_append, List.map_cons, List.map_nil, entC, go_sem, Nat.reduceEqDiff, true_and, and_self, ↓reduceIte]
end Go.Proofs
