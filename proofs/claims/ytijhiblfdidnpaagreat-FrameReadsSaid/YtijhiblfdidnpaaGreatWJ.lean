/- A part of the proof; what is proved stands in the last text. -/
import Derived.Test.YtijhiblfdidnpaaGreatWI
set_option linter.unusedVariables false
set_option maxRecDepth 2000
namespace Go.Proofs
open Go.Vm
set_option linter.unusedSimpArgs false
abbrev Rd2 := List UInt8 × Nat × Int
def rd2C (s : Rd2) : List D := [.val (.string (lb s.1)), .val (.int .i64 s.2.1), .val (.int .i64 s.2.2)]
@[go_sem] theorem tags_rd2C (s : Rd2) : tagsL (rd2C s) = [] := rfl
@[go_sem] theorem av_rd2C (p : Nat → Bool) (q : Tag → Bool) (s : Rd2) : D.avoids.avoidsL p q (rd2C s) = true := rfl
@[go_sem] theorem ren_rd2C (f : Nat → Option Nat) (h : Tag → Option Tag) (s : Rd2) : renL f h (rd2C s) = rd2C s := rfl
@[go_sem] theorem keep_rd2C (p : Nat → Bool) (q : Tag → Bool) (s : Rd2) : (rd2C s).map (D.keep p q) = rd2C s := rfl
@[go_sem] theorem fzb_rd2C (o : Nat) (fs : List D) (s : Rd2) : (rd2C s).map (D.fzb o fs) = rd2C s := rfl
def Rd2At (k : FuncId) (xs : List (Nat × D)) (s : Rd2) (r : D) (s' : Rd2) : Prop :=
 ObjAt Tryz.prog k ⟨(0, .ptr 1000000 0) :: xs, [(1000000, rd2C s)], []⟩ (xs.length + 1) (fun r' hp tg => r' = r ∧ hp = [(1000000, rd2C s')] ∧ tg = [])
def stop2 (s : Rd2) (e : Int) : Rd2 := if s.2.2 = 0 then (s.1, s.2.1, e) else s
def byte2 (s : Rd2) : Nat × Rd2 := if s.2.2 ≠ 0 ∨ s.1.length ≤ s.2.1 then (0, stop2 s 3) else ((s.1.getD s.2.1 0).toNat, (s.1, s.2.1 + 1, s.2.2))
def uint2F : Nat → Bool → Nat → Rd2 → Nat × Rd2
 | 0, _, _, s => (0, s)
 | m + 1, first, n, s => if (byte2 s).2.2.2 ≠ 0 then (0, (byte2 s).2) else if (first && (byte2 s).1 == 128) = true ∨ 144115188075855872 ≤ n then (0, stop2 (byte2 s).2 2)
  else if (byte2 s).1 < 128 then (n * 128 + (byte2 s).1, (byte2 s).2) else uint2F m false (n * 128 + (byte2 s).1 % 128) (byte2 s).2
def uint2 (s : Rd2) : Nat × Rd2 := uint2F (s.1.length - s.2.1 + 2) true 0 s
def fix2 (most : Nat) (s : Rd2) : Rd2 :=
 let u := uint2 s
 let a := if u.2.2.2 = 0 ∧ most < u.1 then stop2 u.2 9 else u.2
 if a.2.2 = 0 ∧ a.1.length - a.2.1 < u.1 then stop2 a 3 else a
def str2 (most : Nat) (s : Rd2) : List UInt8 × Rd2 :=
 if (fix2 most s).2.2 ≠ 0 then ([], fix2 most s) else (((fix2 most s).1.drop (fix2 most s).2.1).take (uint2 s).1, ((fix2 most s).1, (fix2 most s).2.1 + (uint2 s).1, (fix2 most s).2.2))
def In2 (s : Rd2) : Prop := s.2.1 ≤ s.1.length ∧ s.1.length ≤ 1000000
theorem kr2Stop (s : Rd2) (e : Int) : Rd2At 73 [(1, .val (.int .i64 e))] s (.val (.int .u64 0)) (stop2 s e) := by
 refine obj_of [1000000] [] r73 (by kernel_rfl) ?_
 unfold m73
 simp only [rd2C, go_sem, Nat.reduceEqDiff, Nat.reduceAdd]
 cases h0 : s.2.2 == 0
 all_goals
  have hf : stop2 s e = if (s.2.2 == 0) = true then (s.1, s.2.1, e) else s := by simp [stop2]
  simp only [hf, h0, finO, if_true, if_false, go_sem, Nat.reduceEqDiff, Nat.reduceAdd, Nat.reduceLeDiff]
  first | rfl | exact ⟨rfl, rfl⟩ | exact ⟨rfl, rfl, rfl⟩
theorem stop2_in {s : Rd2} {e : Int} (h : In2 s) : In2 (stop2 s e) := by
 unfold stop2; split
 ·exact h
 ·exact h
theorem byte2_in {s : Rd2} (h : In2 s) : In2 (byte2 s).2 := by
 unfold byte2; split
 ·exact stop2_in h
 ·rename_i hn
  have := h.1; have := h.2
  exact ⟨by simp only; omega, h.2⟩
theorem kr2Byte (s : Rd2) (h : In2 s) : Rd2At 42 [] s (.val (.int .u8 (byte2 s).1)) (byte2 s).2 := by
 obtain ⟨l, at_, e⟩ := s
 obtain ⟨h1, h2⟩ := h
 simp only at h1 h2
 refine obj_of [1000000] [] r42 (by kernel_rfl) ?_
 unfold m42
 simp only [rd2C, go_sem, Nat.reduceEqDiff, Nat.reduceAdd]
 cases h0 : e == 0
 ·have n0 : ¬ e = 0 := by simpa using h0
  have hb : byte2 (l, at_, e) = (0, stop2 (l, at_, e) 3) := by unfold byte2; rw [if_pos (.inl n0)]
  rw [hb]
  simp only [bne, h0, Bool.not_false, go_sem, Nat.reduceEqDiff]
  refine callO_eq rfl rfl rfl rfl rfl (kr2Stop (l, at_, e) 3) ?_
  simp only [finO, go_sem, Nat.reduceEqDiff]
  exact ⟨rfl, rfl⟩
 ·have n0 : e = 0 := by simpa using h0
  subst n0
  have g0 : decide ((at_ : Int) ≥ (((lb l).size : Nat) : Int)) = decide (l.length ≤ at_) := by rw [decide_eq_decide, size_lb]; omega
  simp only [bne, h0, Bool.not_true, g0, go_sem, Nat.reduceEqDiff, Nat.reduceAdd]
  cases h3 : decide (l.length ≤ at_)
  ·have n3 := of_decide_eq_false h3
   have hb : byte2 (l, at_, 0) = ((l.getD at_ 0).toNat, (l, at_ + 1, 0)) := by unfold byte2; rw [if_neg (by simp; omega)]
   rw [hb]
   have w1 : IntKind.i64.wrap ((at_ : Int) + 1) = ((at_ + 1 : Nat) : Int) := by rw [wrap64 (by omega) (by omega)]; omega
   have w2 : IntKind.i64.wrap (((at_ + 1 : Nat) : Int) - 1) = (at_ : Int) := by rw [wrap64 (by omega) (by omega)]; omega
   have hd : (lb l).data[at_]? = some (l.getD at_ 0) := by
    have hlt : at_ < l.length := by omega
    show l.toArray[at_]? = _
    simp [List.getD_eq_getElem?_getD, List.getElem?_eq_getElem hlt]
   simp only [w1, w2, nn0, Int.toNat_natCast, hd, finO, go_sem, Nat.reduceEqDiff, Nat.reduceAdd, Nat.reduceLeDiff]
   rfl
  ·have n3 := of_decide_eq_true h3
   have hb : byte2 (l, at_, 0) = (0, stop2 (l, at_, 0) 3) := by unfold byte2; rw [if_pos (.inr n3)]
   rw [hb]
   simp only [go_sem, Nat.reduceEqDiff]
   refine callO_eq rfl rfl rfl rfl rfl (kr2Stop (l, at_, 0) 3) ?_
   simp only [finO, go_sem, Nat.reduceEqDiff]
   exact ⟨rfl, rfl⟩
def stU2 (n : Nat) (k : Nat) (s : Rd2) : St := ⟨[(0, .ptr 1000000 0), (3, .val (.int .u64 n)), (4, .val (.int .i64 k))], [(1000000, rd2C s)], []⟩
def invU2 (g : Nat × Rd2) (S : St) (j : Nat) : Prop := ∃ (n k m : Nat) (s : Rd2), In2 s ∧ s.1.length - s.2.1 + 1 ≤ m ∧ j = m ∧ k + m ≤ 2000000 ∧ uint2F m (decide (k = 0)) n s = g ∧ n < 18446744073709551616 ∧ S.trim [0, 3, 4] [1000000] [] = stU2 n k s
theorem byte2_lt (s : Rd2) : (byte2 s).1 < 256 := by
 unfold byte2; split
 ·simp
 ·exact UInt8.toNat_lt _
theorem byte2_at {s : Rd2} (he : (byte2 s).2.2.2 = 0) : s.2.1 < s.1.length ∧ (byte2 s).2 = (s.1, s.2.1 + 1, s.2.2) ∧ s.2.2 = 0 := by
 unfold byte2 at he ⊢
 split at he
 ·rename_i h
  simp only [stop2] at he
  split at he
  ·simp at he
  ·rename_i h2; exact absurd he h2
 ·rename_i h
  rw [if_neg h]
  exact ⟨by omega, rfl, by simp only [not_or, Decidable.not_not] at h; exact h.1⟩
set_option maxHeartbeats 4000000 in
theorem kr2Uint (s : Rd2) (h : In2 s) : Rd2At 45 [] s (.val (.int .u64 (uint2 s).1)) (uint2 s).2 := by
 refine obj_of [1000000] [] r45 (by kernel_rfl) ?_
 unfold m45
 simp only [go_sem, Nat.reduceEqDiff]
 have h2 := h.2
 refine ev_loop_by (invU2 (uint2 s)) (s.1.length - s.2.1 + 2) ⟨0, 0, s.1.length - s.2.1 + 2, s, h, by omega, rfl, by omega, rfl, by omega, by simp only [go_sem, Nat.reduceEqDiff]; rfl⟩ ?_
 rintro j S ⟨n, k, m, s', hin, hm, rfl, hk, hg, hn, hS⟩
 rw [ev_trim, hS]
 clear hS S
 generalize uint2 s = g at *
 simp only [stU2]
 simp only [go_sem, Nat.reduceEqDiff]
 refine callO_eq rfl rfl rfl rfl rfl (kr2Byte s' hin) ?_
 have hb := byte2_lt s'
 have hbi := byte2_in hin
 have hba := @byte2_at s'
 cases j with
 | zero => omega
 | succ m =>
 rw [uint2F] at hg
 generalize byte2 s' = c at *
 simp only [rd2C, go_sem, Nat.reduceEqDiff, Nat.reduceAdd]
 cases c0 : c.2.2.2 == 0
 ·have n0 : ¬ c.2.2.2 = 0 := by simpa using c0
  rw [if_pos n0] at hg
  simp only [bne, c0, Bool.not_false, finO, go_sem, Nat.reduceEqDiff]
  rw [← hg]
  exact ⟨rfl, rfl⟩
 ·have n0 : c.2.2.2 = 0 := by simpa using c0
  rw [if_neg (by simp [n0])] at hg
  have q0 : ((c.1 : Int) == 128) = (c.1 == 128) := by rw [Bool.eq_iff_iff]; simp; omega
  have k0 : ((k : Int) == 0) = decide (k = 0) := by rw [Bool.eq_iff_iff]; simp
  have b0 : decide ((n : Int) ≥ 144115188075855872) = decide (144115188075855872 ≤ n) := by rw [decide_eq_decide]; omega
  have l0 : decide ((c.1 : Int) < 128) = decide (c.1 < 128) := by rw [decide_eq_decide]; omega
  simp only [bne, c0, Bool.not_true, k0, go_sem, Nat.reduceEqDiff]
  cases ck : (decide (k = 0) && c.1 == 128)
  ·cases bb : decide (144115188075855872 ≤ n)
   ·have nb := of_decide_eq_false bb
    rw [if_neg (by rintro (h | h)
                   ·rw [ck] at h; cases h
                   ·exact nb h)] at hg
    have w1 : IntKind.u64.wrap ((n : Int) * 128) = ((n * 128 : Nat) : Int) := by rw [wrap_u64 (by omega) (by omega)]; omega
    have w2 : ((c.1 : Int).tmod 128) = ((c.1 % 128 : Nat) : Int) := by rw [Int.tmod_eq_emod_of_nonneg (by omega)]; omega
    have w3 : IntKind.u64.wrap (((c.1 % 128 : Nat) : Int)) = ((c.1 % 128 : Nat) : Int) := wrap_u64 (by omega) (by omega)
    have w4 : IntKind.u64.wrap (((n * 128 : Nat) : Int) + ((c.1 % 128 : Nat) : Int)) = ((n * 128 + c.1 % 128 : Nat) : Int) := by rw [wrap_u64 (by omega) (by omega)]; omega
    have w5 : IntKind.i64.wrap ((k : Int) + 1) = ((k + 1 : Nat) : Int) := by rw [wrap64 (by omega) (by omega)]; omega
    have z128 : ((128 : Int) = 0) = False := by simp
    have k1 : decide (k + 1 = 0) = false := by simp
    obtain ⟨e1, e2, e3⟩ := hba n0
    cases kk : decide (k = 0) <;> rw [kk] at ck <;> simp only [Bool.true_and, Bool.false_and] at ck
    all_goals
     simp only [q0, b0, l0, ck, bb, w1, w2, w3, w4, z128, if_false, go_sem, Nat.reduceEqDiff]
     cases ll : decide (c.1 < 128)
     ·have nl := of_decide_eq_false ll
      rw [if_neg nl] at hg
      simp only [w5, go_sem, Nat.reduceEqDiff]
      refine ⟨m, by omega, n * 128 + c.1 % 128, k + 1, m, c.2, hbi, by rw [e2]; simp only; omega, rfl, by omega, by rw [k1]; exact hg, by omega, rfl⟩
     ·have nl := of_decide_eq_true ll
      rw [if_pos nl] at hg
      simp only [finO, go_sem, Nat.reduceEqDiff]
      rw [← hg, show c.1 % 128 = c.1 by omega]
      exact ⟨rfl, rfl⟩
   ·rw [if_pos (.inr (of_decide_eq_true bb))] at hg
    cases kk : decide (k = 0) <;> rw [kk] at ck <;> simp only [Bool.true_and, Bool.false_and] at ck
    all_goals
     simp only [q0, b0, ck, bb, go_sem, Nat.reduceEqDiff]
     refine callO_eq rfl rfl rfl rfl rfl (kr2Stop c.2 2) ?_
     simp only [finO, go_sem, Nat.reduceEqDiff]
     rw [← hg]
     exact ⟨rfl, rfl⟩
  ·rw [if_pos (.inl ck)] at hg
   simp only [Bool.and_eq_true] at ck
   simp only [q0, ck.1, ck.2, go_sem, Nat.reduceEqDiff]
   refine callO_eq rfl rfl rfl rfl rfl (kr2Stop c.2 2) ?_
   simp only [finO, go_sem, Nat.reduceEqDiff]
   rw [← hg]
   exact ⟨rfl, rfl⟩
end Go.Proofs

namespace Go.Proofs
open Go.Vm
set_option linter.unusedSimpArgs false
theorem uint2F_in : ∀ (m : Nat) (first : Bool) (n : Nat) (s : Rd2), In2 s → In2 (uint2F m first n s).2
 | 0, _, _, s, h => h
 | m + 1, first, n, s, h => by
  have hb := byte2_in h
  unfold uint2F
  split
  ·exact hb
  ·split
   ·exact stop2_in hb
   ·split
    ·exact hb
    ·exact uint2F_in m false _ _ hb
theorem uint2F_lt : ∀ (m : Nat) (first : Bool) (n : Nat) (s : Rd2), (uint2F m first n s).1 < 18446744073709551616
 | 0, _, _, s => by simp [uint2F]
 | m + 1, first, n, s => by
  have hb := byte2_lt s
  unfold uint2F
  split
  ·simp
  ·split
   ·simp
   ·rename_i h
    split
    ·simp only; omega
    ·exact uint2F_lt m false _ _
theorem uint2_in {s : Rd2} (h : In2 s) : In2 (uint2 s).2 := uint2F_in _ _ _ _ h
theorem uint2_lt (s : Rd2) : (uint2 s).1 < 18446744073709551616 := uint2F_lt _ _ _ _
theorem kr2Int (s : Rd2) (h : In2 s) : Rd2At 74 [] s (.val (.int .i64 (unfoldN (uint2 s).1))) (uint2 s).2 := by
 refine obj_of [1000000] [] r74 (by kernel_rfl) ?_
 unfold m74
 simp only [go_sem, Nat.reduceEqDiff]
 refine callO_eq rfl rfl rfl rfl rfl (kr2Uint s h) ?_
 have hlt := uint2_lt s
 generalize uint2 s = u at *
 have z2 : ((2 : Int) = 0) = False := by simp
 have e1 : ((u.1 : Int).tmod 2) = ((u.1 % 2 : Nat) : Int) := by rw [Int.tmod_eq_emod_of_nonneg (by omega)]; omega
 have e2 : ((u.1 : Int).tdiv 2) = ((u.1 / 2 : Nat) : Int) := by rw [Int.tdiv_eq_ediv_of_nonneg (by omega)]; omega
 have w1 : IntKind.u64.wrap ((u.1 / 2 : Nat) : Int) = ((u.1 / 2 : Nat) : Int) := wrap_u64 (by omega) (by omega)
 have w2 : IntKind.i64.wrap ((u.1 / 2 : Nat) : Int) = ((u.1 / 2 : Nat) : Int) := wrap64 (by omega) (by omega)
 have w3 : IntKind.i64.wrap (-1 - ((u.1 / 2 : Nat) : Int)) = -1 - ((u.1 / 2 : Nat) : Int) := wrap64 (by omega) (by omega)
 have q1 : (((u.1 % 2 : Nat) : Int) == 1) = decide (u.1 % 2 = 1) := by rw [Bool.eq_iff_iff]; simp; omega
 unfold unfoldN
 simp only [z2, e1, q1, if_false, go_sem, Nat.reduceEqDiff]
 cases c1 : decide (u.1 % 2 = 1)
 ·rw [if_neg (of_decide_eq_false c1)]
  simp only [z2, e2, w1, w2, if_false, finO, go_sem, Nat.reduceEqDiff]
  exact rfl
 ·rw [if_pos (of_decide_eq_true c1)]
  simp only [z2, e2, w1, w2, w3, if_false, finO, go_sem, Nat.reduceEqDiff]
  exact rfl
theorem fix2_in {most : Nat} {s : Rd2} (h : In2 s) : In2 (fix2 most s) := by
 have h1 := uint2_in h
 unfold fix2
 simp only
 have h2 : In2 (if (uint2 s).2.2.2 = 0 ∧ most < (uint2 s).1 then stop2 (uint2 s).2 9 else (uint2 s).2) := by
  split
  ·exact stop2_in h1
  ·exact h1
 generalize (if (uint2 s).2.2.2 = 0 ∧ most < (uint2 s).1 then stop2 (uint2 s).2 9 else (uint2 s).2) = a at *
 split
 ·exact stop2_in h2
 ·exact h2
theorem fix2_fit {most : Nat} {s : Rd2} (h : (fix2 most s).2.2 = 0) : (uint2 s).1 ≤ (fix2 most s).1.length - (fix2 most s).2.1 := by
 unfold fix2 at h ⊢
 simp only at h ⊢
 generalize (if (uint2 s).2.2.2 = 0 ∧ most < (uint2 s).1 then stop2 (uint2 s).2 9 else (uint2 s).2) = a at *
 split at h
 ·rename_i h1
  rw [stop2, if_pos h1.1] at h
  simp at h
 ·rename_i h1
  rw [if_neg h1]
  have : ¬ (a.1.length - a.2.1 < (uint2 s).1) := fun h2 => h1 ⟨h, h2⟩
  omega
theorem str2_in {most : Nat} {s : Rd2} (h : In2 s) : In2 (str2 most s).2 := by
 have h1 := fix2_in (most := most) h
 unfold str2
 split
 ·exact h1
 ·rename_i h2
  have h3 := fix2_fit (Decidable.not_not.1 h2)
  have := h1.1
  exact ⟨by simp only; omega, h1.2⟩
set_option maxHeartbeats 4000000 in
theorem kr2Str (most : Nat) (hm : most < 1000) (s : Rd2) (h : In2 s) : Rd2At 75 [(1, .val (.int .i64 most))] s (.val (.string (lb (str2 most s).1))) (str2 most s).2 := by
 refine obj_of [1000000] [] r75 (by kernel_rfl) ?_
 unfold m75
 simp only [go_sem, Nat.reduceEqDiff]
 refine callO_eq rfl rfl rfl rfl rfl (kr2Uint s h) ?_
 have hlt := uint2_lt s
 have hin := uint2_in h
 have hfi := fix2_in (most := most) h
 have hff := fix2_fit (most := most) (s := s)
 have hS : str2 most s = if (fix2 most s).2.2 ≠ 0 then ([], fix2 most s) else (((fix2 most s).1.drop (fix2 most s).2.1).take (uint2 s).1, ((fix2 most s).1, (fix2 most s).2.1 + (uint2 s).1, (fix2 most s).2.2)) := rfl
 have hF : fix2 most s = if (if (uint2 s).2.2.2 = 0 ∧ most < (uint2 s).1 then stop2 (uint2 s).2 9 else (uint2 s).2).2.2 = 0 ∧ (if (uint2 s).2.2.2 = 0 ∧ most < (uint2 s).1 then stop2 (uint2 s).2 9 else (uint2 s).2).1.length - (if (uint2 s).2.2.2 = 0 ∧ most < (uint2 s).1 then stop2 (uint2 s).2 9 else (uint2 s).2).2.1 < (uint2 s).1 then stop2 (if (uint2 s).2.2.2 = 0 ∧ most < (uint2 s).1 then stop2 (uint2 s).2 9 else (uint2 s).2) 3 else (if (uint2 s).2.2.2 = 0 ∧ most < (uint2 s).1 then stop2 (uint2 s).2 9 else (uint2 s).2) := rfl
 have hai : In2 (if (uint2 s).2.2.2 = 0 ∧ most < (uint2 s).1 then stop2 (uint2 s).2 9 else (uint2 s).2) := by
  split
  ·exact stop2_in hin
  ·exact hin
 generalize ha : (if (uint2 s).2.2.2 = 0 ∧ most < (uint2 s).1 then stop2 (uint2 s).2 9 else (uint2 s).2) = a at *
 generalize fix2 most s = b at *
 generalize str2 most s = g at *
 generalize uint2 s = u at *
 have w0 : IntKind.u64.wrap (most : Int) = (most : Int) := wrap_u64 (by omega) (by omega)
 have m0 : (if (0 : Int) > (most : Int) then (0 : Int) else (most : Int)) = (most : Int) := if_neg (by omega)
 have g0 : decide ((u.1 : Int) > (most : Int)) = decide (most < u.1) := by rw [decide_eq_decide]; omega
 have hal := hai.1
 have hall := hai.2
 simp only [rd2C, go_sem, Nat.reduceEqDiff, Nat.reduceAdd]
 cases c0 : u.2.2.2 == 0
 ·have n0 : ¬ u.2.2.2 = 0 := by simpa using c0
  rw [if_neg (fun h => n0 h.1)] at ha
  simp only [c0, go_sem, Nat.reduceEqDiff, Nat.reduceAdd]
  rw [ha] at n0 c0 ⊢
  rw [if_neg (fun h => n0 h.1)] at hF
  try simp only [c0, go_sem, Nat.reduceEqDiff, Nat.reduceAdd, Nat.reduceLeDiff, List.length_map]
  rw [← hF]
  have b1 := hfi.1
  have b2 := hfi.2
  cases f0 : b.2.2 == 0
  ·have k0 : b.2.2 ≠ 0 := by simpa using f0
   rw [if_pos k0] at hS
   rw [hS]
   simp only [bne, f0, Bool.not_false, finO, go_sem, Nat.reduceEqDiff]
   exact ⟨rfl, rfl⟩
  ·have k0 : b.2.2 = 0 := by simpa using f0
   have hfit := hff k0
   rw [if_neg (fun h => h k0)] at hS
   rw [hS]
   have v1 : IntKind.i64.wrap (u.1 : Int) = (u.1 : Int) := wrap64 (by omega) (by omega)
   have v2 : IntKind.i64.wrap ((b.2.1 : Int) + (u.1 : Int)) = ((b.2.1 + u.1 : Nat) : Int) := by rw [wrap64 (by omega) (by omega)]; omega
   have v3 : IntKind.i64.wrap (((b.2.1 + u.1 : Nat) : Int) - (u.1 : Int)) = (b.2.1 : Int) := by rw [wrap64 (by omega) (by omega)]; omega
   have v4 : (0 ≤ ((b.2.1 + u.1 : Nat) : Int) ∧ ((b.2.1 + u.1 : Nat) : Int) ≤ (((lb b.1).size : Nat) : Int)) = True := by rw [size_lb]; simp only [eq_iff_iff, iff_true]; omega
   have v5 : (0 ≤ (b.2.1 : Int) ∧ (b.2.1 : Int) ≤ ((b.2.1 + u.1 : Nat) : Int)) = True := by simp only [eq_iff_iff, iff_true]; omega
   have e5 : (b.1.take (b.2.1 + u.1)).drop b.2.1 = (b.1.drop b.2.1).take u.1 := by rw [List.drop_take, show b.2.1 + u.1 - b.2.1 = u.1 by omega]
   simp only [bne, f0, Bool.not_true, v1, v2, v3, v4, v5, if_true, Int.toNat_natCast, ext_lb, e5, finO, go_sem, Nat.reduceEqDiff, Nat.reduceAdd, Nat.reduceLeDiff]
   exact rfl
 ·have n0 : u.2.2.2 = 0 := by simpa using c0
  simp only [m0, w0, g0, go_sem, Nat.reduceEqDiff]
  cases c1 : decide (most < u.1)
  ·rw [if_neg (fun h => of_decide_eq_false c1 h.2)] at ha
   simp only [go_sem, Nat.reduceEqDiff, Nat.reduceAdd]
   rw [ha]
   have w2 : IntKind.i64.wrap ((a.1.length : Int) - (a.2.1 : Int)) = ((a.1.length - a.2.1 : Nat) : Int) := by rw [wrap64 (by omega) (by omega)]; omega
   have w3 : IntKind.u64.wrap ((a.1.length - a.2.1 : Nat) : Int) = ((a.1.length - a.2.1 : Nat) : Int) := wrap_u64 (by omega) (by omega)
   have g1 : decide ((u.1 : Int) > ((a.1.length - a.2.1 : Nat) : Int)) = decide (a.1.length - a.2.1 < u.1) := by rw [decide_eq_decide]; omega
   try simp only [rd2C, size_lb, w2, go_sem, Nat.reduceEqDiff, Nat.reduceAdd, Nat.reduceLeDiff, List.length_map]
   cases d0 : a.2.2 == 0
   ·have l0 : ¬ a.2.2 = 0 := by simpa using d0
    rw [if_neg (fun h => l0 h.1)] at hF
    try simp only [go_sem, Nat.reduceEqDiff, Nat.reduceAdd]
    rw [← hF]
    have b1 := hfi.1
    have b2 := hfi.2
    cases f0 : b.2.2 == 0
    ·have k0 : b.2.2 ≠ 0 := by simpa using f0
     rw [if_pos k0] at hS
     rw [hS]
     simp only [bne, f0, Bool.not_false, finO, go_sem, Nat.reduceEqDiff]
     exact ⟨rfl, rfl⟩
    ·have k0 : b.2.2 = 0 := by simpa using f0
     have hfit := hff k0
     rw [if_neg (fun h => h k0)] at hS
     rw [hS]
     have v1 : IntKind.i64.wrap (u.1 : Int) = (u.1 : Int) := wrap64 (by omega) (by omega)
     have v2 : IntKind.i64.wrap ((b.2.1 : Int) + (u.1 : Int)) = ((b.2.1 + u.1 : Nat) : Int) := by rw [wrap64 (by omega) (by omega)]; omega
     have v3 : IntKind.i64.wrap (((b.2.1 + u.1 : Nat) : Int) - (u.1 : Int)) = (b.2.1 : Int) := by rw [wrap64 (by omega) (by omega)]; omega
     have v4 : (0 ≤ ((b.2.1 + u.1 : Nat) : Int) ∧ ((b.2.1 + u.1 : Nat) : Int) ≤ (((lb b.1).size : Nat) : Int)) = True := by rw [size_lb]; simp only [eq_iff_iff, iff_true]; omega
     have v5 : (0 ≤ (b.2.1 : Int) ∧ (b.2.1 : Int) ≤ ((b.2.1 + u.1 : Nat) : Int)) = True := by simp only [eq_iff_iff, iff_true]; omega
     have e5 : (b.1.take (b.2.1 + u.1)).drop b.2.1 = (b.1.drop b.2.1).take u.1 := by rw [List.drop_take, show b.2.1 + u.1 - b.2.1 = u.1 by omega]
     simp only [bne, f0, Bool.not_true, v1, v2, v3, v4, v5, if_true, Int.toNat_natCast, ext_lb, e5, finO, go_sem, Nat.reduceEqDiff, Nat.reduceAdd, Nat.reduceLeDiff]
     exact rfl
   ·have l0 : a.2.2 = 0 := by simpa using d0
    try simp only [size_lb, w2, w3, g1, go_sem, Nat.reduceEqDiff, Nat.reduceAdd]
    cases d1 : decide (a.1.length - a.2.1 < u.1)
    ·rw [if_neg (fun h => of_decide_eq_false d1 h.2)] at hF
     simp only [go_sem, Nat.reduceEqDiff, Nat.reduceAdd]
     rw [← hF]
     have b1 := hfi.1
     have b2 := hfi.2
     cases f0 : b.2.2 == 0
     ·have k0 : b.2.2 ≠ 0 := by simpa using f0
      rw [if_pos k0] at hS
      rw [hS]
      simp only [bne, f0, Bool.not_false, finO, go_sem, Nat.reduceEqDiff]
      exact ⟨rfl, rfl⟩
     ·have k0 : b.2.2 = 0 := by simpa using f0
      have hfit := hff k0
      rw [if_neg (fun h => h k0)] at hS
      rw [hS]
      have v1 : IntKind.i64.wrap (u.1 : Int) = (u.1 : Int) := wrap64 (by omega) (by omega)
      have v2 : IntKind.i64.wrap ((b.2.1 : Int) + (u.1 : Int)) = ((b.2.1 + u.1 : Nat) : Int) := by rw [wrap64 (by omega) (by omega)]; omega
      have v3 : IntKind.i64.wrap (((b.2.1 + u.1 : Nat) : Int) - (u.1 : Int)) = (b.2.1 : Int) := by rw [wrap64 (by omega) (by omega)]; omega
      have v4 : (0 ≤ ((b.2.1 + u.1 : Nat) : Int) ∧ ((b.2.1 + u.1 : Nat) : Int) ≤ (((lb b.1).size : Nat) : Int)) = True := by rw [size_lb]; simp only [eq_iff_iff, iff_true]; omega
      have v5 : (0 ≤ (b.2.1 : Int) ∧ (b.2.1 : Int) ≤ ((b.2.1 + u.1 : Nat) : Int)) = True := by simp only [eq_iff_iff, iff_true]; omega
      have e5 : (b.1.take (b.2.1 + u.1)).drop b.2.1 = (b.1.drop b.2.1).take u.1 := by rw [List.drop_take, show b.2.1 + u.1 - b.2.1 = u.1 by omega]
      simp only [bne, f0, Bool.not_true, v1, v2, v3, v4, v5, if_true, Int.toNat_natCast, ext_lb, e5, finO, go_sem, Nat.reduceEqDiff, Nat.reduceAdd, Nat.reduceLeDiff]
      exact rfl
    ·rw [if_pos ⟨l0, of_decide_eq_true d1⟩] at hF
     simp only [go_sem, Nat.reduceEqDiff]
     refine callO_eq rfl rfl rfl rfl rfl (kr2Stop a 3) ?_
     rw [← hF]
     have b1 := hfi.1
     have b2 := hfi.2
     cases f0 : b.2.2 == 0
     ·have k0 : b.2.2 ≠ 0 := by simpa using f0
      rw [if_pos k0] at hS
      rw [hS]
      simp only [bne, rd2C, f0, Bool.not_false, finO, go_sem, Nat.reduceEqDiff, Nat.reduceAdd]
      exact ⟨rfl, rfl⟩
     ·have k0 : b.2.2 = 0 := by simpa using f0
      have hfit := hff k0
      rw [if_neg (fun h => h k0)] at hS
      rw [hS]
      have v1 : IntKind.i64.wrap (u.1 : Int) = (u.1 : Int) := wrap64 (by omega) (by omega)
      have v2 : IntKind.i64.wrap ((b.2.1 : Int) + (u.1 : Int)) = ((b.2.1 + u.1 : Nat) : Int) := by rw [wrap64 (by omega) (by omega)]; omega
      have v3 : IntKind.i64.wrap (((b.2.1 + u.1 : Nat) : Int) - (u.1 : Int)) = (b.2.1 : Int) := by rw [wrap64 (by omega) (by omega)]; omega
      have v4 : (0 ≤ ((b.2.1 + u.1 : Nat) : Int) ∧ ((b.2.1 + u.1 : Nat) : Int) ≤ (((lb b.1).size : Nat) : Int)) = True := by rw [size_lb]; simp only [eq_iff_iff, iff_true]; omega
      have v5 : (0 ≤ (b.2.1 : Int) ∧ (b.2.1 : Int) ≤ ((b.2.1 + u.1 : Nat) : Int)) = True := by simp only [eq_iff_iff, iff_true]; omega
      have e5 : (b.1.take (b.2.1 + u.1)).drop b.2.1 = (b.1.drop b.2.1).take u.1 := by rw [List.drop_take, show b.2.1 + u.1 - b.2.1 = u.1 by omega]
      simp only [bne, rd2C, f0, Bool.not_true, v1, v2, v3, v4, v5, if_true, Int.toNat_natCast, ext_lb, e5, finO, go_sem, Nat.reduceEqDiff, Nat.reduceAdd, Nat.reduceLeDiff]
      exact rfl
  ·rw [if_pos ⟨n0, of_decide_eq_true c1⟩] at ha
   simp only [go_sem, Nat.reduceEqDiff]
   refine callO_eq rfl rfl rfl rfl rfl (kr2Stop u.2 9) ?_
   rw [ha]
   have w2 : IntKind.i64.wrap ((a.1.length : Int) - (a.2.1 : Int)) = ((a.1.length - a.2.1 : Nat) : Int) := by rw [wrap64 (by omega) (by omega)]; omega
   have w3 : IntKind.u64.wrap ((a.1.length - a.2.1 : Nat) : Int) = ((a.1.length - a.2.1 : Nat) : Int) := wrap_u64 (by omega) (by omega)
   have g1 : decide ((u.1 : Int) > ((a.1.length - a.2.1 : Nat) : Int)) = decide (a.1.length - a.2.1 < u.1) := by rw [decide_eq_decide]; omega
   try simp only [rd2C, go_sem, Nat.reduceEqDiff, Nat.reduceAdd]
   cases d0 : a.2.2 == 0
   ·have l0 : ¬ a.2.2 = 0 := by simpa using d0
    rw [if_neg (fun h => l0 h.1)] at hF
    try simp only [go_sem, Nat.reduceEqDiff, Nat.reduceAdd]
    rw [← hF]
    have b1 := hfi.1
    have b2 := hfi.2
    cases f0 : b.2.2 == 0
    ·have k0 : b.2.2 ≠ 0 := by simpa using f0
     rw [if_pos k0] at hS
     rw [hS]
     simp only [bne, f0, Bool.not_false, finO, go_sem, Nat.reduceEqDiff]
     exact ⟨rfl, rfl⟩
    ·have k0 : b.2.2 = 0 := by simpa using f0
     have hfit := hff k0
     rw [if_neg (fun h => h k0)] at hS
     rw [hS]
     have v1 : IntKind.i64.wrap (u.1 : Int) = (u.1 : Int) := wrap64 (by omega) (by omega)
     have v2 : IntKind.i64.wrap ((b.2.1 : Int) + (u.1 : Int)) = ((b.2.1 + u.1 : Nat) : Int) := by rw [wrap64 (by omega) (by omega)]; omega
     have v3 : IntKind.i64.wrap (((b.2.1 + u.1 : Nat) : Int) - (u.1 : Int)) = (b.2.1 : Int) := by rw [wrap64 (by omega) (by omega)]; omega
     have v4 : (0 ≤ ((b.2.1 + u.1 : Nat) : Int) ∧ ((b.2.1 + u.1 : Nat) : Int) ≤ (((lb b.1).size : Nat) : Int)) = True := by rw [size_lb]; simp only [eq_iff_iff, iff_true]; omega
     have v5 : (0 ≤ (b.2.1 : Int) ∧ (b.2.1 : Int) ≤ ((b.2.1 + u.1 : Nat) : Int)) = True := by simp only [eq_iff_iff, iff_true]; omega
     have e5 : (b.1.take (b.2.1 + u.1)).drop b.2.1 = (b.1.drop b.2.1).take u.1 := by rw [List.drop_take, show b.2.1 + u.1 - b.2.1 = u.1 by omega]
     simp only [bne, f0, Bool.not_true, v1, v2, v3, v4, v5, if_true, Int.toNat_natCast, ext_lb, e5, finO, go_sem, Nat.reduceEqDiff, Nat.reduceAdd, Nat.reduceLeDiff]
     exact rfl
   ·have l0 : a.2.2 = 0 := by simpa using d0
    try simp only [size_lb, w2, w3, g1, go_sem, Nat.reduceEqDiff, Nat.reduceAdd]
    cases d1 : decide (a.1.length - a.2.1 < u.1)
    ·rw [if_neg (fun h => of_decide_eq_false d1 h.2)] at hF
     simp only [go_sem, Nat.reduceEqDiff, Nat.reduceAdd]
     rw [← hF]
     have b1 := hfi.1
     have b2 := hfi.2
     cases f0 : b.2.2 == 0
     ·have k0 : b.2.2 ≠ 0 := by simpa using f0
      rw [if_pos k0] at hS
      rw [hS]
      simp only [bne, f0, Bool.not_false, finO, go_sem, Nat.reduceEqDiff]
      exact ⟨rfl, rfl⟩
     ·have k0 : b.2.2 = 0 := by simpa using f0
      have hfit := hff k0
      rw [if_neg (fun h => h k0)] at hS
      rw [hS]
      have v1 : IntKind.i64.wrap (u.1 : Int) = (u.1 : Int) := wrap64 (by omega) (by omega)
      have v2 : IntKind.i64.wrap ((b.2.1 : Int) + (u.1 : Int)) = ((b.2.1 + u.1 : Nat) : Int) := by rw [wrap64 (by omega) (by omega)]; omega
      have v3 : IntKind.i64.wrap (((b.2.1 + u.1 : Nat) : Int) - (u.1 : Int)) = (b.2.1 : Int) := by rw [wrap64 (by omega) (by omega)]; omega
      have v4 : (0 ≤ ((b.2.1 + u.1 : Nat) : Int) ∧ ((b.2.1 + u.1 : Nat) : Int) ≤ (((lb b.1).size : Nat) : Int)) = True := by rw [size_lb]; simp only [eq_iff_iff, iff_true]; omega
      have v5 : (0 ≤ (b.2.1 : Int) ∧ (b.2.1 : Int) ≤ ((b.2.1 + u.1 : Nat) : Int)) = True := by simp only [eq_iff_iff, iff_true]; omega
      have e5 : (b.1.take (b.2.1 + u.1)).drop b.2.1 = (b.1.drop b.2.1).take u.1 := by rw [List.drop_take, show b.2.1 + u.1 - b.2.1 = u.1 by omega]
      simp only [bne, f0, Bool.not_true, v1, v2, v3, v4, v5, if_true, Int.toNat_natCast, ext_lb, e5, finO, go_sem, Nat.reduceEqDiff, Nat.reduceAdd, Nat.reduceLeDiff]
      exact rfl
    ·rw [if_pos ⟨l0, of_decide_eq_true d1⟩] at hF
     simp only [go_sem, Nat.reduceEqDiff]
     refine callO_eq rfl rfl rfl rfl rfl (kr2Stop a 3) ?_
     rw [← hF]
     have b1 := hfi.1
     have b2 := hfi.2
     cases f0 : b.2.2 == 0
     ·have k0 : b.2.2 ≠ 0 := by simpa using f0
      rw [if_pos k0] at hS
      rw [hS]
      simp only [bne, rd2C, f0, Bool.not_false, finO, go_sem, Nat.reduceEqDiff, Nat.reduceAdd]
      exact ⟨rfl, rfl⟩
     ·have k0 : b.2.2 = 0 := by simpa using f0
      have hfit := hff k0
      rw [if_neg (fun h => h k0)] at hS
      rw [hS]
      have v1 : IntKind.i64.wrap (u.1 : Int) = (u.1 : Int) := wrap64 (by omega) (by omega)
      have v2 : IntKind.i64.wrap ((b.2.1 : Int) + (u.1 : Int)) = ((b.2.1 + u.1 : Nat) : Int) := by rw [wrap64 (by omega) (by omega)]; omega
      have v3 : IntKind.i64.wrap (((b.2.1 + u.1 : Nat) : Int) - (u.1 : Int)) = (b.2.1 : Int) := by rw [wrap64 (by omega) (by omega)]; omega
      have v4 : (0 ≤ ((b.2.1 + u.1 : Nat) : Int) ∧ ((b.2.1 + u.1 : Nat) : Int) ≤ (((lb b.1).size : Nat) : Int)) = True := by rw [size_lb]; simp only [eq_iff_iff, iff_true]; omega
      have v5 : (0 ≤ (b.2.1 : Int) ∧ (b.2.1 : Int) ≤ ((b.2.1 + u.1 : Nat) : Int)) = True := by simp only [eq_iff_iff, iff_true]; omega
      have e5 : (b.1.take (b.2.1 + u.1)).drop b.2.1 = (b.1.drop b.2.1).take u.1 := by rw [List.drop_take, show b.2.1 + u.1 - b.2.1 = u.1 by omega]
      simp only [bne, rd2C, f0, Bool.not_true, v1, v2, v3, v4, v5, if_true, Int.toNat_natCast, ext_lb, e5, finO, go_sem, Nat.reduceEqDiff, Nat.reduceAdd, Nat.reduceLeDiff]
      exact rfl
end Go.Proofs
