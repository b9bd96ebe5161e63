/- A part of the proof; what is proved stands in the last text. -/
import Derived.Test.YtijhiblfdidnpaaGreatT108
set_option linter.unusedVariables false
set_option maxRecDepth 2000
namespace Go.Proofs
open Go.Vm
set_option linter.unusedSimpArgs false
def uintG (first : Bool) (n : Nat) : List UInt8 → Nat × Rdr
 | [] => (0, ([], 3))
 | c :: t => if (first && c.toNat == 128) = true then (0, ([], 2)) else if 144115188075855871 < n then (0, ([], 2)) else if c.toNat < 128 then (n * 128 + c.toNat, (t, 0)) else uintG false (n * 128 + (c.toNat - 128)) t
def uintR (s : Rdr) : Nat × Rdr := if s.2 = 0 then uintG true 0 s.1 else (0, s)
def stU (n : Nat) (first : Bool) (s : Rdr) : St := ⟨[(0, .ptr 1000000 0), (3, .val (.int .u64 n)), (4, .val (.bool first))], [(1000000, rdC s)], []⟩
def invRU (g : Nat × Rdr) (S : St) (k : Nat) : Prop := ∃ (n : Nat) (first : Bool) (s : Rdr), (s.2 = 0 → k = s.1.length + 1 ∧ uintG first n s.1 = g) ∧ (s.2 ≠ 0 → k = 0 ∧ g = (0, s)) ∧ n < 18446744073709551616 ∧ S.trim [0, 3, 4] [1000000] [] = stU n first s
theorem byteR_nil : byteR ([], 0) = (0, ([], 3)) := rfl
theorem byteR_cons (c : UInt8) (l : List UInt8) : byteR (c :: l, 0) = (c.toNat, (l, 0)) := rfl
set_option maxHeartbeats 4000000 in
theorem krUint (s : Rdr) : RdAt 64 [] s (.val (.int .u64 (uintR s).1)) (uintR s).2 := by
 refine obj_of [1000000] [] r64 (by kernel_rfl) ?_
 unfold m64
 simp only [go_sem, Nat.reduceEqDiff]
 refine ev_loop_by (invRU (uintR s)) (if s.2 = 0 then s.1.length + 1 else 0) ⟨0, true, s, fun h => by simp [h, uintR], fun h => by simp [h, uintR], by omega, by simp only [go_sem, Nat.reduceEqDiff]; rfl⟩ ?_
 rintro k S ⟨n, first, s', h0, h1, hn, hS⟩
 rw [ev_trim, hS]
 clear hS S
 generalize uintR s = g at *
 obtain ⟨l, e⟩ := s'
 simp only [stU]
 simp only [go_sem, Nat.reduceEqDiff]
 refine callO_eq rfl rfl rfl rfl rfl (krErr (l, e)) ?_
 cases he : e == 0
 ·have he' : e ≠ 0 := by simpa using he
  obtain ⟨hk, rfl⟩ := h1 he'
  simp only [he, finO, go_sem, Nat.reduceEqDiff]
  exact ⟨rfl, rfl⟩
 ·have he' : e = 0 := by simpa using he
  subst he'
  obtain ⟨hk, hg⟩ := h0 rfl
  simp only [he, go_sem, Nat.reduceEqDiff]
  refine callO_eq rfl rfl rfl rfl rfl (krByte (l, 0)) ?_
  cases l with
  | nil =>
   rw [byteR_nil]
   simp only [go_sem, Nat.reduceEqDiff]
   refine callO_eq rfl rfl rfl rfl rfl (krErr ([], 3)) ?_
   simp only [bne, show ((3 : Int) == 0) = false from rfl, Bool.not_false, go_sem, Nat.reduceEqDiff]
   exact ⟨0, by omega, n, false, ([], 3), by simp, fun _ => ⟨rfl, hg.symm⟩, hn, rfl⟩
  | cons c l =>
   rw [byteR_cons]
   simp only [go_sem, Nat.reduceEqDiff]
   refine callO_eq rfl rfl rfl rfl rfl (krErr (l, 0)) ?_
   simp only [bne, he, Bool.not_true, go_sem, Nat.reduceEqDiff]
   have hc := UInt8.toNat_lt c
   have hk' : k = l.length + 2 := hk
   have hg' : (if (first && c.toNat == 128) = true then (0, ([], 2)) else if 144115188075855871 < n then (0, ([], 2)) else if c.toNat < 128 then (n * 128 + c.toNat, (l, 0)) else uintG false (n * 128 + (c.toNat - 128)) l) = g := hg
   clear hg hk h0 h1
   have q0 : ((c.toNat : Int) == 128) = (c.toNat == 128) := by rw [Bool.eq_iff_iff]; simp; omega
   have b0 : decide ((144115188075855871 : Int) < (n : Int)) = decide (144115188075855871 < n) := by rw [decide_eq_decide]; omega
   have l0 : decide ((c.toNat : Int) < 128) = decide (c.toNat < 128) := by rw [decide_eq_decide]; omega
   have bad : g = (0, ([], 2)) → ∃ k', k' < k ∧ invRU g (stU n false ([], 2)) k' := fun h => ⟨0, by omega, n, false, ([], 2), by simp, fun _ => ⟨rfl, h⟩, hn, rfl⟩
   cases hf : (first && c.toNat == 128)
   ·rw [if_neg (by rw [hf]; simp)] at hg'
    cases hb : decide (144115188075855871 < n)
    ·rw [if_neg (of_decide_eq_false hb)] at hg'
     have hbn := of_decide_eq_false hb
     have w1 : IntKind.u64.wrap ((n : Int) * 128) = ((n * 128 : Nat) : Int) := by rw [wrap_u64 (by omega) (by omega)]; omega
     cases hl : decide (c.toNat < 128)
     ·have hln := of_decide_eq_false hl
      rw [if_neg hln] at hg'
      have w2 : IntKind.u8.wrap ((c.toNat : Int) - 128) = ((c.toNat - 128 : Nat) : Int) := by rw [wrap_u8 (by omega) (by omega)]; omega
      have w3 : IntKind.u64.wrap (((c.toNat - 128 : Nat) : Int)) = ((c.toNat - 128 : Nat) : Int) := wrap_u64 (by omega) (by omega)
      have w4 : IntKind.u64.wrap (((n * 128 : Nat) : Int) + ((c.toNat - 128 : Nat) : Int)) = ((n * 128 + (c.toNat - 128) : Nat) : Int) := by rw [wrap_u64 (by omega) (by omega)]; omega
      cases first <;> simp only [Bool.true_and, Bool.false_and] at hf <;> simp only [q0, b0, l0, hf, hb, hl, w1, w2, w3, w4, go_sem, Nat.reduceEqDiff]
      all_goals exact ⟨l.length + 1, by omega, n * 128 + (c.toNat - 128), false, (l, 0), fun _ => ⟨rfl, hg'⟩, fun h => absurd rfl h, by omega, rfl⟩
     ·have hln := of_decide_eq_true hl
      rw [if_pos hln] at hg'
      have w3 : IntKind.u64.wrap ((c.toNat : Int)) = (c.toNat : Int) := wrap_u64 (by omega) (by omega)
      have w4 : IntKind.u64.wrap (((n * 128 : Nat) : Int) + (c.toNat : Int)) = ((n * 128 + c.toNat : Nat) : Int) := by rw [wrap_u64 (by omega) (by omega)]; omega
      cases first <;> simp only [Bool.true_and, Bool.false_and] at hf <;> simp only [q0, b0, l0, hf, hb, hl, w1, w3, w4, go_sem, Nat.reduceEqDiff]
      all_goals
       rw [← hg']
       exact ⟨rfl, rfl⟩
    ·rw [if_pos (of_decide_eq_true hb)] at hg'
     cases first <;> simp only [Bool.true_and, Bool.false_and] at hf <;> simp only [q0, b0, hf, hb, go_sem, Nat.reduceEqDiff]
     all_goals
      refine callO_eq rfl rfl rfl rfl rfl (krFail (l, 0) 2) ?_
      simp only [go_sem, Nat.reduceEqDiff]
      exact bad hg'.symm
   ·rw [if_pos hf] at hg'
    cases first <;> simp only [Bool.true_and, Bool.false_and, Bool.false_eq_true] at hf
    simp only [q0, hf, go_sem, Nat.reduceEqDiff]
    refine callO_eq rfl rfl rfl rfl rfl (krFail (l, 0) 2) ?_
    simp only [go_sem, Nat.reduceEqDiff]
    exact bad hg'.symm
end Go.Proofs

namespace Go.Proofs
open Go.Vm
set_option linter.unusedSimpArgs false
theorem uintG_lt : ∀ (l : List UInt8) (first : Bool) (n : Nat), (uintG first n l).1 < 18446744073709551616
 | [], first, n => by simp [uintG]
 | c :: t, first, n => by
  have hc := UInt8.toNat_lt c
  unfold uintG
  split
  ·simp
  ·split
   ·simp
   ·split
    ·simp; omega
    ·exact uintG_lt t false _
theorem uintR_lt (s : Rdr) : (uintR s).1 < 18446744073709551616 := by
 unfold uintR
 split
 ·exact uintG_lt _ _ _
 ·simp
theorem uintG_len : ∀ (l : List UInt8) (first : Bool) (n : Nat), (uintG first n l).2.1.length ≤ l.length
 | [], first, n => by simp [uintG]
 | c :: t, first, n => by
  have := uintG_len t false (n * 128 + (c.toNat - 128))
  unfold uintG
  split
  ·simp
  ·split
   ·simp
   ·split
    ·simp
    ·simp; omega
theorem uintR_len (s : Rdr) : (uintR s).2.1.length ≤ s.1.length := by
 unfold uintR
 split
 ·exact uintG_len _ _ _
 ·simp
theorem krInt (s : Rdr) : RdAt 66 [] s (.val (.int .i64 (unfoldN (uintR s).1))) (uintR s).2 := by
 refine obj_of [1000000] [] r66 (by kernel_rfl) ?_
 unfold m66
 simp only [go_sem, Nat.reduceEqDiff]
 refine callO_eq rfl rfl rfl rfl rfl (krUint s) ?_
 simp only [go_sem, Nat.reduceEqDiff]
 refine callP_eq rfl rfl (kunfold (uintR s).1 (uintR_lt s)) ?_
 simp only [finO, go_sem, Nat.reduceEqDiff]
 exact rfl
def strS (most : Nat) (s : Rdr) : Rdr := if most < (uintR s).1 then failR (uintR s).2 9 else if (uintR s).2.1.length < (uintR s).1 then failR (uintR s).2 3 else (uintR s).2
def strR (most : Nat) (s : Rdr) : List UInt8 × Rdr := if (strS most s).2 = 0 then ((strS most s).1.take (uintR s).1, ((strS most s).1.drop (uintR s).1, (strS most s).2)) else ([], strS most s)
def countR (most : Nat) (s : Rdr) : Nat × Rdr := if most < (uintR s).1 then (0, failR (uintR s).2 2) else uintR s
theorem kwcount (most : Nat) (hm : most < 1000) (s : Rdr) : RdAt 91 [(1, .val (.int .i64 most))] s (.val (.int .i64 (countR most s).1)) (countR most s).2 := by
 refine obj_of [1000000] [] r91 (by kernel_rfl) ?_
 unfold m91
 simp only [go_sem, Nat.reduceEqDiff]
 refine callO_eq rfl rfl rfl rfl rfl (krUint s) ?_
 have w0 : IntKind.u64.wrap (most : Int) = (most : Int) := wrap_u64 (by omega) (by omega)
 have hlt := uintR_lt s
 unfold countR
 generalize uintR s = u at *
 have c0 : decide ((most : Int) < (u.1 : Int)) = decide (most < u.1) := by rw [decide_eq_decide]; omega
 simp only [w0, c0, go_sem, Nat.reduceEqDiff]
 cases hc : decide (most < u.1)
 ·have hn := of_decide_eq_false hc
  rw [if_neg hn]
  have w1 : IntKind.i64.wrap (u.1 : Int) = (u.1 : Int) := wrap64 (by omega) (by omega)
  simp only [w1, finO, go_sem, Nat.reduceEqDiff]
  exact rfl
 ·have hn := of_decide_eq_true hc
  rw [if_pos hn]
  simp only [go_sem, Nat.reduceEqDiff]
  refine callO_eq rfl rfl rfl rfl rfl (krFail u.2 2) ?_
  simp only [finO, go_sem]
  exact ⟨rfl, rfl⟩
theorem failR_ne (s : Rdr) (e : Int) (he : e ≠ 0) : (failR s e).2 ≠ 0 := by
 unfold failR
 split
 ·exact he
 ·rename_i h; intro h0; exact h ⟨h0, he⟩
set_option maxHeartbeats 1000000 in
theorem krStr (most : Nat) (hm : most < 1000) (s : Rdr) (hs : s.1.length ≤ 1000000) : RdAt 67 [(1, .val (.int .i64 most))] s (.val (.string (lb (strR most s).1))) (strR most s).2 := by
 refine obj_of [1000000] [] r67 (by kernel_rfl) ?_
 unfold m67
 simp only [go_sem, Nat.reduceEqDiff]
 refine callO_eq rfl rfl rfl rfl rfl (krUint s) ?_
 have hlt := uintR_lt s
 have hln := uintR_len s
 unfold strR strS
 generalize uintR s = u at *
 have w0 : IntKind.u64.wrap (most : Int) = (most : Int) := wrap_u64 (by omega) (by omega)
 have m0 : (if (0 : Int) > (most : Int) then (0 : Int) else (most : Int)) = (most : Int) := if_neg (by omega)
 have g0 : decide ((u.1 : Int) > (most : Int)) = decide (most < u.1) := by rw [decide_eq_decide]; omega
 have g1 : decide ((u.1 : Int) > (u.2.1.length : Int)) = decide (u.2.1.length < u.1) := by rw [decide_eq_decide]; omega
 have wl : IntKind.u64.wrap (u.2.1.length : Int) = (u.2.1.length : Int) := wrap_u64 (by omega) (by omega)
 simp only [m0, w0, g0, go_sem, Nat.reduceEqDiff]
 cases c0 : decide (most < u.1)
 ·have n0 := of_decide_eq_false c0
  simp only [if_neg n0]
  simp only [go_sem, Nat.reduceEqDiff]
  refine callO_eq rfl rfl rfl rfl rfl (krLeft u.2) ?_
  simp only [wl, g1, go_sem, Nat.reduceEqDiff]
  cases c1 : decide (u.2.1.length < u.1)
  ·have n1 := of_decide_eq_false c1
   simp only [if_neg n1]
   simp only [go_sem, Nat.reduceEqDiff]
   refine callO_eq rfl rfl rfl rfl rfl (krErr u.2) ?_
   simp only [bne, go_sem, Nat.reduceEqDiff]
   cases c2 : u.2.2 == 0
   ·have n2 : ¬ u.2.2 = 0 := by simpa using c2
    rw [if_neg n2]
    simp only [Bool.not_false, finO, go_sem, Nat.reduceEqDiff]
    exact ⟨rfl, rfl⟩
   ·have n2 : u.2.2 = 0 := by simpa using c2
    rw [if_pos n2]
    have hb : (0 ≤ (u.1 : Int) ∧ (u.1 : Int) ≤ ((lb u.2.1).size : Int)) = True := by rw [size_lb]; simp; omega
    have e1 : (lb u.2.1).extract 0 u.1 = lb (u.2.1.take u.1) := by rw [ext_lb]; rfl
    have e2 : (lb u.2.1).extract u.1 (lb u.2.1).size = lb (u.2.1.drop u.1) := by rw [ext_lb, size_lb, List.take_length]
    simp only [Bool.not_true, rdC, go_sem, Nat.reduceEqDiff, Nat.reduceAdd]
    simp only [hb, if_true, Int.toNat_natCast, e1, e2, go_sem, Nat.reduceEqDiff, Nat.reduceAdd, Nat.reduceLeDiff]
    try simp only [finO, go_sem, Nat.reduceEqDiff, Nat.reduceAdd, Nat.reduceLeDiff, List.length_map]
  ·have n1 := of_decide_eq_true c1
   simp only [if_pos n1]
   simp only [go_sem, Nat.reduceEqDiff]
   have hz := failR_ne u.2 3 (by decide)
   have hz0 : ((failR u.2 3).2 == 0) = false := by simpa using hz
   refine callO_eq rfl rfl rfl rfl rfl (krFail u.2 3) ?_
   simp only [go_sem, Nat.reduceEqDiff]
   refine callO_eq rfl rfl rfl rfl rfl (krErr (failR u.2 3)) ?_
   simp only [bne, hz0, Bool.not_false, finO, go_sem, Nat.reduceEqDiff]
   rw [if_neg hz]
   exact ⟨rfl, rfl⟩
 ·have n0 := of_decide_eq_true c0
  simp only [if_pos n0]
  simp only [go_sem, Nat.reduceEqDiff]
  have hz := failR_ne u.2 9 (by decide)
  have hz0 : ((failR u.2 9).2 == 0) = false := by simpa using hz
  refine callO_eq rfl rfl rfl rfl rfl (krFail u.2 9) ?_
  simp only [go_sem, Nat.reduceEqDiff]
  refine callO_eq rfl rfl rfl rfl rfl (krErr (failR u.2 9)) ?_
  simp only [bne, hz0, Bool.not_false, finO, go_sem, Nat.reduceEqDiff]
  rw [if_neg hz]
  exact ⟨rfl, rfl⟩
theorem kcRead (s : ByteArray) : ObjAt Tryz.prog 28 ⟨[(0, .val (.string s))], [], []⟩ 1 (fun r hp tg => r = .ptr 5 0 ∧ hp = [(5, rdC (bl s, 0))] ∧ tg = []) := by
 refine obj_of [5] [] r28 (by kernel_rfl) ?_
 unfold m28
 simp only [finO, rdC, lb_bl, go_sem, Nat.reduceEqDiff, Nat.reduceAdd, Nat.reduceLeDiff]
 rfl
end Go.Proofs
