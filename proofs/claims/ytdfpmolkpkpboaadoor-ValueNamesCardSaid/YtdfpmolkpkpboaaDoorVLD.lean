/- A part of the proof; what is proved stands in the last text. -/
import Derived.Test.YtdfpmolkpkpboaaDoorVLC
set_option linter.unusedVariables false
set_option maxRecDepth 2000
namespace Go.Proofs
open Go.Vm
set_option linter.unusedSimpArgs false
end Go.Proofs

namespace Go.Proofs
open Go.Vm
set_option linter.unusedSimpArgs false
def dg (c : UInt8) : Bool := decide (48 ≤ c.toNat) && decide (c.toNat ≤ 57)
def zeroV : ValM := ⟨0, 0, lb []⟩
theorem tw_len : ∀ (i : Nat) (l : List UInt8), (∀ j, j < i → ∃ c, l[j]? = some c ∧ dg c = true) → (∀ c, l[i]? = some c → dg c = false) → (l.takeWhile dg).length = i
 | 0, [], _, _ => rfl
 | 0, c :: l, _, h => by rw [List.takeWhile_cons, h c rfl]; rfl
 | i + 1, [], h, _ => by obtain ⟨c, hc, _⟩ := h 0 (by omega); simp at hc
 | i + 1, c :: l, h1, h2 => by
  obtain ⟨c', hc, hd⟩ := h1 0 (by omega)
  simp at hc; subst hc
  rw [List.takeWhile_cons, hd]
  have := tw_len i l (fun j hj => by have := h1 (j + 1) (by omega); simpa using this) (fun c hc => h2 c (by simpa using hc))
  simp [this]
def sgn (l : List UInt8) : Nat := if l.head? == some 45 then 1 else 0
def numN (l : List UInt8) : Nat := ((l.drop (sgn l)).takeWhile dg).length
def read1 (l : List UInt8) : ValM × Nat × Bool :=
 if l.head? == some 39 then (if (qv (l.drop 1) [] 1).2.2 = true then (⟨2, 0, lb (qv (l.drop 1) [] 1).1⟩, (qv (l.drop 1) [] 1).2.1, true) else (zeroV, 0, false))
 else if numN l = 0 then (zeroV, sgn l, decide (0 < sgn l))
 else if (l.drop (sgn l)).head? = some 48 ∧ (1 < numN l ∨ 0 < sgn l) then (zeroV, 0, false)
 else match Lib.atoiAll (l.take (sgn l + numN l)) with
  | .ok k => (⟨1, k, lb []⟩, sgn l + numN l, true)
  | _ => (zeroV, 0, false)
def triV (r : ValM × Nat × Bool) : D := .tup [.agg (valC r.1), .val (.int .i64 r.2.1), .val (.bool r.2.2)]
set_option maxHeartbeats 4000000 in
theorem kRead (s : ByteArray) (hs : s.size ≤ 900) : PureAt Tryd.prog 10 [.val (.string s)] (· = triV (read1 (bl s))) := by
 refine pure_of r10 (by kernel_rfl) ?_
 unfold m10 read1
 simp only [go_sem, Nat.reduceEqDiff, Nat.reduceAdd, Nat.reduceLeDiff, List.length_map, Int.reduceLT, Int.reduceLE, Int.reduceToNat, Int.toNat_zero, Int.le_refl, Int.reduceAdd, decide_true, decide_false, Nat.reduceMul, Nat.reduceLT, Nat.lt_irrefl, true_and, and_self, ↓reduceIte]
 refine callP_eq rfl rfl (kHasPre s 39) ?_
 unfold begins
 cases h39 : ((bl s).head? == some 39) with
 | true =>
  simp only [go_sem, Nat.reduceEqDiff, Nat.reduceAdd, Nat.reduceLeDiff, List.length_map, Int.reduceLT, Int.reduceLE, Int.reduceToNat, Int.toNat_zero, Int.le_refl, Int.reduceAdd, decide_true, decide_false, Nat.reduceMul, Nat.reduceLT, Nat.lt_irrefl, true_and, and_self, ↓reduceIte]
  refine callP_eq rfl rfl (kQuoted s (by omega)) ?_
  simp only [triQ, tri, go_sem, Nat.reduceEqDiff, Nat.reduceAdd, Nat.reduceLeDiff, List.length_map, Int.reduceLT, Int.reduceLE, Int.reduceToNat, Int.toNat_zero, Int.le_refl, Int.reduceAdd, decide_true, decide_false, Nat.reduceMul, Nat.reduceLT, Nat.lt_irrefl, true_and, and_self, ↓reduceIte]
  cases hq : (qv ((bl s).drop 1) [] 1).2.2 with
  | false => simp only [Bool.not_false, Bool.false_eq_true, go_sem, Nat.reduceEqDiff, Nat.reduceAdd, Nat.reduceLeDiff, List.length_map, Int.reduceLT, Int.reduceLE, Int.reduceToNat, Int.toNat_zero, Int.le_refl, Int.reduceAdd, decide_true, decide_false, Nat.reduceMul, Nat.reduceLT, Nat.lt_irrefl, true_and, and_self, ↓reduceIte]; rfl
  | true => simp only [Bool.not_true, go_sem, Nat.reduceEqDiff, Nat.reduceAdd, Nat.reduceLeDiff, List.length_map, Int.reduceLT, Int.reduceLE, Int.reduceToNat, Int.toNat_zero, Int.le_refl, Int.reduceAdd, decide_true, decide_false, Nat.reduceMul, Nat.reduceLT, Nat.lt_irrefl, true_and, and_self, ↓reduceIte]; rfl
 | false =>
  simp only [go_sem, Nat.reduceEqDiff, Nat.reduceAdd, Nat.reduceLeDiff, List.length_map, Int.reduceLT, Int.reduceLE, Int.reduceToNat, Int.toNat_zero, Int.le_refl, Int.reduceAdd, decide_true, decide_false, Nat.reduceMul, Nat.reduceLT, Nat.lt_irrefl, true_and, and_self, ↓reduceIte]
  refine callP_eq rfl rfl (kTrimPre s 45) ?_
  have et : (if begins s 45 then lb (bl s).tail else s) = lb ((bl s).drop (sgn (bl s))) := by
   unfold begins sgn
   cases (bl s).head? == some 45
   ·simp [lb_bl]
   ·simp [List.drop_one]
  have esz : (lb ((bl s).drop (sgn (bl s)))).size = s.size - sgn (bl s) := by rw [size_lb, List.length_drop, size_bl]
  have hsg : sgn (bl s) ≤ s.size := by
   unfold sgn
   cases h : (bl s).head? == some 45
   ·simp
   ·have : 0 < (bl s).length := by
      cases hb : bl s with
      | nil => rw [hb] at h; cases h
      | cons a r => simp
    rw [size_bl] at this; simp; omega
  have hds : ∀ i : Nat, (lb ((bl s).drop (sgn (bl s)))).data[i]? = ((bl s).drop (sgn (bl s)))[i]? := fun i => by
   show (((bl s).drop (sgn (bl s))).toArray)[i]? = _
   exact List.getElem?_toArray
  have hdl : ((bl s).drop (sgn (bl s))).length = s.size - sgn (bl s) := by rw [List.length_drop, size_bl]
  have hsg1 : sgn (bl s) ≤ 1 := by unfold sgn; split <;> omega
  rw [et]
  have w1 : IntKind.i64.wrap ((s.size : Int) - ((s.size - sgn (bl s) : Nat) : Int)) = ((sgn (bl s) : Nat) : Int) := by rw [wrap64 (by omega) (by omega)]; omega
  have hnum : numN (bl s) = (((bl s).drop (sgn (bl s))).takeWhile dg).length := rfl
  generalize hsgd : sgn (bl s) = sg at *
  generalize hdsd : (bl s).drop sg = ds at *
  simp only [esz, w1, go_sem, Nat.reduceEqDiff, Nat.reduceAdd, Nat.reduceLeDiff, List.length_map, Int.reduceLT, Int.reduceLE, Int.reduceToNat, Int.toNat_zero, Int.le_refl, Int.reduceAdd, decide_true, decide_false, Nat.reduceMul, Nat.reduceLT, Nat.lt_irrefl, true_and, and_self, ↓reduceIte]
  refine loop_N ds.length (fun i => ∀ j, j < i → ∃ c, ds[j]? = some c ∧ dg c = true) (fun i => ⟨[(0, .val (.string s)), (2, .ptr 2 0), (8, .val (.string (lb ds))), (9, .val (.int .i64 sg)), (10, .val (.int .i64 i))], [(2, [.val (.int .i64 0), .val (.int .i64 0), .val (.string ⟨#[]⟩)])], []⟩) (by simp) (by simp only [go_sem, Nat.reduceEqDiff, Nat.reduceAdd, Nat.reduceLeDiff, List.length_map, Int.reduceLT, Int.reduceLE, Int.reduceToNat, Int.toNat_zero, Int.le_refl, Int.reduceAdd, decide_true, decide_false, Nat.reduceMul, Nat.reduceLT, Nat.lt_irrefl, true_and, and_self, ↓reduceIte]; rfl) ?_
  rintro i hil hpi
  have dlt : decide ((i : Int) < ((s.size - sg : Nat) : Int)) = decide (i < ds.length) := by rw [decide_eq_decide, hdl]; omega
  have d0 : ((i : Int) == 0) = decide (i = 0) := by rw [Bool.eq_iff_iff, beq_iff_eq, decide_eq_true_eq]; omega
  have ds0 : decide ((sg : Int) > 0) = decide (0 < sg) := by rw [decide_eq_decide]; omega
  have di1 : decide ((i : Int) > 1) = decide (1 < i) := by rw [decide_eq_decide]; omega
  have wadd : IntKind.i64.wrap ((sg : Int) + (i : Int)) = ((sg + i : Nat) : Int) := by rw [wrap64 (by omega) (by omega)]; omega
  have hcut : (((sg + i : Nat) : Int) ≤ (s.size : Int)) = True := by simp; omega
  have hext : s.extract 0 (sg + i) = lb ((bl s).take (sg + i)) := by rw [← lb_bl (s.extract 0 (sg + i)), bl_extract, List.drop_zero]
  simp only [esz, dlt, go_sem, Nat.reduceEqDiff, Nat.reduceAdd, Nat.reduceLeDiff, List.length_map, Int.reduceLT, Int.reduceLE, Int.reduceToNat, Int.toNat_zero, Int.le_refl, Int.reduceAdd, decide_true, decide_false, Nat.reduceMul, Nat.reduceLT, Nat.lt_irrefl, true_and, and_self, ↓reduceIte]
  cases hlt : decide (i < ds.length) with
  | false =>
   have hlt' := of_decide_eq_false hlt
   have hN : numN (bl s) = i := by rw [hnum]; exact tw_len i ds hpi (fun c hc => by rw [List.getElem?_eq_none (by omega)] at hc; cases hc)
   simp only [d0, go_sem, Nat.reduceEqDiff, Nat.reduceAdd, Nat.reduceLeDiff, List.length_map, Int.reduceLT, Int.reduceLE, Int.reduceToNat, Int.toNat_zero, Int.le_refl, Int.reduceAdd, decide_true, decide_false, Nat.reduceMul, Nat.reduceLT, Nat.lt_irrefl, true_and, and_self, ↓reduceIte]
   by_cases hi0 : i = 0
   ·have hi0' : decide (i = 0) = true := by simp [hi0]
    simp only [hi0', ds0, go_sem, Nat.reduceEqDiff, Nat.reduceAdd, Nat.reduceLeDiff, List.length_map, Int.reduceLT, Int.reduceLE, Int.reduceToNat, Int.toNat_zero, Int.le_refl, Int.reduceAdd, decide_true, decide_false, Nat.reduceMul, Nat.reduceLT, Nat.lt_irrefl, true_and, and_self, ↓reduceIte]
    rw [hN, if_pos hi0]; rfl
   have hi0' : decide (i = 0) = false := by simp [hi0]
   obtain ⟨c0, hc0, hd0⟩ := hpi 0 (by omega)
   have hc0' : (lb ds).data[0]? = some c0 := (hds 0).trans hc0
   have hhd : ds.head? = some c0 := by rw [List.head?_eq_getElem?]; exact hc0
   have dz : ((c0.toNat : Int) == 48) = decide (c0 = 48) := dg_eq c0 48
   rw [hN, if_neg hi0, hhd]
   simp only [hi0', hc0', dz, go_sem, Nat.reduceEqDiff, Nat.reduceAdd, Nat.reduceLeDiff, List.length_map, Int.reduceLT, Int.reduceLE, Int.reduceToNat, Int.toNat_zero, Int.le_refl, Int.reduceAdd, decide_true, decide_false, Nat.reduceMul, Nat.reduceLT, Nat.lt_irrefl, true_and, and_self, ↓reduceIte]
   cases h0 : decide (c0 = 48) with
   | true =>
    have h0' := of_decide_eq_true h0
    simp only [di1, go_sem, Nat.reduceEqDiff, Nat.reduceAdd, Nat.reduceLeDiff, List.length_map, Int.reduceLT, Int.reduceLE, Int.reduceToNat, Int.toNat_zero, Int.le_refl, Int.reduceAdd, decide_true, decide_false, Nat.reduceMul, Nat.reduceLT, Nat.lt_irrefl, true_and, and_self, ↓reduceIte]
    cases hi1 : decide (1 < i) with
    | true =>
     simp only [go_sem, Nat.reduceEqDiff, Nat.reduceAdd, Nat.reduceLeDiff, List.length_map, Int.reduceLT, Int.reduceLE, Int.reduceToNat, Int.toNat_zero, Int.le_refl, Int.reduceAdd, decide_true, decide_false, Nat.reduceMul, Nat.reduceLT, Nat.lt_irrefl, true_and, and_self, ↓reduceIte]
     rw [if_pos ⟨h0', .inl (of_decide_eq_true hi1)⟩]; rfl
    | false =>
     simp only [ds0, go_sem, Nat.reduceEqDiff, Nat.reduceAdd, Nat.reduceLeDiff, List.length_map, Int.reduceLT, Int.reduceLE, Int.reduceToNat, Int.toNat_zero, Int.le_refl, Int.reduceAdd, decide_true, decide_false, Nat.reduceMul, Nat.reduceLT, Nat.lt_irrefl, true_and, and_self, ↓reduceIte]
     cases hs0 : decide (0 < sg) with
     | true =>
      simp only [go_sem, Nat.reduceEqDiff, Nat.reduceAdd, Nat.reduceLeDiff, List.length_map, Int.reduceLT, Int.reduceLE, Int.reduceToNat, Int.toNat_zero, Int.le_refl, Int.reduceAdd, decide_true, decide_false, Nat.reduceMul, Nat.reduceLT, Nat.lt_irrefl, true_and, and_self, ↓reduceIte]
      rw [if_pos ⟨h0', .inr (of_decide_eq_true hs0)⟩]; rfl
     | false =>
      rw [if_neg (fun h => h.2.elim (of_decide_eq_false hi1) (of_decide_eq_false hs0))]
      simp only [wadd, nn0, hcut, Int.toNat_natCast, hext, go_sem, Nat.reduceEqDiff, Nat.reduceAdd, Nat.reduceLeDiff, List.length_map, Int.reduceLT, Int.reduceLE, Int.reduceToNat, Int.toNat_zero, Int.le_refl, Int.reduceAdd, decide_true, decide_false, Nat.reduceMul, Nat.reduceLT, Nat.lt_irrefl, true_and, and_self, ↓reduceIte]
      refine callP_by rfl rfl (kAtoi (lb ((bl s).take (sg + i))) (by rw [size_lb, List.length_take]; omega)) ?_
      rintro r (⟨k, hk, rfl⟩ | ⟨hk, z, t, x, rfl⟩)
      ·have hk' : Lib.atoiAll ((bl s).take (sg + i)) = .ok k := by rw [← hk]; exact congrArg Lib.atoiAll (bl_lb _).symm
       simp only [wadd, go_sem, Nat.reduceEqDiff, Nat.reduceAdd, Nat.reduceLeDiff, List.length_map, Int.reduceLT, Int.reduceLE, Int.reduceToNat, Int.toNat_zero, Int.le_refl, Int.reduceAdd, decide_true, decide_false, Nat.reduceMul, Nat.reduceLT, Nat.lt_irrefl, true_and, and_self, ↓reduceIte]
       rw [hk']; rfl
      ·have hk' : ∀ n, Lib.atoiAll ((bl s).take (sg + i)) ≠ .ok n := fun n h => hk n (by rw [← h]; exact congrArg Lib.atoiAll (bl_lb _))
       simp only [go_sem, Nat.reduceEqDiff, Nat.reduceAdd, Nat.reduceLeDiff, List.length_map, Int.reduceLT, Int.reduceLE, Int.reduceToNat, Int.toNat_zero, Int.le_refl, Int.reduceAdd, decide_true, decide_false, Nat.reduceMul, Nat.reduceLT, Nat.lt_irrefl, true_and, and_self, ↓reduceIte]
       cases ha : Lib.atoiAll ((bl s).take (sg + i)) with
       | ok k => exact absurd ha (hk' k)
       | «syntax» => rfl
       | range => rfl
   | false =>
    have h0' := of_decide_eq_false h0
    rw [if_neg (fun h => h0' h.1)]
    simp only [wadd, nn0, hcut, Int.toNat_natCast, hext, go_sem, Nat.reduceEqDiff, Nat.reduceAdd, Nat.reduceLeDiff, List.length_map, Int.reduceLT, Int.reduceLE, Int.reduceToNat, Int.toNat_zero, Int.le_refl, Int.reduceAdd, decide_true, decide_false, Nat.reduceMul, Nat.reduceLT, Nat.lt_irrefl, true_and, and_self, ↓reduceIte]
    refine callP_by rfl rfl (kAtoi (lb ((bl s).take (sg + i))) (by rw [size_lb, List.length_take]; omega)) ?_
    rintro r (⟨k, hk, rfl⟩ | ⟨hk, z, t, x, rfl⟩)
    ·have hk' : Lib.atoiAll ((bl s).take (sg + i)) = .ok k := by rw [← hk]; exact congrArg Lib.atoiAll (bl_lb _).symm
     simp only [wadd, go_sem, Nat.reduceEqDiff, Nat.reduceAdd, Nat.reduceLeDiff, List.length_map, Int.reduceLT, Int.reduceLE, Int.reduceToNat, Int.toNat_zero, Int.le_refl, Int.reduceAdd, decide_true, decide_false, Nat.reduceMul, Nat.reduceLT, Nat.lt_irrefl, true_and, and_self, ↓reduceIte]
     rw [hk']; rfl
    ·have hk' : ∀ n, Lib.atoiAll ((bl s).take (sg + i)) ≠ .ok n := fun n h => hk n (by rw [← h]; exact congrArg Lib.atoiAll (bl_lb _))
     simp only [go_sem, Nat.reduceEqDiff, Nat.reduceAdd, Nat.reduceLeDiff, List.length_map, Int.reduceLT, Int.reduceLE, Int.reduceToNat, Int.toNat_zero, Int.le_refl, Int.reduceAdd, decide_true, decide_false, Nat.reduceMul, Nat.reduceLT, Nat.lt_irrefl, true_and, and_self, ↓reduceIte]
     cases ha : Lib.atoiAll ((bl s).take (sg + i)) with
     | ok k => exact absurd ha (hk' k)
     | «syntax» => rfl
     | range => rfl
  | true =>
   have hlt' := of_decide_eq_true hlt
   obtain ⟨c, hc⟩ : ∃ c, ds[i]? = some c := ⟨_, List.getElem?_eq_getElem hlt'⟩
   have hc' : (lb ds).data[i]? = some c := (hds i).trans hc
   have d48 : decide ((c.toNat : Int) ≥ 48) = decide (48 ≤ c.toNat) := by rw [decide_eq_decide]; omega
   have d57 : decide ((c.toNat : Int) ≤ 57) = decide (c.toNat ≤ 57) := by rw [decide_eq_decide]; omega
   simp only [nn0, Int.toNat_natCast, hc', d48, go_sem, Nat.reduceEqDiff, Nat.reduceAdd, Nat.reduceLeDiff, List.length_map, Int.reduceLT, Int.reduceLE, Int.reduceToNat, Int.toNat_zero, Int.le_refl, Int.reduceAdd, decide_true, decide_false, Nat.reduceMul, Nat.reduceLT, Nat.lt_irrefl, true_and, and_self, ↓reduceIte]
   cases h48 : decide (48 ≤ c.toNat) with
   | false =>
    have hN : numN (bl s) = i := by rw [hnum]; exact tw_len i ds hpi (fun c' hc1 => by rw [hc] at hc1; cases hc1; rw [dg, h48]; rfl)
    simp only [d0, go_sem, Nat.reduceEqDiff, Nat.reduceAdd, Nat.reduceLeDiff, List.length_map, Int.reduceLT, Int.reduceLE, Int.reduceToNat, Int.toNat_zero, Int.le_refl, Int.reduceAdd, decide_true, decide_false, Nat.reduceMul, Nat.reduceLT, Nat.lt_irrefl, true_and, and_self, ↓reduceIte]
    by_cases hi0 : i = 0
    ·have hi0' : decide (i = 0) = true := by simp [hi0]
     simp only [hi0', ds0, go_sem, Nat.reduceEqDiff, Nat.reduceAdd, Nat.reduceLeDiff, List.length_map, Int.reduceLT, Int.reduceLE, Int.reduceToNat, Int.toNat_zero, Int.le_refl, Int.reduceAdd, decide_true, decide_false, Nat.reduceMul, Nat.reduceLT, Nat.lt_irrefl, true_and, and_self, ↓reduceIte]
     rw [hN, if_pos hi0]; rfl
    have hi0' : decide (i = 0) = false := by simp [hi0]
    obtain ⟨c0, hc0, hd0⟩ := hpi 0 (by omega)
    have hc0' : (lb ds).data[0]? = some c0 := (hds 0).trans hc0
    have hhd : ds.head? = some c0 := by rw [List.head?_eq_getElem?]; exact hc0
    have dz : ((c0.toNat : Int) == 48) = decide (c0 = 48) := dg_eq c0 48
    rw [hN, if_neg hi0, hhd]
    simp only [hi0', hc0', dz, go_sem, Nat.reduceEqDiff, Nat.reduceAdd, Nat.reduceLeDiff, List.length_map, Int.reduceLT, Int.reduceLE, Int.reduceToNat, Int.toNat_zero, Int.le_refl, Int.reduceAdd, decide_true, decide_false, Nat.reduceMul, Nat.reduceLT, Nat.lt_irrefl, true_and, and_self, ↓reduceIte]
    cases h0 : decide (c0 = 48) with
    | true =>
     have h0' := of_decide_eq_true h0
     simp only [di1, go_sem, Nat.reduceEqDiff, Nat.reduceAdd, Nat.reduceLeDiff, List.length_map, Int.reduceLT, Int.reduceLE, Int.reduceToNat, Int.toNat_zero, Int.le_refl, Int.reduceAdd, decide_true, decide_false, Nat.reduceMul, Nat.reduceLT, Nat.lt_irrefl, true_and, and_self, ↓reduceIte]
     cases hi1 : decide (1 < i) with
     | true =>
      simp only [go_sem, Nat.reduceEqDiff, Nat.reduceAdd, Nat.reduceLeDiff, List.length_map, Int.reduceLT, Int.reduceLE, Int.reduceToNat, Int.toNat_zero, Int.le_refl, Int.reduceAdd, decide_true, decide_false, Nat.reduceMul, Nat.reduceLT, Nat.lt_irrefl, true_and, and_self, ↓reduceIte]
      rw [if_pos ⟨h0', .inl (of_decide_eq_true hi1)⟩]; rfl
     | false =>
      simp only [ds0, go_sem, Nat.reduceEqDiff, Nat.reduceAdd, Nat.reduceLeDiff, List.length_map, Int.reduceLT, Int.reduceLE, Int.reduceToNat, Int.toNat_zero, Int.le_refl, Int.reduceAdd, decide_true, decide_false, Nat.reduceMul, Nat.reduceLT, Nat.lt_irrefl, true_and, and_self, ↓reduceIte]
      cases hs0 : decide (0 < sg) with
      | true =>
       simp only [go_sem, Nat.reduceEqDiff, Nat.reduceAdd, Nat.reduceLeDiff, List.length_map, Int.reduceLT, Int.reduceLE, Int.reduceToNat, Int.toNat_zero, Int.le_refl, Int.reduceAdd, decide_true, decide_false, Nat.reduceMul, Nat.reduceLT, Nat.lt_irrefl, true_and, and_self, ↓reduceIte]
       rw [if_pos ⟨h0', .inr (of_decide_eq_true hs0)⟩]; rfl
      | false =>
       rw [if_neg (fun h => h.2.elim (of_decide_eq_false hi1) (of_decide_eq_false hs0))]
       simp only [wadd, nn0, hcut, Int.toNat_natCast, hext, go_sem, Nat.reduceEqDiff, Nat.reduceAdd, Nat.reduceLeDiff, List.length_map, Int.reduceLT, Int.reduceLE, Int.reduceToNat, Int.toNat_zero, Int.le_refl, Int.reduceAdd, decide_true, decide_false, Nat.reduceMul, Nat.reduceLT, Nat.lt_irrefl, true_and, and_self, ↓reduceIte]
       refine callP_by rfl rfl (kAtoi (lb ((bl s).take (sg + i))) (by rw [size_lb, List.length_take]; omega)) ?_
       rintro r (⟨k, hk, rfl⟩ | ⟨hk, z, t, x, rfl⟩)
       ·have hk' : Lib.atoiAll ((bl s).take (sg + i)) = .ok k := by rw [← hk]; exact congrArg Lib.atoiAll (bl_lb _).symm
        simp only [wadd, go_sem, Nat.reduceEqDiff, Nat.reduceAdd, Nat.reduceLeDiff, List.length_map, Int.reduceLT, Int.reduceLE, Int.reduceToNat, Int.toNat_zero, Int.le_refl, Int.reduceAdd, decide_true, decide_false, Nat.reduceMul, Nat.reduceLT, Nat.lt_irrefl, true_and, and_self, ↓reduceIte]
        rw [hk']; rfl
       ·have hk' : ∀ n, Lib.atoiAll ((bl s).take (sg + i)) ≠ .ok n := fun n h => hk n (by rw [← h]; exact congrArg Lib.atoiAll (bl_lb _))
        simp only [go_sem, Nat.reduceEqDiff, Nat.reduceAdd, Nat.reduceLeDiff, List.length_map, Int.reduceLT, Int.reduceLE, Int.reduceToNat, Int.toNat_zero, Int.le_refl, Int.reduceAdd, decide_true, decide_false, Nat.reduceMul, Nat.reduceLT, Nat.lt_irrefl, true_and, and_self, ↓reduceIte]
        cases ha : Lib.atoiAll ((bl s).take (sg + i)) with
        | ok k => exact absurd ha (hk' k)
        | «syntax» => rfl
        | range => rfl
    | false =>
     have h0' := of_decide_eq_false h0
     rw [if_neg (fun h => h0' h.1)]
     simp only [wadd, nn0, hcut, Int.toNat_natCast, hext, go_sem, Nat.reduceEqDiff, Nat.reduceAdd, Nat.reduceLeDiff, List.length_map, Int.reduceLT, Int.reduceLE, Int.reduceToNat, Int.toNat_zero, Int.le_refl, Int.reduceAdd, decide_true, decide_false, Nat.reduceMul, Nat.reduceLT, Nat.lt_irrefl, true_and, and_self, ↓reduceIte]
     refine callP_by rfl rfl (kAtoi (lb ((bl s).take (sg + i))) (by rw [size_lb, List.length_take]; omega)) ?_
     rintro r (⟨k, hk, rfl⟩ | ⟨hk, z, t, x, rfl⟩)
     ·have hk' : Lib.atoiAll ((bl s).take (sg + i)) = .ok k := by rw [← hk]; exact congrArg Lib.atoiAll (bl_lb _).symm
      simp only [wadd, go_sem, Nat.reduceEqDiff, Nat.reduceAdd, Nat.reduceLeDiff, List.length_map, Int.reduceLT, Int.reduceLE, Int.reduceToNat, Int.toNat_zero, Int.le_refl, Int.reduceAdd, decide_true, decide_false, Nat.reduceMul, Nat.reduceLT, Nat.lt_irrefl, true_and, and_self, ↓reduceIte]
      rw [hk']; rfl
     ·have hk' : ∀ n, Lib.atoiAll ((bl s).take (sg + i)) ≠ .ok n := fun n h => hk n (by rw [← h]; exact congrArg Lib.atoiAll (bl_lb _))
      simp only [go_sem, Nat.reduceEqDiff, Nat.reduceAdd, Nat.reduceLeDiff, List.length_map, Int.reduceLT, Int.reduceLE, Int.reduceToNat, Int.toNat_zero, Int.le_refl, Int.reduceAdd, decide_true, decide_false, Nat.reduceMul, Nat.reduceLT, Nat.lt_irrefl, true_and, and_self, ↓reduceIte]
      cases ha : Lib.atoiAll ((bl s).take (sg + i)) with
      | ok k => exact absurd ha (hk' k)
      | «syntax» => rfl
      | range => rfl
   | true =>
    simp only [nn0, Int.toNat_natCast, hc', d57, go_sem, Nat.reduceEqDiff, Nat.reduceAdd, Nat.reduceLeDiff, List.length_map, Int.reduceLT, Int.reduceLE, Int.reduceToNat, Int.toNat_zero, Int.le_refl, Int.reduceAdd, decide_true, decide_false, Nat.reduceMul, Nat.reduceLT, Nat.lt_irrefl, true_and, and_self, ↓reduceIte]
    cases h57 : decide (c.toNat ≤ 57) with
    | false =>
     have hN : numN (bl s) = i := by rw [hnum]; exact tw_len i ds hpi (fun c' hc1 => by rw [hc] at hc1; cases hc1; rw [dg, h48, h57]; rfl)
     simp only [d0, go_sem, Nat.reduceEqDiff, Nat.reduceAdd, Nat.reduceLeDiff, List.length_map, Int.reduceLT, Int.reduceLE, Int.reduceToNat, Int.toNat_zero, Int.le_refl, Int.reduceAdd, decide_true, decide_false, Nat.reduceMul, Nat.reduceLT, Nat.lt_irrefl, true_and, and_self, ↓reduceIte]
     by_cases hi0 : i = 0
     ·have hi0' : decide (i = 0) = true := by simp [hi0]
      simp only [hi0', ds0, go_sem, Nat.reduceEqDiff, Nat.reduceAdd, Nat.reduceLeDiff, List.length_map, Int.reduceLT, Int.reduceLE, Int.reduceToNat, Int.toNat_zero, Int.le_refl, Int.reduceAdd, decide_true, decide_false, Nat.reduceMul, Nat.reduceLT, Nat.lt_irrefl, true_and, and_self, ↓reduceIte]
      rw [hN, if_pos hi0]; rfl
     have hi0' : decide (i = 0) = false := by simp [hi0]
     obtain ⟨c0, hc0, hd0⟩ := hpi 0 (by omega)
     have hc0' : (lb ds).data[0]? = some c0 := (hds 0).trans hc0
     have hhd : ds.head? = some c0 := by rw [List.head?_eq_getElem?]; exact hc0
     have dz : ((c0.toNat : Int) == 48) = decide (c0 = 48) := dg_eq c0 48
     rw [hN, if_neg hi0, hhd]
     simp only [hi0', hc0', dz, go_sem, Nat.reduceEqDiff, Nat.reduceAdd, Nat.reduceLeDiff, List.length_map, Int.reduceLT, Int.reduceLE, Int.reduceToNat, Int.toNat_zero, Int.le_refl, Int.reduceAdd, decide_true, decide_false, Nat.reduceMul, Nat.reduceLT, Nat.lt_irrefl, true_and, and_self, ↓reduceIte]
     cases h0 : decide (c0 = 48) with
     | true =>
      have h0' := of_decide_eq_true h0
      simp only [di1, go_sem, Nat.reduceEqDiff, Nat.reduceAdd, Nat.reduceLeDiff, List.length_map, Int.reduceLT, Int.reduceLE, Int.reduceToNat, Int.toNat_zero, Int.le_refl, Int.reduceAdd, decide_true, decide_false, Nat.reduceMul, Nat.reduceLT, Nat.lt_irrefl, true_and, and_self, ↓reduceIte]
      cases hi1 : decide (1 < i) with
      | true =>
       simp only [go_sem, Nat.reduceEqDiff, Nat.reduceAdd, Nat.reduceLeDiff, List.length_map, Int.reduceLT, Int.reduceLE, Int.reduceToNat, Int.toNat_zero, Int.le_refl, Int.reduceAdd, decide_true, decide_false, Nat.reduceMul, Nat.reduceLT, Nat.lt_irrefl, true_and, and_self, ↓reduceIte]
       rw [if_pos ⟨h0', .inl (of_decide_eq_true hi1)⟩]; rfl
      | false =>
       simp only [ds0, go_sem, Nat.reduceEqDiff, Nat.reduceAdd, Nat.reduceLeDiff, List.length_map, Int.reduceLT, Int.reduceLE, Int.reduceToNat, Int.toNat_zero, Int.le_refl, Int.reduceAdd, decide_true, decide_false, Nat.reduceMul, Nat.reduceLT, Nat.lt_irrefl, true_and, and_self, ↓reduceIte]
       cases hs0 : decide (0 < sg) with
       | true =>
        simp only [go_sem, Nat.reduceEqDiff, Nat.reduceAdd, Nat.reduceLeDiff, List.length_map, Int.reduceLT, Int.reduceLE, Int.reduceToNat, Int.toNat_zero, Int.le_refl, Int.reduceAdd, decide_true, decide_false, Nat.reduceMul, Nat.reduceLT, Nat.lt_irrefl, true_and, and_self, ↓reduceIte]
        rw [if_pos ⟨h0', .inr (of_decide_eq_true hs0)⟩]; rfl
       | false =>
        rw [if_neg (fun h => h.2.elim (of_decide_eq_false hi1) (of_decide_eq_false hs0))]
        simp only [wadd, nn0, hcut, Int.toNat_natCast, hext, go_sem, Nat.reduceEqDiff, Nat.reduceAdd, Nat.reduceLeDiff, List.length_map, Int.reduceLT, Int.reduceLE, Int.reduceToNat, Int.toNat_zero, Int.le_refl, Int.reduceAdd, decide_true, decide_false, Nat.reduceMul, Nat.reduceLT, Nat.lt_irrefl, true_and, and_self, ↓reduceIte]
        refine callP_by rfl rfl (kAtoi (lb ((bl s).take (sg + i))) (by rw [size_lb, List.length_take]; omega)) ?_
        rintro r (⟨k, hk, rfl⟩ | ⟨hk, z, t, x, rfl⟩)
        ·have hk' : Lib.atoiAll ((bl s).take (sg + i)) = .ok k := by rw [← hk]; exact congrArg Lib.atoiAll (bl_lb _).symm
         simp only [wadd, go_sem, Nat.reduceEqDiff, Nat.reduceAdd, Nat.reduceLeDiff, List.length_map, Int.reduceLT, Int.reduceLE, Int.reduceToNat, Int.toNat_zero, Int.le_refl, Int.reduceAdd, decide_true, decide_false, Nat.reduceMul, Nat.reduceLT, Nat.lt_irrefl, true_and, and_self, ↓reduceIte]
         rw [hk']; rfl
        ·have hk' : ∀ n, Lib.atoiAll ((bl s).take (sg + i)) ≠ .ok n := fun n h => hk n (by rw [← h]; exact congrArg Lib.atoiAll (bl_lb _))
         simp only [go_sem, Nat.reduceEqDiff, Nat.reduceAdd, Nat.reduceLeDiff, List.length_map, Int.reduceLT, Int.reduceLE, Int.reduceToNat, Int.toNat_zero, Int.le_refl, Int.reduceAdd, decide_true, decide_false, Nat.reduceMul, Nat.reduceLT, Nat.lt_irrefl, true_and, and_self, ↓reduceIte]
         cases ha : Lib.atoiAll ((bl s).take (sg + i)) with
         | ok k => exact absurd ha (hk' k)
         | «syntax» => rfl
         | range => rfl
     | false =>
      have h0' := of_decide_eq_false h0
      rw [if_neg (fun h => h0' h.1)]
      simp only [wadd, nn0, hcut, Int.toNat_natCast, hext, go_sem, Nat.reduceEqDiff, Nat.reduceAdd, Nat.reduceLeDiff, List.length_map, Int.reduceLT, Int.reduceLE, Int.reduceToNat, Int.toNat_zero, Int.le_refl, Int.reduceAdd, decide_true, decide_false, Nat.reduceMul, Nat.reduceLT, Nat.lt_irrefl, true_and, and_self, ↓reduceIte]
      refine callP_by rfl rfl (kAtoi (lb ((bl s).take (sg + i))) (by rw [size_lb, List.length_take]; omega)) ?_
      rintro r (⟨k, hk, rfl⟩ | ⟨hk, z, t, x, rfl⟩)
      ·have hk' : Lib.atoiAll ((bl s).take (sg + i)) = .ok k := by rw [← hk]; exact congrArg Lib.atoiAll (bl_lb _).symm
       simp only [wadd, go_sem, Nat.reduceEqDiff, Nat.reduceAdd, Nat.reduceLeDiff, List.length_map, Int.reduceLT, Int.reduceLE, Int.reduceToNat, Int.toNat_zero, Int.le_refl, Int.reduceAdd, decide_true, decide_false, Nat.reduceMul, Nat.reduceLT, Nat.lt_irrefl, true_and, and_self, ↓reduceIte]
       rw [hk']; rfl
      ·have hk' : ∀ n, Lib.atoiAll ((bl s).take (sg + i)) ≠ .ok n := fun n h => hk n (by rw [← h]; exact congrArg Lib.atoiAll (bl_lb _))
       simp only [go_sem, Nat.reduceEqDiff, Nat.reduceAdd, Nat.reduceLeDiff, List.length_map, Int.reduceLT, Int.reduceLE, Int.reduceToNat, Int.toNat_zero, Int.le_refl, Int.reduceAdd, decide_true, decide_false, Nat.reduceMul, Nat.reduceLT, Nat.lt_irrefl, true_and, and_self, ↓reduceIte]
       cases ha : Lib.atoiAll ((bl s).take (sg + i)) with
       | ok k => exact absurd ha (hk' k)
       | «syntax» => rfl
       | range => rfl
    | true =>
     simp only [up64 (show i < 1000000 by omega), go_sem, Nat.reduceEqDiff, Nat.reduceAdd, Nat.reduceLeDiff, List.length_map, Int.reduceLT, Int.reduceLE, Int.reduceToNat, Int.toNat_zero, Int.le_refl, Int.reduceAdd, decide_true, decide_false, Nat.reduceMul, Nat.reduceLT, Nat.lt_irrefl, true_and, and_self, ↓reduceIte]
     refine invN_next hlt' (fun j hj => ?_) (by simp only [go_sem, Nat.reduceEqDiff, Nat.reduceAdd, Nat.reduceLeDiff, List.length_map, Int.reduceLT, Int.reduceLE, Int.reduceToNat, Int.toNat_zero, Int.le_refl, Int.reduceAdd, decide_true, decide_false, Nat.reduceMul, Nat.reduceLT, Nat.lt_irrefl, true_and, and_self, ↓reduceIte])
     rcases Nat.lt_or_ge j i with h | h
     ·exact hpi j h
     ·obtain rfl : j = i := by omega
      exact ⟨c, hc, by rw [dg, h48, h57]; rfl⟩
end Go.Proofs
