/- A part of the proof; what is proved stands in the last text. -/
import Derived.Test.YtdfpmolkpkpboaaDoorVLC
set_option linter.unusedVariables false
set_option maxRecDepth 2000
namespace Go.Proofs
open Go.Vm
set_option linter.unusedSimpArgs false
theorem hex_dig {k : Nat} (h : k < 16) : hexI (digB k) = (k : Int) := by
 have : ∀ k : Fin 16, hexI (digB k.1) = (k.1 : Int) := by decide +kernel
 exact this ⟨k, h⟩
theorem hexN_dig {k : Nat} (h : k < 16) : hexN (digB k) = k := by unfold hexN; rw [hex_dig h]; rfl
theorem dig_hexN {c : UInt8} (h : 0 ≤ hexI c) : digB (hexN c) = c := by
 rcases hex_at c with ⟨h1, _⟩ | ⟨_, _, h3, _⟩
 ·omega
 ·exact h3
theorem plain_ne {c : UInt8} (h : plainB c = true) : c ≠ 39 ∧ c ≠ 92 := by
 constructor <;> (rintro rfl; revert h; decide)
theorem esc_plain {c : UInt8} (h : plainB c = true) : escB c = [c] := by rw [escB, if_pos h]
theorem esc_not {c : UInt8} (h : plainB c = false) : escB c = [92, digB (c.toNat / 16), digB (c.toNat % 16)] := by rw [escB, if_neg (by simp [h])]
theorem of_toNat (c : UInt8) : UInt8.ofNat (16 * (c.toNat / 16) + c.toNat % 16) = c := by
 rw [Nat.div_add_mod]; exact UInt8.ofNat_toNat
theorem qv_esc1 (c : UInt8) (r out : List UInt8) (i : Nat) : qv (escB c ++ r) out i = qv r (out ++ [c]) (i + (escB c).length) := by
 have hlt := c.toNat_lt
 cases h : plainB c with
 | true =>
  have hn := plain_ne h
  rw [esc_plain h, List.singleton_append, qv_plain _ _ _ _ hn.1 hn.2, if_pos h]; rfl
 | false =>
  rw [esc_not h]
  simp only [List.cons_append, List.nil_append]
  rw [qv_esc, hexN_dig (by omega), hexN_dig (by omega), hex_dig (by omega), hex_dig (by omega), of_toNat, if_pos ⟨by omega, by omega, h⟩]; rfl
theorem qr_esc1 (s : List UInt8) (c : UInt8) (r out : List UInt8) (i : Nat) : qr s (escB c ++ r) out i = qr s r (out ++ [c]) (i + (escB c).length) := by
 have hlt := c.toNat_lt
 cases h : plainB c with
 | true =>
  have hn := plain_ne h
  rw [esc_plain h, List.singleton_append, qr_plain _ _ _ _ _ hn.1 hn.2]; rfl
 | false =>
  rw [esc_not h]
  simp only [List.cons_append, List.nil_append]
  rw [qr_esc, hexN_dig (by omega), hexN_dig (by omega), hex_dig (by omega), hex_dig (by omega), of_toNat, if_neg (by omega)]; rfl
theorem qv_form (tail : List UInt8) : ∀ (m out : List UInt8) (i : Nat), qv (m.flatMap escB ++ 39 :: tail) out i = (out ++ m, i + (m.flatMap escB).length + 1, decide ((out ++ m).length ≤ 8))
 | [], out, i => by simp [qv_end]
 | c :: m, out, i => by
  rw [List.flatMap_cons, List.append_assoc, qv_esc1, qv_form tail m]
  simp only [List.append_assoc, List.singleton_append, List.length_append, Nat.add_assoc]
theorem qr_form (s tail : List UInt8) : ∀ (m out : List UInt8) (i : Nat), qr s (m.flatMap escB ++ 39 :: tail) out i = qr s (39 :: tail) (out ++ m) (i + (m.flatMap escB).length)
 | [], out, i => by simp
 | c :: m, out, i => by
  rw [List.flatMap_cons, List.append_assoc, qr_esc1, qr_form s tail m]
  simp only [List.append_assoc, List.singleton_append, List.length_append, Nat.add_assoc]
theorem qv_ok : ∀ (n : Nat) (r out : List UInt8) (i : Nat), r.length ≤ n → (qv r out i).2.2 = true → ∃ (m tail : List UInt8), r = m.flatMap escB ++ 39 :: tail
 | 0, r, out, i, hn, h => by
  obtain rfl : r = [] := List.length_eq_zero_iff.1 (by omega)
  rw [qv.eq_def] at h; simp at h
 | n + 1, r, out, i, hn, h => by
  match r, hn, h with
  | [], hn, h => rw [qv.eq_def] at h; simp at h
  | c :: r, hn, h =>
   simp only [List.length_cons] at hn
   by_cases c39 : c = 39
   ·subst c39; exact ⟨[], r, rfl⟩
   by_cases c92 : c = 92
   ·subst c92
    match r, hn, h with
    | [], hn, h => rw [qv_cut _ _ _ (by simp)] at h; simp at h
    | [a], hn, h => rw [qv_cut _ _ _ (by simp)] at h; simp at h
    | a :: b :: r, hn, h =>
     simp only [List.length_cons] at hn
     rw [qv_esc] at h
     split at h
     ·rename_i hc
      obtain ⟨ha, hb, hp⟩ := hc
      obtain ⟨m, tail, hm⟩ := qv_ok n r _ _ (by omega) h
      have la := hexN_lt a
      have lb' := hexN_lt b
      refine ⟨UInt8.ofNat (16 * hexN a + hexN b) :: m, tail, ?_⟩
      have e : (UInt8.ofNat (16 * hexN a + hexN b)).toNat = 16 * hexN a + hexN b := by rw [UInt8.toNat_ofNat']; omega
      rw [List.flatMap_cons, esc_not hp, e, show (16 * hexN a + hexN b) / 16 = hexN a by omega, show (16 * hexN a + hexN b) % 16 = hexN b by omega, dig_hexN ha, dig_hexN hb, hm]
      rfl
     ·simp at h
   ·rw [qv_plain _ _ _ _ c39 c92] at h
    split at h
    ·rename_i hp
     obtain ⟨m, tail, hm⟩ := qv_ok n r _ _ (by omega) h
     exact ⟨c :: m, tail, by rw [List.flatMap_cons, esc_plain hp, hm]; rfl⟩
    ·simp at h
theorem qr_ok (s : List UInt8) : ∀ (n : Nat) (r out : List UInt8) (i : Nat), r.length ≤ n → (qr s r out i).2.2 = true → ∃ (m : List UInt8) (k : Nat), k ≤ (quoteL m).length ∧ quoteL m = s.take k
 | 0, r, out, i, hn, h => by
  obtain rfl : r = [] := List.length_eq_zero_iff.1 (by omega)
  rw [qr.eq_def] at h; simp at h
 | n + 1, r, out, i, hn, h => by
  match r, hn, h with
  | [], hn, h => rw [qr.eq_def] at h; simp at h
  | c :: r, hn, h =>
   simp only [List.length_cons] at hn
   by_cases c39 : c = 39
   ·subst c39
    rw [qr_end] at h
    split at h
    ·simp at h
    ·rename_i hc
     simp only [not_or, Decidable.not_not] at hc
     exact ⟨out, i + 1, by omega, hc.2.2⟩
   by_cases c92 : c = 92
   ·subst c92
    match r, hn, h with
    | [], hn, h => rw [qr_cut _ _ _ _ (by simp)] at h; simp at h
    | [a], hn, h => rw [qr_cut _ _ _ _ (by simp)] at h; simp at h
    | a :: b :: r, hn, h =>
     simp only [List.length_cons] at hn
     rw [qr_esc] at h
     split at h
     ·simp at h
     ·exact qr_ok s n r _ _ (by omega) h
   ·rw [qr_plain _ _ _ _ _ c39 c92] at h
    exact qr_ok s n r _ _ (by omega) h
theorem quoted_form (m tail : List UInt8) : qv ((quoteL m ++ tail).drop 1) [] 1 = (m, (quoteL m).length, decide (m.length ≤ 8)) ∧ qr (quoteL m ++ tail) ((quoteL m ++ tail).drop 1) [] 1 = (if m.length ≤ 8 then (m, (quoteL m).length, true) else ([], 0, false)) := by
 have e : (quoteL m ++ tail).drop 1 = m.flatMap escB ++ 39 :: tail := by simp [quoteL]
 have el : (quoteL m).length = 1 + (m.flatMap escB).length + 1 := by simp [quoteL]; omega
 rw [e, qv_form, qr_form, qr_end, el]
 simp only [List.nil_append]
 refine ⟨trivial, ?_⟩
 have et : (quoteL m ++ tail).take (1 + (m.flatMap escB).length + 1) = quoteL m := by rw [← el]; simp
 rw [et, el]
 by_cases h : m.length ≤ 8
 ·rw [if_neg (by rintro (h' | h' | h'); omega; omega; exact h' rfl), if_pos h]
 ·rw [if_pos (by omega), if_neg h]
theorem quoted_same (l : List UInt8) (h0 : l.head? = some 39) : (qv (l.drop 1) [] 1).2.2 = (qr l (l.drop 1) [] 1).2.2 ∧ ((qv (l.drop 1) [] 1).2.2 = true → qv (l.drop 1) [] 1 = qr l (l.drop 1) [] 1) := by
 have fm : ∀ m tail, l = quoteL m ++ tail → (qv (l.drop 1) [] 1).2.2 = (qr l (l.drop 1) [] 1).2.2 ∧ ((qv (l.drop 1) [] 1).2.2 = true → qv (l.drop 1) [] 1 = qr l (l.drop 1) [] 1) := by
  rintro m tail rfl
  obtain ⟨h1, h2⟩ := quoted_form m tail
  rw [h1, h2]
  by_cases h : m.length ≤ 8 <;> simp [h]
 cases hq : (qv (l.drop 1) [] 1).2.2 with
 | true =>
  obtain ⟨m, tail, hm⟩ := qv_ok _ _ _ _ (Nat.le_refl _) hq
  have : l = quoteL m ++ tail := by
   match l, h0, hm with
   | c :: r, h0, hm =>
    simp at h0 hm
    rw [h0, hm]; simp [quoteL]
  have h := fm m tail this
  exact ⟨hq ▸ h.1, fun _ => h.2 hq⟩
 | false =>
  cases hr : (qr l (l.drop 1) [] 1).2.2 with
  | false => exact ⟨rfl, fun h => by cases h⟩
  | true =>
   obtain ⟨m, k, hk, hm⟩ := qr_ok l _ _ _ _ (Nat.le_refl _) hr
   have := fm m (l.drop k) (by rw [hm, List.take_append_drop])
   rw [hq, hr] at this
   cases this.1
end Go.Proofs

namespace Go.Proofs
open Go.Vm
set_option linter.unusedSimpArgs false
def dg (c : UInt8) : Bool := decide (48 ≤ c.toNat) && decide (c.toNat ≤ 57)
def zeroV : ValM := ⟨0, 0, lb []⟩
theorem tw_len : ∀ (i : Nat) (l : List UInt8), (∀ j, j < i → ∃ c, l[j]? = some c ∧ dg c = true) → (∀ c, l[i]? = some c → dg c = false) → (l.takeWhile dg).length = i
 | 0, [], _, _ => rfl
 | 0, c :: l, _, h => by rw [List.takeWhile_cons, h c rfl]; rfl
 | i + 1, [], h, _ => by obtain ⟨c, hc, _⟩ := h 0 (by omega); simp at hc
 | i + 1, c :: l, h1, h2 => by
  obtain ⟨c', hc, hd⟩ := h1 0 (by omega)
  simp at hc; subst hc
  rw [List.takeWhile_cons, hd]
  have := tw_len i l (fun j hj => by have := h1 (j + 1) (by omega); simpa using this) (fun c hc => h2 c (by simpa using hc))
  simp [this]
def sgn (l : List UInt8) : Nat := if l.head? == some 45 then 1 else 0
def numN (l : List UInt8) : Nat := ((l.drop (sgn l)).takeWhile dg).length
def read1 (l : List UInt8) : ValM × Nat × Bool :=
 if l.head? == some 39 then (if (qv (l.drop 1) [] 1).2.2 = true then (⟨2, 0, lb (qv (l.drop 1) [] 1).1⟩, (qv (l.drop 1) [] 1).2.1, true) else (zeroV, 0, false))
 else if numN l = 0 then (zeroV, sgn l, decide (0 < sgn l))
 else if (l.drop (sgn l)).head? = some 48 ∧ (1 < numN l ∨ 0 < sgn l) then (zeroV, 0, false)
 else match Lib.atoiAll (l.take (sgn l + numN l)) with
  | .ok k => (⟨1, k, lb []⟩, sgn l + numN l, true)
  | _ => (zeroV, 0, false)
def triV (r : ValM × Nat × Bool) : D := .tup [.agg (valC r.1), .val (.int .i64 r.2.1), .val (.bool r.2.2)]
set_option maxHeartbeats 4000000 in
theorem kRead (s : ByteArray) (hs : s.size ≤ 900) : PureAt Tryd.prog 10 [.val (.string s)] (· = triV (read1 (bl s))) := by
 refine pure_of r10 (by kernel_rfl) ?_
 unfold m10 read1
 simp only [go_sem, Nat.reduceEqDiff, Nat.reduceAdd, Nat.reduceLeDiff, List.length_map, Int.reduceLT, Int.reduceLE, Int.reduceToNat, Int.toNat_zero, Int.le_refl, Int.reduceAdd, decide_true, decide_false, Nat.reduceMul, Nat.reduceLT, Nat.lt_irrefl, true_and, and_self, ↓reduceIte]
 refine callP_eq rfl rfl (kHasPre s 39) ?_
 unfold begins
 cases h39 : ((bl s).head? == some 39) with
 | true =>
  simp only [go_sem, Nat.reduceEqDiff, Nat.reduceAdd, Nat.reduceLeDiff, List.length_map, Int.reduceLT, Int.reduceLE, Int.reduceToNat, Int.toNat_zero, Int.le_refl, Int.reduceAdd, decide_true, decide_false, Nat.reduceMul, Nat.reduceLT, Nat.lt_irrefl, true_and, and_self, ↓reduceIte]
  refine callP_eq rfl rfl (kQuoted s (by omega)) ?_
  simp only [triQ, tri, go_sem, Nat.reduceEqDiff, Nat.reduceAdd, Nat.reduceLeDiff, List.length_map, Int.reduceLT, Int.reduceLE, Int.reduceToNat, Int.toNat_zero, Int.le_refl, Int.reduceAdd, decide_true, decide_false, Nat.reduceMul, Nat.reduceLT, Nat.lt_irrefl, true_and, and_self, ↓reduceIte]
  cases hq : (qv ((bl s).drop 1) [] 1).2.2 with
  | false => simp only [Bool.not_false, Bool.false_eq_true, go_sem, Nat.reduceEqDiff, Nat.reduceAdd, Nat.reduceLeDiff, List.length_map, Int.reduceLT, Int.reduceLE, Int.reduceToNat, Int.toNat_zero, Int.le_refl, Int.reduceAdd, decide_true, decide_false, Nat.reduceMul, Nat.reduceLT, Nat.lt_irrefl, true_and, and_self, ↓reduceIte]; rfl
  | true => simp only [Bool.not_true, go_sem, Nat.reduceEqDiff, Nat.reduceAdd, Nat.reduceLeDiff, List.length_map, Int.reduceLT, Int.reduceLE, Int.reduceToNat, Int.toNat_zero, Int.le_refl, Int.reduceAdd, decide_true, decide_false, Nat.reduceMul, Nat.reduceLT, Nat.lt_irrefl, true_and, and_self, ↓reduceIte]; rfl
 | false =>
  simp only [go_sem, Nat.reduceEqDiff, Nat.reduceAdd, Nat.reduceLeDiff, List.length_map, Int.reduceLT, Int.reduceLE, Int.reduceToNat, Int.toNat_zero, Int.le_refl, Int.reduceAdd, decide_true, decide_false, Nat.reduceMul, Nat.reduceLT, Nat.lt_irrefl, true_and, and_self, ↓reduceIte]
  refine callP_eq rfl rfl (kTrimPre s 45) ?_
  have et : (if begins s 45 then lb (bl s).tail else s) = lb ((bl s).drop (sgn (bl s))) := by
   unfold begins sgn
   cases (bl s).head? == some 45
   ·simp [lb_bl]
   ·simp [List.drop_one]
  have esz : (lb ((bl s).drop (sgn (bl s)))).size = s.size - sgn (bl s) := by rw [size_lb, List.length_drop, size_bl]
  have hsg : sgn (bl s) ≤ s.size := by
   unfold sgn
   cases h : (bl s).head? == some 45
   ·simp
   ·have : 0 < (bl s).length := by
      cases hb : bl s with
      | nil => rw [hb] at h; cases h
      | cons a r => simp
    rw [size_bl] at this; simp; omega
  have hds : ∀ i : Nat, (lb ((bl s).drop (sgn (bl s)))).data[i]? = ((bl s).drop (sgn (bl s)))[i]? := fun i => by
   show (((bl s).drop (sgn (bl s))).toArray)[i]? = _
   exact List.getElem?_toArray
  have hdl : ((bl s).drop (sgn (bl s))).length = s.size - sgn (bl s) := by rw [List.length_drop, size_bl]
  have hsg1 : sgn (bl s) ≤ 1 := by unfold sgn; split <;> omega
  rw [et]
  have w1 : IntKind.i64.wrap ((s.size : Int) - ((s.size - sgn (bl s) : Nat) : Int)) = ((sgn (bl s) : Nat) : Int) := by rw [wrap64 (by omega) (by omega)]; omega
  have hnum : numN (bl s) = (((bl s).drop (sgn (bl s))).takeWhile dg).length := rfl
  generalize hsgd : sgn (bl s) = sg at *
  generalize hdsd : (bl s).drop sg = ds at *
  simp only [esz, w1, go_sem, Nat.reduceEqDiff, Nat.reduceAdd, Nat.reduceLeDiff, List.length_map, Int.reduceLT, Int.reduceLE, Int.reduceToNat, Int.toNat_zero, Int.le_refl, Int.reduceAdd, decide_true, decide_false, Nat.reduceMul, Nat.reduceLT, Nat.lt_irrefl, true_and, and_self, ↓reduceIte]
  refine loop_N ds.length (fun i => ∀ j, j < i → ∃ c, ds[j]? = some c ∧ dg c = true) (fun i => ⟨[(0, .val (.string s)), (2, .ptr 2 0), (8, .val (.string (lb ds))), (9, .val (.int .i64 sg)), (10, .val (.int .i64 i))], [(2, [.val (.int .i64 0), .val (.int .i64 0), .val (.string ⟨#[]⟩)])], []⟩) (by simp) (by simp only [go_sem, Nat.reduceEqDiff, Nat.reduceAdd, Nat.reduceLeDiff, List.length_map, Int.reduceLT, Int.reduceLE, Int.reduceToNat, Int.toNat_zero, Int.le_refl, Int.reduceAdd, decide_true, decide_false, Nat.reduceMul, Nat.reduceLT, Nat.lt_irrefl, true_and, and_self, ↓reduceIte]; rfl) ?_
  rintro i hil hpi
  have dlt : decide ((i : Int) < ((s.size - sg : Nat) : Int)) = decide (i < ds.length) := by rw [decide_eq_decide, hdl]; omega
  have d0 : ((i : Int) == 0) = decide (i = 0) := by rw [Bool.eq_iff_iff, beq_iff_eq, decide_eq_true_eq]; omega
  have ds0 : decide ((sg : Int) > 0) = decide (0 < sg) := by rw [decide_eq_decide]; omega
  have di1 : decide ((i : Int) > 1) = decide (1 < i) := by rw [decide_eq_decide]; omega
  have wadd : IntKind.i64.wrap ((sg : Int) + (i : Int)) = ((sg + i : Nat) : Int) := by rw [wrap64 (by omega) (by omega)]; omega
  have hcut : (((sg + i : Nat) : Int) ≤ (s.size : Int)) = True := by simp; omega
  have hext : s.extract 0 (sg + i) = lb ((bl s).take (sg + i)) := by rw [← lb_bl (s.extract 0 (sg + i)), bl_extract, List.drop_zero]
  simp only [esz, dlt, go_sem, Nat.reduceEqDiff, Nat.reduceAdd, Nat.reduceLeDiff, List.length_map, Int.reduceLT, Int.reduceLE, Int.reduceToNat, Int.toNat_zero, Int.le_refl, Int.reduceAdd, decide_true, decide_false, Nat.reduceMul, Nat.reduceLT, Nat.lt_irrefl, true_and, and_self, ↓reduceIte]
  cases hlt : decide (i < ds.length) with
  | false =>
   have hlt' := of_decide_eq_false hlt
   have hN : numN (bl s) = i := by rw [hnum]; exact tw_len i ds hpi (fun c hc => by rw [List.getElem?_eq_none (by omega)] at hc; cases hc)
   simp only [d0, go_sem, Nat.reduceEqDiff, Nat.reduceAdd, Nat.reduceLeDiff, List.length_map, Int.reduceLT, Int.reduceLE, Int.reduceToNat, Int.toNat_zero, Int.le_refl, Int.reduceAdd, decide_true, decide_false, Nat.reduceMul, Nat.reduceLT, Nat.lt_irrefl, true_and, and_self, ↓reduceIte]
   by_cases hi0 : i = 0
   ·have hi0' : decide (i = 0) = true := by simp [hi0]
    simp only [hi0', ds0, go_sem, Nat.reduceEqDiff, Nat.reduceAdd, Nat.reduceLeDiff, List.length_map, Int.reduceLT, Int.reduceLE, Int.reduceToNat, Int.toNat_zero, Int.le_refl, Int.reduceAdd, decide_true, decide_false, Nat.reduceMul, Nat.reduceLT, Nat.lt_irrefl, true_and, and_self, ↓reduceIte]
    rw [hN, if_pos hi0]; rfl
   have hi0' : decide (i = 0) = false := by simp [hi0]
   obtain ⟨c0, hc0, hd0⟩ := hpi 0 (by omega)
   have hc0' : (lb ds).data[0]? = some c0 := (hds 0).trans hc0
   have hhd : ds.head? = some c0 := by rw [List.head?_eq_getElem?]; exact hc0
   have dz : ((c0.toNat : Int) == 48) = decide (c0 = 48) := dg_eq c0 48
   rw [hN, if_neg hi0, hhd]
   simp only [hi0', hc0', dz, go_sem, Nat.reduceEqDiff, Nat.reduceAdd, Nat.reduceLeDiff, List.length_map, Int.reduceLT, Int.reduceLE, Int.reduceToNat, Int.toNat_zero, Int.le_refl, Int.reduceAdd, decide_true, decide_false, Nat.reduceMul, Nat.reduceLT, Nat.lt_irrefl, true_and, and_self, ↓reduceIte]
   cases h0 : decide (c0 = 48) with
   | true =>
    have h0' := of_decide_eq_true h0
    simp only [di1, go_sem, Nat.reduceEqDiff, Nat.reduceAdd, Nat.reduceLeDiff, List.length_map, Int.reduceLT, Int.reduceLE, Int.reduceToNat, Int.toNat_zero, Int.le_refl, Int.reduceAdd, decide_true, decide_false, Nat.reduceMul, Nat.reduceLT, Nat.lt_irrefl, true_and, and_self, ↓reduceIte]
    cases hi1 : decide (1 < i) with
    | true =>
     simp only [go_sem, Nat.reduceEqDiff, Nat.reduceAdd, Nat.reduceLeDiff, List.length_map, Int.reduceLT, Int.reduceLE, Int.reduceToNat, Int.toNat_zero, Int.le_refl, Int.reduceAdd, decide_true, decide_false, Nat.reduceMul, Nat.reduceLT, Nat.lt_irrefl, true_and, and_self, ↓reduceIte]
     rw [if_pos ⟨h0', .inl (of_decide_eq_true hi1)⟩]; rfl
    | false =>
     simp only [ds0, go_sem, Nat.reduceEqDiff, Nat.reduceAdd, Nat.reduceLeDiff, List.length_map, Int.reduceLT, Int.reduceLE, Int.reduceToNat, Int.toNat_zero, Int.le_refl, Int.reduceAdd, decide_true, decide_false, Nat.reduceMul, Nat.reduceLT, Nat.lt_irrefl, true_and, and_self, ↓reduceIte]
     cases hs0 : decide (0 < sg) with
     | true =>
      simp only [go_sem, Nat.reduceEqDiff, Nat.reduceAdd, Nat.reduceLeDiff, List.length_map, Int.reduceLT, Int.reduceLE, Int.reduceToNat, Int.toNat_zero, Int.le_refl, Int.reduceAdd, decide_true, decide_false, Nat.reduceMul, Nat.reduceLT, Nat.lt_irrefl, true_and, and_self, ↓reduceIte]
      rw [if_pos ⟨h0', .inr (of_decide_eq_true hs0)⟩]; rfl
     | false =>
      rw [if_neg (fun h => h.2.elim (of_decide_eq_false hi1) (of_decide_eq_false hs0))]
      simp only [wadd, nn0, hcut, Int.toNat_natCast, hext, go_sem, Nat.reduceEqDiff, Nat.reduceAdd, Nat.reduceLeDiff, List.length_map, Int.reduceLT, Int.reduceLE, Int.reduceToNat, Int.toNat_zero, Int.le_refl, Int.reduceAdd, decide_true, decide_false, Nat.reduceMul, Nat.reduceLT, Nat.lt_irrefl, true_and, and_self, ↓reduceIte]
      refine callP_by rfl rfl (kAtoi (lb ((bl s).take (sg + i))) (by rw [size_lb, List.length_take]; omega)) ?_
      rintro r (⟨k, hk, rfl⟩ | ⟨hk, z, t, x, rfl⟩)
      ·have hk' : Lib.atoiAll ((bl s).take (sg + i)) = .ok k := by rw [← hk]; exact congrArg Lib.atoiAll (bl_lb _).symm
       simp only [wadd, go_sem, Nat.reduceEqDiff, Nat.reduceAdd, Nat.reduceLeDiff, List.length_map, Int.reduceLT, Int.reduceLE, Int.reduceToNat, Int.toNat_zero, Int.le_refl, Int.reduceAdd, decide_true, decide_false, Nat.reduceMul, Nat.reduceLT, Nat.lt_irrefl, true_and, and_self, ↓reduceIte]
       rw [hk']; rfl
      ·have hk' : ∀ n, Lib.atoiAll ((bl s).take (sg + i)) ≠ .ok n := fun n h => hk n (by rw [← h]; exact congrArg Lib.atoiAll (bl_lb _))
       simp only [go_sem, Nat.reduceEqDiff, Nat.reduceAdd, Nat.reduceLeDiff, List.length_map, Int.reduceLT, Int.reduceLE, Int.reduceToNat, Int.toNat_zero, Int.le_refl, Int.reduceAdd, decide_true, decide_false, Nat.reduceMul, Nat.reduceLT, Nat.lt_irrefl, true_and, and_self, ↓reduceIte]
       cases ha : Lib.atoiAll ((bl s).take (sg + i)) with
       | ok k => exact absurd ha (hk' k)
       | «syntax» => rfl
       | range => rfl
   | false =>
    have h0' := of_decide_eq_false h0
    rw [if_neg (fun h => h0' h.1)]
    simp only [wadd, nn0, hcut, Int.toNat_natCast, hext, go_sem, Nat.reduceEqDiff, Nat.reduceAdd, Nat.reduceLeDiff, List.length_map, Int.reduceLT, Int.reduceLE, Int.reduceToNat, Int.toNat_zero, Int.le_refl, Int.reduceAdd, decide_true, decide_false, Nat.reduceMul, Nat.reduceLT, Nat.lt_irrefl, true_and, and_self, ↓reduceIte]
    refine callP_by rfl rfl (kAtoi (lb ((bl s).take (sg + i))) (by rw [size_lb, List.length_take]; omega)) ?_
    rintro r (⟨k, hk, rfl⟩ | ⟨hk, z, t, x, rfl⟩)
    ·have hk' : Lib.atoiAll ((bl s).take (sg + i)) = .ok k := by rw [← hk]; exact congrArg Lib.atoiAll (bl_lb _).symm
     simp only [wadd, go_sem, Nat.reduceEqDiff, Nat.reduceAdd, Nat.reduceLeDiff, List.length_map, Int.reduceLT, Int.reduceLE, Int.reduceToNat, Int.toNat_zero, Int.le_refl, Int.reduceAdd, decide_true, decide_false, Nat.reduceMul, Nat.reduceLT, Nat.lt_irrefl, true_and, and_self, ↓reduceIte]
     rw [hk']; rfl
    ·have hk' : ∀ n, Lib.atoiAll ((bl s).take (sg + i)) ≠ .ok n := fun n h => hk n (by rw [← h]; exact congrArg Lib.atoiAll (bl_lb _))
     simp only [go_sem, Nat.reduceEqDiff, Nat.reduceAdd, Nat.reduceLeDiff, List.length_map, Int.reduceLT, Int.reduceLE, Int.reduceToNat, Int.toNat_zero, Int.le_refl, Int.reduceAdd, decide_true, decide_false, Nat.reduceMul, Nat.reduceLT, Nat.lt_irrefl, true_and, and_self, ↓reduceIte]
     cases ha : Lib.atoiAll ((bl s).take (sg + i)) with
     | ok k => exact absurd ha (hk' k)
     | «syntax» => rfl
     | range => rfl
  | true =>
   have hlt' := of_decide_eq_true hlt
   obtain ⟨c, hc⟩ : ∃ c, ds[i]? = some c := ⟨_, List.getElem?_eq_getElem hlt'⟩
   have hc' : (lb ds).data[i]? = some c := (hds i).trans hc
   have d48 : decide ((c.toNat : Int) ≥ 48) = decide (48 ≤ c.toNat) := by rw [decide_eq_decide]; omega
   have d57 : decide ((c.toNat : Int) ≤ 57) = decide (c.toNat ≤ 57) := by rw [decide_eq_decide]; omega
   simp only [nn0, Int.toNat_natCast, hc', d48, go_sem, Nat.reduceEqDiff, Nat.reduceAdd, Nat.reduceLeDiff, List.length_map, Int.reduceLT, Int.reduceLE, Int.reduceToNat, Int.toNat_zero, Int.le_refl, Int.reduceAdd, decide_true, decide_false, Nat.reduceMul, Nat.reduceLT, Nat.lt_irrefl, true_and, and_self, ↓reduceIte]
   cases h48 : decide (48 ≤ c.toNat) with
   | false =>
    have hN : numN (bl s) = i := by rw [hnum]; exact tw_len i ds hpi (fun c' hc1 => by rw [hc] at hc1; cases hc1; rw [dg, h48]; rfl)
    simp only [d0, go_sem, Nat.reduceEqDiff, Nat.reduceAdd, Nat.reduceLeDiff, List.length_map, Int.reduceLT, Int.reduceLE, Int.reduceToNat, Int.toNat_zero, Int.le_refl, Int.reduceAdd, decide_true, decide_false, Nat.reduceMul, Nat.reduceLT, Nat.lt_irrefl, true_and, and_self, ↓reduceIte]
    by_cases hi0 : i = 0
    ·have hi0' : decide (i = 0) = true := by simp [hi0]
     simp only [hi0', ds0, go_sem, Nat.reduceEqDiff, Nat.reduceAdd, Nat.reduceLeDiff, List.length_map, Int.reduceLT, Int.reduceLE, Int.reduceToNat, Int.toNat_zero, Int.le_refl, Int.reduceAdd, decide_true, decide_false, Nat.reduceMul, Nat.reduceLT, Nat.lt_irrefl, true_and, and_self, ↓reduceIte]
     rw [hN, if_pos hi0]; rfl
    have hi0' : decide (i = 0) = false := by simp [hi0]
    obtain ⟨c0, hc0, hd0⟩ := hpi 0 (by omega)
    have hc0' : (lb ds).data[0]? = some c0 := (hds 0).trans hc0
    have hhd : ds.head? = some c0 := by rw [List.head?_eq_getElem?]; exact hc0
    have dz : ((c0.toNat : Int) == 48) = decide (c0 = 48) := dg_eq c0 48
    rw [hN, if_neg hi0, hhd]
    simp only [hi0', hc0', dz, go_sem, Nat.reduceEqDiff, Nat.reduceAdd, Nat.reduceLeDiff, List.length_map, Int.reduceLT, Int.reduceLE, Int.reduceToNat, Int.toNat_zero, Int.le_refl, Int.reduceAdd, decide_true, decide_false, Nat.reduceMul, Nat.reduceLT, Nat.lt_irrefl, true_and, and_self, ↓reduceIte]
    cases h0 : decide (c0 = 48) with
    | true =>
     have h0' := of_decide_eq_true h0
     simp only [di1, go_sem, Nat.reduceEqDiff, Nat.reduceAdd, Nat.reduceLeDiff, List.length_map, Int.reduceLT, Int.reduceLE, Int.reduceToNat, Int.toNat_zero, Int.le_refl, Int.reduceAdd, decide_true, decide_false, Nat.reduceMul, Nat.reduceLT, Nat.lt_irrefl, true_and, and_self, ↓reduceIte]
     cases hi1 : decide (1 < i) with
     | true =>
      simp only [go_sem, Nat.reduceEqDiff, Nat.reduceAdd, Nat.reduceLeDiff, List.length_map, Int.reduceLT, Int.reduceLE, Int.reduceToNat, Int.toNat_zero, Int.le_refl, Int.reduceAdd, decide_true, decide_false, Nat.reduceMul, Nat.reduceLT, Nat.lt_irrefl, true_and, and_self, ↓reduceIte]
      rw [if_pos ⟨h0', .inl (of_decide_eq_true hi1)⟩]; rfl
     | false =>
      simp only [ds0, go_sem, Nat.reduceEqDiff, Nat.reduceAdd, Nat.reduceLeDiff, List.length_map, Int.reduceLT, Int.reduceLE, Int.reduceToNat, Int.toNat_zero, Int.le_refl, Int.reduceAdd, decide_true, decide_false, Nat.reduceMul, Nat.reduceLT, Nat.lt_irrefl, true_and, and_self, ↓reduceIte]
      cases hs0 : decide (0 < sg) with
      | true =>
       simp only [go_sem, Nat.reduceEqDiff, Nat.reduceAdd, Nat.reduceLeDiff, List.length_map, Int.reduceLT, Int.reduceLE, Int.reduceToNat, Int.toNat_zero, Int.le_refl, Int.reduceAdd, decide_true, decide_false, Nat.reduceMul, Nat.reduceLT, Nat.lt_irrefl, true_and, and_self, ↓reduceIte]
       rw [if_pos ⟨h0', .inr (of_decide_eq_true hs0)⟩]; rfl
      | false =>
       rw [if_neg (fun h => h.2.elim (of_decide_eq_false hi1) (of_decide_eq_false hs0))]
       simp only [wadd, nn0, hcut, Int.toNat_natCast, hext, go_sem, Nat.reduceEqDiff, Nat.reduceAdd, Nat.reduceLeDiff, List.length_map, Int.reduceLT, Int.reduceLE, Int.reduceToNat, Int.toNat_zero, Int.le_refl, Int.reduceAdd, decide_true, decide_false, Nat.reduceMul, Nat.reduceLT, Nat.lt_irrefl, true_and, and_self, ↓reduceIte]
       refine callP_by rfl rfl (kAtoi (lb ((bl s).take (sg + i))) (by rw [size_lb, List.length_take]; omega)) ?_
       rintro r (⟨k, hk, rfl⟩ | ⟨hk, z, t, x, rfl⟩)
       ·have hk' : Lib.atoiAll ((bl s).take (sg + i)) = .ok k := by rw [← hk]; exact congrArg Lib.atoiAll (bl_lb _).symm
        simp only [wadd, go_sem, Nat.reduceEqDiff, Nat.reduceAdd, Nat.reduceLeDiff, List.length_map, Int.reduceLT, Int.reduceLE, Int.reduceToNat, Int.toNat_zero, Int.le_refl, Int.reduceAdd, decide_true, decide_false, Nat.reduceMul, Nat.reduceLT, Nat.lt_irrefl, true_and, and_self, ↓reduceIte]
        rw [hk']; rfl
       ·have hk' : ∀ n, Lib.atoiAll ((bl s).take (sg + i)) ≠ .ok n := fun n h => hk n (by rw [← h]; exact congrArg Lib.atoiAll (bl_lb _))
        simp only [go_sem, Nat.reduceEqDiff, Nat.reduceAdd, Nat.reduceLeDiff, List.length_map, Int.reduceLT, Int.reduceLE, Int.reduceToNat, Int.toNat_zero, Int.le_refl, Int.reduceAdd, decide_true, decide_false, Nat.reduceMul, Nat.reduceLT, Nat.lt_irrefl, true_and, and_self, ↓reduceIte]
        cases ha : Lib.atoiAll ((bl s).take (sg + i)) with
        | ok k => exact absurd ha (hk' k)
        | «syntax» => rfl
        | range => rfl
    | false =>
     have h0' := of_decide_eq_false h0
     rw [if_neg (fun h => h0' h.1)]
     simp only [wadd, nn0, hcut, Int.toNat_natCast, hext, go_sem, Nat.reduceEqDiff, Nat.reduceAdd, Nat.reduceLeDiff, List.length_map, Int.reduceLT, Int.reduceLE, Int.reduceToNat, Int.toNat_zero, Int.le_refl, Int.reduceAdd, decide_true, decide_false, Nat.reduceMul, Nat.reduceLT, Nat.lt_irrefl, true_and, and_self, ↓reduceIte]
     refine callP_by rfl rfl (kAtoi (lb ((bl s).take (sg + i))) (by rw [size_lb, List.length_take]; omega)) ?_
     rintro r (⟨k, hk, rfl⟩ | ⟨hk, z, t, x, rfl⟩)
     ·have hk' : Lib.atoiAll ((bl s).take (sg + i)) = .ok k := by rw [← hk]; exact congrArg Lib.atoiAll (bl_lb _).symm
      simp only [wadd, go_sem, Nat.reduceEqDiff, Nat.reduceAdd, Nat.reduceLeDiff, List.length_map, Int.reduceLT, Int.reduceLE, Int.reduceToNat, Int.toNat_zero, Int.le_refl, Int.reduceAdd, decide_true, decide_false, Nat.reduceMul, Nat.reduceLT, Nat.lt_irrefl, true_and, and_self, ↓reduceIte]
      rw [hk']; rfl
     ·have hk' : ∀ n, Lib.atoiAll ((bl s).take (sg + i)) ≠ .ok n := fun n h => hk n (by rw [← h]; exact congrArg Lib.atoiAll (bl_lb _))
      simp only [go_sem, Nat.reduceEqDiff, Nat.reduceAdd, Nat.reduceLeDiff, List.length_map, Int.reduceLT, Int.reduceLE, Int.reduceToNat, Int.toNat_zero, Int.le_refl, Int.reduceAdd, decide_true, decide_false, Nat.reduceMul, Nat.reduceLT, Nat.lt_irrefl, true_and, and_self, ↓reduceIte]
      cases ha : Lib.atoiAll ((bl s).take (sg + i)) with
      | ok k => exact absurd ha (hk' k)
      | «syntax» => rfl
      | range => rfl
   | true =>
    simp only [nn0, Int.toNat_natCast, hc', d57, go_sem, Nat.reduceEqDiff, Nat.reduceAdd, Nat.reduceLeDiff, List.length_map, Int.reduceLT, Int.reduceLE, Int.reduceToNat, Int.toNat_zero, Int.le_refl, Int.reduceAdd, decide_true, decide_false, Nat.reduceMul, Nat.reduceLT, Nat.lt_irrefl, true_and, and_self, ↓reduceIte]
    cases h57 : decide (c.toNat ≤ 57) with
    | false =>
     have hN : numN (bl s) = i := by rw [hnum]; exact tw_len i ds hpi (fun c' hc1 => by rw [hc] at hc1; cases hc1; rw [dg, h48, h57]; rfl)
     simp only [d0, go_sem, Nat.reduceEqDiff, Nat.reduceAdd, Nat.reduceLeDiff, List.length_map, Int.reduceLT, Int.reduceLE, Int.reduceToNat, Int.toNat_zero, Int.le_refl, Int.reduceAdd, decide_true, decide_false, Nat.reduceMul, Nat.reduceLT, Nat.lt_irrefl, true_and, and_self, ↓reduceIte]
     by_cases hi0 : i = 0
     ·have hi0' : decide (i = 0) = true := by simp [hi0]
      simp only [hi0', ds0, go_sem, Nat.reduceEqDiff, Nat.reduceAdd, Nat.reduceLeDiff, List.length_map, Int.reduceLT, Int.reduceLE, Int.reduceToNat, Int.toNat_zero, Int.le_refl, Int.reduceAdd, decide_true, decide_false, Nat.reduceMul, Nat.reduceLT, Nat.lt_irrefl, true_and, and_self, ↓reduceIte]
      rw [hN, if_pos hi0]; rfl
     have hi0' : decide (i = 0) = false := by simp [hi0]
     obtain ⟨c0, hc0, hd0⟩ := hpi 0 (by omega)
     have hc0' : (lb ds).data[0]? = some c0 := (hds 0).trans hc0
     have hhd : ds.head? = some c0 := by rw [List.head?_eq_getElem?]; exact hc0
     have dz : ((c0.toNat : Int) == 48) = decide (c0 = 48) := dg_eq c0 48
     rw [hN, if_neg hi0, hhd]
     simp only [hi0', hc0', dz, go_sem, Nat.reduceEqDiff, Nat.reduceAdd, Nat.reduceLeDiff, List.length_map, Int.reduceLT, Int.reduceLE, Int.reduceToNat, Int.toNat_zero, Int.le_refl, Int.reduceAdd, decide_true, decide_false, Nat.reduceMul, Nat.reduceLT, Nat.lt_irrefl, true_and, and_self, ↓reduceIte]
     cases h0 : decide (c0 = 48) with
     | true =>
      have h0' := of_decide_eq_true h0
      simp only [di1, go_sem, Nat.reduceEqDiff, Nat.reduceAdd, Nat.reduceLeDiff, List.length_map, Int.reduceLT, Int.reduceLE, Int.reduceToNat, Int.toNat_zero, Int.le_refl, Int.reduceAdd, decide_true, decide_false, Nat.reduceMul, Nat.reduceLT, Nat.lt_irrefl, true_and, and_self, ↓reduceIte]
      cases hi1 : decide (1 < i) with
      | true =>
       simp only [go_sem, Nat.reduceEqDiff, Nat.reduceAdd, Nat.reduceLeDiff, List.length_map, Int.reduceLT, Int.reduceLE, Int.reduceToNat, Int.toNat_zero, Int.le_refl, Int.reduceAdd, decide_true, decide_false, Nat.reduceMul, Nat.reduceLT, Nat.lt_irrefl, true_and, and_self, ↓reduceIte]
       rw [if_pos ⟨h0', .inl (of_decide_eq_true hi1)⟩]; rfl
      | false =>
       simp only [ds0, go_sem, Nat.reduceEqDiff, Nat.reduceAdd, Nat.reduceLeDiff, List.length_map, Int.reduceLT, Int.reduceLE, Int.reduceToNat, Int.toNat_zero, Int.le_refl, Int.reduceAdd, decide_true, decide_false, Nat.reduceMul, Nat.reduceLT, Nat.lt_irrefl, true_and, and_self, ↓reduceIte]
       cases hs0 : decide (0 < sg) with
       | true =>
        simp only [go_sem, Nat.reduceEqDiff, Nat.reduceAdd, Nat.reduceLeDiff, List.length_map, Int.reduceLT, Int.reduceLE, Int.reduceToNat, Int.toNat_zero, Int.le_refl, Int.reduceAdd, decide_true, decide_false, Nat.reduceMul, Nat.reduceLT, Nat.lt_irrefl, true_and, and_self, ↓reduceIte]
        rw [if_pos ⟨h0', .inr (of_decide_eq_true hs0)⟩]; rfl
       | false =>
        rw [if_neg (fun h => h.2.elim (of_decide_eq_false hi1) (of_decide_eq_false hs0))]
        simp only [wadd, nn0, hcut, Int.toNat_natCast, hext, go_sem, Nat.reduceEqDiff, Nat.reduceAdd, Nat.reduceLeDiff, List.length_map, Int.reduceLT, Int.reduceLE, Int.reduceToNat, Int.toNat_zero, Int.le_refl, Int.reduceAdd, decide_true, decide_false, Nat.reduceMul, Nat.reduceLT, Nat.lt_irrefl, true_and, and_self, ↓reduceIte]
        refine callP_by rfl rfl (kAtoi (lb ((bl s).take (sg + i))) (by rw [size_lb, List.length_take]; omega)) ?_
        rintro r (⟨k, hk, rfl⟩ | ⟨hk, z, t, x, rfl⟩)
        ·have hk' : Lib.atoiAll ((bl s).take (sg + i)) = .ok k := by rw [← hk]; exact congrArg Lib.atoiAll (bl_lb _).symm
         simp only [wadd, go_sem, Nat.reduceEqDiff, Nat.reduceAdd, Nat.reduceLeDiff, List.length_map, Int.reduceLT, Int.reduceLE, Int.reduceToNat, Int.toNat_zero, Int.le_refl, Int.reduceAdd, decide_true, decide_false, Nat.reduceMul, Nat.reduceLT, Nat.lt_irrefl, true_and, and_self, ↓reduceIte]
         rw [hk']; rfl
        ·have hk' : ∀ n, Lib.atoiAll ((bl s).take (sg + i)) ≠ .ok n := fun n h => hk n (by rw [← h]; exact congrArg Lib.atoiAll (bl_lb _))
         simp only [go_sem, Nat.reduceEqDiff, Nat.reduceAdd, Nat.reduceLeDiff, List.length_map, Int.reduceLT, Int.reduceLE, Int.reduceToNat, Int.toNat_zero, Int.le_refl, Int.reduceAdd, decide_true, decide_false, Nat.reduceMul, Nat.reduceLT, Nat.lt_irrefl, true_and, and_self, ↓reduceIte]
         cases ha : Lib.atoiAll ((bl s).take (sg + i)) with
         | ok k => exact absurd ha (hk' k)
         | «syntax» => rfl
         | range => rfl
     | false =>
      have h0' := of_decide_eq_false h0
      rw [if_neg (fun h => h0' h.1)]
      simp only [wadd, nn0, hcut, Int.toNat_natCast, hext, go_sem, Nat.reduceEqDiff, Nat.reduceAdd, Nat.reduceLeDiff, List.length_map, Int.reduceLT, Int.reduceLE, Int.reduceToNat, Int.toNat_zero, Int.le_refl, Int.reduceAdd, decide_true, decide_false, Nat.reduceMul, Nat.reduceLT, Nat.lt_irrefl, true_and, and_self, ↓reduceIte]
      refine callP_by rfl rfl (kAtoi (lb ((bl s).take (sg + i))) (by rw [size_lb, List.length_take]; omega)) ?_
      rintro r (⟨k, hk, rfl⟩ | ⟨hk, z, t, x, rfl⟩)
      ·have hk' : Lib.atoiAll ((bl s).take (sg + i)) = .ok k := by rw [← hk]; exact congrArg Lib.atoiAll (bl_lb _).symm
       simp only [wadd, go_sem, Nat.reduceEqDiff, Nat.reduceAdd, Nat.reduceLeDiff, List.length_map, Int.reduceLT, Int.reduceLE, Int.reduceToNat, Int.toNat_zero, Int.le_refl, Int.reduceAdd, decide_true, decide_false, Nat.reduceMul, Nat.reduceLT, Nat.lt_irrefl, true_and, and_self, ↓reduceIte]
       rw [hk']; rfl
      ·have hk' : ∀ n, Lib.atoiAll ((bl s).take (sg + i)) ≠ .ok n := fun n h => hk n (by rw [← h]; exact congrArg Lib.atoiAll (bl_lb _))
       simp only [go_sem, Nat.reduceEqDiff, Nat.reduceAdd, Nat.reduceLeDiff, List.length_map, Int.reduceLT, Int.reduceLE, Int.reduceToNat, Int.toNat_zero, Int.le_refl, Int.reduceAdd, decide_true, decide_false, Nat.reduceMul, Nat.reduceLT, Nat.lt_irrefl, true_and, and_self, ↓reduceIte]
       cases ha : Lib.atoiAll ((bl s).take (sg + i)) with
       | ok k => exact absurd ha (hk' k)
       | «syntax» => rfl
       | range => rfl
    | true =>
     simp only [up64 (show i < 1000000 by omega), go_sem, Nat.reduceEqDiff, Nat.reduceAdd, Nat.reduceLeDiff, List.length_map, Int.reduceLT, Int.reduceLE, Int.reduceToNat, Int.toNat_zero, Int.le_refl, Int.reduceAdd, decide_true, decide_false, Nat.reduceMul, Nat.reduceLT, Nat.lt_irrefl, true_and, and_self, ↓reduceIte]
     refine invN_next hlt' (fun j hj => ?_) (by simp only [go_sem, Nat.reduceEqDiff, Nat.reduceAdd, Nat.reduceLeDiff, List.length_map, Int.reduceLT, Int.reduceLE, Int.reduceToNat, Int.toNat_zero, Int.le_refl, Int.reduceAdd, decide_true, decide_false, Nat.reduceMul, Nat.reduceLT, Nat.lt_irrefl, true_and, and_self, ↓reduceIte])
     rcases Nat.lt_or_ge j i with h | h
     ·exact hpi j h
     ·obtain rfl : j = i := by omega
      exact ⟨c, hc, by rw [dg, h48, h57]; rfl⟩
end Go.Proofs
