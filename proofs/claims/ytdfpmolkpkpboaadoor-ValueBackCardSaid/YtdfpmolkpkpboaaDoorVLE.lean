/- A part of the proof; what is proved stands in the last text. -/
import Derived.Test.YtdfpmolkpkpboaaDoorVLD
set_option linter.unusedVariables false
set_option maxRecDepth 2000
namespace Go.Proofs
open Go.Vm
set_option linter.unusedSimpArgs false
def valN (l : List UInt8) : Nat := l.foldl (fun a c => a * 10 + (c.toNat - 48)) 0
theorem valN_snoc (l : List UInt8) (c : UInt8) : valN (l ++ [c]) = valN l * 10 + (c.toNat - 48) := by simp [valN]
theorem valN_lt : ∀ (n : Nat) (l : List UInt8), l.length = n → (∀ c ∈ l, dg c = true) → valN l < 10 ^ n
 | 0, l, h, _ => by obtain rfl := List.length_eq_zero_iff.1 h; simp [valN]
 | n + 1, l, h, hd => by
  have hne : l ≠ [] := fun e => by rw [e] at h; simp at h
  rw [← List.dropLast_concat_getLast hne, valN_snoc]
  have h1 := valN_lt n l.dropLast (by simp; omega) (fun c hc => hd c (List.dropLast_subset l hc))
  have h2 := hd _ (List.getLast_mem hne)
  unfold dg at h2
  simp at h2
  rw [Nat.pow_succ]; omega
theorem negU (u : Nat) (h : u ≤ 9223372036854775808) : IntKind.i64.wrap (IntKind.i64.wrap (0 - IntKind.i64.wrap (IntKind.u64.wrap ((u : Int) - 1))) - 1) = -(u : Int) := by
 rcases Nat.eq_zero_or_pos u with rfl | h0
 ·decide
 ·rw [wrapU64 (n := (u : Int) - 1) (by omega) (by omega), wrap64 (n := (u : Int) - 1) (by omega) (by omega), wrap64 (n := 0 - ((u : Int) - 1)) (by omega) (by omega), wrap64 (by omega) (by omega)]; omega
def read2 (l : List UInt8) : ValM × Nat × Bool :=
 if l.head? == some 39 then (if (qr l (l.drop 1) [] 1).2.2 = true then (⟨2, 0, lb (qr l (l.drop 1) [] 1).1⟩, (qr l (l.drop 1) [] 1).2.1, true) else (zeroV, 0, false))
 else if numN l = 0 then (if sgn l = 1 then (zeroV, 1, true) else (zeroV, 0, false))
 else if ((l.drop (sgn l)).head? = some 48 ∧ 1 < sgn l + numN l) ∨ 19 < numN l then (zeroV, 0, false)
 else if (sgn l = 0 ∧ 9223372036854775807 < valN ((l.drop (sgn l)).take (numN l))) ∨ 9223372036854775808 < valN ((l.drop (sgn l)).take (numN l)) then (zeroV, 0, false)
 else if sgn l = 1 then (⟨1, -(valN ((l.drop (sgn l)).take (numN l)) : Int), lb []⟩, sgn l + numN l, true)
 else (⟨1, valN ((l.drop (sgn l)).take (numN l)), lb []⟩, sgn l + numN l, true)
set_option maxHeartbeats 16000000 in
theorem kref1Read (s : ByteArray) (hs : s.size ≤ 900) : PureAt Tryd.prog 11 [.val (.string s)] (· = triV (read2 (bl s))) := by
 refine pure_of r11 (by kernel_rfl) ?_
 unfold m11 read2
 have dl0 : decide ((s.size : Int) > 0) = decide (0 < s.size) := by rw [decide_eq_decide]; omega
 simp only [dl0, go_sem, Nat.reduceEqDiff, Nat.reduceAdd, Nat.reduceLeDiff, List.length_map, Int.reduceLT, Int.reduceLE, Int.reduceToNat, Int.toNat_zero, Int.le_refl, Int.reduceAdd, decide_true, decide_false, Nat.reduceMul, Nat.reduceLT, Nat.lt_irrefl, true_and, and_self, ↓reduceIte]
 cases hsz : decide (0 < s.size) with
 | false =>
  have hnil : bl s = [] := List.length_eq_zero_iff.1 (by rw [size_bl]; have := of_decide_eq_false hsz; omega)
  have h39 : ((bl s).head? == some 39) = false := by rw [hnil]; rfl
  rw [h39]
  simp only [dl0, hsz, go_sem, Nat.reduceEqDiff, Nat.reduceAdd, Nat.reduceLeDiff, List.length_map, Int.reduceLT, Int.reduceLE, Int.reduceToNat, Int.toNat_zero, Int.le_refl, Int.reduceAdd, decide_true, decide_false, Nat.reduceMul, Nat.reduceLT, Nat.lt_irrefl, true_and, and_self, ↓reduceIte]
  obtain ⟨sg, hsgd⟩ : ∃ sg, sgn (bl s) = sg := ⟨_, rfl⟩
  have hsgv : (0 : Nat) = sg := by rw [← hsgd, hnil]; rfl
  obtain ⟨ds, hdsd⟩ : ∃ ds, (bl s).drop sg = ds := ⟨_, rfl⟩
  have hsg1 : sg ≤ 1 := by omega
  rw [hsgd, hdsd]
  have hsg : sg ≤ s.size := by omega
  have hdl : ds.length = s.size - sg := by rw [← hdsd, List.length_drop, size_bl]
  have hsd : ∀ i : Nat, s.data[sg + i]? = ds[i]? := fun i => by
   rw [← hdsd, List.getElem?_drop]
   exact (Array.getElem?_toList (xs := s.data)).symm
  have hnum : numN (bl s) = (ds.takeWhile dg).length := by rw [numN, hsgd, hdsd]
  refine loop_N ds.length (fun i => ∀ j, j < i → ∃ c, ds[j]? = some c ∧ dg c = true) (fun i => ⟨[(0, .val (.string s)), (2, .ptr 2 0), (8, .val (.int .i64 sg)), (9, .val (.int .i64 (sg + i : Nat)))], [(2, [.val (.int .i64 0), .val (.int .i64 0), .val (.string ⟨#[]⟩)])], []⟩) (by simp) (by subst hsgv; simp only [go_sem, Nat.reduceEqDiff, Nat.reduceAdd, Nat.reduceLeDiff, List.length_map, Int.reduceLT, Int.reduceLE, Int.reduceToNat, Int.toNat_zero, Int.le_refl, Int.reduceAdd, decide_true, decide_false, Nat.reduceMul, Nat.reduceLT, Nat.lt_irrefl, true_and, and_self, ↓reduceIte]; rfl) ?_
  rintro i hil hpi
  have dlt : decide (((sg + i : Nat) : Int) < (s.size : Int)) = decide (i < ds.length) := by rw [decide_eq_decide, hdl]; omega
  simp only [dlt, go_sem, Nat.reduceEqDiff, Nat.reduceAdd, Nat.reduceLeDiff, List.length_map, Int.reduceLT, Int.reduceLE, Int.reduceToNat, Int.toNat_zero, Int.le_refl, Int.reduceAdd, decide_true, decide_false, Nat.reduceMul, Nat.reduceLT, Nat.lt_irrefl, true_and, and_self, ↓reduceIte]
  cases hlt : decide (i < ds.length) with
  | false =>
   have hlt' := of_decide_eq_false hlt
   have hN : numN (bl s) = i := by rw [hnum]; exact tw_len i ds hpi (fun c hc => by rw [List.getElem?_eq_none (by omega)] at hc; cases hc)
   have deq : (((sg + i : Nat) : Int) == (sg : Int)) = decide (i = 0) := by rw [Bool.eq_iff_iff, beq_iff_eq, decide_eq_true_eq]; omega
   have d1 : ((sg : Int) == 1) = decide (sg = 1) := by rw [Bool.eq_iff_iff, beq_iff_eq, decide_eq_true_eq]; omega
   simp only [deq, go_sem, Nat.reduceEqDiff, Nat.reduceAdd, Nat.reduceLeDiff, List.length_map, Int.reduceLT, Int.reduceLE, Int.reduceToNat, Int.toNat_zero, Int.le_refl, Int.reduceAdd, decide_true, decide_false, Nat.reduceMul, Nat.reduceLT, Nat.lt_irrefl, true_and, and_self, ↓reduceIte]
   by_cases hi0 : i = 0
   ·have hi0' : decide (i = 0) = true := by simp [hi0]
    simp only [hi0', d1, go_sem, Nat.reduceEqDiff, Nat.reduceAdd, Nat.reduceLeDiff, List.length_map, Int.reduceLT, Int.reduceLE, Int.reduceToNat, Int.toNat_zero, Int.le_refl, Int.reduceAdd, decide_true, decide_false, Nat.reduceMul, Nat.reduceLT, Nat.lt_irrefl, true_and, and_self, ↓reduceIte]
    rw [hN, if_pos hi0]
    cases hs1 : decide (sg = 1) with
    | true => simp only [go_sem, Nat.reduceEqDiff, Nat.reduceAdd, Nat.reduceLeDiff, List.length_map, Int.reduceLT, Int.reduceLE, Int.reduceToNat, Int.toNat_zero, Int.le_refl, Int.reduceAdd, decide_true, decide_false, Nat.reduceMul, Nat.reduceLT, Nat.lt_irrefl, true_and, and_self, ↓reduceIte]; rw [if_pos (of_decide_eq_true hs1)]; rfl
    | false => simp only [go_sem, Nat.reduceEqDiff, Nat.reduceAdd, Nat.reduceLeDiff, List.length_map, Int.reduceLT, Int.reduceLE, Int.reduceToNat, Int.toNat_zero, Int.le_refl, Int.reduceAdd, decide_true, decide_false, Nat.reduceMul, Nat.reduceLT, Nat.lt_irrefl, true_and, and_self, ↓reduceIte]; rw [if_neg (of_decide_eq_false hs1)]; rfl
   have hi0' : decide (i = 0) = false := by simp [hi0]
   obtain ⟨c0, hc0, hd0⟩ := hpi 0 (by omega)
   have hc0' : s.data[sg]? = some c0 := (hsd 0).trans hc0
   have hhd : ds.head? = some c0 := by rw [List.head?_eq_getElem?]; exact hc0
   have dz : ((c0.toNat : Int) == 48) = decide (c0 = 48) := dg_eq c0 48
   have dg1 : decide (((sg + i : Nat) : Int) > 1) = decide (1 < sg + i) := by rw [decide_eq_decide]; omega
   have wsub : IntKind.i64.wrap (((sg + i : Nat) : Int) - (sg : Int)) = (i : Int) := by rw [wrap64 (by omega) (by omega)]; omega
   have d19 : decide ((i : Int) > 19) = decide (19 < i) := by rw [decide_eq_decide]; omega
   rw [hN, if_neg hi0, hhd]
   simp only [hi0', nn0, Int.toNat_natCast, hc0', dz, go_sem, Nat.reduceEqDiff, Nat.reduceAdd, Nat.reduceLeDiff, List.length_map, Int.reduceLT, Int.reduceLE, Int.reduceToNat, Int.toNat_zero, Int.le_refl, Int.reduceAdd, decide_true, decide_false, Nat.reduceMul, Nat.reduceLT, Nat.lt_irrefl, true_and, and_self, ↓reduceIte]
   cases h0 : decide (c0 = 48) with
   | true =>
    have h0' := of_decide_eq_true h0
    simp only [dg1, go_sem, Nat.reduceEqDiff, Nat.reduceAdd, Nat.reduceLeDiff, List.length_map, Int.reduceLT, Int.reduceLE, Int.reduceToNat, Int.toNat_zero, Int.le_refl, Int.reduceAdd, decide_true, decide_false, Nat.reduceMul, Nat.reduceLT, Nat.lt_irrefl, true_and, and_self, ↓reduceIte]
    cases hi1 : decide (1 < sg + i) with
    | true =>
     simp only [go_sem, Nat.reduceEqDiff, Nat.reduceAdd, Nat.reduceLeDiff, List.length_map, Int.reduceLT, Int.reduceLE, Int.reduceToNat, Int.toNat_zero, Int.le_refl, Int.reduceAdd, decide_true, decide_false, Nat.reduceMul, Nat.reduceLT, Nat.lt_irrefl, true_and, and_self, ↓reduceIte]
     rw [if_pos (.inl ⟨by rw [h0'], of_decide_eq_true hi1⟩)]; rfl
    | false =>
     have hi19 : ¬ 19 < i := by have := of_decide_eq_false hi1; omega
     have hi19' : decide (19 < i) = false := by simp [hi19]
     simp only [wsub, d19, hi19', go_sem, Nat.reduceEqDiff, Nat.reduceAdd, Nat.reduceLeDiff, List.length_map, Int.reduceLT, Int.reduceLE, Int.reduceToNat, Int.toNat_zero, Int.le_refl, Int.reduceAdd, decide_true, decide_false, Nat.reduceMul, Nat.reduceLT, Nat.lt_irrefl, true_and, and_self, ↓reduceIte]
     rw [if_neg (fun h => h.elim (fun h => of_decide_eq_false hi1 h.2) hi19)]
     refine loop_N i (fun _ => True) (fun j => ⟨[(0, .val (.string s)), (2, .ptr 2 0), (8, .val (.int .i64 sg)), (9, .val (.int .i64 (sg + i : Nat))), (10, .val (.int .u64 (valN (ds.take j)))), (11, .val (.int .i64 (sg + j : Nat)))], [(2, [.val (.int .i64 0), .val (.int .i64 0), .val (.string ⟨#[]⟩)])], []⟩) trivial (by simp only [go_sem, Nat.reduceEqDiff, Nat.reduceAdd, Nat.reduceLeDiff, List.length_map, Int.reduceLT, Int.reduceLE, Int.reduceToNat, Int.toNat_zero, Int.le_refl, Int.reduceAdd, decide_true, decide_false, Nat.reduceMul, Nat.reduceLT, Nat.lt_irrefl, true_and, and_self, ↓reduceIte]; rfl) ?_
     rintro j hj -
     have dj : decide (((sg + j : Nat) : Int) < ((sg + i : Nat) : Int)) = decide (j < i) := by rw [decide_eq_decide]; omega
     have hdt : ∀ k, k ≤ i → ∀ c ∈ ds.take k, dg c = true := fun k hk c hc => by
      obtain ⟨m, hm, rfl⟩ := List.getElem_of_mem hc
      obtain ⟨c', h1, h2⟩ := hpi m (by simp at hm; omega)
      rw [List.getElem_take]
      rw [List.getElem?_eq_some_iff] at h1
      obtain ⟨_, rfl⟩ := h1; exact h2
     have hvl : ∀ k, k ≤ i → valN (ds.take k) < 10 ^ k := fun k hk => valN_lt k _ (by rw [List.length_take]; omega) (hdt k hk)
     simp only [dj, go_sem, Nat.reduceEqDiff, Nat.reduceAdd, Nat.reduceLeDiff, List.length_map, Int.reduceLT, Int.reduceLE, Int.reduceToNat, Int.toNat_zero, Int.le_refl, Int.reduceAdd, decide_true, decide_false, Nat.reduceMul, Nat.reduceLT, Nat.lt_irrefl, true_and, and_self, ↓reduceIte]
     cases hji : decide (j < i) with
     | true =>
      have hji' := of_decide_eq_true hji
      obtain ⟨c, hc, hdc⟩ := hpi j hji'
      have hgc : s.data[sg + j]? = some c := (hsd j).trans hc
      have hc48 : 48 ≤ c.toNat ∧ c.toNat ≤ 57 := by unfold dg at hdc; simpa using hdc
      have v1 := hvl j (by omega)
      have v2 : (10 : Nat) ^ j ≤ 10 ^ 18 := Nat.pow_le_pow_right (by omega) (by omega)
      have u1 : IntKind.u64.wrap (((valN (ds.take j) : Nat) : Int) * 10) = ((valN (ds.take j) * 10 : Nat) : Int) := by rw [wrapU64 (by omega) (by omega)]; omega
      have u2 : IntKind.u8.wrap ((c.toNat : Int) - 48) = ((c.toNat - 48 : Nat) : Int) := by rw [wrapU8 (by omega) (by omega)]; omega
      have u3 : IntKind.u64.wrap ((c.toNat - 48 : Nat) : Int) = ((c.toNat - 48 : Nat) : Int) := wrapU64 (by omega) (by omega)
      have u4 : IntKind.u64.wrap (((valN (ds.take j) * 10 : Nat) : Int) + ((c.toNat - 48 : Nat) : Int)) = ((valN (ds.take (j + 1)) : Nat) : Int) := by
       have hjl := (List.getElem?_eq_some_iff.1 hc).1
       have e : ds.take (j + 1) = ds.take j ++ [c] := by rw [List.take_add_one, hc]; rfl
       rw [e, valN_snoc, wrapU64 (by omega) (by omega)]; omega
      have u5 : IntKind.i64.wrap (((sg + j : Nat) : Int) + 1) = ((sg + (j + 1) : Nat) : Int) := by rw [wrap64 (by omega) (by omega)]; omega
      simp only [nn0, Int.toNat_natCast, hgc, u1, u2, u3, u4, u5, go_sem, Nat.reduceEqDiff, Nat.reduceAdd, Nat.reduceLeDiff, List.length_map, Int.reduceLT, Int.reduceLE, Int.reduceToNat, Int.toNat_zero, Int.le_refl, Int.reduceAdd, decide_true, decide_false, Nat.reduceMul, Nat.reduceLT, Nat.lt_irrefl, true_and, and_self, ↓reduceIte]
      exact invN_next hji' trivial (by simp only [go_sem, Nat.reduceEqDiff, Nat.reduceAdd, Nat.reduceLeDiff, List.length_map, Int.reduceLT, Int.reduceLE, Int.reduceToNat, Int.toNat_zero, Int.le_refl, Int.reduceAdd, decide_true, decide_false, Nat.reduceMul, Nat.reduceLT, Nat.lt_irrefl, true_and, and_self, ↓reduceIte])
     | false =>
      have hji' : j = i := by have := of_decide_eq_false hji; omega
      subst hji'
      have v1 := hvl j (by omega)
      have v2 : (10 : Nat) ^ j ≤ 10 ^ 19 := Nat.pow_le_pow_right (by omega) (by omega)
      have z0 : ((sg : Int) == 0) = decide (sg = 0) := by rw [Bool.eq_iff_iff, beq_iff_eq, decide_eq_true_eq]; omega
      have z1 : ((sg : Int) == 1) = decide (sg = 1) := by rw [Bool.eq_iff_iff, beq_iff_eq, decide_eq_true_eq]; omega
      generalize hu : valN (ds.take j) = u at *
      have g7 : decide ((u : Int) > 9223372036854775807) = decide (9223372036854775807 < u) := by rw [decide_eq_decide]; omega
      have g8 : decide ((u : Int) > 9223372036854775808) = decide (9223372036854775808 < u) := by rw [decide_eq_decide]; omega
      simp only [z0, go_sem, Nat.reduceEqDiff, Nat.reduceAdd, Nat.reduceLeDiff, List.length_map, Int.reduceLT, Int.reduceLE, Int.reduceToNat, Int.toNat_zero, Int.le_refl, Int.reduceAdd, decide_true, decide_false, Nat.reduceMul, Nat.reduceLT, Nat.lt_irrefl, true_and, and_self, ↓reduceIte]
      cases hz0 : decide (sg = 0) with
      | true =>
       have hz0' := of_decide_eq_true hz0
       have hz1 : decide (sg = 1) = false := by simp; omega
       simp only [g7, go_sem, Nat.reduceEqDiff, Nat.reduceAdd, Nat.reduceLeDiff, List.length_map, Int.reduceLT, Int.reduceLE, Int.reduceToNat, Int.toNat_zero, Int.le_refl, Int.reduceAdd, decide_true, decide_false, Nat.reduceMul, Nat.reduceLT, Nat.lt_irrefl, true_and, and_self, ↓reduceIte]
       cases h7 : decide (9223372036854775807 < u) with
       | true =>
        simp only [go_sem, Nat.reduceEqDiff, Nat.reduceAdd, Nat.reduceLeDiff, List.length_map, Int.reduceLT, Int.reduceLE, Int.reduceToNat, Int.toNat_zero, Int.le_refl, Int.reduceAdd, decide_true, decide_false, Nat.reduceMul, Nat.reduceLT, Nat.lt_irrefl, true_and, and_self, ↓reduceIte]
        rw [if_pos (.inl ⟨hz0', of_decide_eq_true h7⟩)]; rfl
       | false =>
        have h7' := of_decide_eq_false h7
        have h8 : decide (9223372036854775808 < u) = false := by simp; omega
        have wi : IntKind.i64.wrap (u : Int) = (u : Int) := wrap64 (by omega) (by omega)
        simp only [g8, h8, z1, hz1, wi, go_sem, Nat.reduceEqDiff, Nat.reduceAdd, Nat.reduceLeDiff, List.length_map, Int.reduceLT, Int.reduceLE, Int.reduceToNat, Int.toNat_zero, Int.le_refl, Int.reduceAdd, decide_true, decide_false, Nat.reduceMul, Nat.reduceLT, Nat.lt_irrefl, true_and, and_self, ↓reduceIte]
        rw [if_neg (by omega), if_neg (by omega)]; rfl
      | false =>
       have hz0' := of_decide_eq_false hz0
       have hz1 : decide (sg = 1) = true := by simp; omega
       simp only [g8, go_sem, Nat.reduceEqDiff, Nat.reduceAdd, Nat.reduceLeDiff, List.length_map, Int.reduceLT, Int.reduceLE, Int.reduceToNat, Int.toNat_zero, Int.le_refl, Int.reduceAdd, decide_true, decide_false, Nat.reduceMul, Nat.reduceLT, Nat.lt_irrefl, true_and, and_self, ↓reduceIte]
       cases h8 : decide (9223372036854775808 < u) with
       | true =>
        simp only [go_sem, Nat.reduceEqDiff, Nat.reduceAdd, Nat.reduceLeDiff, List.length_map, Int.reduceLT, Int.reduceLE, Int.reduceToNat, Int.toNat_zero, Int.le_refl, Int.reduceAdd, decide_true, decide_false, Nat.reduceMul, Nat.reduceLT, Nat.lt_irrefl, true_and, and_self, ↓reduceIte]
        rw [if_pos (.inr (of_decide_eq_true h8))]; rfl
       | false =>
        have h8' := of_decide_eq_false h8
        simp only [z1, hz1, negU u (by omega), go_sem, Nat.reduceEqDiff, Nat.reduceAdd, Nat.reduceLeDiff, List.length_map, Int.reduceLT, Int.reduceLE, Int.reduceToNat, Int.toNat_zero, Int.le_refl, Int.reduceAdd, decide_true, decide_false, Nat.reduceMul, Nat.reduceLT, Nat.lt_irrefl, true_and, and_self, ↓reduceIte]
        rw [if_neg (by omega), if_pos (by omega)]; rfl
   | false =>
    have h0' := of_decide_eq_false h0
    simp only [wsub, d19, go_sem, Nat.reduceEqDiff, Nat.reduceAdd, Nat.reduceLeDiff, List.length_map, Int.reduceLT, Int.reduceLE, Int.reduceToNat, Int.toNat_zero, Int.le_refl, Int.reduceAdd, decide_true, decide_false, Nat.reduceMul, Nat.reduceLT, Nat.lt_irrefl, true_and, and_self, ↓reduceIte]
    cases hi19' : decide (19 < i) with
    | true =>
     simp only [go_sem, Nat.reduceEqDiff, Nat.reduceAdd, Nat.reduceLeDiff, List.length_map, Int.reduceLT, Int.reduceLE, Int.reduceToNat, Int.toNat_zero, Int.le_refl, Int.reduceAdd, decide_true, decide_false, Nat.reduceMul, Nat.reduceLT, Nat.lt_irrefl, true_and, and_self, ↓reduceIte]
     rw [if_pos (.inr (of_decide_eq_true hi19'))]; rfl
    | false =>
     have hi19 := of_decide_eq_false hi19'
     simp only [go_sem, Nat.reduceEqDiff, Nat.reduceAdd, Nat.reduceLeDiff, List.length_map, Int.reduceLT, Int.reduceLE, Int.reduceToNat, Int.toNat_zero, Int.le_refl, Int.reduceAdd, decide_true, decide_false, Nat.reduceMul, Nat.reduceLT, Nat.lt_irrefl, true_and, and_self, ↓reduceIte]
     rw [if_neg (fun h => h.elim (fun h => h0' (by simpa using h.1)) hi19)]
     refine loop_N i (fun _ => True) (fun j => ⟨[(0, .val (.string s)), (2, .ptr 2 0), (8, .val (.int .i64 sg)), (9, .val (.int .i64 (sg + i : Nat))), (10, .val (.int .u64 (valN (ds.take j)))), (11, .val (.int .i64 (sg + j : Nat)))], [(2, [.val (.int .i64 0), .val (.int .i64 0), .val (.string ⟨#[]⟩)])], []⟩) trivial (by simp only [go_sem, Nat.reduceEqDiff, Nat.reduceAdd, Nat.reduceLeDiff, List.length_map, Int.reduceLT, Int.reduceLE, Int.reduceToNat, Int.toNat_zero, Int.le_refl, Int.reduceAdd, decide_true, decide_false, Nat.reduceMul, Nat.reduceLT, Nat.lt_irrefl, true_and, and_self, ↓reduceIte]; rfl) ?_
     rintro j hj -
     have dj : decide (((sg + j : Nat) : Int) < ((sg + i : Nat) : Int)) = decide (j < i) := by rw [decide_eq_decide]; omega
     have hdt : ∀ k, k ≤ i → ∀ c ∈ ds.take k, dg c = true := fun k hk c hc => by
      obtain ⟨m, hm, rfl⟩ := List.getElem_of_mem hc
      obtain ⟨c', h1, h2⟩ := hpi m (by simp at hm; omega)
      rw [List.getElem_take]
      rw [List.getElem?_eq_some_iff] at h1
      obtain ⟨_, rfl⟩ := h1; exact h2
     have hvl : ∀ k, k ≤ i → valN (ds.take k) < 10 ^ k := fun k hk => valN_lt k _ (by rw [List.length_take]; omega) (hdt k hk)
     simp only [dj, go_sem, Nat.reduceEqDiff, Nat.reduceAdd, Nat.reduceLeDiff, List.length_map, Int.reduceLT, Int.reduceLE, Int.reduceToNat, Int.toNat_zero, Int.le_refl, Int.reduceAdd, decide_true, decide_false, Nat.reduceMul, Nat.reduceLT, Nat.lt_irrefl, true_and, and_self, ↓reduceIte]
     cases hji : decide (j < i) with
     | true =>
      have hji' := of_decide_eq_true hji
      obtain ⟨c, hc, hdc⟩ := hpi j hji'
      have hgc : s.data[sg + j]? = some c := (hsd j).trans hc
      have hc48 : 48 ≤ c.toNat ∧ c.toNat ≤ 57 := by unfold dg at hdc; simpa using hdc
      have v1 := hvl j (by omega)
      have v2 : (10 : Nat) ^ j ≤ 10 ^ 18 := Nat.pow_le_pow_right (by omega) (by omega)
      have u1 : IntKind.u64.wrap (((valN (ds.take j) : Nat) : Int) * 10) = ((valN (ds.take j) * 10 : Nat) : Int) := by rw [wrapU64 (by omega) (by omega)]; omega
      have u2 : IntKind.u8.wrap ((c.toNat : Int) - 48) = ((c.toNat - 48 : Nat) : Int) := by rw [wrapU8 (by omega) (by omega)]; omega
      have u3 : IntKind.u64.wrap ((c.toNat - 48 : Nat) : Int) = ((c.toNat - 48 : Nat) : Int) := wrapU64 (by omega) (by omega)
      have u4 : IntKind.u64.wrap (((valN (ds.take j) * 10 : Nat) : Int) + ((c.toNat - 48 : Nat) : Int)) = ((valN (ds.take (j + 1)) : Nat) : Int) := by
       have hjl := (List.getElem?_eq_some_iff.1 hc).1
       have e : ds.take (j + 1) = ds.take j ++ [c] := by rw [List.take_add_one, hc]; rfl
       rw [e, valN_snoc, wrapU64 (by omega) (by omega)]; omega
      have u5 : IntKind.i64.wrap (((sg + j : Nat) : Int) + 1) = ((sg + (j + 1) : Nat) : Int) := by rw [wrap64 (by omega) (by omega)]; omega
      simp only [nn0, Int.toNat_natCast, hgc, u1, u2, u3, u4, u5, go_sem, Nat.reduceEqDiff, Nat.reduceAdd, Nat.reduceLeDiff, List.length_map, Int.reduceLT, Int.reduceLE, Int.reduceToNat, Int.toNat_zero, Int.le_refl, Int.reduceAdd, decide_true, decide_false, Nat.reduceMul, Nat.reduceLT, Nat.lt_irrefl, true_and, and_self, ↓reduceIte]
      exact invN_next hji' trivial (by simp only [go_sem, Nat.reduceEqDiff, Nat.reduceAdd, Nat.reduceLeDiff, List.length_map, Int.reduceLT, Int.reduceLE, Int.reduceToNat, Int.toNat_zero, Int.le_refl, Int.reduceAdd, decide_true, decide_false, Nat.reduceMul, Nat.reduceLT, Nat.lt_irrefl, true_and, and_self, ↓reduceIte])
     | false =>
      have hji' : j = i := by have := of_decide_eq_false hji; omega
      subst hji'
      have v1 := hvl j (by omega)
      have v2 : (10 : Nat) ^ j ≤ 10 ^ 19 := Nat.pow_le_pow_right (by omega) (by omega)
      have z0 : ((sg : Int) == 0) = decide (sg = 0) := by rw [Bool.eq_iff_iff, beq_iff_eq, decide_eq_true_eq]; omega
      have z1 : ((sg : Int) == 1) = decide (sg = 1) := by rw [Bool.eq_iff_iff, beq_iff_eq, decide_eq_true_eq]; omega
      generalize hu : valN (ds.take j) = u at *
      have g7 : decide ((u : Int) > 9223372036854775807) = decide (9223372036854775807 < u) := by rw [decide_eq_decide]; omega
      have g8 : decide ((u : Int) > 9223372036854775808) = decide (9223372036854775808 < u) := by rw [decide_eq_decide]; omega
      simp only [z0, go_sem, Nat.reduceEqDiff, Nat.reduceAdd, Nat.reduceLeDiff, List.length_map, Int.reduceLT, Int.reduceLE, Int.reduceToNat, Int.toNat_zero, Int.le_refl, Int.reduceAdd, decide_true, decide_false, Nat.reduceMul, Nat.reduceLT, Nat.lt_irrefl, true_and, and_self, ↓reduceIte]
      cases hz0 : decide (sg = 0) with
      | true =>
       have hz0' := of_decide_eq_true hz0
       have hz1 : decide (sg = 1) = false := by simp; omega
       simp only [g7, go_sem, Nat.reduceEqDiff, Nat.reduceAdd, Nat.reduceLeDiff, List.length_map, Int.reduceLT, Int.reduceLE, Int.reduceToNat, Int.toNat_zero, Int.le_refl, Int.reduceAdd, decide_true, decide_false, Nat.reduceMul, Nat.reduceLT, Nat.lt_irrefl, true_and, and_self, ↓reduceIte]
       cases h7 : decide (9223372036854775807 < u) with
       | true =>
        simp only [go_sem, Nat.reduceEqDiff, Nat.reduceAdd, Nat.reduceLeDiff, List.length_map, Int.reduceLT, Int.reduceLE, Int.reduceToNat, Int.toNat_zero, Int.le_refl, Int.reduceAdd, decide_true, decide_false, Nat.reduceMul, Nat.reduceLT, Nat.lt_irrefl, true_and, and_self, ↓reduceIte]
        rw [if_pos (.inl ⟨hz0', of_decide_eq_true h7⟩)]; rfl
       | false =>
        have h7' := of_decide_eq_false h7
        have h8 : decide (9223372036854775808 < u) = false := by simp; omega
        have wi : IntKind.i64.wrap (u : Int) = (u : Int) := wrap64 (by omega) (by omega)
        simp only [g8, h8, z1, hz1, wi, go_sem, Nat.reduceEqDiff, Nat.reduceAdd, Nat.reduceLeDiff, List.length_map, Int.reduceLT, Int.reduceLE, Int.reduceToNat, Int.toNat_zero, Int.le_refl, Int.reduceAdd, decide_true, decide_false, Nat.reduceMul, Nat.reduceLT, Nat.lt_irrefl, true_and, and_self, ↓reduceIte]
        rw [if_neg (by omega), if_neg (by omega)]; rfl
      | false =>
       have hz0' := of_decide_eq_false hz0
       have hz1 : decide (sg = 1) = true := by simp; omega
       simp only [g8, go_sem, Nat.reduceEqDiff, Nat.reduceAdd, Nat.reduceLeDiff, List.length_map, Int.reduceLT, Int.reduceLE, Int.reduceToNat, Int.toNat_zero, Int.le_refl, Int.reduceAdd, decide_true, decide_false, Nat.reduceMul, Nat.reduceLT, Nat.lt_irrefl, true_and, and_self, ↓reduceIte]
       cases h8 : decide (9223372036854775808 < u) with
       | true =>
        simp only [go_sem, Nat.reduceEqDiff, Nat.reduceAdd, Nat.reduceLeDiff, List.length_map, Int.reduceLT, Int.reduceLE, Int.reduceToNat, Int.toNat_zero, Int.le_refl, Int.reduceAdd, decide_true, decide_false, Nat.reduceMul, Nat.reduceLT, Nat.lt_irrefl, true_and, and_self, ↓reduceIte]
        rw [if_pos (.inr (of_decide_eq_true h8))]; rfl
       | false =>
        have h8' := of_decide_eq_false h8
        simp only [z1, hz1, negU u (by omega), go_sem, Nat.reduceEqDiff, Nat.reduceAdd, Nat.reduceLeDiff, List.length_map, Int.reduceLT, Int.reduceLE, Int.reduceToNat, Int.toNat_zero, Int.le_refl, Int.reduceAdd, decide_true, decide_false, Nat.reduceMul, Nat.reduceLT, Nat.lt_irrefl, true_and, and_self, ↓reduceIte]
        rw [if_neg (by omega), if_pos (by omega)]; rfl
  | true =>
   have hlt' := of_decide_eq_true hlt
   obtain ⟨c, hc⟩ : ∃ c, ds[i]? = some c := ⟨_, List.getElem?_eq_getElem hlt'⟩
   have hc' : s.data[sg + i]? = some c := (hsd i).trans hc
   have d48 : decide ((c.toNat : Int) ≥ 48) = decide (48 ≤ c.toNat) := by rw [decide_eq_decide]; omega
   have d57 : decide ((c.toNat : Int) ≤ 57) = decide (c.toNat ≤ 57) := by rw [decide_eq_decide]; omega
   simp only [nn0, Int.toNat_natCast, hc', d48, go_sem, Nat.reduceEqDiff, Nat.reduceAdd, Nat.reduceLeDiff, List.length_map, Int.reduceLT, Int.reduceLE, Int.reduceToNat, Int.toNat_zero, Int.le_refl, Int.reduceAdd, decide_true, decide_false, Nat.reduceMul, Nat.reduceLT, Nat.lt_irrefl, true_and, and_self, ↓reduceIte]
   cases h48 : decide (48 ≤ c.toNat) with
   | false =>
    have hN : numN (bl s) = i := by rw [hnum]; exact tw_len i ds hpi (fun c' hc1 => by rw [hc] at hc1; cases hc1; rw [dg, h48]; rfl)
    have deq : (((sg + i : Nat) : Int) == (sg : Int)) = decide (i = 0) := by rw [Bool.eq_iff_iff, beq_iff_eq, decide_eq_true_eq]; omega
    have d1 : ((sg : Int) == 1) = decide (sg = 1) := by rw [Bool.eq_iff_iff, beq_iff_eq, decide_eq_true_eq]; omega
    simp only [deq, go_sem, Nat.reduceEqDiff, Nat.reduceAdd, Nat.reduceLeDiff, List.length_map, Int.reduceLT, Int.reduceLE, Int.reduceToNat, Int.toNat_zero, Int.le_refl, Int.reduceAdd, decide_true, decide_false, Nat.reduceMul, Nat.reduceLT, Nat.lt_irrefl, true_and, and_self, ↓reduceIte]
    by_cases hi0 : i = 0
    ·have hi0' : decide (i = 0) = true := by simp [hi0]
     simp only [hi0', d1, go_sem, Nat.reduceEqDiff, Nat.reduceAdd, Nat.reduceLeDiff, List.length_map, Int.reduceLT, Int.reduceLE, Int.reduceToNat, Int.toNat_zero, Int.le_refl, Int.reduceAdd, decide_true, decide_false, Nat.reduceMul, Nat.reduceLT, Nat.lt_irrefl, true_and, and_self, ↓reduceIte]
     rw [hN, if_pos hi0]
     cases hs1 : decide (sg = 1) with
     | true => simp only [go_sem, Nat.reduceEqDiff, Nat.reduceAdd, Nat.reduceLeDiff, List.length_map, Int.reduceLT, Int.reduceLE, Int.reduceToNat, Int.toNat_zero, Int.le_refl, Int.reduceAdd, decide_true, decide_false, Nat.reduceMul, Nat.reduceLT, Nat.lt_irrefl, true_and, and_self, ↓reduceIte]; rw [if_pos (of_decide_eq_true hs1)]; rfl
     | false => simp only [go_sem, Nat.reduceEqDiff, Nat.reduceAdd, Nat.reduceLeDiff, List.length_map, Int.reduceLT, Int.reduceLE, Int.reduceToNat, Int.toNat_zero, Int.le_refl, Int.reduceAdd, decide_true, decide_false, Nat.reduceMul, Nat.reduceLT, Nat.lt_irrefl, true_and, and_self, ↓reduceIte]; rw [if_neg (of_decide_eq_false hs1)]; rfl
    have hi0' : decide (i = 0) = false := by simp [hi0]
    obtain ⟨c0, hc0, hd0⟩ := hpi 0 (by omega)
    have hc0' : s.data[sg]? = some c0 := (hsd 0).trans hc0
    have hhd : ds.head? = some c0 := by rw [List.head?_eq_getElem?]; exact hc0
    have dz : ((c0.toNat : Int) == 48) = decide (c0 = 48) := dg_eq c0 48
    have dg1 : decide (((sg + i : Nat) : Int) > 1) = decide (1 < sg + i) := by rw [decide_eq_decide]; omega
    have wsub : IntKind.i64.wrap (((sg + i : Nat) : Int) - (sg : Int)) = (i : Int) := by rw [wrap64 (by omega) (by omega)]; omega
    have d19 : decide ((i : Int) > 19) = decide (19 < i) := by rw [decide_eq_decide]; omega
    rw [hN, if_neg hi0, hhd]
    simp only [hi0', nn0, Int.toNat_natCast, hc0', dz, go_sem, Nat.reduceEqDiff, Nat.reduceAdd, Nat.reduceLeDiff, List.length_map, Int.reduceLT, Int.reduceLE, Int.reduceToNat, Int.toNat_zero, Int.le_refl, Int.reduceAdd, decide_true, decide_false, Nat.reduceMul, Nat.reduceLT, Nat.lt_irrefl, true_and, and_self, ↓reduceIte]
    cases h0 : decide (c0 = 48) with
    | true =>
     have h0' := of_decide_eq_true h0
     simp only [dg1, go_sem, Nat.reduceEqDiff, Nat.reduceAdd, Nat.reduceLeDiff, List.length_map, Int.reduceLT, Int.reduceLE, Int.reduceToNat, Int.toNat_zero, Int.le_refl, Int.reduceAdd, decide_true, decide_false, Nat.reduceMul, Nat.reduceLT, Nat.lt_irrefl, true_and, and_self, ↓reduceIte]
     cases hi1 : decide (1 < sg + i) with
     | true =>
      simp only [go_sem, Nat.reduceEqDiff, Nat.reduceAdd, Nat.reduceLeDiff, List.length_map, Int.reduceLT, Int.reduceLE, Int.reduceToNat, Int.toNat_zero, Int.le_refl, Int.reduceAdd, decide_true, decide_false, Nat.reduceMul, Nat.reduceLT, Nat.lt_irrefl, true_and, and_self, ↓reduceIte]
      rw [if_pos (.inl ⟨by rw [h0'], of_decide_eq_true hi1⟩)]; rfl
     | false =>
      have hi19 : ¬ 19 < i := by have := of_decide_eq_false hi1; omega
      have hi19' : decide (19 < i) = false := by simp [hi19]
      simp only [wsub, d19, hi19', go_sem, Nat.reduceEqDiff, Nat.reduceAdd, Nat.reduceLeDiff, List.length_map, Int.reduceLT, Int.reduceLE, Int.reduceToNat, Int.toNat_zero, Int.le_refl, Int.reduceAdd, decide_true, decide_false, Nat.reduceMul, Nat.reduceLT, Nat.lt_irrefl, true_and, and_self, ↓reduceIte]
      rw [if_neg (fun h => h.elim (fun h => of_decide_eq_false hi1 h.2) hi19)]
      refine loop_N i (fun _ => True) (fun j => ⟨[(0, .val (.string s)), (2, .ptr 2 0), (8, .val (.int .i64 sg)), (9, .val (.int .i64 (sg + i : Nat))), (10, .val (.int .u64 (valN (ds.take j)))), (11, .val (.int .i64 (sg + j : Nat)))], [(2, [.val (.int .i64 0), .val (.int .i64 0), .val (.string ⟨#[]⟩)])], []⟩) trivial (by simp only [go_sem, Nat.reduceEqDiff, Nat.reduceAdd, Nat.reduceLeDiff, List.length_map, Int.reduceLT, Int.reduceLE, Int.reduceToNat, Int.toNat_zero, Int.le_refl, Int.reduceAdd, decide_true, decide_false, Nat.reduceMul, Nat.reduceLT, Nat.lt_irrefl, true_and, and_self, ↓reduceIte]; rfl) ?_
      rintro j hj -
      have dj : decide (((sg + j : Nat) : Int) < ((sg + i : Nat) : Int)) = decide (j < i) := by rw [decide_eq_decide]; omega
      have hdt : ∀ k, k ≤ i → ∀ c ∈ ds.take k, dg c = true := fun k hk c hc => by
       obtain ⟨m, hm, rfl⟩ := List.getElem_of_mem hc
       obtain ⟨c', h1, h2⟩ := hpi m (by simp at hm; omega)
       rw [List.getElem_take]
       rw [List.getElem?_eq_some_iff] at h1
       obtain ⟨_, rfl⟩ := h1; exact h2
      have hvl : ∀ k, k ≤ i → valN (ds.take k) < 10 ^ k := fun k hk => valN_lt k _ (by rw [List.length_take]; omega) (hdt k hk)
      simp only [dj, go_sem, Nat.reduceEqDiff, Nat.reduceAdd, Nat.reduceLeDiff, List.length_map, Int.reduceLT, Int.reduceLE, Int.reduceToNat, Int.toNat_zero, Int.le_refl, Int.reduceAdd, decide_true, decide_false, Nat.reduceMul, Nat.reduceLT, Nat.lt_irrefl, true_and, and_self, ↓reduceIte]
      cases hji : decide (j < i) with
      | true =>
       have hji' := of_decide_eq_true hji
       obtain ⟨c, hc, hdc⟩ := hpi j hji'
       have hgc : s.data[sg + j]? = some c := (hsd j).trans hc
       have hc48 : 48 ≤ c.toNat ∧ c.toNat ≤ 57 := by unfold dg at hdc; simpa using hdc
       have v1 := hvl j (by omega)
       have v2 : (10 : Nat) ^ j ≤ 10 ^ 18 := Nat.pow_le_pow_right (by omega) (by omega)
       have u1 : IntKind.u64.wrap (((valN (ds.take j) : Nat) : Int) * 10) = ((valN (ds.take j) * 10 : Nat) : Int) := by rw [wrapU64 (by omega) (by omega)]; omega
       have u2 : IntKind.u8.wrap ((c.toNat : Int) - 48) = ((c.toNat - 48 : Nat) : Int) := by rw [wrapU8 (by omega) (by omega)]; omega
       have u3 : IntKind.u64.wrap ((c.toNat - 48 : Nat) : Int) = ((c.toNat - 48 : Nat) : Int) := wrapU64 (by omega) (by omega)
       have u4 : IntKind.u64.wrap (((valN (ds.take j) * 10 : Nat) : Int) + ((c.toNat - 48 : Nat) : Int)) = ((valN (ds.take (j + 1)) : Nat) : Int) := by
        have hjl := (List.getElem?_eq_some_iff.1 hc).1
        have e : ds.take (j + 1) = ds.take j ++ [c] := by rw [List.take_add_one, hc]; rfl
        rw [e, valN_snoc, wrapU64 (by omega) (by omega)]; omega
       have u5 : IntKind.i64.wrap (((sg + j : Nat) : Int) + 1) = ((sg + (j + 1) : Nat) : Int) := by rw [wrap64 (by omega) (by omega)]; omega
       simp only [nn0, Int.toNat_natCast, hgc, u1, u2, u3, u4, u5, go_sem, Nat.reduceEqDiff, Nat.reduceAdd, Nat.reduceLeDiff, List.length_map, Int.reduceLT, Int.reduceLE, Int.reduceToNat, Int.toNat_zero, Int.le_refl, Int.reduceAdd, decide_true, decide_false, Nat.reduceMul, Nat.reduceLT, Nat.lt_irrefl, true_and, and_self, ↓reduceIte]
       exact invN_next hji' trivial (by simp only [go_sem, Nat.reduceEqDiff, Nat.reduceAdd, Nat.reduceLeDiff, List.length_map, Int.reduceLT, Int.reduceLE, Int.reduceToNat, Int.toNat_zero, Int.le_refl, Int.reduceAdd, decide_true, decide_false, Nat.reduceMul, Nat.reduceLT, Nat.lt_irrefl, true_and, and_self, ↓reduceIte])
      | false =>
       have hji' : j = i := by have := of_decide_eq_false hji; omega
       subst hji'
       have v1 := hvl j (by omega)
       have v2 : (10 : Nat) ^ j ≤ 10 ^ 19 := Nat.pow_le_pow_right (by omega) (by omega)
       have z0 : ((sg : Int) == 0) = decide (sg = 0) := by rw [Bool.eq_iff_iff, beq_iff_eq, decide_eq_true_eq]; omega
       have z1 : ((sg : Int) == 1) = decide (sg = 1) := by rw [Bool.eq_iff_iff, beq_iff_eq, decide_eq_true_eq]; omega
       generalize hu : valN (ds.take j) = u at *
       have g7 : decide ((u : Int) > 9223372036854775807) = decide (9223372036854775807 < u) := by rw [decide_eq_decide]; omega
       have g8 : decide ((u : Int) > 9223372036854775808) = decide (9223372036854775808 < u) := by rw [decide_eq_decide]; omega
       simp only [z0, go_sem, Nat.reduceEqDiff, Nat.reduceAdd, Nat.reduceLeDiff, List.length_map, Int.reduceLT, Int.reduceLE, Int.reduceToNat, Int.toNat_zero, Int.le_refl, Int.reduceAdd, decide_true, decide_false, Nat.reduceMul, Nat.reduceLT, Nat.lt_irrefl, true_and, and_self, ↓reduceIte]
       cases hz0 : decide (sg = 0) with
       | true =>
        have hz0' := of_decide_eq_true hz0
        have hz1 : decide (sg = 1) = false := by simp; omega
        simp only [g7, go_sem, Nat.reduceEqDiff, Nat.reduceAdd, Nat.reduceLeDiff, List.length_map, Int.reduceLT, Int.reduceLE, Int.reduceToNat, Int.toNat_zero, Int.le_refl, Int.reduceAdd, decide_true, decide_false, Nat.reduceMul, Nat.reduceLT, Nat.lt_irrefl, true_and, and_self, ↓reduceIte]
        cases h7 : decide (9223372036854775807 < u) with
        | true =>
         simp only [go_sem, Nat.reduceEqDiff, Nat.reduceAdd, Nat.reduceLeDiff, List.length_map, Int.reduceLT, Int.reduceLE, Int.reduceToNat, Int.toNat_zero, Int.le_refl, Int.reduceAdd, decide_true, decide_false, Nat.reduceMul, Nat.reduceLT, Nat.lt_irrefl, true_and, and_self, ↓reduceIte]
         rw [if_pos (.inl ⟨hz0', of_decide_eq_true h7⟩)]; rfl
        | false =>
         have h7' := of_decide_eq_false h7
         have h8 : decide (9223372036854775808 < u) = false := by simp; omega
         have wi : IntKind.i64.wrap (u : Int) = (u : Int) := wrap64 (by omega) (by omega)
         simp only [g8, h8, z1, hz1, wi, go_sem, Nat.reduceEqDiff, Nat.reduceAdd, Nat.reduceLeDiff, List.length_map, Int.reduceLT, Int.reduceLE, Int.reduceToNat, Int.toNat_zero, Int.le_refl, Int.reduceAdd, decide_true, decide_false, Nat.reduceMul, Nat.reduceLT, Nat.lt_irrefl, true_and, and_self, ↓reduceIte]
         rw [if_neg (by omega), if_neg (by omega)]; rfl
       | false =>
        have hz0' := of_decide_eq_false hz0
        have hz1 : decide (sg = 1) = true := by simp; omega
        simp only [g8, go_sem, Nat.reduceEqDiff, Nat.reduceAdd, Nat.reduceLeDiff, List.length_map, Int.reduceLT, Int.reduceLE, Int.reduceToNat, Int.toNat_zero, Int.le_refl, Int.reduceAdd, decide_true, decide_false, Nat.reduceMul, Nat.reduceLT, Nat.lt_irrefl, true_and, and_self, ↓reduceIte]
        cases h8 : decide (9223372036854775808 < u) with
        | true =>
         simp only [go_sem, Nat.reduceEqDiff, Nat.reduceAdd, Nat.reduceLeDiff, List.length_map, Int.reduceLT, Int.reduceLE, Int.reduceToNat, Int.toNat_zero, Int.le_refl, Int.reduceAdd, decide_true, decide_false, Nat.reduceMul, Nat.reduceLT, Nat.lt_irrefl, true_and, and_self, ↓reduceIte]
         rw [if_pos (.inr (of_decide_eq_true h8))]; rfl
        | false =>
         have h8' := of_decide_eq_false h8
         simp only [z1, hz1, negU u (by omega), go_sem, Nat.reduceEqDiff, Nat.reduceAdd, Nat.reduceLeDiff, List.length_map, Int.reduceLT, Int.reduceLE, Int.reduceToNat, Int.toNat_zero, Int.le_refl, Int.reduceAdd, decide_true, decide_false, Nat.reduceMul, Nat.reduceLT, Nat.lt_irrefl, true_and, and_self, ↓reduceIte]
         rw [if_neg (by omega), if_pos (by omega)]; rfl
    | false =>
     have h0' := of_decide_eq_false h0
     simp only [wsub, d19, go_sem, Nat.reduceEqDiff, Nat.reduceAdd, Nat.reduceLeDiff, List.length_map, Int.reduceLT, Int.reduceLE, Int.reduceToNat, Int.toNat_zero, Int.le_refl, Int.reduceAdd, decide_true, decide_false, Nat.reduceMul, Nat.reduceLT, Nat.lt_irrefl, true_and, and_self, ↓reduceIte]
     cases hi19' : decide (19 < i) with
     | true =>
      simp only [go_sem, Nat.reduceEqDiff, Nat.reduceAdd, Nat.reduceLeDiff, List.length_map, Int.reduceLT, Int.reduceLE, Int.reduceToNat, Int.toNat_zero, Int.le_refl, Int.reduceAdd, decide_true, decide_false, Nat.reduceMul, Nat.reduceLT, Nat.lt_irrefl, true_and, and_self, ↓reduceIte]
      rw [if_pos (.inr (of_decide_eq_true hi19'))]; rfl
     | false =>
      have hi19 := of_decide_eq_false hi19'
      simp only [go_sem, Nat.reduceEqDiff, Nat.reduceAdd, Nat.reduceLeDiff, List.length_map, Int.reduceLT, Int.reduceLE, Int.reduceToNat, Int.toNat_zero, Int.le_refl, Int.reduceAdd, decide_true, decide_false, Nat.reduceMul, Nat.reduceLT, Nat.lt_irrefl, true_and, and_self, ↓reduceIte]
      rw [if_neg (fun h => h.elim (fun h => h0' (by simpa using h.1)) hi19)]
      refine loop_N i (fun _ => True) (fun j => ⟨[(0, .val (.string s)), (2, .ptr 2 0), (8, .val (.int .i64 sg)), (9, .val (.int .i64 (sg + i : Nat))), (10, .val (.int .u64 (valN (ds.take j)))), (11, .val (.int .i64 (sg + j : Nat)))], [(2, [.val (.int .i64 0), .val (.int .i64 0), .val (.string ⟨#[]⟩)])], []⟩) trivial (by simp only [go_sem, Nat.reduceEqDiff, Nat.reduceAdd, Nat.reduceLeDiff, List.length_map, Int.reduceLT, Int.reduceLE, Int.reduceToNat, Int.toNat_zero, Int.le_refl, Int.reduceAdd, decide_true, decide_false, Nat.reduceMul, Nat.reduceLT, Nat.lt_irrefl, true_and, and_self, ↓reduceIte]; rfl) ?_
      rintro j hj -
      have dj : decide (((sg + j : Nat) : Int) < ((sg + i : Nat) : Int)) = decide (j < i) := by rw [decide_eq_decide]; omega
      have hdt : ∀ k, k ≤ i → ∀ c ∈ ds.take k, dg c = true := fun k hk c hc => by
       obtain ⟨m, hm, rfl⟩ := List.getElem_of_mem hc
       obtain ⟨c', h1, h2⟩ := hpi m (by simp at hm; omega)
       rw [List.getElem_take]
       rw [List.getElem?_eq_some_iff] at h1
       obtain ⟨_, rfl⟩ := h1; exact h2
      have hvl : ∀ k, k ≤ i → valN (ds.take k) < 10 ^ k := fun k hk => valN_lt k _ (by rw [List.length_take]; omega) (hdt k hk)
      simp only [dj, go_sem, Nat.reduceEqDiff, Nat.reduceAdd, Nat.reduceLeDiff, List.length_map, Int.reduceLT, Int.reduceLE, Int.reduceToNat, Int.toNat_zero, Int.le_refl, Int.reduceAdd, decide_true, decide_false, Nat.reduceMul, Nat.reduceLT, Nat.lt_irrefl, true_and, and_self, ↓reduceIte]
      cases hji : decide (j < i) with
      | true =>
       have hji' := of_decide_eq_true hji
       obtain ⟨c, hc, hdc⟩ := hpi j hji'
       have hgc : s.data[sg + j]? = some c := (hsd j).trans hc
       have hc48 : 48 ≤ c.toNat ∧ c.toNat ≤ 57 := by unfold dg at hdc; simpa using hdc
       have v1 := hvl j (by omega)
       have v2 : (10 : Nat) ^ j ≤ 10 ^ 18 := Nat.pow_le_pow_right (by omega) (by omega)
       have u1 : IntKind.u64.wrap (((valN (ds.take j) : Nat) : Int) * 10) = ((valN (ds.take j) * 10 : Nat) : Int) := by rw [wrapU64 (by omega) (by omega)]; omega
       have u2 : IntKind.u8.wrap ((c.toNat : Int) - 48) = ((c.toNat - 48 : Nat) : Int) := by rw [wrapU8 (by omega) (by omega)]; omega
       have u3 : IntKind.u64.wrap ((c.toNat - 48 : Nat) : Int) = ((c.toNat - 48 : Nat) : Int) := wrapU64 (by omega) (by omega)
       have u4 : IntKind.u64.wrap (((valN (ds.take j) * 10 : Nat) : Int) + ((c.toNat - 48 : Nat) : Int)) = ((valN (ds.take (j + 1)) : Nat) : Int) := by
        have hjl := (List.getElem?_eq_some_iff.1 hc).1
        have e : ds.take (j + 1) = ds.take j ++ [c] := by rw [List.take_add_one, hc]; rfl
        rw [e, valN_snoc, wrapU64 (by omega) (by omega)]; omega
       have u5 : IntKind.i64.wrap (((sg + j : Nat) : Int) + 1) = ((sg + (j + 1) : Nat) : Int) := by rw [wrap64 (by omega) (by omega)]; omega
       simp only [nn0, Int.toNat_natCast, hgc, u1, u2, u3, u4, u5, go_sem, Nat.reduceEqDiff, Nat.reduceAdd, Nat.reduceLeDiff, List.length_map, Int.reduceLT, Int.reduceLE, Int.reduceToNat, Int.toNat_zero, Int.le_refl, Int.reduceAdd, decide_true, decide_false, Nat.reduceMul, Nat.reduceLT, Nat.lt_irrefl, true_and, and_self, ↓reduceIte]
       exact invN_next hji' trivial (by simp only [go_sem, Nat.reduceEqDiff, Nat.reduceAdd, Nat.reduceLeDiff, List.length_map, Int.reduceLT, Int.reduceLE, Int.reduceToNat, Int.toNat_zero, Int.le_refl, Int.reduceAdd, decide_true, decide_false, Nat.reduceMul, Nat.reduceLT, Nat.lt_irrefl, true_and, and_self, ↓reduceIte])
      | false =>
       have hji' : j = i := by have := of_decide_eq_false hji; omega
       subst hji'
       have v1 := hvl j (by omega)
       have v2 : (10 : Nat) ^ j ≤ 10 ^ 19 := Nat.pow_le_pow_right (by omega) (by omega)
       have z0 : ((sg : Int) == 0) = decide (sg = 0) := by rw [Bool.eq_iff_iff, beq_iff_eq, decide_eq_true_eq]; omega
       have z1 : ((sg : Int) == 1) = decide (sg = 1) := by rw [Bool.eq_iff_iff, beq_iff_eq, decide_eq_true_eq]; omega
       generalize hu : valN (ds.take j) = u at *
       have g7 : decide ((u : Int) > 9223372036854775807) = decide (9223372036854775807 < u) := by rw [decide_eq_decide]; omega
       have g8 : decide ((u : Int) > 9223372036854775808) = decide (9223372036854775808 < u) := by rw [decide_eq_decide]; omega
       simp only [z0, go_sem, Nat.reduceEqDiff, Nat.reduceAdd, Nat.reduceLeDiff, List.length_map, Int.reduceLT, Int.reduceLE, Int.reduceToNat, Int.toNat_zero, Int.le_refl, Int.reduceAdd, decide_true, decide_false, Nat.reduceMul, Nat.reduceLT, Nat.lt_irrefl, true_and, and_self, ↓reduceIte]
       cases hz0 : decide (sg = 0) with
       | true =>
        have hz0' := of_decide_eq_true hz0
        have hz1 : decide (sg = 1) = false := by simp; omega
        simp only [g7, go_sem, Nat.reduceEqDiff, Nat.reduceAdd, Nat.reduceLeDiff, List.length_map, Int.reduceLT, Int.reduceLE, Int.reduceToNat, Int.toNat_zero, Int.le_refl, Int.reduceAdd, decide_true, decide_false, Nat.reduceMul, Nat.reduceLT, Nat.lt_irrefl, true_and, and_self, ↓reduceIte]
        cases h7 : decide (9223372036854775807 < u) with
        | true =>
         simp only [go_sem, Nat.reduceEqDiff, Nat.reduceAdd, Nat.reduceLeDiff, List.length_map, Int.reduceLT, Int.reduceLE, Int.reduceToNat, Int.toNat_zero, Int.le_refl, Int.reduceAdd, decide_true, decide_false, Nat.reduceMul, Nat.reduceLT, Nat.lt_irrefl, true_and, and_self, ↓reduceIte]
         rw [if_pos (.inl ⟨hz0', of_decide_eq_true h7⟩)]; rfl
        | false =>
         have h7' := of_decide_eq_false h7
         have h8 : decide (9223372036854775808 < u) = false := by simp; omega
         have wi : IntKind.i64.wrap (u : Int) = (u : Int) := wrap64 (by omega) (by omega)
         simp only [g8, h8, z1, hz1, wi, go_sem, Nat.reduceEqDiff, Nat.reduceAdd, Nat.reduceLeDiff, List.length_map, Int.reduceLT, Int.reduceLE, Int.reduceToNat, Int.toNat_zero, Int.le_refl, Int.reduceAdd, decide_true, decide_false, Nat.reduceMul, Nat.reduceLT, Nat.lt_irrefl, true_and, and_self, ↓reduceIte]
         rw [if_neg (by omega), if_neg (by omega)]; rfl
       | false =>
        have hz0' := of_decide_eq_false hz0
        have hz1 : decide (sg = 1) = true := by simp; omega
        simp only [g8, go_sem, Nat.reduceEqDiff, Nat.reduceAdd, Nat.reduceLeDiff, List.length_map, Int.reduceLT, Int.reduceLE, Int.reduceToNat, Int.toNat_zero, Int.le_refl, Int.reduceAdd, decide_true, decide_false, Nat.reduceMul, Nat.reduceLT, Nat.lt_irrefl, true_and, and_self, ↓reduceIte]
        cases h8 : decide (9223372036854775808 < u) with
        | true =>
         simp only [go_sem, Nat.reduceEqDiff, Nat.reduceAdd, Nat.reduceLeDiff, List.length_map, Int.reduceLT, Int.reduceLE, Int.reduceToNat, Int.toNat_zero, Int.le_refl, Int.reduceAdd, decide_true, decide_false, Nat.reduceMul, Nat.reduceLT, Nat.lt_irrefl, true_and, and_self, ↓reduceIte]
         rw [if_pos (.inr (of_decide_eq_true h8))]; rfl
        | false =>
         have h8' := of_decide_eq_false h8
         simp only [z1, hz1, negU u (by omega), go_sem, Nat.reduceEqDiff, Nat.reduceAdd, Nat.reduceLeDiff, List.length_map, Int.reduceLT, Int.reduceLE, Int.reduceToNat, Int.toNat_zero, Int.le_refl, Int.reduceAdd, decide_true, decide_false, Nat.reduceMul, Nat.reduceLT, Nat.lt_irrefl, true_and, and_self, ↓reduceIte]
         rw [if_neg (by omega), if_pos (by omega)]; rfl
   | true =>
    simp only [nn0, Int.toNat_natCast, hc', d57, go_sem, Nat.reduceEqDiff, Nat.reduceAdd, Nat.reduceLeDiff, List.length_map, Int.reduceLT, Int.reduceLE, Int.reduceToNat, Int.toNat_zero, Int.le_refl, Int.reduceAdd, decide_true, decide_false, Nat.reduceMul, Nat.reduceLT, Nat.lt_irrefl, true_and, and_self, ↓reduceIte]
    cases h57 : decide (c.toNat ≤ 57) with
    | false =>
     have hN : numN (bl s) = i := by rw [hnum]; exact tw_len i ds hpi (fun c' hc1 => by rw [hc] at hc1; cases hc1; rw [dg, h48, h57]; rfl)
     have deq : (((sg + i : Nat) : Int) == (sg : Int)) = decide (i = 0) := by rw [Bool.eq_iff_iff, beq_iff_eq, decide_eq_true_eq]; omega
     have d1 : ((sg : Int) == 1) = decide (sg = 1) := by rw [Bool.eq_iff_iff, beq_iff_eq, decide_eq_true_eq]; omega
     simp only [deq, go_sem, Nat.reduceEqDiff, Nat.reduceAdd, Nat.reduceLeDiff, List.length_map, Int.reduceLT, Int.reduceLE, Int.reduceToNat, Int.toNat_zero, Int.le_refl, Int.reduceAdd, decide_true, decide_false, Nat.reduceMul, Nat.reduceLT, Nat.lt_irrefl, true_and, and_self, ↓reduceIte]
     by_cases hi0 : i = 0
     ·have hi0' : decide (i = 0) = true := by simp [hi0]
      simp only [hi0', d1, go_sem, Nat.reduceEqDiff, Nat.reduceAdd, Nat.reduceLeDiff, List.length_map, Int.reduceLT, Int.reduceLE, Int.reduceToNat, Int.toNat_zero, Int.le_refl, Int.reduceAdd, decide_true, decide_false, Nat.reduceMul, Nat.reduceLT, Nat.lt_irrefl, true_and, and_self, ↓reduceIte]
      rw [hN, if_pos hi0]
      cases hs1 : decide (sg = 1) with
      | true => simp only [go_sem, Nat.reduceEqDiff, Nat.reduceAdd, Nat.reduceLeDiff, List.length_map, Int.reduceLT, Int.reduceLE, Int.reduceToNat, Int.toNat_zero, Int.le_refl, Int.reduceAdd, decide_true, decide_false, Nat.reduceMul, Nat.reduceLT, Nat.lt_irrefl, true_and, and_self, ↓reduceIte]; rw [if_pos (of_decide_eq_true hs1)]; rfl
      | false => simp only [go_sem, Nat.reduceEqDiff, Nat.reduceAdd, Nat.reduceLeDiff, List.length_map, Int.reduceLT, Int.reduceLE, Int.reduceToNat, Int.toNat_zero, Int.le_refl, Int.reduceAdd, decide_true, decide_false, Nat.reduceMul, Nat.reduceLT, Nat.lt_irrefl, true_and, and_self, ↓reduceIte]; rw [if_neg (of_decide_eq_false hs1)]; rfl
     have hi0' : decide (i = 0) = false := by simp [hi0]
     obtain ⟨c0, hc0, hd0⟩ := hpi 0 (by omega)
     have hc0' : s.data[sg]? = some c0 := (hsd 0).trans hc0
     have hhd : ds.head? = some c0 := by rw [List.head?_eq_getElem?]; exact hc0
     have dz : ((c0.toNat : Int) == 48) = decide (c0 = 48) := dg_eq c0 48
     have dg1 : decide (((sg + i : Nat) : Int) > 1) = decide (1 < sg + i) := by rw [decide_eq_decide]; omega
     have wsub : IntKind.i64.wrap (((sg + i : Nat) : Int) - (sg : Int)) = (i : Int) := by rw [wrap64 (by omega) (by omega)]; omega
     have d19 : decide ((i : Int) > 19) = decide (19 < i) := by rw [decide_eq_decide]; omega
     rw [hN, if_neg hi0, hhd]
     simp only [hi0', nn0, Int.toNat_natCast, hc0', dz, go_sem, Nat.reduceEqDiff, Nat.reduceAdd, Nat.reduceLeDiff, List.length_map, Int.reduceLT, Int.reduceLE, Int.reduceToNat, Int.toNat_zero, Int.le_refl, Int.reduceAdd, decide_true, decide_false, Nat.reduceMul, Nat.reduceLT, Nat.lt_irrefl, true_and, and_self, ↓reduceIte]
     cases h0 : decide (c0 = 48) with
     | true =>
      have h0' := of_decide_eq_true h0
      simp only [dg1, go_sem, Nat.reduceEqDiff, Nat.reduceAdd, Nat.reduceLeDiff, List.length_map, Int.reduceLT, Int.reduceLE, Int.reduceToNat, Int.toNat_zero, Int.le_refl, Int.reduceAdd, decide_true, decide_false, Nat.reduceMul, Nat.reduceLT, Nat.lt_irrefl, true_and, and_self, ↓reduceIte]
      cases hi1 : decide (1 < sg + i) with
      | true =>
       simp only [go_sem, Nat.reduceEqDiff, Nat.reduceAdd, Nat.reduceLeDiff, List.length_map, Int.reduceLT, Int.reduceLE, Int.reduceToNat, Int.toNat_zero, Int.le_refl, Int.reduceAdd, decide_true, decide_false, Nat.reduceMul, Nat.reduceLT, Nat.lt_irrefl, true_and, and_self, ↓reduceIte]
       rw [if_pos (.inl ⟨by rw [h0'], of_decide_eq_true hi1⟩)]; rfl
      | false =>
       have hi19 : ¬ 19 < i := by have := of_decide_eq_false hi1; omega
       have hi19' : decide (19 < i) = false := by simp [hi19]
       simp only [wsub, d19, hi19', go_sem, Nat.reduceEqDiff, Nat.reduceAdd, Nat.reduceLeDiff, List.length_map, Int.reduceLT, Int.reduceLE, Int.reduceToNat, Int.toNat_zero, Int.le_refl, Int.reduceAdd, decide_true, decide_false, Nat.reduceMul, Nat.reduceLT, Nat.lt_irrefl, true_and, and_self, ↓reduceIte]
       rw [if_neg (fun h => h.elim (fun h => of_decide_eq_false hi1 h.2) hi19)]
       refine loop_N i (fun _ => True) (fun j => ⟨[(0, .val (.string s)), (2, .ptr 2 0), (8, .val (.int .i64 sg)), (9, .val (.int .i64 (sg + i : Nat))), (10, .val (.int .u64 (valN (ds.take j)))), (11, .val (.int .i64 (sg + j : Nat)))], [(2, [.val (.int .i64 0), .val (.int .i64 0), .val (.string ⟨#[]⟩)])], []⟩) trivial (by simp only [go_sem, Nat.reduceEqDiff, Nat.reduceAdd, Nat.reduceLeDiff, List.length_map, Int.reduceLT, Int.reduceLE, Int.reduceToNat, Int.toNat_zero, Int.le_refl, Int.reduceAdd, decide_true, decide_false, Nat.reduceMul, Nat.reduceLT, Nat.lt_irrefl, true_and, and_self, ↓reduceIte]; rfl) ?_
       rintro j hj -
       have dj : decide (((sg + j : Nat) : Int) < ((sg + i : Nat) : Int)) = decide (j < i) := by rw [decide_eq_decide]; omega
       have hdt : ∀ k, k ≤ i → ∀ c ∈ ds.take k, dg c = true := fun k hk c hc => by
        obtain ⟨m, hm, rfl⟩ := List.getElem_of_mem hc
        obtain ⟨c', h1, h2⟩ := hpi m (by simp at hm; omega)
        rw [List.getElem_take]
        rw [List.getElem?_eq_some_iff] at h1
        obtain ⟨_, rfl⟩ := h1; exact h2
       have hvl : ∀ k, k ≤ i → valN (ds.take k) < 10 ^ k := fun k hk => valN_lt k _ (by rw [List.length_take]; omega) (hdt k hk)
       simp only [dj, go_sem, Nat.reduceEqDiff, Nat.reduceAdd, Nat.reduceLeDiff, List.length_map, Int.reduceLT, Int.reduceLE, Int.reduceToNat, Int.toNat_zero, Int.le_refl, Int.reduceAdd, decide_true, decide_false, Nat.reduceMul, Nat.reduceLT, Nat.lt_irrefl, true_and, and_self, ↓reduceIte]
       cases hji : decide (j < i) with
       | true =>
        have hji' := of_decide_eq_true hji
        obtain ⟨c, hc, hdc⟩ := hpi j hji'
        have hgc : s.data[sg + j]? = some c := (hsd j).trans hc
        have hc48 : 48 ≤ c.toNat ∧ c.toNat ≤ 57 := by unfold dg at hdc; simpa using hdc
        have v1 := hvl j (by omega)
        have v2 : (10 : Nat) ^ j ≤ 10 ^ 18 := Nat.pow_le_pow_right (by omega) (by omega)
        have u1 : IntKind.u64.wrap (((valN (ds.take j) : Nat) : Int) * 10) = ((valN (ds.take j) * 10 : Nat) : Int) := by rw [wrapU64 (by omega) (by omega)]; omega
        have u2 : IntKind.u8.wrap ((c.toNat : Int) - 48) = ((c.toNat - 48 : Nat) : Int) := by rw [wrapU8 (by omega) (by omega)]; omega
        have u3 : IntKind.u64.wrap ((c.toNat - 48 : Nat) : Int) = ((c.toNat - 48 : Nat) : Int) := wrapU64 (by omega) (by omega)
        have u4 : IntKind.u64.wrap (((valN (ds.take j) * 10 : Nat) : Int) + ((c.toNat - 48 : Nat) : Int)) = ((valN (ds.take (j + 1)) : Nat) : Int) := by
         have hjl := (List.getElem?_eq_some_iff.1 hc).1
         have e : ds.take (j + 1) = ds.take j ++ [c] := by rw [List.take_add_one, hc]; rfl
         rw [e, valN_snoc, wrapU64 (by omega) (by omega)]; omega
        have u5 : IntKind.i64.wrap (((sg + j : Nat) : Int) + 1) = ((sg + (j + 1) : Nat) : Int) := by rw [wrap64 (by omega) (by omega)]; omega
        simp only [nn0, Int.toNat_natCast, hgc, u1, u2, u3, u4, u5, go_sem, Nat.reduceEqDiff, Nat.reduceAdd, Nat.reduceLeDiff, List.length_map, Int.reduceLT, Int.reduceLE, Int.reduceToNat, Int.toNat_zero, Int.le_refl, Int.reduceAdd, decide_true, decide_false, Nat.reduceMul, Nat.reduceLT, Nat.lt_irrefl, true_and, and_self, ↓reduceIte]
        exact invN_next hji' trivial (by simp only [go_sem, Nat.reduceEqDiff, Nat.reduceAdd, Nat.reduceLeDiff, List.length_map, Int.reduceLT, Int.reduceLE, Int.reduceToNat, Int.toNat_zero, Int.le_refl, Int.reduceAdd, decide_true, decide_false, Nat.reduceMul, Nat.reduceLT, Nat.lt_irrefl, true_and, and_self, ↓reduceIte])
       | false =>
        have hji' : j = i := by have := of_decide_eq_false hji; omega
        subst hji'
        have v1 := hvl j (by omega)
        have v2 : (10 : Nat) ^ j ≤ 10 ^ 19 := Nat.pow_le_pow_right (by omega) (by omega)
        have z0 : ((sg : Int) == 0) = decide (sg = 0) := by rw [Bool.eq_iff_iff, beq_iff_eq, decide_eq_true_eq]; omega
        have z1 : ((sg : Int) == 1) = decide (sg = 1) := by rw [Bool.eq_iff_iff, beq_iff_eq, decide_eq_true_eq]; omega
        generalize hu : valN (ds.take j) = u at *
        have g7 : decide ((u : Int) > 9223372036854775807) = decide (9223372036854775807 < u) := by rw [decide_eq_decide]; omega
        have g8 : decide ((u : Int) > 9223372036854775808) = decide (9223372036854775808 < u) := by rw [decide_eq_decide]; omega
        simp only [z0, go_sem, Nat.reduceEqDiff, Nat.reduceAdd, Nat.reduceLeDiff, List.length_map, Int.reduceLT, Int.reduceLE, Int.reduceToNat, Int.toNat_zero, Int.le_refl, Int.reduceAdd, decide_true, decide_false, Nat.reduceMul, Nat.reduceLT, Nat.lt_irrefl, true_and, and_self, ↓reduceIte]
        cases hz0 : decide (sg = 0) with
        | true =>
         have hz0' := of_decide_eq_true hz0
         have hz1 : decide (sg = 1) = false := by simp; omega
         simp only [g7, go_sem, Nat.reduceEqDiff, Nat.reduceAdd, Nat.reduceLeDiff, List.length_map, Int.reduceLT, Int.reduceLE, Int.reduceToNat, Int.toNat_zero, Int.le_refl, Int.reduceAdd, decide_true, decide_false, Nat.reduceMul, Nat.reduceLT, Nat.lt_irrefl, true_and, and_self, ↓reduceIte]
         cases h7 : decide (9223372036854775807 < u) with
         | true =>
          simp only [go_sem, Nat.reduceEqDiff, Nat.reduceAdd, Nat.reduceLeDiff, List.length_map, Int.reduceLT, Int.reduceLE, Int.reduceToNat, Int.toNat_zero, Int.le_refl, Int.reduceAdd, decide_true, decide_false, Nat.reduceMul, Nat.reduceLT, Nat.lt_irrefl, true_and, and_self, ↓reduceIte]
          rw [if_pos (.inl ⟨hz0', of_decide_eq_true h7⟩)]; rfl
         | false =>
          have h7' := of_decide_eq_false h7
          have h8 : decide (9223372036854775808 < u) = false := by simp; omega
          have wi : IntKind.i64.wrap (u : Int) = (u : Int) := wrap64 (by omega) (by omega)
          simp only [g8, h8, z1, hz1, wi, go_sem, Nat.reduceEqDiff, Nat.reduceAdd, Nat.reduceLeDiff, List.length_map, Int.reduceLT, Int.reduceLE, Int.reduceToNat, Int.toNat_zero, Int.le_refl, Int.reduceAdd, decide_true, decide_false, Nat.reduceMul, Nat.reduceLT, Nat.lt_irrefl, true_and, and_self, ↓reduceIte]
          rw [if_neg (by omega), if_neg (by omega)]; rfl
        | false =>
         have hz0' := of_decide_eq_false hz0
         have hz1 : decide (sg = 1) = true := by simp; omega
         simp only [g8, go_sem, Nat.reduceEqDiff, Nat.reduceAdd, Nat.reduceLeDiff, List.length_map, Int.reduceLT, Int.reduceLE, Int.reduceToNat, Int.toNat_zero, Int.le_refl, Int.reduceAdd, decide_true, decide_false, Nat.reduceMul, Nat.reduceLT, Nat.lt_irrefl, true_and, and_self, ↓reduceIte]
         cases h8 : decide (9223372036854775808 < u) with
         | true =>
          simp only [go_sem, Nat.reduceEqDiff, Nat.reduceAdd, Nat.reduceLeDiff, List.length_map, Int.reduceLT, Int.reduceLE, Int.reduceToNat, Int.toNat_zero, Int.le_refl, Int.reduceAdd, decide_true, decide_false, Nat.reduceMul, Nat.reduceLT, Nat.lt_irrefl, true_and, and_self, ↓reduceIte]
          rw [if_pos (.inr (of_decide_eq_true h8))]; rfl
         | false =>
          have h8' := of_decide_eq_false h8
          simp only [z1, hz1, negU u (by omega), go_sem, Nat.reduceEqDiff, Nat.reduceAdd, Nat.reduceLeDiff, List.length_map, Int.reduceLT, Int.reduceLE, Int.reduceToNat, Int.toNat_zero, Int.le_refl, Int.reduceAdd, decide_true, decide_false, Nat.reduceMul, Nat.reduceLT, Nat.lt_irrefl, true_and, and_self, ↓reduceIte]
          rw [if_neg (by omega), if_pos (by omega)]; rfl
     | false =>
      have h0' := of_decide_eq_false h0
      simp only [wsub, d19, go_sem, Nat.reduceEqDiff, Nat.reduceAdd, Nat.reduceLeDiff, List.length_map, Int.reduceLT, Int.reduceLE, Int.reduceToNat, Int.toNat_zero, Int.le_refl, Int.reduceAdd, decide_true, decide_false, Nat.reduceMul, Nat.reduceLT, Nat.lt_irrefl, true_and, and_self, ↓reduceIte]
      cases hi19' : decide (19 < i) with
      | true =>
       simp only [go_sem, Nat.reduceEqDiff, Nat.reduceAdd, Nat.reduceLeDiff, List.length_map, Int.reduceLT, Int.reduceLE, Int.reduceToNat, Int.toNat_zero, Int.le_refl, Int.reduceAdd, decide_true, decide_false, Nat.reduceMul, Nat.reduceLT, Nat.lt_irrefl, true_and, and_self, ↓reduceIte]
       rw [if_pos (.inr (of_decide_eq_true hi19'))]; rfl
      | false =>
       have hi19 := of_decide_eq_false hi19'
       simp only [go_sem, Nat.reduceEqDiff, Nat.reduceAdd, Nat.reduceLeDiff, List.length_map, Int.reduceLT, Int.reduceLE, Int.reduceToNat, Int.toNat_zero, Int.le_refl, Int.reduceAdd, decide_true, decide_false, Nat.reduceMul, Nat.reduceLT, Nat.lt_irrefl, true_and, and_self, ↓reduceIte]
       rw [if_neg (fun h => h.elim (fun h => h0' (by simpa using h.1)) hi19)]
       refine loop_N i (fun _ => True) (fun j => ⟨[(0, .val (.string s)), (2, .ptr 2 0), (8, .val (.int .i64 sg)), (9, .val (.int .i64 (sg + i : Nat))), (10, .val (.int .u64 (valN (ds.take j)))), (11, .val (.int .i64 (sg + j : Nat)))], [(2, [.val (.int .i64 0), .val (.int .i64 0), .val (.string ⟨#[]⟩)])], []⟩) trivial (by simp only [go_sem, Nat.reduceEqDiff, Nat.reduceAdd, Nat.reduceLeDiff, List.length_map, Int.reduceLT, Int.reduceLE, Int.reduceToNat, Int.toNat_zero, Int.le_refl, Int.reduceAdd, decide_true, decide_false, Nat.reduceMul, Nat.reduceLT, Nat.lt_irrefl, true_and, and_self, ↓reduceIte]; rfl) ?_
       rintro j hj -
       have dj : decide (((sg + j : Nat) : Int) < ((sg + i : Nat) : Int)) = decide (j < i) := by rw [decide_eq_decide]; omega
       have hdt : ∀ k, k ≤ i → ∀ c ∈ ds.take k, dg c = true := fun k hk c hc => by
        obtain ⟨m, hm, rfl⟩ := List.getElem_of_mem hc
        obtain ⟨c', h1, h2⟩ := hpi m (by simp at hm; omega)
        rw [List.getElem_take]
        rw [List.getElem?_eq_some_iff] at h1
        obtain ⟨_, rfl⟩ := h1; exact h2
       have hvl : ∀ k, k ≤ i → valN (ds.take k) < 10 ^ k := fun k hk => valN_lt k _ (by rw [List.length_take]; omega) (hdt k hk)
       simp only [dj, go_sem, Nat.reduceEqDiff, Nat.reduceAdd, Nat.reduceLeDiff, List.length_map, Int.reduceLT, Int.reduceLE, Int.reduceToNat, Int.toNat_zero, Int.le_refl, Int.reduceAdd, decide_true, decide_false, Nat.reduceMul, Nat.reduceLT, Nat.lt_irrefl, true_and, and_self, ↓reduceIte]
       cases hji : decide (j < i) with
       | true =>
        have hji' := of_decide_eq_true hji
        obtain ⟨c, hc, hdc⟩ := hpi j hji'
        have hgc : s.data[sg + j]? = some c := (hsd j).trans hc
        have hc48 : 48 ≤ c.toNat ∧ c.toNat ≤ 57 := by unfold dg at hdc; simpa using hdc
        have v1 := hvl j (by omega)
        have v2 : (10 : Nat) ^ j ≤ 10 ^ 18 := Nat.pow_le_pow_right (by omega) (by omega)
        have u1 : IntKind.u64.wrap (((valN (ds.take j) : Nat) : Int) * 10) = ((valN (ds.take j) * 10 : Nat) : Int) := by rw [wrapU64 (by omega) (by omega)]; omega
        have u2 : IntKind.u8.wrap ((c.toNat : Int) - 48) = ((c.toNat - 48 : Nat) : Int) := by rw [wrapU8 (by omega) (by omega)]; omega
        have u3 : IntKind.u64.wrap ((c.toNat - 48 : Nat) : Int) = ((c.toNat - 48 : Nat) : Int) := wrapU64 (by omega) (by omega)
        have u4 : IntKind.u64.wrap (((valN (ds.take j) * 10 : Nat) : Int) + ((c.toNat - 48 : Nat) : Int)) = ((valN (ds.take (j + 1)) : Nat) : Int) := by
         have hjl := (List.getElem?_eq_some_iff.1 hc).1
         have e : ds.take (j + 1) = ds.take j ++ [c] := by rw [List.take_add_one, hc]; rfl
         rw [e, valN_snoc, wrapU64 (by omega) (by omega)]; omega
        have u5 : IntKind.i64.wrap (((sg + j : Nat) : Int) + 1) = ((sg + (j + 1) : Nat) : Int) := by rw [wrap64 (by omega) (by omega)]; omega
        simp only [nn0, Int.toNat_natCast, hgc, u1, u2, u3, u4, u5, go_sem, Nat.reduceEqDiff, Nat.reduceAdd, Nat.reduceLeDiff, List.length_map, Int.reduceLT, Int.reduceLE, Int.reduceToNat, Int.toNat_zero, Int.le_refl, Int.reduceAdd, decide_true, decide_false, Nat.reduceMul, Nat.reduceLT, Nat.lt_irrefl, true_and, and_self, ↓reduceIte]
        exact invN_next hji' trivial (by simp only [go_sem, Nat.reduceEqDiff, Nat.reduceAdd, Nat.reduceLeDiff, List.length_map, Int.reduceLT, Int.reduceLE, Int.reduceToNat, Int.toNat_zero, Int.le_refl, Int.reduceAdd, decide_true, decide_false, Nat.reduceMul, Nat.reduceLT, Nat.lt_irrefl, true_and, and_self, ↓reduceIte])
       | false =>
        have hji' : j = i := by have := of_decide_eq_false hji; omega
        subst hji'
        have v1 := hvl j (by omega)
        have v2 : (10 : Nat) ^ j ≤ 10 ^ 19 := Nat.pow_le_pow_right (by omega) (by omega)
        have z0 : ((sg : Int) == 0) = decide (sg = 0) := by rw [Bool.eq_iff_iff, beq_iff_eq, decide_eq_true_eq]; omega
        have z1 : ((sg : Int) == 1) = decide (sg = 1) := by rw [Bool.eq_iff_iff, beq_iff_eq, decide_eq_true_eq]; omega
        generalize hu : valN (ds.take j) = u at *
        have g7 : decide ((u : Int) > 9223372036854775807) = decide (9223372036854775807 < u) := by rw [decide_eq_decide]; omega
        have g8 : decide ((u : Int) > 9223372036854775808) = decide (9223372036854775808 < u) := by rw [decide_eq_decide]; omega
        simp only [z0, go_sem, Nat.reduceEqDiff, Nat.reduceAdd, Nat.reduceLeDiff, List.length_map, Int.reduceLT, Int.reduceLE, Int.reduceToNat, Int.toNat_zero, Int.le_refl, Int.reduceAdd, decide_true, decide_false, Nat.reduceMul, Nat.reduceLT, Nat.lt_irrefl, true_and, and_self, ↓reduceIte]
        cases hz0 : decide (sg = 0) with
        | true =>
         have hz0' := of_decide_eq_true hz0
         have hz1 : decide (sg = 1) = false := by simp; omega
         simp only [g7, go_sem, Nat.reduceEqDiff, Nat.reduceAdd, Nat.reduceLeDiff, List.length_map, Int.reduceLT, Int.reduceLE, Int.reduceToNat, Int.toNat_zero, Int.le_refl, Int.reduceAdd, decide_true, decide_false, Nat.reduceMul, Nat.reduceLT, Nat.lt_irrefl, true_and, and_self, ↓reduceIte]
         cases h7 : decide (9223372036854775807 < u) with
         | true =>
          simp only [go_sem, Nat.reduceEqDiff, Nat.reduceAdd, Nat.reduceLeDiff, List.length_map, Int.reduceLT, Int.reduceLE, Int.reduceToNat, Int.toNat_zero, Int.le_refl, Int.reduceAdd, decide_true, decide_false, Nat.reduceMul, Nat.reduceLT, Nat.lt_irrefl, true_and, and_self, ↓reduceIte]
          rw [if_pos (.inl ⟨hz0', of_decide_eq_true h7⟩)]; rfl
         | false =>
          have h7' := of_decide_eq_false h7
          have h8 : decide (9223372036854775808 < u) = false := by simp; omega
          have wi : IntKind.i64.wrap (u : Int) = (u : Int) := wrap64 (by omega) (by omega)
          simp only [g8, h8, z1, hz1, wi, go_sem, Nat.reduceEqDiff, Nat.reduceAdd, Nat.reduceLeDiff, List.length_map, Int.reduceLT, Int.reduceLE, Int.reduceToNat, Int.toNat_zero, Int.le_refl, Int.reduceAdd, decide_true, decide_false, Nat.reduceMul, Nat.reduceLT, Nat.lt_irrefl, true_and, and_self, ↓reduceIte]
          rw [if_neg (by omega), if_neg (by omega)]; rfl
        | false =>
         have hz0' := of_decide_eq_false hz0
         have hz1 : decide (sg = 1) = true := by simp; omega
         simp only [g8, go_sem, Nat.reduceEqDiff, Nat.reduceAdd, Nat.reduceLeDiff, List.length_map, Int.reduceLT, Int.reduceLE, Int.reduceToNat, Int.toNat_zero, Int.le_refl, Int.reduceAdd, decide_true, decide_false, Nat.reduceMul, Nat.reduceLT, Nat.lt_irrefl, true_and, and_self, ↓reduceIte]
         cases h8 : decide (9223372036854775808 < u) with
         | true =>
          simp only [go_sem, Nat.reduceEqDiff, Nat.reduceAdd, Nat.reduceLeDiff, List.length_map, Int.reduceLT, Int.reduceLE, Int.reduceToNat, Int.toNat_zero, Int.le_refl, Int.reduceAdd, decide_true, decide_false, Nat.reduceMul, Nat.reduceLT, Nat.lt_irrefl, true_and, and_self, ↓reduceIte]
          rw [if_pos (.inr (of_decide_eq_true h8))]; rfl
         | false =>
          have h8' := of_decide_eq_false h8
          simp only [z1, hz1, negU u (by omega), go_sem, Nat.reduceEqDiff, Nat.reduceAdd, Nat.reduceLeDiff, List.length_map, Int.reduceLT, Int.reduceLE, Int.reduceToNat, Int.toNat_zero, Int.le_refl, Int.reduceAdd, decide_true, decide_false, Nat.reduceMul, Nat.reduceLT, Nat.lt_irrefl, true_and, and_self, ↓reduceIte]
          rw [if_neg (by omega), if_pos (by omega)]; rfl
    | true =>
     have up : IntKind.i64.wrap (((sg + i : Nat) : Int) + 1) = ((sg + (i + 1) : Nat) : Int) := by rw [wrap64 (by omega) (by omega)]; omega
     simp only [up, go_sem, Nat.reduceEqDiff, Nat.reduceAdd, Nat.reduceLeDiff, List.length_map, Int.reduceLT, Int.reduceLE, Int.reduceToNat, Int.toNat_zero, Int.le_refl, Int.reduceAdd, decide_true, decide_false, Nat.reduceMul, Nat.reduceLT, Nat.lt_irrefl, true_and, and_self, ↓reduceIte]
     refine invN_next hlt' (fun j hj => ?_) (by simp only [go_sem, Nat.reduceEqDiff, Nat.reduceAdd, Nat.reduceLeDiff, List.length_map, Int.reduceLT, Int.reduceLE, Int.reduceToNat, Int.toNat_zero, Int.le_refl, Int.reduceAdd, decide_true, decide_false, Nat.reduceMul, Nat.reduceLT, Nat.lt_irrefl, true_and, and_self, ↓reduceIte])
     rcases Nat.lt_or_ge j i with h | h
     ·exact hpi j h
     ·obtain rfl : j = i := by omega
      exact ⟨c, hc, by rw [dg, h48, h57]; rfl⟩
 | true =>
  have hsz' := of_decide_eq_true hsz
  have hlen : 0 < (bl s).length := by rw [size_bl]; exact hsz'
  have hg : s.data[0]? = some ((bl s)[0]) := by
   have : s.data.toList[0]? = some ((bl s)[0]) := List.getElem?_eq_getElem hlen
   rwa [Array.getElem?_toList] at this
  have hh : (bl s).head? = some ((bl s)[0]) := by rw [List.head?_eq_getElem?]; exact List.getElem?_eq_getElem hlen
  generalize (bl s)[0] = c at *
  have e39 : ((c.toNat : Int) == 39) = decide (c = 39) := dg_eq c 39
  have e45 : ((c.toNat : Int) == 45) = decide (c = 45) := dg_eq c 45
  simp only [hg, e39, go_sem, Nat.reduceEqDiff, Nat.reduceAdd, Nat.reduceLeDiff, List.length_map, Int.reduceLT, Int.reduceLE, Int.reduceToNat, Int.toNat_zero, Int.le_refl, Int.reduceAdd, decide_true, decide_false, Nat.reduceMul, Nat.reduceLT, Nat.lt_irrefl, true_and, and_self, ↓reduceIte]
  cases h39 : decide (c = 39) with
  | true =>
   have h39' : ((bl s).head? == some 39) = true := by rw [hh, of_decide_eq_true h39]; rfl
   rw [h39']
   simp only [go_sem, Nat.reduceEqDiff, Nat.reduceAdd, Nat.reduceLeDiff, List.length_map, Int.reduceLT, Int.reduceLE, Int.reduceToNat, Int.toNat_zero, Int.le_refl, Int.reduceAdd, decide_true, decide_false, Nat.reduceMul, Nat.reduceLT, Nat.lt_irrefl, true_and, and_self, ↓reduceIte]
   refine callP_eq rfl rfl (kref1Quoted s (by omega)) ?_
   simp only [triQ, tri, go_sem, Nat.reduceEqDiff, Nat.reduceAdd, Nat.reduceLeDiff, List.length_map, Int.reduceLT, Int.reduceLE, Int.reduceToNat, Int.toNat_zero, Int.le_refl, Int.reduceAdd, decide_true, decide_false, Nat.reduceMul, Nat.reduceLT, Nat.lt_irrefl, true_and, and_self, ↓reduceIte]
   cases hq : (qr (bl s) ((bl s).drop 1) [] 1).2.2 with
   | false => simp only [Bool.not_false, Bool.false_eq_true, go_sem, Nat.reduceEqDiff, Nat.reduceAdd, Nat.reduceLeDiff, List.length_map, Int.reduceLT, Int.reduceLE, Int.reduceToNat, Int.toNat_zero, Int.le_refl, Int.reduceAdd, decide_true, decide_false, Nat.reduceMul, Nat.reduceLT, Nat.lt_irrefl, true_and, and_self, ↓reduceIte]; rfl
   | true => simp only [Bool.not_true, go_sem, Nat.reduceEqDiff, Nat.reduceAdd, Nat.reduceLeDiff, List.length_map, Int.reduceLT, Int.reduceLE, Int.reduceToNat, Int.toNat_zero, Int.le_refl, Int.reduceAdd, decide_true, decide_false, Nat.reduceMul, Nat.reduceLT, Nat.lt_irrefl, true_and, and_self, ↓reduceIte]; rfl
  | false =>
   have h39' : ((bl s).head? == some 39) = false := by rw [hh]; simp; exact of_decide_eq_false h39
   rw [h39']
   simp only [dl0, hsz, hg, e45, go_sem, Nat.reduceEqDiff, Nat.reduceAdd, Nat.reduceLeDiff, List.length_map, Int.reduceLT, Int.reduceLE, Int.reduceToNat, Int.toNat_zero, Int.le_refl, Int.reduceAdd, decide_true, decide_false, Nat.reduceMul, Nat.reduceLT, Nat.lt_irrefl, true_and, and_self, ↓reduceIte]
   cases h45 : decide (c = 45) with
   | true =>
    obtain ⟨sg, hsgd⟩ : ∃ sg, sgn (bl s) = sg := ⟨_, rfl⟩
    have hsgv : (1 : Nat) = sg := by rw [← hsgd, sgn, hh, of_decide_eq_true h45]; rfl
    obtain ⟨ds, hdsd⟩ : ∃ ds, (bl s).drop sg = ds := ⟨_, rfl⟩
    have hsg1 : sg ≤ 1 := by omega
    rw [hsgd, hdsd]
    have hsg : sg ≤ s.size := by omega
    have hdl : ds.length = s.size - sg := by rw [← hdsd, List.length_drop, size_bl]
    have hsd : ∀ i : Nat, s.data[sg + i]? = ds[i]? := fun i => by
     rw [← hdsd, List.getElem?_drop]
     exact (Array.getElem?_toList (xs := s.data)).symm
    have hnum : numN (bl s) = (ds.takeWhile dg).length := by rw [numN, hsgd, hdsd]
    simp only [go_sem, Nat.reduceEqDiff, Nat.reduceAdd, Nat.reduceLeDiff, List.length_map, Int.reduceLT, Int.reduceLE, Int.reduceToNat, Int.toNat_zero, Int.le_refl, Int.reduceAdd, decide_true, decide_false, Nat.reduceMul, Nat.reduceLT, Nat.lt_irrefl, true_and, and_self, ↓reduceIte]
    refine loop_N ds.length (fun i => ∀ j, j < i → ∃ c, ds[j]? = some c ∧ dg c = true) (fun i => ⟨[(0, .val (.string s)), (2, .ptr 2 0), (8, .val (.int .i64 sg)), (9, .val (.int .i64 (sg + i : Nat)))], [(2, [.val (.int .i64 0), .val (.int .i64 0), .val (.string ⟨#[]⟩)])], []⟩) (by simp) (by subst hsgv; simp only [go_sem, Nat.reduceEqDiff, Nat.reduceAdd, Nat.reduceLeDiff, List.length_map, Int.reduceLT, Int.reduceLE, Int.reduceToNat, Int.toNat_zero, Int.le_refl, Int.reduceAdd, decide_true, decide_false, Nat.reduceMul, Nat.reduceLT, Nat.lt_irrefl, true_and, and_self, ↓reduceIte]; rfl) ?_
    rintro i hil hpi
    have dlt : decide (((sg + i : Nat) : Int) < (s.size : Int)) = decide (i < ds.length) := by rw [decide_eq_decide, hdl]; omega
    simp only [dlt, go_sem, Nat.reduceEqDiff, Nat.reduceAdd, Nat.reduceLeDiff, List.length_map, Int.reduceLT, Int.reduceLE, Int.reduceToNat, Int.toNat_zero, Int.le_refl, Int.reduceAdd, decide_true, decide_false, Nat.reduceMul, Nat.reduceLT, Nat.lt_irrefl, true_and, and_self, ↓reduceIte]
    cases hlt : decide (i < ds.length) with
    | false =>
     have hlt' := of_decide_eq_false hlt
     have hN : numN (bl s) = i := by rw [hnum]; exact tw_len i ds hpi (fun c hc => by rw [List.getElem?_eq_none (by omega)] at hc; cases hc)
     have deq : (((sg + i : Nat) : Int) == (sg : Int)) = decide (i = 0) := by rw [Bool.eq_iff_iff, beq_iff_eq, decide_eq_true_eq]; omega
     have d1 : ((sg : Int) == 1) = decide (sg = 1) := by rw [Bool.eq_iff_iff, beq_iff_eq, decide_eq_true_eq]; omega
     simp only [deq, go_sem, Nat.reduceEqDiff, Nat.reduceAdd, Nat.reduceLeDiff, List.length_map, Int.reduceLT, Int.reduceLE, Int.reduceToNat, Int.toNat_zero, Int.le_refl, Int.reduceAdd, decide_true, decide_false, Nat.reduceMul, Nat.reduceLT, Nat.lt_irrefl, true_and, and_self, ↓reduceIte]
     by_cases hi0 : i = 0
     ·have hi0' : decide (i = 0) = true := by simp [hi0]
      simp only [hi0', d1, go_sem, Nat.reduceEqDiff, Nat.reduceAdd, Nat.reduceLeDiff, List.length_map, Int.reduceLT, Int.reduceLE, Int.reduceToNat, Int.toNat_zero, Int.le_refl, Int.reduceAdd, decide_true, decide_false, Nat.reduceMul, Nat.reduceLT, Nat.lt_irrefl, true_and, and_self, ↓reduceIte]
      rw [hN, if_pos hi0]
      cases hs1 : decide (sg = 1) with
      | true => simp only [go_sem, Nat.reduceEqDiff, Nat.reduceAdd, Nat.reduceLeDiff, List.length_map, Int.reduceLT, Int.reduceLE, Int.reduceToNat, Int.toNat_zero, Int.le_refl, Int.reduceAdd, decide_true, decide_false, Nat.reduceMul, Nat.reduceLT, Nat.lt_irrefl, true_and, and_self, ↓reduceIte]; rw [if_pos (of_decide_eq_true hs1)]; rfl
      | false => simp only [go_sem, Nat.reduceEqDiff, Nat.reduceAdd, Nat.reduceLeDiff, List.length_map, Int.reduceLT, Int.reduceLE, Int.reduceToNat, Int.toNat_zero, Int.le_refl, Int.reduceAdd, decide_true, decide_false, Nat.reduceMul, Nat.reduceLT, Nat.lt_irrefl, true_and, and_self, ↓reduceIte]; rw [if_neg (of_decide_eq_false hs1)]; rfl
     have hi0' : decide (i = 0) = false := by simp [hi0]
     obtain ⟨c0, hc0, hd0⟩ := hpi 0 (by omega)
     have hc0' : s.data[sg]? = some c0 := (hsd 0).trans hc0
     have hhd : ds.head? = some c0 := by rw [List.head?_eq_getElem?]; exact hc0
     have dz : ((c0.toNat : Int) == 48) = decide (c0 = 48) := dg_eq c0 48
     have dg1 : decide (((sg + i : Nat) : Int) > 1) = decide (1 < sg + i) := by rw [decide_eq_decide]; omega
     have wsub : IntKind.i64.wrap (((sg + i : Nat) : Int) - (sg : Int)) = (i : Int) := by rw [wrap64 (by omega) (by omega)]; omega
     have d19 : decide ((i : Int) > 19) = decide (19 < i) := by rw [decide_eq_decide]; omega
     rw [hN, if_neg hi0, hhd]
     simp only [hi0', nn0, Int.toNat_natCast, hc0', dz, go_sem, Nat.reduceEqDiff, Nat.reduceAdd, Nat.reduceLeDiff, List.length_map, Int.reduceLT, Int.reduceLE, Int.reduceToNat, Int.toNat_zero, Int.le_refl, Int.reduceAdd, decide_true, decide_false, Nat.reduceMul, Nat.reduceLT, Nat.lt_irrefl, true_and, and_self, ↓reduceIte]
     cases h0 : decide (c0 = 48) with
     | true =>
      have h0' := of_decide_eq_true h0
      simp only [dg1, go_sem, Nat.reduceEqDiff, Nat.reduceAdd, Nat.reduceLeDiff, List.length_map, Int.reduceLT, Int.reduceLE, Int.reduceToNat, Int.toNat_zero, Int.le_refl, Int.reduceAdd, decide_true, decide_false, Nat.reduceMul, Nat.reduceLT, Nat.lt_irrefl, true_and, and_self, ↓reduceIte]
      cases hi1 : decide (1 < sg + i) with
      | true =>
       simp only [go_sem, Nat.reduceEqDiff, Nat.reduceAdd, Nat.reduceLeDiff, List.length_map, Int.reduceLT, Int.reduceLE, Int.reduceToNat, Int.toNat_zero, Int.le_refl, Int.reduceAdd, decide_true, decide_false, Nat.reduceMul, Nat.reduceLT, Nat.lt_irrefl, true_and, and_self, ↓reduceIte]
       rw [if_pos (.inl ⟨by rw [h0'], of_decide_eq_true hi1⟩)]; rfl
      | false =>
       have hi19 : ¬ 19 < i := by have := of_decide_eq_false hi1; omega
       have hi19' : decide (19 < i) = false := by simp [hi19]
       simp only [wsub, d19, hi19', go_sem, Nat.reduceEqDiff, Nat.reduceAdd, Nat.reduceLeDiff, List.length_map, Int.reduceLT, Int.reduceLE, Int.reduceToNat, Int.toNat_zero, Int.le_refl, Int.reduceAdd, decide_true, decide_false, Nat.reduceMul, Nat.reduceLT, Nat.lt_irrefl, true_and, and_self, ↓reduceIte]
       rw [if_neg (fun h => h.elim (fun h => of_decide_eq_false hi1 h.2) hi19)]
       refine loop_N i (fun _ => True) (fun j => ⟨[(0, .val (.string s)), (2, .ptr 2 0), (8, .val (.int .i64 sg)), (9, .val (.int .i64 (sg + i : Nat))), (10, .val (.int .u64 (valN (ds.take j)))), (11, .val (.int .i64 (sg + j : Nat)))], [(2, [.val (.int .i64 0), .val (.int .i64 0), .val (.string ⟨#[]⟩)])], []⟩) trivial (by simp only [go_sem, Nat.reduceEqDiff, Nat.reduceAdd, Nat.reduceLeDiff, List.length_map, Int.reduceLT, Int.reduceLE, Int.reduceToNat, Int.toNat_zero, Int.le_refl, Int.reduceAdd, decide_true, decide_false, Nat.reduceMul, Nat.reduceLT, Nat.lt_irrefl, true_and, and_self, ↓reduceIte]; rfl) ?_
       rintro j hj -
       have dj : decide (((sg + j : Nat) : Int) < ((sg + i : Nat) : Int)) = decide (j < i) := by rw [decide_eq_decide]; omega
       have hdt : ∀ k, k ≤ i → ∀ c ∈ ds.take k, dg c = true := fun k hk c hc => by
        obtain ⟨m, hm, rfl⟩ := List.getElem_of_mem hc
        obtain ⟨c', h1, h2⟩ := hpi m (by simp at hm; omega)
        rw [List.getElem_take]
        rw [List.getElem?_eq_some_iff] at h1
        obtain ⟨_, rfl⟩ := h1; exact h2
       have hvl : ∀ k, k ≤ i → valN (ds.take k) < 10 ^ k := fun k hk => valN_lt k _ (by rw [List.length_take]; omega) (hdt k hk)
       simp only [dj, go_sem, Nat.reduceEqDiff, Nat.reduceAdd, Nat.reduceLeDiff, List.length_map, Int.reduceLT, Int.reduceLE, Int.reduceToNat, Int.toNat_zero, Int.le_refl, Int.reduceAdd, decide_true, decide_false, Nat.reduceMul, Nat.reduceLT, Nat.lt_irrefl, true_and, and_self, ↓reduceIte]
       cases hji : decide (j < i) with
       | true =>
        have hji' := of_decide_eq_true hji
        obtain ⟨c, hc, hdc⟩ := hpi j hji'
        have hgc : s.data[sg + j]? = some c := (hsd j).trans hc
        have hc48 : 48 ≤ c.toNat ∧ c.toNat ≤ 57 := by unfold dg at hdc; simpa using hdc
        have v1 := hvl j (by omega)
        have v2 : (10 : Nat) ^ j ≤ 10 ^ 18 := Nat.pow_le_pow_right (by omega) (by omega)
        have u1 : IntKind.u64.wrap (((valN (ds.take j) : Nat) : Int) * 10) = ((valN (ds.take j) * 10 : Nat) : Int) := by rw [wrapU64 (by omega) (by omega)]; omega
        have u2 : IntKind.u8.wrap ((c.toNat : Int) - 48) = ((c.toNat - 48 : Nat) : Int) := by rw [wrapU8 (by omega) (by omega)]; omega
        have u3 : IntKind.u64.wrap ((c.toNat - 48 : Nat) : Int) = ((c.toNat - 48 : Nat) : Int) := wrapU64 (by omega) (by omega)
        have u4 : IntKind.u64.wrap (((valN (ds.take j) * 10 : Nat) : Int) + ((c.toNat - 48 : Nat) : Int)) = ((valN (ds.take (j + 1)) : Nat) : Int) := by
         have hjl := (List.getElem?_eq_some_iff.1 hc).1
         have e : ds.take (j + 1) = ds.take j ++ [c] := by rw [List.take_add_one, hc]; rfl
         rw [e, valN_snoc, wrapU64 (by omega) (by omega)]; omega
        have u5 : IntKind.i64.wrap (((sg + j : Nat) : Int) + 1) = ((sg + (j + 1) : Nat) : Int) := by rw [wrap64 (by omega) (by omega)]; omega
        simp only [nn0, Int.toNat_natCast, hgc, u1, u2, u3, u4, u5, go_sem, Nat.reduceEqDiff, Nat.reduceAdd, Nat.reduceLeDiff, List.length_map, Int.reduceLT, Int.reduceLE, Int.reduceToNat, Int.toNat_zero, Int.le_refl, Int.reduceAdd, decide_true, decide_false, Nat.reduceMul, Nat.reduceLT, Nat.lt_irrefl, true_and, and_self, ↓reduceIte]
        exact invN_next hji' trivial (by simp only [go_sem, Nat.reduceEqDiff, Nat.reduceAdd, Nat.reduceLeDiff, List.length_map, Int.reduceLT, Int.reduceLE, Int.reduceToNat, Int.toNat_zero, Int.le_refl, Int.reduceAdd, decide_true, decide_false, Nat.reduceMul, Nat.reduceLT, Nat.lt_irrefl, true_and, and_self, ↓reduceIte])
       | false =>
        have hji' : j = i := by have := of_decide_eq_false hji; omega
        subst hji'
        have v1 := hvl j (by omega)
        have v2 : (10 : Nat) ^ j ≤ 10 ^ 19 := Nat.pow_le_pow_right (by omega) (by omega)
        have z0 : ((sg : Int) == 0) = decide (sg = 0) := by rw [Bool.eq_iff_iff, beq_iff_eq, decide_eq_true_eq]; omega
        have z1 : ((sg : Int) == 1) = decide (sg = 1) := by rw [Bool.eq_iff_iff, beq_iff_eq, decide_eq_true_eq]; omega
        generalize hu : valN (ds.take j) = u at *
        have g7 : decide ((u : Int) > 9223372036854775807) = decide (9223372036854775807 < u) := by rw [decide_eq_decide]; omega
        have g8 : decide ((u : Int) > 9223372036854775808) = decide (9223372036854775808 < u) := by rw [decide_eq_decide]; omega
        simp only [z0, go_sem, Nat.reduceEqDiff, Nat.reduceAdd, Nat.reduceLeDiff, List.length_map, Int.reduceLT, Int.reduceLE, Int.reduceToNat, Int.toNat_zero, Int.le_refl, Int.reduceAdd, decide_true, decide_false, Nat.reduceMul, Nat.reduceLT, Nat.lt_irrefl, true_and, and_self, ↓reduceIte]
        cases hz0 : decide (sg = 0) with
        | true =>
         have hz0' := of_decide_eq_true hz0
         have hz1 : decide (sg = 1) = false := by simp; omega
         simp only [g7, go_sem, Nat.reduceEqDiff, Nat.reduceAdd, Nat.reduceLeDiff, List.length_map, Int.reduceLT, Int.reduceLE, Int.reduceToNat, Int.toNat_zero, Int.le_refl, Int.reduceAdd, decide_true, decide_false, Nat.reduceMul, Nat.reduceLT, Nat.lt_irrefl, true_and, and_self, ↓reduceIte]
         cases h7 : decide (9223372036854775807 < u) with
         | true =>
          simp only [go_sem, Nat.reduceEqDiff, Nat.reduceAdd, Nat.reduceLeDiff, List.length_map, Int.reduceLT, Int.reduceLE, Int.reduceToNat, Int.toNat_zero, Int.le_refl, Int.reduceAdd, decide_true, decide_false, Nat.reduceMul, Nat.reduceLT, Nat.lt_irrefl, true_and, and_self, ↓reduceIte]
          rw [if_pos (.inl ⟨hz0', of_decide_eq_true h7⟩)]; rfl
         | false =>
          have h7' := of_decide_eq_false h7
          have h8 : decide (9223372036854775808 < u) = false := by simp; omega
          have wi : IntKind.i64.wrap (u : Int) = (u : Int) := wrap64 (by omega) (by omega)
          simp only [g8, h8, z1, hz1, wi, go_sem, Nat.reduceEqDiff, Nat.reduceAdd, Nat.reduceLeDiff, List.length_map, Int.reduceLT, Int.reduceLE, Int.reduceToNat, Int.toNat_zero, Int.le_refl, Int.reduceAdd, decide_true, decide_false, Nat.reduceMul, Nat.reduceLT, Nat.lt_irrefl, true_and, and_self, ↓reduceIte]
          rw [if_neg (by omega), if_neg (by omega)]; rfl
        | false =>
         have hz0' := of_decide_eq_false hz0
         have hz1 : decide (sg = 1) = true := by simp; omega
         simp only [g8, go_sem, Nat.reduceEqDiff, Nat.reduceAdd, Nat.reduceLeDiff, List.length_map, Int.reduceLT, Int.reduceLE, Int.reduceToNat, Int.toNat_zero, Int.le_refl, Int.reduceAdd, decide_true, decide_false, Nat.reduceMul, Nat.reduceLT, Nat.lt_irrefl, true_and, and_self, ↓reduceIte]
         cases h8 : decide (9223372036854775808 < u) with
         | true =>
          simp only [go_sem, Nat.reduceEqDiff, Nat.reduceAdd, Nat.reduceLeDiff, List.length_map, Int.reduceLT, Int.reduceLE, Int.reduceToNat, Int.toNat_zero, Int.le_refl, Int.reduceAdd, decide_true, decide_false, Nat.reduceMul, Nat.reduceLT, Nat.lt_irrefl, true_and, and_self, ↓reduceIte]
          rw [if_pos (.inr (of_decide_eq_true h8))]; rfl
         | false =>
          have h8' := of_decide_eq_false h8
          simp only [z1, hz1, negU u (by omega), go_sem, Nat.reduceEqDiff, Nat.reduceAdd, Nat.reduceLeDiff, List.length_map, Int.reduceLT, Int.reduceLE, Int.reduceToNat, Int.toNat_zero, Int.le_refl, Int.reduceAdd, decide_true, decide_false, Nat.reduceMul, Nat.reduceLT, Nat.lt_irrefl, true_and, and_self, ↓reduceIte]
          rw [if_neg (by omega), if_pos (by omega)]; rfl
     | false =>
      have h0' := of_decide_eq_false h0
      simp only [wsub, d19, go_sem, Nat.reduceEqDiff, Nat.reduceAdd, Nat.reduceLeDiff, List.length_map, Int.reduceLT, Int.reduceLE, Int.reduceToNat, Int.toNat_zero, Int.le_refl, Int.reduceAdd, decide_true, decide_false, Nat.reduceMul, Nat.reduceLT, Nat.lt_irrefl, true_and, and_self, ↓reduceIte]
      cases hi19' : decide (19 < i) with
      | true =>
       simp only [go_sem, Nat.reduceEqDiff, Nat.reduceAdd, Nat.reduceLeDiff, List.length_map, Int.reduceLT, Int.reduceLE, Int.reduceToNat, Int.toNat_zero, Int.le_refl, Int.reduceAdd, decide_true, decide_false, Nat.reduceMul, Nat.reduceLT, Nat.lt_irrefl, true_and, and_self, ↓reduceIte]
       rw [if_pos (.inr (of_decide_eq_true hi19'))]; rfl
      | false =>
       have hi19 := of_decide_eq_false hi19'
       simp only [go_sem, Nat.reduceEqDiff, Nat.reduceAdd, Nat.reduceLeDiff, List.length_map, Int.reduceLT, Int.reduceLE, Int.reduceToNat, Int.toNat_zero, Int.le_refl, Int.reduceAdd, decide_true, decide_false, Nat.reduceMul, Nat.reduceLT, Nat.lt_irrefl, true_and, and_self, ↓reduceIte]
       rw [if_neg (fun h => h.elim (fun h => h0' (by simpa using h.1)) hi19)]
       refine loop_N i (fun _ => True) (fun j => ⟨[(0, .val (.string s)), (2, .ptr 2 0), (8, .val (.int .i64 sg)), (9, .val (.int .i64 (sg + i : Nat))), (10, .val (.int .u64 (valN (ds.take j)))), (11, .val (.int .i64 (sg + j : Nat)))], [(2, [.val (.int .i64 0), .val (.int .i64 0), .val (.string ⟨#[]⟩)])], []⟩) trivial (by simp only [go_sem, Nat.reduceEqDiff, Nat.reduceAdd, Nat.reduceLeDiff, List.length_map, Int.reduceLT, Int.reduceLE, Int.reduceToNat, Int.toNat_zero, Int.le_refl, Int.reduceAdd, decide_true, decide_false, Nat.reduceMul, Nat.reduceLT, Nat.lt_irrefl, true_and, and_self, ↓reduceIte]; rfl) ?_
       rintro j hj -
       have dj : decide (((sg + j : Nat) : Int) < ((sg + i : Nat) : Int)) = decide (j < i) := by rw [decide_eq_decide]; omega
       have hdt : ∀ k, k ≤ i → ∀ c ∈ ds.take k, dg c = true := fun k hk c hc => by
        obtain ⟨m, hm, rfl⟩ := List.getElem_of_mem hc
        obtain ⟨c', h1, h2⟩ := hpi m (by simp at hm; omega)
        rw [List.getElem_take]
        rw [List.getElem?_eq_some_iff] at h1
        obtain ⟨_, rfl⟩ := h1; exact h2
       have hvl : ∀ k, k ≤ i → valN (ds.take k) < 10 ^ k := fun k hk => valN_lt k _ (by rw [List.length_take]; omega) (hdt k hk)
       simp only [dj, go_sem, Nat.reduceEqDiff, Nat.reduceAdd, Nat.reduceLeDiff, List.length_map, Int.reduceLT, Int.reduceLE, Int.reduceToNat, Int.toNat_zero, Int.le_refl, Int.reduceAdd, decide_true, decide_false, Nat.reduceMul, Nat.reduceLT, Nat.lt_irrefl, true_and, and_self, ↓reduceIte]
       cases hji : decide (j < i) with
       | true =>
        have hji' := of_decide_eq_true hji
        obtain ⟨c, hc, hdc⟩ := hpi j hji'
        have hgc : s.data[sg + j]? = some c := (hsd j).trans hc
        have hc48 : 48 ≤ c.toNat ∧ c.toNat ≤ 57 := by unfold dg at hdc; simpa using hdc
        have v1 := hvl j (by omega)
        have v2 : (10 : Nat) ^ j ≤ 10 ^ 18 := Nat.pow_le_pow_right (by omega) (by omega)
        have u1 : IntKind.u64.wrap (((valN (ds.take j) : Nat) : Int) * 10) = ((valN (ds.take j) * 10 : Nat) : Int) := by rw [wrapU64 (by omega) (by omega)]; omega
        have u2 : IntKind.u8.wrap ((c.toNat : Int) - 48) = ((c.toNat - 48 : Nat) : Int) := by rw [wrapU8 (by omega) (by omega)]; omega
        have u3 : IntKind.u64.wrap ((c.toNat - 48 : Nat) : Int) = ((c.toNat - 48 : Nat) : Int) := wrapU64 (by omega) (by omega)
        have u4 : IntKind.u64.wrap (((valN (ds.take j) * 10 : Nat) : Int) + ((c.toNat - 48 : Nat) : Int)) = ((valN (ds.take (j + 1)) : Nat) : Int) := by
         have hjl := (List.getElem?_eq_some_iff.1 hc).1
         have e : ds.take (j + 1) = ds.take j ++ [c] := by rw [List.take_add_one, hc]; rfl
         rw [e, valN_snoc, wrapU64 (by omega) (by omega)]; omega
        have u5 : IntKind.i64.wrap (((sg + j : Nat) : Int) + 1) = ((sg + (j + 1) : Nat) : Int) := by rw [wrap64 (by omega) (by omega)]; omega
        simp only [nn0, Int.toNat_natCast, hgc, u1, u2, u3, u4, u5, go_sem, Nat.reduceEqDiff, Nat.reduceAdd, Nat.reduceLeDiff, List.length_map, Int.reduceLT, Int.reduceLE, Int.reduceToNat, Int.toNat_zero, Int.le_refl, Int.reduceAdd, decide_true, decide_false, Nat.reduceMul, Nat.reduceLT, Nat.lt_irrefl, true_and, and_self, ↓reduceIte]
        exact invN_next hji' trivial (by simp only [go_sem, Nat.reduceEqDiff, Nat.reduceAdd, Nat.reduceLeDiff, List.length_map, Int.reduceLT, Int.reduceLE, Int.reduceToNat, Int.toNat_zero, Int.le_refl, Int.reduceAdd, decide_true, decide_false, Nat.reduceMul, Nat.reduceLT, Nat.lt_irrefl, true_and, and_self, ↓reduceIte])
       | false =>
        have hji' : j = i := by have := of_decide_eq_false hji; omega
        subst hji'
        have v1 := hvl j (by omega)
        have v2 : (10 : Nat) ^ j ≤ 10 ^ 19 := Nat.pow_le_pow_right (by omega) (by omega)
        have z0 : ((sg : Int) == 0) = decide (sg = 0) := by rw [Bool.eq_iff_iff, beq_iff_eq, decide_eq_true_eq]; omega
        have z1 : ((sg : Int) == 1) = decide (sg = 1) := by rw [Bool.eq_iff_iff, beq_iff_eq, decide_eq_true_eq]; omega
        generalize hu : valN (ds.take j) = u at *
        have g7 : decide ((u : Int) > 9223372036854775807) = decide (9223372036854775807 < u) := by rw [decide_eq_decide]; omega
        have g8 : decide ((u : Int) > 9223372036854775808) = decide (9223372036854775808 < u) := by rw [decide_eq_decide]; omega
        simp only [z0, go_sem, Nat.reduceEqDiff, Nat.reduceAdd, Nat.reduceLeDiff, List.length_map, Int.reduceLT, Int.reduceLE, Int.reduceToNat, Int.toNat_zero, Int.le_refl, Int.reduceAdd, decide_true, decide_false, Nat.reduceMul, Nat.reduceLT, Nat.lt_irrefl, true_and, and_self, ↓reduceIte]
        cases hz0 : decide (sg = 0) with
        | true =>
         have hz0' := of_decide_eq_true hz0
         have hz1 : decide (sg = 1) = false := by simp; omega
         simp only [g7, go_sem, Nat.reduceEqDiff, Nat.reduceAdd, Nat.reduceLeDiff, List.length_map, Int.reduceLT, Int.reduceLE, Int.reduceToNat, Int.toNat_zero, Int.le_refl, Int.reduceAdd, decide_true, decide_false, Nat.reduceMul, Nat.reduceLT, Nat.lt_irrefl, true_and, and_self, ↓reduceIte]
         cases h7 : decide (9223372036854775807 < u) with
         | true =>
          simp only [go_sem, Nat.reduceEqDiff, Nat.reduceAdd, Nat.reduceLeDiff, List.length_map, Int.reduceLT, Int.reduceLE, Int.reduceToNat, Int.toNat_zero, Int.le_refl, Int.reduceAdd, decide_true, decide_false, Nat.reduceMul, Nat.reduceLT, Nat.lt_irrefl, true_and, and_self, ↓reduceIte]
          rw [if_pos (.inl ⟨hz0', of_decide_eq_true h7⟩)]; rfl
         | false =>
          have h7' := of_decide_eq_false h7
          have h8 : decide (9223372036854775808 < u) = false := by simp; omega
          have wi : IntKind.i64.wrap (u : Int) = (u : Int) := wrap64 (by omega) (by omega)
          simp only [g8, h8, z1, hz1, wi, go_sem, Nat.reduceEqDiff, Nat.reduceAdd, Nat.reduceLeDiff, List.length_map, Int.reduceLT, Int.reduceLE, Int.reduceToNat, Int.toNat_zero, Int.le_refl, Int.reduceAdd, decide_true, decide_false, Nat.reduceMul, Nat.reduceLT, Nat.lt_irrefl, true_and, and_self, ↓reduceIte]
          rw [if_neg (by omega), if_neg (by omega)]; rfl
        | false =>
         have hz0' := of_decide_eq_false hz0
         have hz1 : decide (sg = 1) = true := by simp; omega
         simp only [g8, go_sem, Nat.reduceEqDiff, Nat.reduceAdd, Nat.reduceLeDiff, List.length_map, Int.reduceLT, Int.reduceLE, Int.reduceToNat, Int.toNat_zero, Int.le_refl, Int.reduceAdd, decide_true, decide_false, Nat.reduceMul, Nat.reduceLT, Nat.lt_irrefl, true_and, and_self, ↓reduceIte]
         cases h8 : decide (9223372036854775808 < u) with
         | true =>
          simp only [go_sem, Nat.reduceEqDiff, Nat.reduceAdd, Nat.reduceLeDiff, List.length_map, Int.reduceLT, Int.reduceLE, Int.reduceToNat, Int.toNat_zero, Int.le_refl, Int.reduceAdd, decide_true, decide_false, Nat.reduceMul, Nat.reduceLT, Nat.lt_irrefl, true_and, and_self, ↓reduceIte]
          rw [if_pos (.inr (of_decide_eq_true h8))]; rfl
         | false =>
          have h8' := of_decide_eq_false h8
          simp only [z1, hz1, negU u (by omega), go_sem, Nat.reduceEqDiff, Nat.reduceAdd, Nat.reduceLeDiff, List.length_map, Int.reduceLT, Int.reduceLE, Int.reduceToNat, Int.toNat_zero, Int.le_refl, Int.reduceAdd, decide_true, decide_false, Nat.reduceMul, Nat.reduceLT, Nat.lt_irrefl, true_and, and_self, ↓reduceIte]
          rw [if_neg (by omega), if_pos (by omega)]; rfl
    | true =>
     have hlt' := of_decide_eq_true hlt
     obtain ⟨c, hc⟩ : ∃ c, ds[i]? = some c := ⟨_, List.getElem?_eq_getElem hlt'⟩
     have hc' : s.data[sg + i]? = some c := (hsd i).trans hc
     have d48 : decide ((c.toNat : Int) ≥ 48) = decide (48 ≤ c.toNat) := by rw [decide_eq_decide]; omega
     have d57 : decide ((c.toNat : Int) ≤ 57) = decide (c.toNat ≤ 57) := by rw [decide_eq_decide]; omega
     simp only [nn0, Int.toNat_natCast, hc', d48, go_sem, Nat.reduceEqDiff, Nat.reduceAdd, Nat.reduceLeDiff, List.length_map, Int.reduceLT, Int.reduceLE, Int.reduceToNat, Int.toNat_zero, Int.le_refl, Int.reduceAdd, decide_true, decide_false, Nat.reduceMul, Nat.reduceLT, Nat.lt_irrefl, true_and, and_self, ↓reduceIte]
     cases h48 : decide (48 ≤ c.toNat) with
     | false =>
      have hN : numN (bl s) = i := by rw [hnum]; exact tw_len i ds hpi (fun c' hc1 => by rw [hc] at hc1; cases hc1; rw [dg, h48]; rfl)
      have deq : (((sg + i : Nat) : Int) == (sg : Int)) = decide (i = 0) := by rw [Bool.eq_iff_iff, beq_iff_eq, decide_eq_true_eq]; omega
      have d1 : ((sg : Int) == 1) = decide (sg = 1) := by rw [Bool.eq_iff_iff, beq_iff_eq, decide_eq_true_eq]; omega
      simp only [deq, go_sem, Nat.reduceEqDiff, Nat.reduceAdd, Nat.reduceLeDiff, List.length_map, Int.reduceLT, Int.reduceLE, Int.reduceToNat, Int.toNat_zero, Int.le_refl, Int.reduceAdd, decide_true, decide_false, Nat.reduceMul, Nat.reduceLT, Nat.lt_irrefl, true_and, and_self, ↓reduceIte]
      by_cases hi0 : i = 0
      ·have hi0' : decide (i = 0) = true := by simp [hi0]
       simp only [hi0', d1, go_sem, Nat.reduceEqDiff, Nat.reduceAdd, Nat.reduceLeDiff, List.length_map, Int.reduceLT, Int.reduceLE, Int.reduceToNat, Int.toNat_zero, Int.le_refl, Int.reduceAdd, decide_true, decide_false, Nat.reduceMul, Nat.reduceLT, Nat.lt_irrefl, true_and, and_self, ↓reduceIte]
       rw [hN, if_pos hi0]
       cases hs1 : decide (sg = 1) with
       | true => simp only [go_sem, Nat.reduceEqDiff, Nat.reduceAdd, Nat.reduceLeDiff, List.length_map, Int.reduceLT, Int.reduceLE, Int.reduceToNat, Int.toNat_zero, Int.le_refl, Int.reduceAdd, decide_true, decide_false, Nat.reduceMul, Nat.reduceLT, Nat.lt_irrefl, true_and, and_self, ↓reduceIte]; rw [if_pos (of_decide_eq_true hs1)]; rfl
       | false => simp only [go_sem, Nat.reduceEqDiff, Nat.reduceAdd, Nat.reduceLeDiff, List.length_map, Int.reduceLT, Int.reduceLE, Int.reduceToNat, Int.toNat_zero, Int.le_refl, Int.reduceAdd, decide_true, decide_false, Nat.reduceMul, Nat.reduceLT, Nat.lt_irrefl, true_and, and_self, ↓reduceIte]; rw [if_neg (of_decide_eq_false hs1)]; rfl
      have hi0' : decide (i = 0) = false := by simp [hi0]
      obtain ⟨c0, hc0, hd0⟩ := hpi 0 (by omega)
      have hc0' : s.data[sg]? = some c0 := (hsd 0).trans hc0
      have hhd : ds.head? = some c0 := by rw [List.head?_eq_getElem?]; exact hc0
      have dz : ((c0.toNat : Int) == 48) = decide (c0 = 48) := dg_eq c0 48
      have dg1 : decide (((sg + i : Nat) : Int) > 1) = decide (1 < sg + i) := by rw [decide_eq_decide]; omega
      have wsub : IntKind.i64.wrap (((sg + i : Nat) : Int) - (sg : Int)) = (i : Int) := by rw [wrap64 (by omega) (by omega)]; omega
      have d19 : decide ((i : Int) > 19) = decide (19 < i) := by rw [decide_eq_decide]; omega
      rw [hN, if_neg hi0, hhd]
      simp only [hi0', nn0, Int.toNat_natCast, hc0', dz, go_sem, Nat.reduceEqDiff, Nat.reduceAdd, Nat.reduceLeDiff, List.length_map, Int.reduceLT, Int.reduceLE, Int.reduceToNat, Int.toNat_zero, Int.le_refl, Int.reduceAdd, decide_true, decide_false, Nat.reduceMul, Nat.reduceLT, Nat.lt_irrefl, true_and, and_self, ↓reduceIte]
      cases h0 : decide (c0 = 48) with
      | true =>
       have h0' := of_decide_eq_true h0
       simp only [dg1, go_sem, Nat.reduceEqDiff, Nat.reduceAdd, Nat.reduceLeDiff, List.length_map, Int.reduceLT, Int.reduceLE, Int.reduceToNat, Int.toNat_zero, Int.le_refl, Int.reduceAdd, decide_true, decide_false, Nat.reduceMul, Nat.reduceLT, Nat.lt_irrefl, true_and, and_self, ↓reduceIte]
       cases hi1 : decide (1 < sg + i) with
       | true =>
        simp only [go_sem, Nat.reduceEqDiff, Nat.reduceAdd, Nat.reduceLeDiff, List.length_map, Int.reduceLT, Int.reduceLE, Int.reduceToNat, Int.toNat_zero, Int.le_refl, Int.reduceAdd, decide_true, decide_false, Nat.reduceMul, Nat.reduceLT, Nat.lt_irrefl, true_and, and_self, ↓reduceIte]
        rw [if_pos (.inl ⟨by rw [h0'], of_decide_eq_true hi1⟩)]; rfl
       | false =>
        have hi19 : ¬ 19 < i := by have := of_decide_eq_false hi1; omega
        have hi19' : decide (19 < i) = false := by simp [hi19]
        simp only [wsub, d19, hi19', go_sem, Nat.reduceEqDiff, Nat.reduceAdd, Nat.reduceLeDiff, List.length_map, Int.reduceLT, Int.reduceLE, Int.reduceToNat, Int.toNat_zero, Int.le_refl, Int.reduceAdd, decide_true, decide_false, Nat.reduceMul, Nat.reduceLT, Nat.lt_irrefl, true_and, and_self, ↓reduceIte]
        rw [if_neg (fun h => h.elim (fun h => of_decide_eq_false hi1 h.2) hi19)]
        refine loop_N i (fun _ => True) (fun j => ⟨[(0, .val (.string s)), (2, .ptr 2 0), (8, .val (.int .i64 sg)), (9, .val (.int .i64 (sg + i : Nat))), (10, .val (.int .u64 (valN (ds.take j)))), (11, .val (.int .i64 (sg + j : Nat)))], [(2, [.val (.int .i64 0), .val (.int .i64 0), .val (.string ⟨#[]⟩)])], []⟩) trivial (by simp only [go_sem, Nat.reduceEqDiff, Nat.reduceAdd, Nat.reduceLeDiff, List.length_map, Int.reduceLT, Int.reduceLE, Int.reduceToNat, Int.toNat_zero, Int.le_refl, Int.reduceAdd, decide_true, decide_false, Nat.reduceMul, Nat.reduceLT, Nat.lt_irrefl, true_and, and_self, ↓reduceIte]; rfl) ?_
        rintro j hj -
        have dj : decide (((sg + j : Nat) : Int) < ((sg + i : Nat) : Int)) = decide (j < i) := by rw [decide_eq_decide]; omega
        have hdt : ∀ k, k ≤ i → ∀ c ∈ ds.take k, dg c = true := fun k hk c hc => by
         obtain ⟨m, hm, rfl⟩ := List.getElem_of_mem hc
         obtain ⟨c', h1, h2⟩ := hpi m (by simp at hm; omega)
         rw [List.getElem_take]
         rw [List.getElem?_eq_some_iff] at h1
         obtain ⟨_, rfl⟩ := h1; exact h2
        have hvl : ∀ k, k ≤ i → valN (ds.take k) < 10 ^ k := fun k hk => valN_lt k _ (by rw [List.length_take]; omega) (hdt k hk)
        simp only [dj, go_sem, Nat.reduceEqDiff, Nat.reduceAdd, Nat.reduceLeDiff, List.length_map, Int.reduceLT, Int.reduceLE, Int.reduceToNat, Int.toNat_zero, Int.le_refl, Int.reduceAdd, decide_true, decide_false, Nat.reduceMul, Nat.reduceLT, Nat.lt_irrefl, true_and, and_self, ↓reduceIte]
        cases hji : decide (j < i) with
        | true =>
         have hji' := of_decide_eq_true hji
         obtain ⟨c, hc, hdc⟩ := hpi j hji'
         have hgc : s.data[sg + j]? = some c := (hsd j).trans hc
         have hc48 : 48 ≤ c.toNat ∧ c.toNat ≤ 57 := by unfold dg at hdc; simpa using hdc
         have v1 := hvl j (by omega)
         have v2 : (10 : Nat) ^ j ≤ 10 ^ 18 := Nat.pow_le_pow_right (by omega) (by omega)
         have u1 : IntKind.u64.wrap (((valN (ds.take j) : Nat) : Int) * 10) = ((valN (ds.take j) * 10 : Nat) : Int) := by rw [wrapU64 (by omega) (by omega)]; omega
         have u2 : IntKind.u8.wrap ((c.toNat : Int) - 48) = ((c.toNat - 48 : Nat) : Int) := by rw [wrapU8 (by omega) (by omega)]; omega
         have u3 : IntKind.u64.wrap ((c.toNat - 48 : Nat) : Int) = ((c.toNat - 48 : Nat) : Int) := wrapU64 (by omega) (by omega)
         have u4 : IntKind.u64.wrap (((valN (ds.take j) * 10 : Nat) : Int) + ((c.toNat - 48 : Nat) : Int)) = ((valN (ds.take (j + 1)) : Nat) : Int) := by
          have hjl := (List.getElem?_eq_some_iff.1 hc).1
          have e : ds.take (j + 1) = ds.take j ++ [c] := by rw [List.take_add_one, hc]; rfl
          rw [e, valN_snoc, wrapU64 (by omega) (by omega)]; omega
         have u5 : IntKind.i64.wrap (((sg + j : Nat) : Int) + 1) = ((sg + (j + 1) : Nat) : Int) := by rw [wrap64 (by omega) (by omega)]; omega
         simp only [nn0, Int.toNat_natCast, hgc, u1, u2, u3, u4, u5, go_sem, Nat.reduceEqDiff, Nat.reduceAdd, Nat.reduceLeDiff, List.length_map, Int.reduceLT, Int.reduceLE, Int.reduceToNat, Int.toNat_zero, Int.le_refl, Int.reduceAdd, decide_true, decide_false, Nat.reduceMul, Nat.reduceLT, Nat.lt_irrefl, true_and, and_self, ↓reduceIte]
         exact invN_next hji' trivial (by simp only [go_sem, Nat.reduceEqDiff, Nat.reduceAdd, Nat.reduceLeDiff, List.length_map, Int.reduceLT, Int.reduceLE, Int.reduceToNat, Int.toNat_zero, Int.le_refl, Int.reduceAdd, decide_true, decide_false, Nat.reduceMul, Nat.reduceLT, Nat.lt_irrefl, true_and, and_self, ↓reduceIte])
        | false =>
         have hji' : j = i := by have := of_decide_eq_false hji; omega
         subst hji'
         have v1 := hvl j (by omega)
         have v2 : (10 : Nat) ^ j ≤ 10 ^ 19 := Nat.pow_le_pow_right (by omega) (by omega)
         have z0 : ((sg : Int) == 0) = decide (sg = 0) := by rw [Bool.eq_iff_iff, beq_iff_eq, decide_eq_true_eq]; omega
         have z1 : ((sg : Int) == 1) = decide (sg = 1) := by rw [Bool.eq_iff_iff, beq_iff_eq, decide_eq_true_eq]; omega
         generalize hu : valN (ds.take j) = u at *
         have g7 : decide ((u : Int) > 9223372036854775807) = decide (9223372036854775807 < u) := by rw [decide_eq_decide]; omega
         have g8 : decide ((u : Int) > 9223372036854775808) = decide (9223372036854775808 < u) := by rw [decide_eq_decide]; omega
         simp only [z0, go_sem, Nat.reduceEqDiff, Nat.reduceAdd, Nat.reduceLeDiff, List.length_map, Int.reduceLT, Int.reduceLE, Int.reduceToNat, Int.toNat_zero, Int.le_refl, Int.reduceAdd, decide_true, decide_false, Nat.reduceMul, Nat.reduceLT, Nat.lt_irrefl, true_and, and_self, ↓reduceIte]
         cases hz0 : decide (sg = 0) with
         | true =>
          have hz0' := of_decide_eq_true hz0
          have hz1 : decide (sg = 1) = false := by simp; omega
          simp only [g7, go_sem, Nat.reduceEqDiff, Nat.reduceAdd, Nat.reduceLeDiff, List.length_map, Int.reduceLT, Int.reduceLE, Int.reduceToNat, Int.toNat_zero, Int.le_refl, Int.reduceAdd, decide_true, decide_false, Nat.reduceMul, Nat.reduceLT, Nat.lt_irrefl, true_and, and_self, ↓reduceIte]
          cases h7 : decide (9223372036854775807 < u) with
          | true =>
           simp only [go_sem, Nat.reduceEqDiff, Nat.reduceAdd, Nat.reduceLeDiff, List.length_map, Int.reduceLT, Int.reduceLE, Int.reduceToNat, Int.toNat_zero, Int.le_refl, Int.reduceAdd, decide_true, decide_false, Nat.reduceMul, Nat.reduceLT, Nat.lt_irrefl, true_and, and_self, ↓reduceIte]
           rw [if_pos (.inl ⟨hz0', of_decide_eq_true h7⟩)]; rfl
          | false =>
           have h7' := of_decide_eq_false h7
           have h8 : decide (9223372036854775808 < u) = false := by simp; omega
           have wi : IntKind.i64.wrap (u : Int) = (u : Int) := wrap64 (by omega) (by omega)
           simp only [g8, h8, z1, hz1, wi, go_sem, Nat.reduceEqDiff, Nat.reduceAdd, Nat.reduceLeDiff, List.length_map, Int.reduceLT, Int.reduceLE, Int.reduceToNat, Int.toNat_zero, Int.le_refl, Int.reduceAdd, decide_true, decide_false, Nat.reduceMul, Nat.reduceLT, Nat.lt_irrefl, true_and, and_self, ↓reduceIte]
           rw [if_neg (by omega), if_neg (by omega)]; rfl
         | false =>
          have hz0' := of_decide_eq_false hz0
          have hz1 : decide (sg = 1) = true := by simp; omega
          simp only [g8, go_sem, Nat.reduceEqDiff, Nat.reduceAdd, Nat.reduceLeDiff, List.length_map, Int.reduceLT, Int.reduceLE, Int.reduceToNat, Int.toNat_zero, Int.le_refl, Int.reduceAdd, decide_true, decide_false, Nat.reduceMul, Nat.reduceLT, Nat.lt_irrefl, true_and, and_self, ↓reduceIte]
          cases h8 : decide (9223372036854775808 < u) with
          | true =>
           simp only [go_sem, Nat.reduceEqDiff, Nat.reduceAdd, Nat.reduceLeDiff, List.length_map, Int.reduceLT, Int.reduceLE, Int.reduceToNat, Int.toNat_zero, Int.le_refl, Int.reduceAdd, decide_true, decide_false, Nat.reduceMul, Nat.reduceLT, Nat.lt_irrefl, true_and, and_self, ↓reduceIte]
           rw [if_pos (.inr (of_decide_eq_true h8))]; rfl
          | false =>
           have h8' := of_decide_eq_false h8
           simp only [z1, hz1, negU u (by omega), go_sem, Nat.reduceEqDiff, Nat.reduceAdd, Nat.reduceLeDiff, List.length_map, Int.reduceLT, Int.reduceLE, Int.reduceToNat, Int.toNat_zero, Int.le_refl, Int.reduceAdd, decide_true, decide_false, Nat.reduceMul, Nat.reduceLT, Nat.lt_irrefl, true_and, and_self, ↓reduceIte]
           rw [if_neg (by omega), if_pos (by omega)]; rfl
      | false =>
       have h0' := of_decide_eq_false h0
       simp only [wsub, d19, go_sem, Nat.reduceEqDiff, Nat.reduceAdd, Nat.reduceLeDiff, List.length_map, Int.reduceLT, Int.reduceLE, Int.reduceToNat, Int.toNat_zero, Int.le_refl, Int.reduceAdd, decide_true, decide_false, Nat.reduceMul, Nat.reduceLT, Nat.lt_irrefl, true_and, and_self, ↓reduceIte]
       cases hi19' : decide (19 < i) with
       | true =>
        simp only [go_sem, Nat.reduceEqDiff, Nat.reduceAdd, Nat.reduceLeDiff, List.length_map, Int.reduceLT, Int.reduceLE, Int.reduceToNat, Int.toNat_zero, Int.le_refl, Int.reduceAdd, decide_true, decide_false, Nat.reduceMul, Nat.reduceLT, Nat.lt_irrefl, true_and, and_self, ↓reduceIte]
        rw [if_pos (.inr (of_decide_eq_true hi19'))]; rfl
       | false =>
        have hi19 := of_decide_eq_false hi19'
        simp only [go_sem, Nat.reduceEqDiff, Nat.reduceAdd, Nat.reduceLeDiff, List.length_map, Int.reduceLT, Int.reduceLE, Int.reduceToNat, Int.toNat_zero, Int.le_refl, Int.reduceAdd, decide_true, decide_false, Nat.reduceMul, Nat.reduceLT, Nat.lt_irrefl, true_and, and_self, ↓reduceIte]
        rw [if_neg (fun h => h.elim (fun h => h0' (by simpa using h.1)) hi19)]
        refine loop_N i (fun _ => True) (fun j => ⟨[(0, .val (.string s)), (2, .ptr 2 0), (8, .val (.int .i64 sg)), (9, .val (.int .i64 (sg + i : Nat))), (10, .val (.int .u64 (valN (ds.take j)))), (11, .val (.int .i64 (sg + j : Nat)))], [(2, [.val (.int .i64 0), .val (.int .i64 0), .val (.string ⟨#[]⟩)])], []⟩) trivial (by simp only [go_sem, Nat.reduceEqDiff, Nat.reduceAdd, Nat.reduceLeDiff, List.length_map, Int.reduceLT, Int.reduceLE, Int.reduceToNat, Int.toNat_zero, Int.le_refl, Int.reduceAdd, decide_true, decide_false, Nat.reduceMul, Nat.reduceLT, Nat.lt_irrefl, true_and, and_self, ↓reduceIte]; rfl) ?_
        rintro j hj -
        have dj : decide (((sg + j : Nat) : Int) < ((sg + i : Nat) : Int)) = decide (j < i) := by rw [decide_eq_decide]; omega
        have hdt : ∀ k, k ≤ i → ∀ c ∈ ds.take k, dg c = true := fun k hk c hc => by
         obtain ⟨m, hm, rfl⟩ := List.getElem_of_mem hc
         obtain ⟨c', h1, h2⟩ := hpi m (by simp at hm; omega)
         rw [List.getElem_take]
         rw [List.getElem?_eq_some_iff] at h1
         obtain ⟨_, rfl⟩ := h1; exact h2
        have hvl : ∀ k, k ≤ i → valN (ds.take k) < 10 ^ k := fun k hk => valN_lt k _ (by rw [List.length_take]; omega) (hdt k hk)
        simp only [dj, go_sem, Nat.reduceEqDiff, Nat.reduceAdd, Nat.reduceLeDiff, List.length_map, Int.reduceLT, Int.reduceLE, Int.reduceToNat, Int.toNat_zero, Int.le_refl, Int.reduceAdd, decide_true, decide_false, Nat.reduceMul, Nat.reduceLT, Nat.lt_irrefl, true_and, and_self, ↓reduceIte]
        cases hji : decide (j < i) with
        | true =>
         have hji' := of_decide_eq_true hji
         obtain ⟨c, hc, hdc⟩ := hpi j hji'
         have hgc : s.data[sg + j]? = some c := (hsd j).trans hc
         have hc48 : 48 ≤ c.toNat ∧ c.toNat ≤ 57 := by unfold dg at hdc; simpa using hdc
         have v1 := hvl j (by omega)
         have v2 : (10 : Nat) ^ j ≤ 10 ^ 18 := Nat.pow_le_pow_right (by omega) (by omega)
         have u1 : IntKind.u64.wrap (((valN (ds.take j) : Nat) : Int) * 10) = ((valN (ds.take j) * 10 : Nat) : Int) := by rw [wrapU64 (by omega) (by omega)]; omega
         have u2 : IntKind.u8.wrap ((c.toNat : Int) - 48) = ((c.toNat - 48 : Nat) : Int) := by rw [wrapU8 (by omega) (by omega)]; omega
         have u3 : IntKind.u64.wrap ((c.toNat - 48 : Nat) : Int) = ((c.toNat - 48 : Nat) : Int) := wrapU64 (by omega) (by omega)
         have u4 : IntKind.u64.wrap (((valN (ds.take j) * 10 : Nat) : Int) + ((c.toNat - 48 : Nat) : Int)) = ((valN (ds.take (j + 1)) : Nat) : Int) := by
          have hjl := (List.getElem?_eq_some_iff.1 hc).1
          have e : ds.take (j + 1) = ds.take j ++ [c] := by rw [List.take_add_one, hc]; rfl
          rw [e, valN_snoc, wrapU64 (by omega) (by omega)]; omega
         have u5 : IntKind.i64.wrap (((sg + j : Nat) : Int) + 1) = ((sg + (j + 1) : Nat) : Int) := by rw [wrap64 (by omega) (by omega)]; omega
         simp only [nn0, Int.toNat_natCast, hgc, u1, u2, u3, u4, u5, go_sem, Nat.reduceEqDiff, Nat.reduceAdd, Nat.reduceLeDiff, List.length_map, Int.reduceLT, Int.reduceLE, Int.reduceToNat, Int.toNat_zero, Int.le_refl, Int.reduceAdd, decide_true, decide_false, Nat.reduceMul, Nat.reduceLT, Nat.lt_irrefl, true_and, and_self, ↓reduceIte]
         exact invN_next hji' trivial (by simp only [go_sem, Nat.reduceEqDiff, Nat.reduceAdd, Nat.reduceLeDiff, List.length_map, Int.reduceLT, Int.reduceLE, Int.reduceToNat, Int.toNat_zero, Int.le_refl, Int.reduceAdd, decide_true, decide_false, Nat.reduceMul, Nat.reduceLT, Nat.lt_irrefl, true_and, and_self, ↓reduceIte])
        | false =>
         have hji' : j = i := by have := of_decide_eq_false hji; omega
         subst hji'
         have v1 := hvl j (by omega)
         have v2 : (10 : Nat) ^ j ≤ 10 ^ 19 := Nat.pow_le_pow_right (by omega) (by omega)
         have z0 : ((sg : Int) == 0) = decide (sg = 0) := by rw [Bool.eq_iff_iff, beq_iff_eq, decide_eq_true_eq]; omega
         have z1 : ((sg : Int) == 1) = decide (sg = 1) := by rw [Bool.eq_iff_iff, beq_iff_eq, decide_eq_true_eq]; omega
         generalize hu : valN (ds.take j) = u at *
         have g7 : decide ((u : Int) > 9223372036854775807) = decide (9223372036854775807 < u) := by rw [decide_eq_decide]; omega
         have g8 : decide ((u : Int) > 9223372036854775808) = decide (9223372036854775808 < u) := by rw [decide_eq_decide]; omega
         simp only [z0, go_sem, Nat.reduceEqDiff, Nat.reduceAdd, Nat.reduceLeDiff, List.length_map, Int.reduceLT, Int.reduceLE, Int.reduceToNat, Int.toNat_zero, Int.le_refl, Int.reduceAdd, decide_true, decide_false, Nat.reduceMul, Nat.reduceLT, Nat.lt_irrefl, true_and, and_self, ↓reduceIte]
         cases hz0 : decide (sg = 0) with
         | true =>
          have hz0' := of_decide_eq_true hz0
          have hz1 : decide (sg = 1) = false := by simp; omega
          simp only [g7, go_sem, Nat.reduceEqDiff, Nat.reduceAdd, Nat.reduceLeDiff, List.length_map, Int.reduceLT, Int.reduceLE, Int.reduceToNat, Int.toNat_zero, Int.le_refl, Int.reduceAdd, decide_true, decide_false, Nat.reduceMul, Nat.reduceLT, Nat.lt_irrefl, true_and, and_self, ↓reduceIte]
          cases h7 : decide (9223372036854775807 < u) with
          | true =>
           simp only [go_sem, Nat.reduceEqDiff, Nat.reduceAdd, Nat.reduceLeDiff, List.length_map, Int.reduceLT, Int.reduceLE, Int.reduceToNat, Int.toNat_zero, Int.le_refl, Int.reduceAdd, decide_true, decide_false, Nat.reduceMul, Nat.reduceLT, Nat.lt_irrefl, true_and, and_self, ↓reduceIte]
           rw [if_pos (.inl ⟨hz0', of_decide_eq_true h7⟩)]; rfl
          | false =>
           have h7' := of_decide_eq_false h7
           have h8 : decide (9223372036854775808 < u) = false := by simp; omega
           have wi : IntKind.i64.wrap (u : Int) = (u : Int) := wrap64 (by omega) (by omega)
           simp only [g8, h8, z1, hz1, wi, go_sem, Nat.reduceEqDiff, Nat.reduceAdd, Nat.reduceLeDiff, List.length_map, Int.reduceLT, Int.reduceLE, Int.reduceToNat, Int.toNat_zero, Int.le_refl, Int.reduceAdd, decide_true, decide_false, Nat.reduceMul, Nat.reduceLT, Nat.lt_irrefl, true_and, and_self, ↓reduceIte]
           rw [if_neg (by omega), if_neg (by omega)]; rfl
         | false =>
          have hz0' := of_decide_eq_false hz0
          have hz1 : decide (sg = 1) = true := by simp; omega
          simp only [g8, go_sem, Nat.reduceEqDiff, Nat.reduceAdd, Nat.reduceLeDiff, List.length_map, Int.reduceLT, Int.reduceLE, Int.reduceToNat, Int.toNat_zero, Int.le_refl, Int.reduceAdd, decide_true, decide_false, Nat.reduceMul, Nat.reduceLT, Nat.lt_irrefl, true_and, and_self, ↓reduceIte]
          cases h8 : decide (9223372036854775808 < u) with
          | true =>
           simp only [go_sem, Nat.reduceEqDiff, Nat.reduceAdd, Nat.reduceLeDiff, List.length_map, Int.reduceLT, Int.reduceLE, Int.reduceToNat, Int.toNat_zero, Int.le_refl, Int.reduceAdd, decide_true, decide_false, Nat.reduceMul, Nat.reduceLT, Nat.lt_irrefl, true_and, and_self, ↓reduceIte]
           rw [if_pos (.inr (of_decide_eq_true h8))]; rfl
          | false =>
           have h8' := of_decide_eq_false h8
           simp only [z1, hz1, negU u (by omega), go_sem, Nat.reduceEqDiff, Nat.reduceAdd, Nat.reduceLeDiff, List.length_map, Int.reduceLT, Int.reduceLE, Int.reduceToNat, Int.toNat_zero, Int.le_refl, Int.reduceAdd, decide_true, decide_false, Nat.reduceMul, Nat.reduceLT, Nat.lt_irrefl, true_and, and_self, ↓reduceIte]
           rw [if_neg (by omega), if_pos (by omega)]; rfl
     | true =>
      simp only [nn0, Int.toNat_natCast, hc', d57, go_sem, Nat.reduceEqDiff, Nat.reduceAdd, Nat.reduceLeDiff, List.length_map, Int.reduceLT, Int.reduceLE, Int.reduceToNat, Int.toNat_zero, Int.le_refl, Int.reduceAdd, decide_true, decide_false, Nat.reduceMul, Nat.reduceLT, Nat.lt_irrefl, true_and, and_self, ↓reduceIte]
      cases h57 : decide (c.toNat ≤ 57) with
      | false =>
       have hN : numN (bl s) = i := by rw [hnum]; exact tw_len i ds hpi (fun c' hc1 => by rw [hc] at hc1; cases hc1; rw [dg, h48, h57]; rfl)
       have deq : (((sg + i : Nat) : Int) == (sg : Int)) = decide (i = 0) := by rw [Bool.eq_iff_iff, beq_iff_eq, decide_eq_true_eq]; omega
       have d1 : ((sg : Int) == 1) = decide (sg = 1) := by rw [Bool.eq_iff_iff, beq_iff_eq, decide_eq_true_eq]; omega
       simp only [deq, go_sem, Nat.reduceEqDiff, Nat.reduceAdd, Nat.reduceLeDiff, List.length_map, Int.reduceLT, Int.reduceLE, Int.reduceToNat, Int.toNat_zero, Int.le_refl, Int.reduceAdd, decide_true, decide_false, Nat.reduceMul, Nat.reduceLT, Nat.lt_irrefl, true_and, and_self, ↓reduceIte]
       by_cases hi0 : i = 0
       ·have hi0' : decide (i = 0) = true := by simp [hi0]
        simp only [hi0', d1, go_sem, Nat.reduceEqDiff, Nat.reduceAdd, Nat.reduceLeDiff, List.length_map, Int.reduceLT, Int.reduceLE, Int.reduceToNat, Int.toNat_zero, Int.le_refl, Int.reduceAdd, decide_true, decide_false, Nat.reduceMul, Nat.reduceLT, Nat.lt_irrefl, true_and, and_self, ↓reduceIte]
        rw [hN, if_pos hi0]
        cases hs1 : decide (sg = 1) with
        | true => simp only [go_sem, Nat.reduceEqDiff, Nat.reduceAdd, Nat.reduceLeDiff, List.length_map, Int.reduceLT, Int.reduceLE, Int.reduceToNat, Int.toNat_zero, Int.le_refl, Int.reduceAdd, decide_true, decide_false, Nat.reduceMul, Nat.reduceLT, Nat.lt_irrefl, true_and, and_self, ↓reduceIte]; rw [if_pos (of_decide_eq_true hs1)]; rfl
        | false => simp only [go_sem, Nat.reduceEqDiff, Nat.reduceAdd, Nat.reduceLeDiff, List.length_map, Int.reduceLT, Int.reduceLE, Int.reduceToNat, Int.toNat_zero, Int.le_refl, Int.reduceAdd, decide_true, decide_false, Nat.reduceMul, Nat.reduceLT, Nat.lt_irrefl, true_and, and_self, ↓reduceIte]; rw [if_neg (of_decide_eq_false hs1)]; rfl
       have hi0' : decide (i = 0) = false := by simp [hi0]
       obtain ⟨c0, hc0, hd0⟩ := hpi 0 (by omega)
       have hc0' : s.data[sg]? = some c0 := (hsd 0).trans hc0
       have hhd : ds.head? = some c0 := by rw [List.head?_eq_getElem?]; exact hc0
       have dz : ((c0.toNat : Int) == 48) = decide (c0 = 48) := dg_eq c0 48
       have dg1 : decide (((sg + i : Nat) : Int) > 1) = decide (1 < sg + i) := by rw [decide_eq_decide]; omega
       have wsub : IntKind.i64.wrap (((sg + i : Nat) : Int) - (sg : Int)) = (i : Int) := by rw [wrap64 (by omega) (by omega)]; omega
       have d19 : decide ((i : Int) > 19) = decide (19 < i) := by rw [decide_eq_decide]; omega
       rw [hN, if_neg hi0, hhd]
       simp only [hi0', nn0, Int.toNat_natCast, hc0', dz, go_sem, Nat.reduceEqDiff, Nat.reduceAdd, Nat.reduceLeDiff, List.length_map, Int.reduceLT, Int.reduceLE, Int.reduceToNat, Int.toNat_zero, Int.le_refl, Int.reduceAdd, decide_true, decide_false, Nat.reduceMul, Nat.reduceLT, Nat.lt_irrefl, true_and, and_self, ↓reduceIte]
       cases h0 : decide (c0 = 48) with
       | true =>
        have h0' := of_decide_eq_true h0
        simp only [dg1, go_sem, Nat.reduceEqDiff, Nat.reduceAdd, Nat.reduceLeDiff, List.length_map, Int.reduceLT, Int.reduceLE, Int.reduceToNat, Int.toNat_zero, Int.le_refl, Int.reduceAdd, decide_true, decide_false, Nat.reduceMul, Nat.reduceLT, Nat.lt_irrefl, true_and, and_self, ↓reduceIte]
        cases hi1 : decide (1 < sg + i) with
        | true =>
         simp only [go_sem, Nat.reduceEqDiff, Nat.reduceAdd, Nat.reduceLeDiff, List.length_map, Int.reduceLT, Int.reduceLE, Int.reduceToNat, Int.toNat_zero, Int.le_refl, Int.reduceAdd, decide_true, decide_false, Nat.reduceMul, Nat.reduceLT, Nat.lt_irrefl, true_and, and_self, ↓reduceIte]
         rw [if_pos (.inl ⟨by rw [h0'], of_decide_eq_true hi1⟩)]; rfl
        | false =>
         have hi19 : ¬ 19 < i := by have := of_decide_eq_false hi1; omega
         have hi19' : decide (19 < i) = false := by simp [hi19]
         simp only [wsub, d19, hi19', go_sem, Nat.reduceEqDiff, Nat.reduceAdd, Nat.reduceLeDiff, List.length_map, Int.reduceLT, Int.reduceLE, Int.reduceToNat, Int.toNat_zero, Int.le_refl, Int.reduceAdd, decide_true, decide_false, Nat.reduceMul, Nat.reduceLT, Nat.lt_irrefl, true_and, and_self, ↓reduceIte]
         rw [if_neg (fun h => h.elim (fun h => of_decide_eq_false hi1 h.2) hi19)]
         refine loop_N i (fun _ => True) (fun j => ⟨[(0, .val (.string s)), (2, .ptr 2 0), (8, .val (.int .i64 sg)), (9, .val (.int .i64 (sg + i : Nat))), (10, .val (.int .u64 (valN (ds.take j)))), (11, .val (.int .i64 (sg + j : Nat)))], [(2, [.val (.int .i64 0), .val (.int .i64 0), .val (.string ⟨#[]⟩)])], []⟩) trivial (by simp only [go_sem, Nat.reduceEqDiff, Nat.reduceAdd, Nat.reduceLeDiff, List.length_map, Int.reduceLT, Int.reduceLE, Int.reduceToNat, Int.toNat_zero, Int.le_refl, Int.reduceAdd, decide_true, decide_false, Nat.reduceMul, Nat.reduceLT, Nat.lt_irrefl, true_and, and_self, ↓reduceIte]; rfl) ?_
         rintro j hj -
         have dj : decide (((sg + j : Nat) : Int) < ((sg + i : Nat) : Int)) = decide (j < i) := by rw [decide_eq_decide]; omega
         have hdt : ∀ k, k ≤ i → ∀ c ∈ ds.take k, dg c = true := fun k hk c hc => by
          obtain ⟨m, hm, rfl⟩ := List.getElem_of_mem hc
          obtain ⟨c', h1, h2⟩ := hpi m (by simp at hm; omega)
          rw [List.getElem_take]
          rw [List.getElem?_eq_some_iff] at h1
          obtain ⟨_, rfl⟩ := h1; exact h2
         have hvl : ∀ k, k ≤ i → valN (ds.take k) < 10 ^ k := fun k hk => valN_lt k _ (by rw [List.length_take]; omega) (hdt k hk)
         simp only [dj, go_sem, Nat.reduceEqDiff, Nat.reduceAdd, Nat.reduceLeDiff, List.length_map, Int.reduceLT, Int.reduceLE, Int.reduceToNat, Int.toNat_zero, Int.le_refl, Int.reduceAdd, decide_true, decide_false, Nat.reduceMul, Nat.reduceLT, Nat.lt_irrefl, true_and, and_self, ↓reduceIte]
         cases hji : decide (j < i) with
         | true =>
          have hji' := of_decide_eq_true hji
          obtain ⟨c, hc, hdc⟩ := hpi j hji'
          have hgc : s.data[sg + j]? = some c := (hsd j).trans hc
          have hc48 : 48 ≤ c.toNat ∧ c.toNat ≤ 57 := by unfold dg at hdc; simpa using hdc
          have v1 := hvl j (by omega)
          have v2 : (10 : Nat) ^ j ≤ 10 ^ 18 := Nat.pow_le_pow_right (by omega) (by omega)
          have u1 : IntKind.u64.wrap (((valN (ds.take j) : Nat) : Int) * 10) = ((valN (ds.take j) * 10 : Nat) : Int) := by rw [wrapU64 (by omega) (by omega)]; omega
          have u2 : IntKind.u8.wrap ((c.toNat : Int) - 48) = ((c.toNat - 48 : Nat) : Int) := by rw [wrapU8 (by omega) (by omega)]; omega
          have u3 : IntKind.u64.wrap ((c.toNat - 48 : Nat) : Int) = ((c.toNat - 48 : Nat) : Int) := wrapU64 (by omega) (by omega)
          have u4 : IntKind.u64.wrap (((valN (ds.take j) * 10 : Nat) : Int) + ((c.toNat - 48 : Nat) : Int)) = ((valN (ds.take (j + 1)) : Nat) : Int) := by
           have hjl := (List.getElem?_eq_some_iff.1 hc).1
           have e : ds.take (j + 1) = ds.take j ++ [c] := by rw [List.take_add_one, hc]; rfl
           rw [e, valN_snoc, wrapU64 (by omega) (by omega)]; omega
          have u5 : IntKind.i64.wrap (((sg + j : Nat) : Int) + 1) = ((sg + (j + 1) : Nat) : Int) := by rw [wrap64 (by omega) (by omega)]; omega
          simp only [nn0, Int.toNat_natCast, hgc, u1, u2, u3, u4, u5, go_sem, Nat.reduceEqDiff, Nat.reduceAdd, Nat.reduceLeDiff, List.length_map, Int.reduceLT, Int.reduceLE, Int.reduceToNat, Int.toNat_zero, Int.le_refl, Int.reduceAdd, decide_true, decide_false, Nat.reduceMul, Nat.reduceLT, Nat.lt_irrefl, true_and, and_self, ↓reduceIte]
          exact invN_next hji' trivial (by simp only [go_sem, Nat.reduceEqDiff, Nat.reduceAdd, Nat.reduceLeDiff, List.length_map, Int.reduceLT, Int.reduceLE, Int.reduceToNat, Int.toNat_zero, Int.le_refl, Int.reduceAdd, decide_true, decide_false, Nat.reduceMul, Nat.reduceLT, Nat.lt_irrefl, true_and, and_self, ↓reduceIte])
         | false =>
          have hji' : j = i := by have := of_decide_eq_false hji; omega
          subst hji'
          have v1 := hvl j (by omega)
          have v2 : (10 : Nat) ^ j ≤ 10 ^ 19 := Nat.pow_le_pow_right (by omega) (by omega)
          have z0 : ((sg : Int) == 0) = decide (sg = 0) := by rw [Bool.eq_iff_iff, beq_iff_eq, decide_eq_true_eq]; omega
          have z1 : ((sg : Int) == 1) = decide (sg = 1) := by rw [Bool.eq_iff_iff, beq_iff_eq, decide_eq_true_eq]; omega
          generalize hu : valN (ds.take j) = u at *
          have g7 : decide ((u : Int) > 9223372036854775807) = decide (9223372036854775807 < u) := by rw [decide_eq_decide]; omega
          have g8 : decide ((u : Int) > 9223372036854775808) = decide (9223372036854775808 < u) := by rw [decide_eq_decide]; omega
          simp only [z0, go_sem, Nat.reduceEqDiff, Nat.reduceAdd, Nat.reduceLeDiff, List.length_map, Int.reduceLT, Int.reduceLE, Int.reduceToNat, Int.toNat_zero, Int.le_refl, Int.reduceAdd, decide_true, decide_false, Nat.reduceMul, Nat.reduceLT, Nat.lt_irrefl, true_and, and_self, ↓reduceIte]
          cases hz0 : decide (sg = 0) with
          | true =>
           have hz0' := of_decide_eq_true hz0
           have hz1 : decide (sg = 1) = false := by simp; omega
           simp only [g7, go_sem, Nat.reduceEqDiff, Nat.reduceAdd, Nat.reduceLeDiff, List.length_map, Int.reduceLT, Int.reduceLE, Int.reduceToNat, Int.toNat_zero, Int.le_refl, Int.reduceAdd, decide_true, decide_false, Nat.reduceMul, Nat.reduceLT, Nat.lt_irrefl, true_and, and_self, ↓reduceIte]
           cases h7 : decide (9223372036854775807 < u) with
           | true =>
            simp only [go_sem, Nat.reduceEqDiff, Nat.reduceAdd, Nat.reduceLeDiff, List.length_map, Int.reduceLT, Int.reduceLE, Int.reduceToNat, Int.toNat_zero, Int.le_refl, Int.reduceAdd, decide_true, decide_false, Nat.reduceMul, Nat.reduceLT, Nat.lt_irrefl, true_and, and_self, ↓reduceIte]
            rw [if_pos (.inl ⟨hz0', of_decide_eq_true h7⟩)]; rfl
           | false =>
            have h7' := of_decide_eq_false h7
            have h8 : decide (9223372036854775808 < u) = false := by simp; omega
            have wi : IntKind.i64.wrap (u : Int) = (u : Int) := wrap64 (by omega) (by omega)
            simp only [g8, h8, z1, hz1, wi, go_sem, Nat.reduceEqDiff, Nat.reduceAdd, Nat.reduceLeDiff, List.length_map, Int.reduceLT, Int.reduceLE, Int.reduceToNat, Int.toNat_zero, Int.le_refl, Int.reduceAdd, decide_true, decide_false, Nat.reduceMul, Nat.reduceLT, Nat.lt_irrefl, true_and, and_self, ↓reduceIte]
            rw [if_neg (by omega), if_neg (by omega)]; rfl
          | false =>
           have hz0' := of_decide_eq_false hz0
           have hz1 : decide (sg = 1) = true := by simp; omega
           simp only [g8, go_sem, Nat.reduceEqDiff, Nat.reduceAdd, Nat.reduceLeDiff, List.length_map, Int.reduceLT, Int.reduceLE, Int.reduceToNat, Int.toNat_zero, Int.le_refl, Int.reduceAdd, decide_true, decide_false, Nat.reduceMul, Nat.reduceLT, Nat.lt_irrefl, true_and, and_self, ↓reduceIte]
           cases h8 : decide (9223372036854775808 < u) with
           | true =>
            simp only [go_sem, Nat.reduceEqDiff, Nat.reduceAdd, Nat.reduceLeDiff, List.length_map, Int.reduceLT, Int.reduceLE, Int.reduceToNat, Int.toNat_zero, Int.le_refl, Int.reduceAdd, decide_true, decide_false, Nat.reduceMul, Nat.reduceLT, Nat.lt_irrefl, true_and, and_self, ↓reduceIte]
            rw [if_pos (.inr (of_decide_eq_true h8))]; rfl
           | false =>
            have h8' := of_decide_eq_false h8
            simp only [z1, hz1, negU u (by omega), go_sem, Nat.reduceEqDiff, Nat.reduceAdd, Nat.reduceLeDiff, List.length_map, Int.reduceLT, Int.reduceLE, Int.reduceToNat, Int.toNat_zero, Int.le_refl, Int.reduceAdd, decide_true, decide_false, Nat.reduceMul, Nat.reduceLT, Nat.lt_irrefl, true_and, and_self, ↓reduceIte]
            rw [if_neg (by omega), if_pos (by omega)]; rfl
       | false =>
        have h0' := of_decide_eq_false h0
        simp only [wsub, d19, go_sem, Nat.reduceEqDiff, Nat.reduceAdd, Nat.reduceLeDiff, List.length_map, Int.reduceLT, Int.reduceLE, Int.reduceToNat, Int.toNat_zero, Int.le_refl, Int.reduceAdd, decide_true, decide_false, Nat.reduceMul, Nat.reduceLT, Nat.lt_irrefl, true_and, and_self, ↓reduceIte]
        cases hi19' : decide (19 < i) with
        | true =>
         simp only [go_sem, Nat.reduceEqDiff, Nat.reduceAdd, Nat.reduceLeDiff, List.length_map, Int.reduceLT, Int.reduceLE, Int.reduceToNat, Int.toNat_zero, Int.le_refl, Int.reduceAdd, decide_true, decide_false, Nat.reduceMul, Nat.reduceLT, Nat.lt_irrefl, true_and, and_self, ↓reduceIte]
         rw [if_pos (.inr (of_decide_eq_true hi19'))]; rfl
        | false =>
         have hi19 := of_decide_eq_false hi19'
         simp only [go_sem, Nat.reduceEqDiff, Nat.reduceAdd, Nat.reduceLeDiff, List.length_map, Int.reduceLT, Int.reduceLE, Int.reduceToNat, Int.toNat_zero, Int.le_refl, Int.reduceAdd, decide_true, decide_false, Nat.reduceMul, Nat.reduceLT, Nat.lt_irrefl, true_and, and_self, ↓reduceIte]
         rw [if_neg (fun h => h.elim (fun h => h0' (by simpa using h.1)) hi19)]
         refine loop_N i (fun _ => True) (fun j => ⟨[(0, .val (.string s)), (2, .ptr 2 0), (8, .val (.int .i64 sg)), (9, .val (.int .i64 (sg + i : Nat))), (10, .val (.int .u64 (valN (ds.take j)))), (11, .val (.int .i64 (sg + j : Nat)))], [(2, [.val (.int .i64 0), .val (.int .i64 0), .val (.string ⟨#[]⟩)])], []⟩) trivial (by simp only [go_sem, Nat.reduceEqDiff, Nat.reduceAdd, Nat.reduceLeDiff, List.length_map, Int.reduceLT, Int.reduceLE, Int.reduceToNat, Int.toNat_zero, Int.le_refl, Int.reduceAdd, decide_true, decide_false, Nat.reduceMul, Nat.reduceLT, Nat.lt_irrefl, true_and, and_self, ↓reduceIte]; rfl) ?_
         rintro j hj -
         have dj : decide (((sg + j : Nat) : Int) < ((sg + i : Nat) : Int)) = decide (j < i) := by rw [decide_eq_decide]; omega
         have hdt : ∀ k, k ≤ i → ∀ c ∈ ds.take k, dg c = true := fun k hk c hc => by
          obtain ⟨m, hm, rfl⟩ := List.getElem_of_mem hc
          obtain ⟨c', h1, h2⟩ := hpi m (by simp at hm; omega)
          rw [List.getElem_take]
          rw [List.getElem?_eq_some_iff] at h1
          obtain ⟨_, rfl⟩ := h1; exact h2
         have hvl : ∀ k, k ≤ i → valN (ds.take k) < 10 ^ k := fun k hk => valN_lt k _ (by rw [List.length_take]; omega) (hdt k hk)
         simp only [dj, go_sem, Nat.reduceEqDiff, Nat.reduceAdd, Nat.reduceLeDiff, List.length_map, Int.reduceLT, Int.reduceLE, Int.reduceToNat, Int.toNat_zero, Int.le_refl, Int.reduceAdd, decide_true, decide_false, Nat.reduceMul, Nat.reduceLT, Nat.lt_irrefl, true_and, and_self, ↓reduceIte]
         cases hji : decide (j < i) with
         | true =>
          have hji' := of_decide_eq_true hji
          obtain ⟨c, hc, hdc⟩ := hpi j hji'
          have hgc : s.data[sg + j]? = some c := (hsd j).trans hc
          have hc48 : 48 ≤ c.toNat ∧ c.toNat ≤ 57 := by unfold dg at hdc; simpa using hdc
          have v1 := hvl j (by omega)
          have v2 : (10 : Nat) ^ j ≤ 10 ^ 18 := Nat.pow_le_pow_right (by omega) (by omega)
          have u1 : IntKind.u64.wrap (((valN (ds.take j) : Nat) : Int) * 10) = ((valN (ds.take j) * 10 : Nat) : Int) := by rw [wrapU64 (by omega) (by omega)]; omega
          have u2 : IntKind.u8.wrap ((c.toNat : Int) - 48) = ((c.toNat - 48 : Nat) : Int) := by rw [wrapU8 (by omega) (by omega)]; omega
          have u3 : IntKind.u64.wrap ((c.toNat - 48 : Nat) : Int) = ((c.toNat - 48 : Nat) : Int) := wrapU64 (by omega) (by omega)
          have u4 : IntKind.u64.wrap (((valN (ds.take j) * 10 : Nat) : Int) + ((c.toNat - 48 : Nat) : Int)) = ((valN (ds.take (j + 1)) : Nat) : Int) := by
           have hjl := (List.getElem?_eq_some_iff.1 hc).1
           have e : ds.take (j + 1) = ds.take j ++ [c] := by rw [List.take_add_one, hc]; rfl
           rw [e, valN_snoc, wrapU64 (by omega) (by omega)]; omega
          have u5 : IntKind.i64.wrap (((sg + j : Nat) : Int) + 1) = ((sg + (j + 1) : Nat) : Int) := by rw [wrap64 (by omega) (by omega)]; omega
          simp only [nn0, Int.toNat_natCast, hgc, u1, u2, u3, u4, u5, go_sem, Nat.reduceEqDiff, Nat.reduceAdd, Nat.reduceLeDiff, List.length_map, Int.reduceLT, Int.reduceLE, Int.reduceToNat, Int.toNat_zero, Int.le_refl, Int.reduceAdd, decide_true, decide_false, Nat.reduceMul, Nat.reduceLT, Nat.lt_irrefl, true_and, and_self, ↓reduceIte]
          exact invN_next hji' trivial (by simp only [go_sem, Nat.reduceEqDiff, Nat.reduceAdd, Nat.reduceLeDiff, List.length_map, Int.reduceLT, Int.reduceLE, Int.reduceToNat, Int.toNat_zero, Int.le_refl, Int.reduceAdd, decide_true, decide_false, Nat.reduceMul, Nat.reduceLT, Nat.lt_irrefl, true_and, and_self, ↓reduceIte])
         | false =>
          have hji' : j = i := by have := of_decide_eq_false hji; omega
          subst hji'
          have v1 := hvl j (by omega)
          have v2 : (10 : Nat) ^ j ≤ 10 ^ 19 := Nat.pow_le_pow_right (by omega) (by omega)
          have z0 : ((sg : Int) == 0) = decide (sg = 0) := by rw [Bool.eq_iff_iff, beq_iff_eq, decide_eq_true_eq]; omega
          have z1 : ((sg : Int) == 1) = decide (sg = 1) := by rw [Bool.eq_iff_iff, beq_iff_eq, decide_eq_true_eq]; omega
          generalize hu : valN (ds.take j) = u at *
          have g7 : decide ((u : Int) > 9223372036854775807) = decide (9223372036854775807 < u) := by rw [decide_eq_decide]; omega
          have g8 : decide ((u : Int) > 9223372036854775808) = decide (9223372036854775808 < u) := by rw [decide_eq_decide]; omega
          simp only [z0, go_sem, Nat.reduceEqDiff, Nat.reduceAdd, Nat.reduceLeDiff, List.length_map, Int.reduceLT, Int.reduceLE, Int.reduceToNat, Int.toNat_zero, Int.le_refl, Int.reduceAdd, decide_true, decide_false, Nat.reduceMul, Nat.reduceLT, Nat.lt_irrefl, true_and, and_self, ↓reduceIte]
          cases hz0 : decide (sg = 0) with
          | true =>
           have hz0' := of_decide_eq_true hz0
           have hz1 : decide (sg = 1) = false := by simp; omega
           simp only [g7, go_sem, Nat.reduceEqDiff, Nat.reduceAdd, Nat.reduceLeDiff, List.length_map, Int.reduceLT, Int.reduceLE, Int.reduceToNat, Int.toNat_zero, Int.le_refl, Int.reduceAdd, decide_true, decide_false, Nat.reduceMul, Nat.reduceLT, Nat.lt_irrefl, true_and, and_self, ↓reduceIte]
           cases h7 : decide (9223372036854775807 < u) with
           | true =>
            simp only [go_sem, Nat.reduceEqDiff, Nat.reduceAdd, Nat.reduceLeDiff, List.length_map, Int.reduceLT, Int.reduceLE, Int.reduceToNat, Int.toNat_zero, Int.le_refl, Int.reduceAdd, decide_true, decide_false, Nat.reduceMul, Nat.reduceLT, Nat.lt_irrefl, true_and, and_self, ↓reduceIte]
            rw [if_pos (.inl ⟨hz0', of_decide_eq_true h7⟩)]; rfl
           | false =>
            have h7' := of_decide_eq_false h7
            have h8 : decide (9223372036854775808 < u) = false := by simp; omega
            have wi : IntKind.i64.wrap (u : Int) = (u : Int) := wrap64 (by omega) (by omega)
            simp only [g8, h8, z1, hz1, wi, go_sem, Nat.reduceEqDiff, Nat.reduceAdd, Nat.reduceLeDiff, List.length_map, Int.reduceLT, Int.reduceLE, Int.reduceToNat, Int.toNat_zero, Int.le_refl, Int.reduceAdd, decide_true, decide_false, Nat.reduceMul, Nat.reduceLT, Nat.lt_irrefl, true_and, and_self, ↓reduceIte]
            rw [if_neg (by omega), if_neg (by omega)]; rfl
          | false =>
           have hz0' := of_decide_eq_false hz0
           have hz1 : decide (sg = 1) = true := by simp; omega
           simp only [g8, go_sem, Nat.reduceEqDiff, Nat.reduceAdd, Nat.reduceLeDiff, List.length_map, Int.reduceLT, Int.reduceLE, Int.reduceToNat, Int.toNat_zero, Int.le_refl, Int.reduceAdd, decide_true, decide_false, Nat.reduceMul, Nat.reduceLT, Nat.lt_irrefl, true_and, and_self, ↓reduceIte]
           cases h8 : decide (9223372036854775808 < u) with
           | true =>
            simp only [go_sem, Nat.reduceEqDiff, Nat.reduceAdd, Nat.reduceLeDiff, List.length_map, Int.reduceLT, Int.reduceLE, Int.reduceToNat, Int.toNat_zero, Int.le_refl, Int.reduceAdd, decide_true, decide_false, Nat.reduceMul, Nat.reduceLT, Nat.lt_irrefl, true_and, and_self, ↓reduceIte]
            rw [if_pos (.inr (of_decide_eq_true h8))]; rfl
           | false =>
            have h8' := of_decide_eq_false h8
            simp only [z1, hz1, negU u (by omega), go_sem, Nat.reduceEqDiff, Nat.reduceAdd, Nat.reduceLeDiff, List.length_map, Int.reduceLT, Int.reduceLE, Int.reduceToNat, Int.toNat_zero, Int.le_refl, Int.reduceAdd, decide_true, decide_false, Nat.reduceMul, Nat.reduceLT, Nat.lt_irrefl, true_and, and_self, ↓reduceIte]
            rw [if_neg (by omega), if_pos (by omega)]; rfl
      | true =>
       have up : IntKind.i64.wrap (((sg + i : Nat) : Int) + 1) = ((sg + (i + 1) : Nat) : Int) := by rw [wrap64 (by omega) (by omega)]; omega
       simp only [up, go_sem, Nat.reduceEqDiff, Nat.reduceAdd, Nat.reduceLeDiff, List.length_map, Int.reduceLT, Int.reduceLE, Int.reduceToNat, Int.toNat_zero, Int.le_refl, Int.reduceAdd, decide_true, decide_false, Nat.reduceMul, Nat.reduceLT, Nat.lt_irrefl, true_and, and_self, ↓reduceIte]
       refine invN_next hlt' (fun j hj => ?_) (by simp only [go_sem, Nat.reduceEqDiff, Nat.reduceAdd, Nat.reduceLeDiff, List.length_map, Int.reduceLT, Int.reduceLE, Int.reduceToNat, Int.toNat_zero, Int.le_refl, Int.reduceAdd, decide_true, decide_false, Nat.reduceMul, Nat.reduceLT, Nat.lt_irrefl, true_and, and_self, ↓reduceIte])
       rcases Nat.lt_or_ge j i with h | h
       ·exact hpi j h
       ·obtain rfl : j = i := by omega
        exact ⟨c, hc, by rw [dg, h48, h57]; rfl⟩
   | false =>
    obtain ⟨sg, hsgd⟩ : ∃ sg, sgn (bl s) = sg := ⟨_, rfl⟩
    have hsgv : (0 : Nat) = sg := by rw [← hsgd, sgn, hh, if_neg (by simp; exact of_decide_eq_false h45)]
    obtain ⟨ds, hdsd⟩ : ∃ ds, (bl s).drop sg = ds := ⟨_, rfl⟩
    have hsg1 : sg ≤ 1 := by omega
    rw [hsgd, hdsd]
    have hsg : sg ≤ s.size := by omega
    have hdl : ds.length = s.size - sg := by rw [← hdsd, List.length_drop, size_bl]
    have hsd : ∀ i : Nat, s.data[sg + i]? = ds[i]? := fun i => by
     rw [← hdsd, List.getElem?_drop]
     exact (Array.getElem?_toList (xs := s.data)).symm
    have hnum : numN (bl s) = (ds.takeWhile dg).length := by rw [numN, hsgd, hdsd]
    simp only [go_sem, Nat.reduceEqDiff, Nat.reduceAdd, Nat.reduceLeDiff, List.length_map, Int.reduceLT, Int.reduceLE, Int.reduceToNat, Int.toNat_zero, Int.le_refl, Int.reduceAdd, decide_true, decide_false, Nat.reduceMul, Nat.reduceLT, Nat.lt_irrefl, true_and, and_self, ↓reduceIte]
    refine loop_N ds.length (fun i => ∀ j, j < i → ∃ c, ds[j]? = some c ∧ dg c = true) (fun i => ⟨[(0, .val (.string s)), (2, .ptr 2 0), (8, .val (.int .i64 sg)), (9, .val (.int .i64 (sg + i : Nat)))], [(2, [.val (.int .i64 0), .val (.int .i64 0), .val (.string ⟨#[]⟩)])], []⟩) (by simp) (by subst hsgv; simp only [go_sem, Nat.reduceEqDiff, Nat.reduceAdd, Nat.reduceLeDiff, List.length_map, Int.reduceLT, Int.reduceLE, Int.reduceToNat, Int.toNat_zero, Int.le_refl, Int.reduceAdd, decide_true, decide_false, Nat.reduceMul, Nat.reduceLT, Nat.lt_irrefl, true_and, and_self, ↓reduceIte]; rfl) ?_
    rintro i hil hpi
    have dlt : decide (((sg + i : Nat) : Int) < (s.size : Int)) = decide (i < ds.length) := by rw [decide_eq_decide, hdl]; omega
    simp only [dlt, go_sem, Nat.reduceEqDiff, Nat.reduceAdd, Nat.reduceLeDiff, List.length_map, Int.reduceLT, Int.reduceLE, Int.reduceToNat, Int.toNat_zero, Int.le_refl, Int.reduceAdd, decide_true, decide_false, Nat.reduceMul, Nat.reduceLT, Nat.lt_irrefl, true_and, and_self, ↓reduceIte]
    cases hlt : decide (i < ds.length) with
    | false =>
     have hlt' := of_decide_eq_false hlt
     have hN : numN (bl s) = i := by rw [hnum]; exact tw_len i ds hpi (fun c hc => by rw [List.getElem?_eq_none (by omega)] at hc; cases hc)
     have deq : (((sg + i : Nat) : Int) == (sg : Int)) = decide (i = 0) := by rw [Bool.eq_iff_iff, beq_iff_eq, decide_eq_true_eq]; omega
     have d1 : ((sg : Int) == 1) = decide (sg = 1) := by rw [Bool.eq_iff_iff, beq_iff_eq, decide_eq_true_eq]; omega
     simp only [deq, go_sem, Nat.reduceEqDiff, Nat.reduceAdd, Nat.reduceLeDiff, List.length_map, Int.reduceLT, Int.reduceLE, Int.reduceToNat, Int.toNat_zero, Int.le_refl, Int.reduceAdd, decide_true, decide_false, Nat.reduceMul, Nat.reduceLT, Nat.lt_irrefl, true_and, and_self, ↓reduceIte]
     by_cases hi0 : i = 0
     ·have hi0' : decide (i = 0) = true := by simp [hi0]
      simp only [hi0', d1, go_sem, Nat.reduceEqDiff, Nat.reduceAdd, Nat.reduceLeDiff, List.length_map, Int.reduceLT, Int.reduceLE, Int.reduceToNat, Int.toNat_zero, Int.le_refl, Int.reduceAdd, decide_true, decide_false, Nat.reduceMul, Nat.reduceLT, Nat.lt_irrefl, true_and, and_self, ↓reduceIte]
      rw [hN, if_pos hi0]
      cases hs1 : decide (sg = 1) with
      | true => simp only [go_sem, Nat.reduceEqDiff, Nat.reduceAdd, Nat.reduceLeDiff, List.length_map, Int.reduceLT, Int.reduceLE, Int.reduceToNat, Int.toNat_zero, Int.le_refl, Int.reduceAdd, decide_true, decide_false, Nat.reduceMul, Nat.reduceLT, Nat.lt_irrefl, true_and, and_self, ↓reduceIte]; rw [if_pos (of_decide_eq_true hs1)]; rfl
      | false => simp only [go_sem, Nat.reduceEqDiff, Nat.reduceAdd, Nat.reduceLeDiff, List.length_map, Int.reduceLT, Int.reduceLE, Int.reduceToNat, Int.toNat_zero, Int.le_refl, Int.reduceAdd, decide_true, decide_false, Nat.reduceMul, Nat.reduceLT, Nat.lt_irrefl, true_and, and_self, ↓reduceIte]; rw [if_neg (of_decide_eq_false hs1)]; rfl
     have hi0' : decide (i = 0) = false := by simp [hi0]
     obtain ⟨c0, hc0, hd0⟩ := hpi 0 (by omega)
     have hc0' : s.data[sg]? = some c0 := (hsd 0).trans hc0
     have hhd : ds.head? = some c0 := by rw [List.head?_eq_getElem?]; exact hc0
     have dz : ((c0.toNat : Int) == 48) = decide (c0 = 48) := dg_eq c0 48
     have dg1 : decide (((sg + i : Nat) : Int) > 1) = decide (1 < sg + i) := by rw [decide_eq_decide]; omega
     have wsub : IntKind.i64.wrap (((sg + i : Nat) : Int) - (sg : Int)) = (i : Int) := by rw [wrap64 (by omega) (by omega)]; omega
     have d19 : decide ((i : Int) > 19) = decide (19 < i) := by rw [decide_eq_decide]; omega
     rw [hN, if_neg hi0, hhd]
     simp only [hi0', nn0, Int.toNat_natCast, hc0', dz, go_sem, Nat.reduceEqDiff, Nat.reduceAdd, Nat.reduceLeDiff, List.length_map, Int.reduceLT, Int.reduceLE, Int.reduceToNat, Int.toNat_zero, Int.le_refl, Int.reduceAdd, decide_true, decide_false, Nat.reduceMul, Nat.reduceLT, Nat.lt_irrefl, true_and, and_self, ↓reduceIte]
     cases h0 : decide (c0 = 48) with
     | true =>
      have h0' := of_decide_eq_true h0
      simp only [dg1, go_sem, Nat.reduceEqDiff, Nat.reduceAdd, Nat.reduceLeDiff, List.length_map, Int.reduceLT, Int.reduceLE, Int.reduceToNat, Int.toNat_zero, Int.le_refl, Int.reduceAdd, decide_true, decide_false, Nat.reduceMul, Nat.reduceLT, Nat.lt_irrefl, true_and, and_self, ↓reduceIte]
      cases hi1 : decide (1 < sg + i) with
      | true =>
       simp only [go_sem, Nat.reduceEqDiff, Nat.reduceAdd, Nat.reduceLeDiff, List.length_map, Int.reduceLT, Int.reduceLE, Int.reduceToNat, Int.toNat_zero, Int.le_refl, Int.reduceAdd, decide_true, decide_false, Nat.reduceMul, Nat.reduceLT, Nat.lt_irrefl, true_and, and_self, ↓reduceIte]
       rw [if_pos (.inl ⟨by rw [h0'], of_decide_eq_true hi1⟩)]; rfl
      | false =>
       have hi19 : ¬ 19 < i := by have := of_decide_eq_false hi1; omega
       have hi19' : decide (19 < i) = false := by simp [hi19]
       simp only [wsub, d19, hi19', go_sem, Nat.reduceEqDiff, Nat.reduceAdd, Nat.reduceLeDiff, List.length_map, Int.reduceLT, Int.reduceLE, Int.reduceToNat, Int.toNat_zero, Int.le_refl, Int.reduceAdd, decide_true, decide_false, Nat.reduceMul, Nat.reduceLT, Nat.lt_irrefl, true_and, and_self, ↓reduceIte]
       rw [if_neg (fun h => h.elim (fun h => of_decide_eq_false hi1 h.2) hi19)]
       refine loop_N i (fun _ => True) (fun j => ⟨[(0, .val (.string s)), (2, .ptr 2 0), (8, .val (.int .i64 sg)), (9, .val (.int .i64 (sg + i : Nat))), (10, .val (.int .u64 (valN (ds.take j)))), (11, .val (.int .i64 (sg + j : Nat)))], [(2, [.val (.int .i64 0), .val (.int .i64 0), .val (.string ⟨#[]⟩)])], []⟩) trivial (by simp only [go_sem, Nat.reduceEqDiff, Nat.reduceAdd, Nat.reduceLeDiff, List.length_map, Int.reduceLT, Int.reduceLE, Int.reduceToNat, Int.toNat_zero, Int.le_refl, Int.reduceAdd, decide_true, decide_false, Nat.reduceMul, Nat.reduceLT, Nat.lt_irrefl, true_and, and_self, ↓reduceIte]; rfl) ?_
       rintro j hj -
       have dj : decide (((sg + j : Nat) : Int) < ((sg + i : Nat) : Int)) = decide (j < i) := by rw [decide_eq_decide]; omega
       have hdt : ∀ k, k ≤ i → ∀ c ∈ ds.take k, dg c = true := fun k hk c hc => by
        obtain ⟨m, hm, rfl⟩ := List.getElem_of_mem hc
        obtain ⟨c', h1, h2⟩ := hpi m (by simp at hm; omega)
        rw [List.getElem_take]
        rw [List.getElem?_eq_some_iff] at h1
        obtain ⟨_, rfl⟩ := h1; exact h2
       have hvl : ∀ k, k ≤ i → valN (ds.take k) < 10 ^ k := fun k hk => valN_lt k _ (by rw [List.length_take]; omega) (hdt k hk)
       simp only [dj, go_sem, Nat.reduceEqDiff, Nat.reduceAdd, Nat.reduceLeDiff, List.length_map, Int.reduceLT, Int.reduceLE, Int.reduceToNat, Int.toNat_zero, Int.le_refl, Int.reduceAdd, decide_true, decide_false, Nat.reduceMul, Nat.reduceLT, Nat.lt_irrefl, true_and, and_self, ↓reduceIte]
       cases hji : decide (j < i) with
       | true =>
        have hji' := of_decide_eq_true hji
        obtain ⟨c, hc, hdc⟩ := hpi j hji'
        have hgc : s.data[sg + j]? = some c := (hsd j).trans hc
        have hc48 : 48 ≤ c.toNat ∧ c.toNat ≤ 57 := by unfold dg at hdc; simpa using hdc
        have v1 := hvl j (by omega)
        have v2 : (10 : Nat) ^ j ≤ 10 ^ 18 := Nat.pow_le_pow_right (by omega) (by omega)
        have u1 : IntKind.u64.wrap (((valN (ds.take j) : Nat) : Int) * 10) = ((valN (ds.take j) * 10 : Nat) : Int) := by rw [wrapU64 (by omega) (by omega)]; omega
        have u2 : IntKind.u8.wrap ((c.toNat : Int) - 48) = ((c.toNat - 48 : Nat) : Int) := by rw [wrapU8 (by omega) (by omega)]; omega
        have u3 : IntKind.u64.wrap ((c.toNat - 48 : Nat) : Int) = ((c.toNat - 48 : Nat) : Int) := wrapU64 (by omega) (by omega)
        have u4 : IntKind.u64.wrap (((valN (ds.take j) * 10 : Nat) : Int) + ((c.toNat - 48 : Nat) : Int)) = ((valN (ds.take (j + 1)) : Nat) : Int) := by
         have hjl := (List.getElem?_eq_some_iff.1 hc).1
         have e : ds.take (j + 1) = ds.take j ++ [c] := by rw [List.take_add_one, hc]; rfl
         rw [e, valN_snoc, wrapU64 (by omega) (by omega)]; omega
        have u5 : IntKind.i64.wrap (((sg + j : Nat) : Int) + 1) = ((sg + (j + 1) : Nat) : Int) := by rw [wrap64 (by omega) (by omega)]; omega
        simp only [nn0, Int.toNat_natCast, hgc, u1, u2, u3, u4, u5, go_sem, Nat.reduceEqDiff, Nat.reduceAdd, Nat.reduceLeDiff, List.length_map, Int.reduceLT, Int.reduceLE, Int.reduceToNat, Int.toNat_zero, Int.le_refl, Int.reduceAdd, decide_true, decide_false, Nat.reduceMul, Nat.reduceLT, Nat.lt_irrefl, true_and, and_self, ↓reduceIte]
        exact invN_next hji' trivial (by simp only [go_sem, Nat.reduceEqDiff, Nat.reduceAdd, Nat.reduceLeDiff, List.length_map, Int.reduceLT, Int.reduceLE, Int.reduceToNat, Int.toNat_zero, Int.le_refl, Int.reduceAdd, decide_true, decide_false, Nat.reduceMul, Nat.reduceLT, Nat.lt_irrefl, true_and, and_self, ↓reduceIte])
       | false =>
        have hji' : j = i := by have := of_decide_eq_false hji; omega
        subst hji'
        have v1 := hvl j (by omega)
        have v2 : (10 : Nat) ^ j ≤ 10 ^ 19 := Nat.pow_le_pow_right (by omega) (by omega)
        have z0 : ((sg : Int) == 0) = decide (sg = 0) := by rw [Bool.eq_iff_iff, beq_iff_eq, decide_eq_true_eq]; omega
        have z1 : ((sg : Int) == 1) = decide (sg = 1) := by rw [Bool.eq_iff_iff, beq_iff_eq, decide_eq_true_eq]; omega
        generalize hu : valN (ds.take j) = u at *
        have g7 : decide ((u : Int) > 9223372036854775807) = decide (9223372036854775807 < u) := by rw [decide_eq_decide]; omega
        have g8 : decide ((u : Int) > 9223372036854775808) = decide (9223372036854775808 < u) := by rw [decide_eq_decide]; omega
        simp only [z0, go_sem, Nat.reduceEqDiff, Nat.reduceAdd, Nat.reduceLeDiff, List.length_map, Int.reduceLT, Int.reduceLE, Int.reduceToNat, Int.toNat_zero, Int.le_refl, Int.reduceAdd, decide_true, decide_false, Nat.reduceMul, Nat.reduceLT, Nat.lt_irrefl, true_and, and_self, ↓reduceIte]
        cases hz0 : decide (sg = 0) with
        | true =>
         have hz0' := of_decide_eq_true hz0
         have hz1 : decide (sg = 1) = false := by simp; omega
         simp only [g7, go_sem, Nat.reduceEqDiff, Nat.reduceAdd, Nat.reduceLeDiff, List.length_map, Int.reduceLT, Int.reduceLE, Int.reduceToNat, Int.toNat_zero, Int.le_refl, Int.reduceAdd, decide_true, decide_false, Nat.reduceMul, Nat.reduceLT, Nat.lt_irrefl, true_and, and_self, ↓reduceIte]
         cases h7 : decide (9223372036854775807 < u) with
         | true =>
          simp only [go_sem, Nat.reduceEqDiff, Nat.reduceAdd, Nat.reduceLeDiff, List.length_map, Int.reduceLT, Int.reduceLE, Int.reduceToNat, Int.toNat_zero, Int.le_refl, Int.reduceAdd, decide_true, decide_false, Nat.reduceMul, Nat.reduceLT, Nat.lt_irrefl, true_and, and_self, ↓reduceIte]
          rw [if_pos (.inl ⟨hz0', of_decide_eq_true h7⟩)]; rfl
         | false =>
          have h7' := of_decide_eq_false h7
          have h8 : decide (9223372036854775808 < u) = false := by simp; omega
          have wi : IntKind.i64.wrap (u : Int) = (u : Int) := wrap64 (by omega) (by omega)
          simp only [g8, h8, z1, hz1, wi, go_sem, Nat.reduceEqDiff, Nat.reduceAdd, Nat.reduceLeDiff, List.length_map, Int.reduceLT, Int.reduceLE, Int.reduceToNat, Int.toNat_zero, Int.le_refl, Int.reduceAdd, decide_true, decide_false, Nat.reduceMul, Nat.reduceLT, Nat.lt_irrefl, true_and, and_self, ↓reduceIte]
          rw [if_neg (by omega), if_neg (by omega)]; rfl
        | false =>
         have hz0' := of_decide_eq_false hz0
         have hz1 : decide (sg = 1) = true := by simp; omega
         simp only [g8, go_sem, Nat.reduceEqDiff, Nat.reduceAdd, Nat.reduceLeDiff, List.length_map, Int.reduceLT, Int.reduceLE, Int.reduceToNat, Int.toNat_zero, Int.le_refl, Int.reduceAdd, decide_true, decide_false, Nat.reduceMul, Nat.reduceLT, Nat.lt_irrefl, true_and, and_self, ↓reduceIte]
         cases h8 : decide (9223372036854775808 < u) with
         | true =>
          simp only [go_sem, Nat.reduceEqDiff, Nat.reduceAdd, Nat.reduceLeDiff, List.length_map, Int.reduceLT, Int.reduceLE, Int.reduceToNat, Int.toNat_zero, Int.le_refl, Int.reduceAdd, decide_true, decide_false, Nat.reduceMul, Nat.reduceLT, Nat.lt_irrefl, true_and, and_self, ↓reduceIte]
          rw [if_pos (.inr (of_decide_eq_true h8))]; rfl
         | false =>
          have h8' := of_decide_eq_false h8
          simp only [z1, hz1, negU u (by omega), go_sem, Nat.reduceEqDiff, Nat.reduceAdd, Nat.reduceLeDiff, List.length_map, Int.reduceLT, Int.reduceLE, Int.reduceToNat, Int.toNat_zero, Int.le_refl, Int.reduceAdd, decide_true, decide_false, Nat.reduceMul, Nat.reduceLT, Nat.lt_irrefl, true_and, and_self, ↓reduceIte]
          rw [if_neg (by omega), if_pos (by omega)]; rfl
     | false =>
      have h0' := of_decide_eq_false h0
      simp only [wsub, d19, go_sem, Nat.reduceEqDiff, Nat.reduceAdd, Nat.reduceLeDiff, List.length_map, Int.reduceLT, Int.reduceLE, Int.reduceToNat, Int.toNat_zero, Int.le_refl, Int.reduceAdd, decide_true, decide_false, Nat.reduceMul, Nat.reduceLT, Nat.lt_irrefl, true_and, and_self, ↓reduceIte]
      cases hi19' : decide (19 < i) with
      | true =>
       simp only [go_sem, Nat.reduceEqDiff, Nat.reduceAdd, Nat.reduceLeDiff, List.length_map, Int.reduceLT, Int.reduceLE, Int.reduceToNat, Int.toNat_zero, Int.le_refl, Int.reduceAdd, decide_true, decide_false, Nat.reduceMul, Nat.reduceLT, Nat.lt_irrefl, true_and, and_self, ↓reduceIte]
       rw [if_pos (.inr (of_decide_eq_true hi19'))]; rfl
      | false =>
       have hi19 := of_decide_eq_false hi19'
       simp only [go_sem, Nat.reduceEqDiff, Nat.reduceAdd, Nat.reduceLeDiff, List.length_map, Int.reduceLT, Int.reduceLE, Int.reduceToNat, Int.toNat_zero, Int.le_refl, Int.reduceAdd, decide_true, decide_false, Nat.reduceMul, Nat.reduceLT, Nat.lt_irrefl, true_and, and_self, ↓reduceIte]
       rw [if_neg (fun h => h.elim (fun h => h0' (by simpa using h.1)) hi19)]
       refine loop_N i (fun _ => True) (fun j => ⟨[(0, .val (.string s)), (2, .ptr 2 0), (8, .val (.int .i64 sg)), (9, .val (.int .i64 (sg + i : Nat))), (10, .val (.int .u64 (valN (ds.take j)))), (11, .val (.int .i64 (sg + j : Nat)))], [(2, [.val (.int .i64 0), .val (.int .i64 0), .val (.string ⟨#[]⟩)])], []⟩) trivial (by simp only [go_sem, Nat.reduceEqDiff, Nat.reduceAdd, Nat.reduceLeDiff, List.length_map, Int.reduceLT, Int.reduceLE, Int.reduceToNat, Int.toNat_zero, Int.le_refl, Int.reduceAdd, decide_true, decide_false, Nat.reduceMul, Nat.reduceLT, Nat.lt_irrefl, true_and, and_self, ↓reduceIte]; rfl) ?_
       rintro j hj -
       have dj : decide (((sg + j : Nat) : Int) < ((sg + i : Nat) : Int)) = decide (j < i) := by rw [decide_eq_decide]; omega
       have hdt : ∀ k, k ≤ i → ∀ c ∈ ds.take k, dg c = true := fun k hk c hc => by
        obtain ⟨m, hm, rfl⟩ := List.getElem_of_mem hc
        obtain ⟨c', h1, h2⟩ := hpi m (by simp at hm; omega)
        rw [List.getElem_take]
        rw [List.getElem?_eq_some_iff] at h1
        obtain ⟨_, rfl⟩ := h1; exact h2
       have hvl : ∀ k, k ≤ i → valN (ds.take k) < 10 ^ k := fun k hk => valN_lt k _ (by rw [List.length_take]; omega) (hdt k hk)
       simp only [dj, go_sem, Nat.reduceEqDiff, Nat.reduceAdd, Nat.reduceLeDiff, List.length_map, Int.reduceLT, Int.reduceLE, Int.reduceToNat, Int.toNat_zero, Int.le_refl, Int.reduceAdd, decide_true, decide_false, Nat.reduceMul, Nat.reduceLT, Nat.lt_irrefl, true_and, and_self, ↓reduceIte]
       cases hji : decide (j < i) with
       | true =>
        have hji' := of_decide_eq_true hji
        obtain ⟨c, hc, hdc⟩ := hpi j hji'
        have hgc : s.data[sg + j]? = some c := (hsd j).trans hc
        have hc48 : 48 ≤ c.toNat ∧ c.toNat ≤ 57 := by unfold dg at hdc; simpa using hdc
        have v1 := hvl j (by omega)
        have v2 : (10 : Nat) ^ j ≤ 10 ^ 18 := Nat.pow_le_pow_right (by omega) (by omega)
        have u1 : IntKind.u64.wrap (((valN (ds.take j) : Nat) : Int) * 10) = ((valN (ds.take j) * 10 : Nat) : Int) := by rw [wrapU64 (by omega) (by omega)]; omega
        have u2 : IntKind.u8.wrap ((c.toNat : Int) - 48) = ((c.toNat - 48 : Nat) : Int) := by rw [wrapU8 (by omega) (by omega)]; omega
        have u3 : IntKind.u64.wrap ((c.toNat - 48 : Nat) : Int) = ((c.toNat - 48 : Nat) : Int) := wrapU64 (by omega) (by omega)
        have u4 : IntKind.u64.wrap (((valN (ds.take j) * 10 : Nat) : Int) + ((c.toNat - 48 : Nat) : Int)) = ((valN (ds.take (j + 1)) : Nat) : Int) := by
         have hjl := (List.getElem?_eq_some_iff.1 hc).1
         have e : ds.take (j + 1) = ds.take j ++ [c] := by rw [List.take_add_one, hc]; rfl
         rw [e, valN_snoc, wrapU64 (by omega) (by omega)]; omega
        have u5 : IntKind.i64.wrap (((sg + j : Nat) : Int) + 1) = ((sg + (j + 1) : Nat) : Int) := by rw [wrap64 (by omega) (by omega)]; omega
        simp only [nn0, Int.toNat_natCast, hgc, u1, u2, u3, u4, u5, go_sem, Nat.reduceEqDiff, Nat.reduceAdd, Nat.reduceLeDiff, List.length_map, Int.reduceLT, Int.reduceLE, Int.reduceToNat, Int.toNat_zero, Int.le_refl, Int.reduceAdd, decide_true, decide_false, Nat.reduceMul, Nat.reduceLT, Nat.lt_irrefl, true_and, and_self, ↓reduceIte]
        exact invN_next hji' trivial (by simp only [go_sem, Nat.reduceEqDiff, Nat.reduceAdd, Nat.reduceLeDiff, List.length_map, Int.reduceLT, Int.reduceLE, Int.reduceToNat, Int.toNat_zero, Int.le_refl, Int.reduceAdd, decide_true, decide_false, Nat.reduceMul, Nat.reduceLT, Nat.lt_irrefl, true_and, and_self, ↓reduceIte])
       | false =>
        have hji' : j = i := by have := of_decide_eq_false hji; omega
        subst hji'
        have v1 := hvl j (by omega)
        have v2 : (10 : Nat) ^ j ≤ 10 ^ 19 := Nat.pow_le_pow_right (by omega) (by omega)
        have z0 : ((sg : Int) == 0) = decide (sg = 0) := by rw [Bool.eq_iff_iff, beq_iff_eq, decide_eq_true_eq]; omega
        have z1 : ((sg : Int) == 1) = decide (sg = 1) := by rw [Bool.eq_iff_iff, beq_iff_eq, decide_eq_true_eq]; omega
        generalize hu : valN (ds.take j) = u at *
        have g7 : decide ((u : Int) > 9223372036854775807) = decide (9223372036854775807 < u) := by rw [decide_eq_decide]; omega
        have g8 : decide ((u : Int) > 9223372036854775808) = decide (9223372036854775808 < u) := by rw [decide_eq_decide]; omega
        simp only [z0, go_sem, Nat.reduceEqDiff, Nat.reduceAdd, Nat.reduceLeDiff, List.length_map, Int.reduceLT, Int.reduceLE, Int.reduceToNat, Int.toNat_zero, Int.le_refl, Int.reduceAdd, decide_true, decide_false, Nat.reduceMul, Nat.reduceLT, Nat.lt_irrefl, true_and, and_self, ↓reduceIte]
        cases hz0 : decide (sg = 0) with
        | true =>
         have hz0' := of_decide_eq_true hz0
         have hz1 : decide (sg = 1) = false := by simp; omega
         simp only [g7, go_sem, Nat.reduceEqDiff, Nat.reduceAdd, Nat.reduceLeDiff, List.length_map, Int.reduceLT, Int.reduceLE, Int.reduceToNat, Int.toNat_zero, Int.le_refl, Int.reduceAdd, decide_true, decide_false, Nat.reduceMul, Nat.reduceLT, Nat.lt_irrefl, true_and, and_self, ↓reduceIte]
         cases h7 : decide (9223372036854775807 < u) with
         | true =>
          simp only [go_sem, Nat.reduceEqDiff, Nat.reduceAdd, Nat.reduceLeDiff, List.length_map, Int.reduceLT, Int.reduceLE, Int.reduceToNat, Int.toNat_zero, Int.le_refl, Int.reduceAdd, decide_true, decide_false, Nat.reduceMul, Nat.reduceLT, Nat.lt_irrefl, true_and, and_self, ↓reduceIte]
          rw [if_pos (.inl ⟨hz0', of_decide_eq_true h7⟩)]; rfl
         | false =>
          have h7' := of_decide_eq_false h7
          have h8 : decide (9223372036854775808 < u) = false := by simp; omega
          have wi : IntKind.i64.wrap (u : Int) = (u : Int) := wrap64 (by omega) (by omega)
          simp only [g8, h8, z1, hz1, wi, go_sem, Nat.reduceEqDiff, Nat.reduceAdd, Nat.reduceLeDiff, List.length_map, Int.reduceLT, Int.reduceLE, Int.reduceToNat, Int.toNat_zero, Int.le_refl, Int.reduceAdd, decide_true, decide_false, Nat.reduceMul, Nat.reduceLT, Nat.lt_irrefl, true_and, and_self, ↓reduceIte]
          rw [if_neg (by omega), if_neg (by omega)]; rfl
        | false =>
         have hz0' := of_decide_eq_false hz0
         have hz1 : decide (sg = 1) = true := by simp; omega
         simp only [g8, go_sem, Nat.reduceEqDiff, Nat.reduceAdd, Nat.reduceLeDiff, List.length_map, Int.reduceLT, Int.reduceLE, Int.reduceToNat, Int.toNat_zero, Int.le_refl, Int.reduceAdd, decide_true, decide_false, Nat.reduceMul, Nat.reduceLT, Nat.lt_irrefl, true_and, and_self, ↓reduceIte]
         cases h8 : decide (9223372036854775808 < u) with
         | true =>
          simp only [go_sem, Nat.reduceEqDiff, Nat.reduceAdd, Nat.reduceLeDiff, List.length_map, Int.reduceLT, Int.reduceLE, Int.reduceToNat, Int.toNat_zero, Int.le_refl, Int.reduceAdd, decide_true, decide_false, Nat.reduceMul, Nat.reduceLT, Nat.lt_irrefl, true_and, and_self, ↓reduceIte]
          rw [if_pos (.inr (of_decide_eq_true h8))]; rfl
         | false =>
          have h8' := of_decide_eq_false h8
          simp only [z1, hz1, negU u (by omega), go_sem, Nat.reduceEqDiff, Nat.reduceAdd, Nat.reduceLeDiff, List.length_map, Int.reduceLT, Int.reduceLE, Int.reduceToNat, Int.toNat_zero, Int.le_refl, Int.reduceAdd, decide_true, decide_false, Nat.reduceMul, Nat.reduceLT, Nat.lt_irrefl, true_and, and_self, ↓reduceIte]
          rw [if_neg (by omega), if_pos (by omega)]; rfl
    | true =>
     have hlt' := of_decide_eq_true hlt
     obtain ⟨c, hc⟩ : ∃ c, ds[i]? = some c := ⟨_, List.getElem?_eq_getElem hlt'⟩
     have hc' : s.data[sg + i]? = some c := (hsd i).trans hc
     have d48 : decide ((c.toNat : Int) ≥ 48) = decide (48 ≤ c.toNat) := by rw [decide_eq_decide]; omega
     have d57 : decide ((c.toNat : Int) ≤ 57) = decide (c.toNat ≤ 57) := by rw [decide_eq_decide]; omega
     simp only [nn0, Int.toNat_natCast, hc', d48, go_sem, Nat.reduceEqDiff, Nat.reduceAdd, Nat.reduceLeDiff, List.length_map, Int.reduceLT, Int.reduceLE, Int.reduceToNat, Int.toNat_zero, Int.le_refl, Int.reduceAdd, decide_true, decide_false, Nat.reduceMul, Nat.reduceLT, Nat.lt_irrefl, true_and, and_self, ↓reduceIte]
     cases h48 : decide (48 ≤ c.toNat) with
     | false =>
      have hN : numN (bl s) = i := by rw [hnum]; exact tw_len i ds hpi (fun c' hc1 => by rw [hc] at hc1; cases hc1; rw [dg, h48]; rfl)
      have deq : (((sg + i : Nat) : Int) == (sg : Int)) = decide (i = 0) := by rw [Bool.eq_iff_iff, beq_iff_eq, decide_eq_true_eq]; omega
      have d1 : ((sg : Int) == 1) = decide (sg = 1) := by rw [Bool.eq_iff_iff, beq_iff_eq, decide_eq_true_eq]; omega
      simp only [deq, go_sem, Nat.reduceEqDiff, Nat.reduceAdd, Nat.reduceLeDiff, List.length_map, Int.reduceLT, Int.reduceLE, Int.reduceToNat, Int.toNat_zero, Int.le_refl, Int.reduceAdd, decide_true, decide_false, Nat.reduceMul, Nat.reduceLT, Nat.lt_irrefl, true_and, and_self, ↓reduceIte]
      by_cases hi0 : i = 0
      ·have hi0' : decide (i = 0) = true := by simp [hi0]
       simp only [hi0', d1, go_sem, Nat.reduceEqDiff, Nat.reduceAdd, Nat.reduceLeDiff, List.length_map, Int.reduceLT, Int.reduceLE, Int.reduceToNat, Int.toNat_zero, Int.le_refl, Int.reduceAdd, decide_true, decide_false, Nat.reduceMul, Nat.reduceLT, Nat.lt_irrefl, true_and, and_self, ↓reduceIte]
       rw [hN, if_pos hi0]
       cases hs1 : decide (sg = 1) with
       | true => simp only [go_sem, Nat.reduceEqDiff, Nat.reduceAdd, Nat.reduceLeDiff, List.length_map, Int.reduceLT, Int.reduceLE, Int.reduceToNat, Int.toNat_zero, Int.le_refl, Int.reduceAdd, decide_true, decide_false, Nat.reduceMul, Nat.reduceLT, Nat.lt_irrefl, true_and, and_self, ↓reduceIte]; rw [if_pos (of_decide_eq_true hs1)]; rfl
       | false => simp only [go_sem, Nat.reduceEqDiff, Nat.reduceAdd, Nat.reduceLeDiff, List.length_map, Int.reduceLT, Int.reduceLE, Int.reduceToNat, Int.toNat_zero, Int.le_refl, Int.reduceAdd, decide_true, decide_false, Nat.reduceMul, Nat.reduceLT, Nat.lt_irrefl, true_and, and_self, ↓reduceIte]; rw [if_neg (of_decide_eq_false hs1)]; rfl
      have hi0' : decide (i = 0) = false := by simp [hi0]
      obtain ⟨c0, hc0, hd0⟩ := hpi 0 (by omega)
      have hc0' : s.data[sg]? = some c0 := (hsd 0).trans hc0
      have hhd : ds.head? = some c0 := by rw [List.head?_eq_getElem?]; exact hc0
      have dz : ((c0.toNat : Int) == 48) = decide (c0 = 48) := dg_eq c0 48
      have dg1 : decide (((sg + i : Nat) : Int) > 1) = decide (1 < sg + i) := by rw [decide_eq_decide]; omega
      have wsub : IntKind.i64.wrap (((sg + i : Nat) : Int) - (sg : Int)) = (i : Int) := by rw [wrap64 (by omega) (by omega)]; omega
      have d19 : decide ((i : Int) > 19) = decide (19 < i) := by rw [decide_eq_decide]; omega
      rw [hN, if_neg hi0, hhd]
      simp only [hi0', nn0, Int.toNat_natCast, hc0', dz, go_sem, Nat.reduceEqDiff, Nat.reduceAdd, Nat.reduceLeDiff, List.length_map, Int.reduceLT, Int.reduceLE, Int.reduceToNat, Int.toNat_zero, Int.le_refl, Int.reduceAdd, decide_true, decide_false, Nat.reduceMul, Nat.reduceLT, Nat.lt_irrefl, true_and, and_self, ↓reduceIte]
      cases h0 : decide (c0 = 48) with
      | true =>
       have h0' := of_decide_eq_true h0
       simp only [dg1, go_sem, Nat.reduceEqDiff, Nat.reduceAdd, Nat.reduceLeDiff, List.length_map, Int.reduceLT, Int.reduceLE, Int.reduceToNat, Int.toNat_zero, Int.le_refl, Int.reduceAdd, decide_true, decide_false, Nat.reduceMul, Nat.reduceLT, Nat.lt_irrefl, true_and, and_self, ↓reduceIte]
       cases hi1 : decide (1 < sg + i) with
       | true =>
        simp only [go_sem, Nat.reduceEqDiff, Nat.reduceAdd, Nat.reduceLeDiff, List.length_map, Int.reduceLT, Int.reduceLE, Int.reduceToNat, Int.toNat_zero, Int.le_refl, Int.reduceAdd, decide_true, decide_false, Nat.reduceMul, Nat.reduceLT, Nat.lt_irrefl, true_and, and_self, ↓reduceIte]
        rw [if_pos (.inl ⟨by rw [h0'], of_decide_eq_true hi1⟩)]; rfl
       | false =>
        have hi19 : ¬ 19 < i := by have := of_decide_eq_false hi1; omega
        have hi19' : decide (19 < i) = false := by simp [hi19]
        simp only [wsub, d19, hi19', go_sem, Nat.reduceEqDiff, Nat.reduceAdd, Nat.reduceLeDiff, List.length_map, Int.reduceLT, Int.reduceLE, Int.reduceToNat, Int.toNat_zero, Int.le_refl, Int.reduceAdd, decide_true, decide_false, Nat.reduceMul, Nat.reduceLT, Nat.lt_irrefl, true_and, and_self, ↓reduceIte]
        rw [if_neg (fun h => h.elim (fun h => of_decide_eq_false hi1 h.2) hi19)]
        refine loop_N i (fun _ => True) (fun j => ⟨[(0, .val (.string s)), (2, .ptr 2 0), (8, .val (.int .i64 sg)), (9, .val (.int .i64 (sg + i : Nat))), (10, .val (.int .u64 (valN (ds.take j)))), (11, .val (.int .i64 (sg + j : Nat)))], [(2, [.val (.int .i64 0), .val (.int .i64 0), .val (.string ⟨#[]⟩)])], []⟩) trivial (by simp only [go_sem, Nat.reduceEqDiff, Nat.reduceAdd, Nat.reduceLeDiff, List.length_map, Int.reduceLT, Int.reduceLE, Int.reduceToNat, Int.toNat_zero, Int.le_refl, Int.reduceAdd, decide_true, decide_false, Nat.reduceMul, Nat.reduceLT, Nat.lt_irrefl, true_and, and_self, ↓reduceIte]; rfl) ?_
        rintro j hj -
        have dj : decide (((sg + j : Nat) : Int) < ((sg + i : Nat) : Int)) = decide (j < i) := by rw [decide_eq_decide]; omega
        have hdt : ∀ k, k ≤ i → ∀ c ∈ ds.take k, dg c = true := fun k hk c hc => by
         obtain ⟨m, hm, rfl⟩ := List.getElem_of_mem hc
         obtain ⟨c', h1, h2⟩ := hpi m (by simp at hm; omega)
         rw [List.getElem_take]
         rw [List.getElem?_eq_some_iff] at h1
         obtain ⟨_, rfl⟩ := h1; exact h2
        have hvl : ∀ k, k ≤ i → valN (ds.take k) < 10 ^ k := fun k hk => valN_lt k _ (by rw [List.length_take]; omega) (hdt k hk)
        simp only [dj, go_sem, Nat.reduceEqDiff, Nat.reduceAdd, Nat.reduceLeDiff, List.length_map, Int.reduceLT, Int.reduceLE, Int.reduceToNat, Int.toNat_zero, Int.le_refl, Int.reduceAdd, decide_true, decide_false, Nat.reduceMul, Nat.reduceLT, Nat.lt_irrefl, true_and, and_self, ↓reduceIte]
        cases hji : decide (j < i) with
        | true =>
         have hji' := of_decide_eq_true hji
         obtain ⟨c, hc, hdc⟩ := hpi j hji'
         have hgc : s.data[sg + j]? = some c := (hsd j).trans hc
         have hc48 : 48 ≤ c.toNat ∧ c.toNat ≤ 57 := by unfold dg at hdc; simpa using hdc
         have v1 := hvl j (by omega)
         have v2 : (10 : Nat) ^ j ≤ 10 ^ 18 := Nat.pow_le_pow_right (by omega) (by omega)
         have u1 : IntKind.u64.wrap (((valN (ds.take j) : Nat) : Int) * 10) = ((valN (ds.take j) * 10 : Nat) : Int) := by rw [wrapU64 (by omega) (by omega)]; omega
         have u2 : IntKind.u8.wrap ((c.toNat : Int) - 48) = ((c.toNat - 48 : Nat) : Int) := by rw [wrapU8 (by omega) (by omega)]; omega
         have u3 : IntKind.u64.wrap ((c.toNat - 48 : Nat) : Int) = ((c.toNat - 48 : Nat) : Int) := wrapU64 (by omega) (by omega)
         have u4 : IntKind.u64.wrap (((valN (ds.take j) * 10 : Nat) : Int) + ((c.toNat - 48 : Nat) : Int)) = ((valN (ds.take (j + 1)) : Nat) : Int) := by
          have hjl := (List.getElem?_eq_some_iff.1 hc).1
          have e : ds.take (j + 1) = ds.take j ++ [c] := by rw [List.take_add_one, hc]; rfl
          rw [e, valN_snoc, wrapU64 (by omega) (by omega)]; omega
         have u5 : IntKind.i64.wrap (((sg + j : Nat) : Int) + 1) = ((sg + (j + 1) : Nat) : Int) := by rw [wrap64 (by omega) (by omega)]; omega
         simp only [nn0, Int.toNat_natCast, hgc, u1, u2, u3, u4, u5, go_sem, Nat.reduceEqDiff, Nat.reduceAdd, Nat.reduceLeDiff, List.length_map, Int.reduceLT, Int.reduceLE, Int.reduceToNat, Int.toNat_zero, Int.le_refl, Int.reduceAdd, decide_true, decide_false, Nat.reduceMul, Nat.reduceLT, Nat.lt_irrefl, true_and, and_self, ↓reduceIte]
         exact invN_next hji' trivial (by simp only [go_sem, Nat.reduceEqDiff, Nat.reduceAdd, Nat.reduceLeDiff, List.length_map, Int.reduceLT, Int.reduceLE, Int.reduceToNat, Int.toNat_zero, Int.le_refl, Int.reduceAdd, decide_true, decide_false, Nat.reduceMul, Nat.reduceLT, Nat.lt_irrefl, true_and, and_self, ↓reduceIte])
        | false =>
         have hji' : j = i := by have := of_decide_eq_false hji; omega
         subst hji'
         have v1 := hvl j (by omega)
         have v2 : (10 : Nat) ^ j ≤ 10 ^ 19 := Nat.pow_le_pow_right (by omega) (by omega)
         have z0 : ((sg : Int) == 0) = decide (sg = 0) := by rw [Bool.eq_iff_iff, beq_iff_eq, decide_eq_true_eq]; omega
         have z1 : ((sg : Int) == 1) = decide (sg = 1) := by rw [Bool.eq_iff_iff, beq_iff_eq, decide_eq_true_eq]; omega
         generalize hu : valN (ds.take j) = u at *
         have g7 : decide ((u : Int) > 9223372036854775807) = decide (9223372036854775807 < u) := by rw [decide_eq_decide]; omega
         have g8 : decide ((u : Int) > 9223372036854775808) = decide (9223372036854775808 < u) := by rw [decide_eq_decide]; omega
         simp only [z0, go_sem, Nat.reduceEqDiff, Nat.reduceAdd, Nat.reduceLeDiff, List.length_map, Int.reduceLT, Int.reduceLE, Int.reduceToNat, Int.toNat_zero, Int.le_refl, Int.reduceAdd, decide_true, decide_false, Nat.reduceMul, Nat.reduceLT, Nat.lt_irrefl, true_and, and_self, ↓reduceIte]
         cases hz0 : decide (sg = 0) with
         | true =>
          have hz0' := of_decide_eq_true hz0
          have hz1 : decide (sg = 1) = false := by simp; omega
          simp only [g7, go_sem, Nat.reduceEqDiff, Nat.reduceAdd, Nat.reduceLeDiff, List.length_map, Int.reduceLT, Int.reduceLE, Int.reduceToNat, Int.toNat_zero, Int.le_refl, Int.reduceAdd, decide_true, decide_false, Nat.reduceMul, Nat.reduceLT, Nat.lt_irrefl, true_and, and_self, ↓reduceIte]
          cases h7 : decide (9223372036854775807 < u) with
          | true =>
           simp only [go_sem, Nat.reduceEqDiff, Nat.reduceAdd, Nat.reduceLeDiff, List.length_map, Int.reduceLT, Int.reduceLE, Int.reduceToNat, Int.toNat_zero, Int.le_refl, Int.reduceAdd, decide_true, decide_false, Nat.reduceMul, Nat.reduceLT, Nat.lt_irrefl, true_and, and_self, ↓reduceIte]
           rw [if_pos (.inl ⟨hz0', of_decide_eq_true h7⟩)]; rfl
          | false =>
           have h7' := of_decide_eq_false h7
           have h8 : decide (9223372036854775808 < u) = false := by simp; omega
           have wi : IntKind.i64.wrap (u : Int) = (u : Int) := wrap64 (by omega) (by omega)
           simp only [g8, h8, z1, hz1, wi, go_sem, Nat.reduceEqDiff, Nat.reduceAdd, Nat.reduceLeDiff, List.length_map, Int.reduceLT, Int.reduceLE, Int.reduceToNat, Int.toNat_zero, Int.le_refl, Int.reduceAdd, decide_true, decide_false, Nat.reduceMul, Nat.reduceLT, Nat.lt_irrefl, true_and, and_self, ↓reduceIte]
           rw [if_neg (by omega), if_neg (by omega)]; rfl
         | false =>
          have hz0' := of_decide_eq_false hz0
          have hz1 : decide (sg = 1) = true := by simp; omega
          simp only [g8, go_sem, Nat.reduceEqDiff, Nat.reduceAdd, Nat.reduceLeDiff, List.length_map, Int.reduceLT, Int.reduceLE, Int.reduceToNat, Int.toNat_zero, Int.le_refl, Int.reduceAdd, decide_true, decide_false, Nat.reduceMul, Nat.reduceLT, Nat.lt_irrefl, true_and, and_self, ↓reduceIte]
          cases h8 : decide (9223372036854775808 < u) with
          | true =>
           simp only [go_sem, Nat.reduceEqDiff, Nat.reduceAdd, Nat.reduceLeDiff, List.length_map, Int.reduceLT, Int.reduceLE, Int.reduceToNat, Int.toNat_zero, Int.le_refl, Int.reduceAdd, decide_true, decide_false, Nat.reduceMul, Nat.reduceLT, Nat.lt_irrefl, true_and, and_self, ↓reduceIte]
           rw [if_pos (.inr (of_decide_eq_true h8))]; rfl
          | false =>
           have h8' := of_decide_eq_false h8
           simp only [z1, hz1, negU u (by omega), go_sem, Nat.reduceEqDiff, Nat.reduceAdd, Nat.reduceLeDiff, List.length_map, Int.reduceLT, Int.reduceLE, Int.reduceToNat, Int.toNat_zero, Int.le_refl, Int.reduceAdd, decide_true, decide_false, Nat.reduceMul, Nat.reduceLT, Nat.lt_irrefl, true_and, and_self, ↓reduceIte]
           rw [if_neg (by omega), if_pos (by omega)]; rfl
      | false =>
       have h0' := of_decide_eq_false h0
       simp only [wsub, d19, go_sem, Nat.reduceEqDiff, Nat.reduceAdd, Nat.reduceLeDiff, List.length_map, Int.reduceLT, Int.reduceLE, Int.reduceToNat, Int.toNat_zero, Int.le_refl, Int.reduceAdd, decide_true, decide_false, Nat.reduceMul, Nat.reduceLT, Nat.lt_irrefl, true_and, and_self, ↓reduceIte]
       cases hi19' : decide (19 < i) with
       | true =>
        simp only [go_sem, Nat.reduceEqDiff, Nat.reduceAdd, Nat.reduceLeDiff, List.length_map, Int.reduceLT, Int.reduceLE, Int.reduceToNat, Int.toNat_zero, Int.le_refl, Int.reduceAdd, decide_true, decide_false, Nat.reduceMul, Nat.reduceLT, Nat.lt_irrefl, true_and, and_self, ↓reduceIte]
        rw [if_pos (.inr (of_decide_eq_true hi19'))]; rfl
       | false =>
        have hi19 := of_decide_eq_false hi19'
        simp only [go_sem, Nat.reduceEqDiff, Nat.reduceAdd, Nat.reduceLeDiff, List.length_map, Int.reduceLT, Int.reduceLE, Int.reduceToNat, Int.toNat_zero, Int.le_refl, Int.reduceAdd, decide_true, decide_false, Nat.reduceMul, Nat.reduceLT, Nat.lt_irrefl, true_and, and_self, ↓reduceIte]
        rw [if_neg (fun h => h.elim (fun h => h0' (by simpa using h.1)) hi19)]
        refine loop_N i (fun _ => True) (fun j => ⟨[(0, .val (.string s)), (2, .ptr 2 0), (8, .val (.int .i64 sg)), (9, .val (.int .i64 (sg + i : Nat))), (10, .val (.int .u64 (valN (ds.take j)))), (11, .val (.int .i64 (sg + j : Nat)))], [(2, [.val (.int .i64 0), .val (.int .i64 0), .val (.string ⟨#[]⟩)])], []⟩) trivial (by simp only [go_sem, Nat.reduceEqDiff, Nat.reduceAdd, Nat.reduceLeDiff, List.length_map, Int.reduceLT, Int.reduceLE, Int.reduceToNat, Int.toNat_zero, Int.le_refl, Int.reduceAdd, decide_true, decide_false, Nat.reduceMul, Nat.reduceLT, Nat.lt_irrefl, true_and, and_self, ↓reduceIte]; rfl) ?_
        rintro j hj -
        have dj : decide (((sg + j : Nat) : Int) < ((sg + i : Nat) : Int)) = decide (j < i) := by rw [decide_eq_decide]; omega
        have hdt : ∀ k, k ≤ i → ∀ c ∈ ds.take k, dg c = true := fun k hk c hc => by
         obtain ⟨m, hm, rfl⟩ := List.getElem_of_mem hc
         obtain ⟨c', h1, h2⟩ := hpi m (by simp at hm; omega)
         rw [List.getElem_take]
         rw [List.getElem?_eq_some_iff] at h1
         obtain ⟨_, rfl⟩ := h1; exact h2
        have hvl : ∀ k, k ≤ i → valN (ds.take k) < 10 ^ k := fun k hk => valN_lt k _ (by rw [List.length_take]; omega) (hdt k hk)
        simp only [dj, go_sem, Nat.reduceEqDiff, Nat.reduceAdd, Nat.reduceLeDiff, List.length_map, Int.reduceLT, Int.reduceLE, Int.reduceToNat, Int.toNat_zero, Int.le_refl, Int.reduceAdd, decide_true, decide_false, Nat.reduceMul, Nat.reduceLT, Nat.lt_irrefl, true_and, and_self, ↓reduceIte]
        cases hji : decide (j < i) with
        | true =>
         have hji' := of_decide_eq_true hji
         obtain ⟨c, hc, hdc⟩ := hpi j hji'
         have hgc : s.data[sg + j]? = some c := (hsd j).trans hc
         have hc48 : 48 ≤ c.toNat ∧ c.toNat ≤ 57 := by unfold dg at hdc; simpa using hdc
         have v1 := hvl j (by omega)
         have v2 : (10 : Nat) ^ j ≤ 10 ^ 18 := Nat.pow_le_pow_right (by omega) (by omega)
         have u1 : IntKind.u64.wrap (((valN (ds.take j) : Nat) : Int) * 10) = ((valN (ds.take j) * 10 : Nat) : Int) := by rw [wrapU64 (by omega) (by omega)]; omega
         have u2 : IntKind.u8.wrap ((c.toNat : Int) - 48) = ((c.toNat - 48 : Nat) : Int) := by rw [wrapU8 (by omega) (by omega)]; omega
         have u3 : IntKind.u64.wrap ((c.toNat - 48 : Nat) : Int) = ((c.toNat - 48 : Nat) : Int) := wrapU64 (by omega) (by omega)
         have u4 : IntKind.u64.wrap (((valN (ds.take j) * 10 : Nat) : Int) + ((c.toNat - 48 : Nat) : Int)) = ((valN (ds.take (j + 1)) : Nat) : Int) := by
          have hjl := (List.getElem?_eq_some_iff.1 hc).1
          have e : ds.take (j + 1) = ds.take j ++ [c] := by rw [List.take_add_one, hc]; rfl
          rw [e, valN_snoc, wrapU64 (by omega) (by omega)]; omega
         have u5 : IntKind.i64.wrap (((sg + j : Nat) : Int) + 1) = ((sg + (j + 1) : Nat) : Int) := by rw [wrap64 (by omega) (by omega)]; omega
         simp only [nn0, Int.toNat_natCast, hgc, u1, u2, u3, u4, u5, go_sem, Nat.reduceEqDiff, Nat.reduceAdd, Nat.reduceLeDiff, List.length_map, Int.reduceLT, Int.reduceLE, Int.reduceToNat, Int.toNat_zero, Int.le_refl, Int.reduceAdd, decide_true, decide_false, Nat.reduceMul, Nat.reduceLT, Nat.lt_irrefl, true_and, and_self, ↓reduceIte]
         exact invN_next hji' trivial (by simp only [go_sem, Nat.reduceEqDiff, Nat.reduceAdd, Nat.reduceLeDiff, List.length_map, Int.reduceLT, Int.reduceLE, Int.reduceToNat, Int.toNat_zero, Int.le_refl, Int.reduceAdd, decide_true, decide_false, Nat.reduceMul, Nat.reduceLT, Nat.lt_irrefl, true_and, and_self, ↓reduceIte])
        | false =>
         have hji' : j = i := by have := of_decide_eq_false hji; omega
         subst hji'
         have v1 := hvl j (by omega)
         have v2 : (10 : Nat) ^ j ≤ 10 ^ 19 := Nat.pow_le_pow_right (by omega) (by omega)
         have z0 : ((sg : Int) == 0) = decide (sg = 0) := by rw [Bool.eq_iff_iff, beq_iff_eq, decide_eq_true_eq]; omega
         have z1 : ((sg : Int) == 1) = decide (sg = 1) := by rw [Bool.eq_iff_iff, beq_iff_eq, decide_eq_true_eq]; omega
         generalize hu : valN (ds.take j) = u at *
         have g7 : decide ((u : Int) > 9223372036854775807) = decide (9223372036854775807 < u) := by rw [decide_eq_decide]; omega
         have g8 : decide ((u : Int) > 9223372036854775808) = decide (9223372036854775808 < u) := by rw [decide_eq_decide]; omega
         simp only [z0, go_sem, Nat.reduceEqDiff, Nat.reduceAdd, Nat.reduceLeDiff, List.length_map, Int.reduceLT, Int.reduceLE, Int.reduceToNat, Int.toNat_zero, Int.le_refl, Int.reduceAdd, decide_true, decide_false, Nat.reduceMul, Nat.reduceLT, Nat.lt_irrefl, true_and, and_self, ↓reduceIte]
         cases hz0 : decide (sg = 0) with
         | true =>
          have hz0' := of_decide_eq_true hz0
          have hz1 : decide (sg = 1) = false := by simp; omega
          simp only [g7, go_sem, Nat.reduceEqDiff, Nat.reduceAdd, Nat.reduceLeDiff, List.length_map, Int.reduceLT, Int.reduceLE, Int.reduceToNat, Int.toNat_zero, Int.le_refl, Int.reduceAdd, decide_true, decide_false, Nat.reduceMul, Nat.reduceLT, Nat.lt_irrefl, true_and, and_self, ↓reduceIte]
          cases h7 : decide (9223372036854775807 < u) with
          | true =>
           simp only [go_sem, Nat.reduceEqDiff, Nat.reduceAdd, Nat.reduceLeDiff, List.length_map, Int.reduceLT, Int.reduceLE, Int.reduceToNat, Int.toNat_zero, Int.le_refl, Int.reduceAdd, decide_true, decide_false, Nat.reduceMul, Nat.reduceLT, Nat.lt_irrefl, true_and, and_self, ↓reduceIte]
           rw [if_pos (.inl ⟨hz0', of_decide_eq_true h7⟩)]; rfl
          | false =>
           have h7' := of_decide_eq_false h7
           have h8 : decide (9223372036854775808 < u) = false := by simp; omega
           have wi : IntKind.i64.wrap (u : Int) = (u : Int) := wrap64 (by omega) (by omega)
           simp only [g8, h8, z1, hz1, wi, go_sem, Nat.reduceEqDiff, Nat.reduceAdd, Nat.reduceLeDiff, List.length_map, Int.reduceLT, Int.reduceLE, Int.reduceToNat, Int.toNat_zero, Int.le_refl, Int.reduceAdd, decide_true, decide_false, Nat.reduceMul, Nat.reduceLT, Nat.lt_irrefl, true_and, and_self, ↓reduceIte]
           rw [if_neg (by omega), if_neg (by omega)]; rfl
         | false =>
          have hz0' := of_decide_eq_false hz0
          have hz1 : decide (sg = 1) = true := by simp; omega
          simp only [g8, go_sem, Nat.reduceEqDiff, Nat.reduceAdd, Nat.reduceLeDiff, List.length_map, Int.reduceLT, Int.reduceLE, Int.reduceToNat, Int.toNat_zero, Int.le_refl, Int.reduceAdd, decide_true, decide_false, Nat.reduceMul, Nat.reduceLT, Nat.lt_irrefl, true_and, and_self, ↓reduceIte]
          cases h8 : decide (9223372036854775808 < u) with
          | true =>
           simp only [go_sem, Nat.reduceEqDiff, Nat.reduceAdd, Nat.reduceLeDiff, List.length_map, Int.reduceLT, Int.reduceLE, Int.reduceToNat, Int.toNat_zero, Int.le_refl, Int.reduceAdd, decide_true, decide_false, Nat.reduceMul, Nat.reduceLT, Nat.lt_irrefl, true_and, and_self, ↓reduceIte]
           rw [if_pos (.inr (of_decide_eq_true h8))]; rfl
          | false =>
           have h8' := of_decide_eq_false h8
           simp only [z1, hz1, negU u (by omega), go_sem, Nat.reduceEqDiff, Nat.reduceAdd, Nat.reduceLeDiff, List.length_map, Int.reduceLT, Int.reduceLE, Int.reduceToNat, Int.toNat_zero, Int.le_refl, Int.reduceAdd, decide_true, decide_false, Nat.reduceMul, Nat.reduceLT, Nat.lt_irrefl, true_and, and_self, ↓reduceIte]
           rw [if_neg (by omega), if_pos (by omega)]; rfl
     | true =>
      simp only [nn0, Int.toNat_natCast, hc', d57, go_sem, Nat.reduceEqDiff, Nat.reduceAdd, Nat.reduceLeDiff, List.length_map, Int.reduceLT, Int.reduceLE, Int.reduceToNat, Int.toNat_zero, Int.le_refl, Int.reduceAdd, decide_true, decide_false, Nat.reduceMul, Nat.reduceLT, Nat.lt_irrefl, true_and, and_self, ↓reduceIte]
      cases h57 : decide (c.toNat ≤ 57) with
      | false =>
       have hN : numN (bl s) = i := by rw [hnum]; exact tw_len i ds hpi (fun c' hc1 => by rw [hc] at hc1; cases hc1; rw [dg, h48, h57]; rfl)
       have deq : (((sg + i : Nat) : Int) == (sg : Int)) = decide (i = 0) := by rw [Bool.eq_iff_iff, beq_iff_eq, decide_eq_true_eq]; omega
       have d1 : ((sg : Int) == 1) = decide (sg = 1) := by rw [Bool.eq_iff_iff, beq_iff_eq, decide_eq_true_eq]; omega
       simp only [deq, go_sem, Nat.reduceEqDiff, Nat.reduceAdd, Nat.reduceLeDiff, List.length_map, Int.reduceLT, Int.reduceLE, Int.reduceToNat, Int.toNat_zero, Int.le_refl, Int.reduceAdd, decide_true, decide_false, Nat.reduceMul, Nat.reduceLT, Nat.lt_irrefl, true_and, and_self, ↓reduceIte]
       by_cases hi0 : i = 0
       ·have hi0' : decide (i = 0) = true := by simp [hi0]
        simp only [hi0', d1, go_sem, Nat.reduceEqDiff, Nat.reduceAdd, Nat.reduceLeDiff, List.length_map, Int.reduceLT, Int.reduceLE, Int.reduceToNat, Int.toNat_zero, Int.le_refl, Int.reduceAdd, decide_true, decide_false, Nat.reduceMul, Nat.reduceLT, Nat.lt_irrefl, true_and, and_self, ↓reduceIte]
        rw [hN, if_pos hi0]
        cases hs1 : decide (sg = 1) with
        | true => simp only [go_sem, Nat.reduceEqDiff, Nat.reduceAdd, Nat.reduceLeDiff, List.length_map, Int.reduceLT, Int.reduceLE, Int.reduceToNat, Int.toNat_zero, Int.le_refl, Int.reduceAdd, decide_true, decide_false, Nat.reduceMul, Nat.reduceLT, Nat.lt_irrefl, true_and, and_self, ↓reduceIte]; rw [if_pos (of_decide_eq_true hs1)]; rfl
        | false => simp only [go_sem, Nat.reduceEqDiff, Nat.reduceAdd, Nat.reduceLeDiff, List.length_map, Int.reduceLT, Int.reduceLE, Int.reduceToNat, Int.toNat_zero, Int.le_refl, Int.reduceAdd, decide_true, decide_false, Nat.reduceMul, Nat.reduceLT, Nat.lt_irrefl, true_and, and_self, ↓reduceIte]; rw [if_neg (of_decide_eq_false hs1)]; rfl
       have hi0' : decide (i = 0) = false := by simp [hi0]
       obtain ⟨c0, hc0, hd0⟩ := hpi 0 (by omega)
       have hc0' : s.data[sg]? = some c0 := (hsd 0).trans hc0
       have hhd : ds.head? = some c0 := by rw [List.head?_eq_getElem?]; exact hc0
       have dz : ((c0.toNat : Int) == 48) = decide (c0 = 48) := dg_eq c0 48
       have dg1 : decide (((sg + i : Nat) : Int) > 1) = decide (1 < sg + i) := by rw [decide_eq_decide]; omega
       have wsub : IntKind.i64.wrap (((sg + i : Nat) : Int) - (sg : Int)) = (i : Int) := by rw [wrap64 (by omega) (by omega)]; omega
       have d19 : decide ((i : Int) > 19) = decide (19 < i) := by rw [decide_eq_decide]; omega
       rw [hN, if_neg hi0, hhd]
       simp only [hi0', nn0, Int.toNat_natCast, hc0', dz, go_sem, Nat.reduceEqDiff, Nat.reduceAdd, Nat.reduceLeDiff, List.length_map, Int.reduceLT, Int.reduceLE, Int.reduceToNat, Int.toNat_zero, Int.le_refl, Int.reduceAdd, decide_true, decide_false, Nat.reduceMul, Nat.reduceLT, Nat.lt_irrefl, true_and, and_self, ↓reduceIte]
       cases h0 : decide (c0 = 48) with
       | true =>
        have h0' := of_decide_eq_true h0
        simp only [dg1, go_sem, Nat.reduceEqDiff, Nat.reduceAdd, Nat.reduceLeDiff, List.length_map, Int.reduceLT, Int.reduceLE, Int.reduceToNat, Int.toNat_zero, Int.le_refl, Int.reduceAdd, decide_true, decide_false, Nat.reduceMul, Nat.reduceLT, Nat.lt_irrefl, true_and, and_self, ↓reduceIte]
        cases hi1 : decide (1 < sg + i) with
        | true =>
         simp only [go_sem, Nat.reduceEqDiff, Nat.reduceAdd, Nat.reduceLeDiff, List.length_map, Int.reduceLT, Int.reduceLE, Int.reduceToNat, Int.toNat_zero, Int.le_refl, Int.reduceAdd, decide_true, decide_false, Nat.reduceMul, Nat.reduceLT, Nat.lt_irrefl, true_and, and_self, ↓reduceIte]
         rw [if_pos (.inl ⟨by rw [h0'], of_decide_eq_true hi1⟩)]; rfl
        | false =>
         have hi19 : ¬ 19 < i := by have := of_decide_eq_false hi1; omega
         have hi19' : decide (19 < i) = false := by simp [hi19]
         simp only [wsub, d19, hi19', go_sem, Nat.reduceEqDiff, Nat.reduceAdd, Nat.reduceLeDiff, List.length_map, Int.reduceLT, Int.reduceLE, Int.reduceToNat, Int.toNat_zero, Int.le_refl, Int.reduceAdd, decide_true, decide_false, Nat.reduceMul, Nat.reduceLT, Nat.lt_irrefl, true_and, and_self, ↓reduceIte]
         rw [if_neg (fun h => h.elim (fun h => of_decide_eq_false hi1 h.2) hi19)]
         refine loop_N i (fun _ => True) (fun j => ⟨[(0, .val (.string s)), (2, .ptr 2 0), (8, .val (.int .i64 sg)), (9, .val (.int .i64 (sg + i : Nat))), (10, .val (.int .u64 (valN (ds.take j)))), (11, .val (.int .i64 (sg + j : Nat)))], [(2, [.val (.int .i64 0), .val (.int .i64 0), .val (.string ⟨#[]⟩)])], []⟩) trivial (by simp only [go_sem, Nat.reduceEqDiff, Nat.reduceAdd, Nat.reduceLeDiff, List.length_map, Int.reduceLT, Int.reduceLE, Int.reduceToNat, Int.toNat_zero, Int.le_refl, Int.reduceAdd, decide_true, decide_false, Nat.reduceMul, Nat.reduceLT, Nat.lt_irrefl, true_and, and_self, ↓reduceIte]; rfl) ?_
         rintro j hj -
         have dj : decide (((sg + j : Nat) : Int) < ((sg + i : Nat) : Int)) = decide (j < i) := by rw [decide_eq_decide]; omega
         have hdt : ∀ k, k ≤ i → ∀ c ∈ ds.take k, dg c = true := fun k hk c hc => by
          obtain ⟨m, hm, rfl⟩ := List.getElem_of_mem hc
          obtain ⟨c', h1, h2⟩ := hpi m (by simp at hm; omega)
          rw [List.getElem_take]
          rw [List.getElem?_eq_some_iff] at h1
          obtain ⟨_, rfl⟩ := h1; exact h2
         have hvl : ∀ k, k ≤ i → valN (ds.take k) < 10 ^ k := fun k hk => valN_lt k _ (by rw [List.length_take]; omega) (hdt k hk)
         simp only [dj, go_sem, Nat.reduceEqDiff, Nat.reduceAdd, Nat.reduceLeDiff, List.length_map, Int.reduceLT, Int.reduceLE, Int.reduceToNat, Int.toNat_zero, Int.le_refl, Int.reduceAdd, decide_true, decide_false, Nat.reduceMul, Nat.reduceLT, Nat.lt_irrefl, true_and, and_self, ↓reduceIte]
         cases hji : decide (j < i) with
         | true =>
          have hji' := of_decide_eq_true hji
          obtain ⟨c, hc, hdc⟩ := hpi j hji'
          have hgc : s.data[sg + j]? = some c := (hsd j).trans hc
          have hc48 : 48 ≤ c.toNat ∧ c.toNat ≤ 57 := by unfold dg at hdc; simpa using hdc
          have v1 := hvl j (by omega)
          have v2 : (10 : Nat) ^ j ≤ 10 ^ 18 := Nat.pow_le_pow_right (by omega) (by omega)
          have u1 : IntKind.u64.wrap (((valN (ds.take j) : Nat) : Int) * 10) = ((valN (ds.take j) * 10 : Nat) : Int) := by rw [wrapU64 (by omega) (by omega)]; omega
          have u2 : IntKind.u8.wrap ((c.toNat : Int) - 48) = ((c.toNat - 48 : Nat) : Int) := by rw [wrapU8 (by omega) (by omega)]; omega
          have u3 : IntKind.u64.wrap ((c.toNat - 48 : Nat) : Int) = ((c.toNat - 48 : Nat) : Int) := wrapU64 (by omega) (by omega)
          have u4 : IntKind.u64.wrap (((valN (ds.take j) * 10 : Nat) : Int) + ((c.toNat - 48 : Nat) : Int)) = ((valN (ds.take (j + 1)) : Nat) : Int) := by
           have hjl := (List.getElem?_eq_some_iff.1 hc).1
           have e : ds.take (j + 1) = ds.take j ++ [c] := by rw [List.take_add_one, hc]; rfl
           rw [e, valN_snoc, wrapU64 (by omega) (by omega)]; omega
          have u5 : IntKind.i64.wrap (((sg + j : Nat) : Int) + 1) = ((sg + (j + 1) : Nat) : Int) := by rw [wrap64 (by omega) (by omega)]; omega
          simp only [nn0, Int.toNat_natCast, hgc, u1, u2, u3, u4, u5, go_sem, Nat.reduceEqDiff, Nat.reduceAdd, Nat.reduceLeDiff, List.length_map, Int.reduceLT, Int.reduceLE, Int.reduceToNat, Int.toNat_zero, Int.le_refl, Int.reduceAdd, decide_true, decide_false, Nat.reduceMul, Nat.reduceLT, Nat.lt_irrefl, true_and, and_self, ↓reduceIte]
          exact invN_next hji' trivial (by simp only [go_sem, Nat.reduceEqDiff, Nat.reduceAdd, Nat.reduceLeDiff, List.length_map, Int.reduceLT, Int.reduceLE, Int.reduceToNat, Int.toNat_zero, Int.le_refl, Int.reduceAdd, decide_true, decide_false, Nat.reduceMul, Nat.reduceLT, Nat.lt_irrefl, true_and, and_self, ↓reduceIte])
         | false =>
          have hji' : j = i := by have := of_decide_eq_false hji; omega
          subst hji'
          have v1 := hvl j (by omega)
          have v2 : (10 : Nat) ^ j ≤ 10 ^ 19 := Nat.pow_le_pow_right (by omega) (by omega)
          have z0 : ((sg : Int) == 0) = decide (sg = 0) := by rw [Bool.eq_iff_iff, beq_iff_eq, decide_eq_true_eq]; omega
          have z1 : ((sg : Int) == 1) = decide (sg = 1) := by rw [Bool.eq_iff_iff, beq_iff_eq, decide_eq_true_eq]; omega
          generalize hu : valN (ds.take j) = u at *
          have g7 : decide ((u : Int) > 9223372036854775807) = decide (9223372036854775807 < u) := by rw [decide_eq_decide]; omega
          have g8 : decide ((u : Int) > 9223372036854775808) = decide (9223372036854775808 < u) := by rw [decide_eq_decide]; omega
          simp only [z0, go_sem, Nat.reduceEqDiff, Nat.reduceAdd, Nat.reduceLeDiff, List.length_map, Int.reduceLT, Int.reduceLE, Int.reduceToNat, Int.toNat_zero, Int.le_refl, Int.reduceAdd, decide_true, decide_false, Nat.reduceMul, Nat.reduceLT, Nat.lt_irrefl, true_and, and_self, ↓reduceIte]
          cases hz0 : decide (sg = 0) with
          | true =>
           have hz0' := of_decide_eq_true hz0
           have hz1 : decide (sg = 1) = false := by simp; omega
           simp only [g7, go_sem, Nat.reduceEqDiff, Nat.reduceAdd, Nat.reduceLeDiff, List.length_map, Int.reduceLT, Int.reduceLE, Int.reduceToNat, Int.toNat_zero, Int.le_refl, Int.reduceAdd, decide_true, decide_false, Nat.reduceMul, Nat.reduceLT, Nat.lt_irrefl, true_and, and_self, ↓reduceIte]
           cases h7 : decide (9223372036854775807 < u) with
           | true =>
            simp only [go_sem, Nat.reduceEqDiff, Nat.reduceAdd, Nat.reduceLeDiff, List.length_map, Int.reduceLT, Int.reduceLE, Int.reduceToNat, Int.toNat_zero, Int.le_refl, Int.reduceAdd, decide_true, decide_false, Nat.reduceMul, Nat.reduceLT, Nat.lt_irrefl, true_and, and_self, ↓reduceIte]
            rw [if_pos (.inl ⟨hz0', of_decide_eq_true h7⟩)]; rfl
           | false =>
            have h7' := of_decide_eq_false h7
            have h8 : decide (9223372036854775808 < u) = false := by simp; omega
            have wi : IntKind.i64.wrap (u : Int) = (u : Int) := wrap64 (by omega) (by omega)
            simp only [g8, h8, z1, hz1, wi, go_sem, Nat.reduceEqDiff, Nat.reduceAdd, Nat.reduceLeDiff, List.length_map, Int.reduceLT, Int.reduceLE, Int.reduceToNat, Int.toNat_zero, Int.le_refl, Int.reduceAdd, decide_true, decide_false, Nat.reduceMul, Nat.reduceLT, Nat.lt_irrefl, true_and, and_self, ↓reduceIte]
            rw [if_neg (by omega), if_neg (by omega)]; rfl
          | false =>
           have hz0' := of_decide_eq_false hz0
           have hz1 : decide (sg = 1) = true := by simp; omega
           simp only [g8, go_sem, Nat.reduceEqDiff, Nat.reduceAdd, Nat.reduceLeDiff, List.length_map, Int.reduceLT, Int.reduceLE, Int.reduceToNat, Int.toNat_zero, Int.le_refl, Int.reduceAdd, decide_true, decide_false, Nat.reduceMul, Nat.reduceLT, Nat.lt_irrefl, true_and, and_self, ↓reduceIte]
           cases h8 : decide (9223372036854775808 < u) with
           | true =>
            simp only [go_sem, Nat.reduceEqDiff, Nat.reduceAdd, Nat.reduceLeDiff, List.length_map, Int.reduceLT, Int.reduceLE, Int.reduceToNat, Int.toNat_zero, Int.le_refl, Int.reduceAdd, decide_true, decide_false, Nat.reduceMul, Nat.reduceLT, Nat.lt_irrefl, true_and, and_self, ↓reduceIte]
            rw [if_pos (.inr (of_decide_eq_true h8))]; rfl
           | false =>
            have h8' := of_decide_eq_false h8
            simp only [z1, hz1, negU u (by omega), go_sem, Nat.reduceEqDiff, Nat.reduceAdd, Nat.reduceLeDiff, List.length_map, Int.reduceLT, Int.reduceLE, Int.reduceToNat, Int.toNat_zero, Int.le_refl, Int.reduceAdd, decide_true, decide_false, Nat.reduceMul, Nat.reduceLT, Nat.lt_irrefl, true_and, and_self, ↓reduceIte]
            rw [if_neg (by omega), if_pos (by omega)]; rfl
       | false =>
        have h0' := of_decide_eq_false h0
        simp only [wsub, d19, go_sem, Nat.reduceEqDiff, Nat.reduceAdd, Nat.reduceLeDiff, List.length_map, Int.reduceLT, Int.reduceLE, Int.reduceToNat, Int.toNat_zero, Int.le_refl, Int.reduceAdd, decide_true, decide_false, Nat.reduceMul, Nat.reduceLT, Nat.lt_irrefl, true_and, and_self, ↓reduceIte]
        cases hi19' : decide (19 < i) with
        | true =>
         simp only [go_sem, Nat.reduceEqDiff, Nat.reduceAdd, Nat.reduceLeDiff, List.length_map, Int.reduceLT, Int.reduceLE, Int.reduceToNat, Int.toNat_zero, Int.le_refl, Int.reduceAdd, decide_true, decide_false, Nat.reduceMul, Nat.reduceLT, Nat.lt_irrefl, true_and, and_self, ↓reduceIte]
         rw [if_pos (.inr (of_decide_eq_true hi19'))]; rfl
        | false =>
         have hi19 := of_decide_eq_false hi19'
         simp only [go_sem, Nat.reduceEqDiff, Nat.reduceAdd, Nat.reduceLeDiff, List.length_map, Int.reduceLT, Int.reduceLE, Int.reduceToNat, Int.toNat_zero, Int.le_refl, Int.reduceAdd, decide_true, decide_false, Nat.reduceMul, Nat.reduceLT, Nat.lt_irrefl, true_and, and_self, ↓reduceIte]
         rw [if_neg (fun h => h.elim (fun h => h0' (by simpa using h.1)) hi19)]
         refine loop_N i (fun _ => True) (fun j => ⟨[(0, .val (.string s)), (2, .ptr 2 0), (8, .val (.int .i64 sg)), (9, .val (.int .i64 (sg + i : Nat))), (10, .val (.int .u64 (valN (ds.take j)))), (11, .val (.int .i64 (sg + j : Nat)))], [(2, [.val (.int .i64 0), .val (.int .i64 0), .val (.string ⟨#[]⟩)])], []⟩) trivial (by simp only [go_sem, Nat.reduceEqDiff, Nat.reduceAdd, Nat.reduceLeDiff, List.length_map, Int.reduceLT, Int.reduceLE, Int.reduceToNat, Int.toNat_zero, Int.le_refl, Int.reduceAdd, decide_true, decide_false, Nat.reduceMul, Nat.reduceLT, Nat.lt_irrefl, true_and, and_self, ↓reduceIte]; rfl) ?_
         rintro j hj -
         have dj : decide (((sg + j : Nat) : Int) < ((sg + i : Nat) : Int)) = decide (j < i) := by rw [decide_eq_decide]; omega
         have hdt : ∀ k, k ≤ i → ∀ c ∈ ds.take k, dg c = true := fun k hk c hc => by
          obtain ⟨m, hm, rfl⟩ := List.getElem_of_mem hc
          obtain ⟨c', h1, h2⟩ := hpi m (by simp at hm; omega)
          rw [List.getElem_take]
          rw [List.getElem?_eq_some_iff] at h1
          obtain ⟨_, rfl⟩ := h1; exact h2
         have hvl : ∀ k, k ≤ i → valN (ds.take k) < 10 ^ k := fun k hk => valN_lt k _ (by rw [List.length_take]; omega) (hdt k hk)
         simp only [dj, go_sem, Nat.reduceEqDiff, Nat.reduceAdd, Nat.reduceLeDiff, List.length_map, Int.reduceLT, Int.reduceLE, Int.reduceToNat, Int.toNat_zero, Int.le_refl, Int.reduceAdd, decide_true, decide_false, Nat.reduceMul, Nat.reduceLT, Nat.lt_irrefl, true_and, and_self, ↓reduceIte]
         cases hji : decide (j < i) with
         | true =>
          have hji' := of_decide_eq_true hji
          obtain ⟨c, hc, hdc⟩ := hpi j hji'
          have hgc : s.data[sg + j]? = some c := (hsd j).trans hc
          have hc48 : 48 ≤ c.toNat ∧ c.toNat ≤ 57 := by unfold dg at hdc; simpa using hdc
          have v1 := hvl j (by omega)
          have v2 : (10 : Nat) ^ j ≤ 10 ^ 18 := Nat.pow_le_pow_right (by omega) (by omega)
          have u1 : IntKind.u64.wrap (((valN (ds.take j) : Nat) : Int) * 10) = ((valN (ds.take j) * 10 : Nat) : Int) := by rw [wrapU64 (by omega) (by omega)]; omega
          have u2 : IntKind.u8.wrap ((c.toNat : Int) - 48) = ((c.toNat - 48 : Nat) : Int) := by rw [wrapU8 (by omega) (by omega)]; omega
          have u3 : IntKind.u64.wrap ((c.toNat - 48 : Nat) : Int) = ((c.toNat - 48 : Nat) : Int) := wrapU64 (by omega) (by omega)
          have u4 : IntKind.u64.wrap (((valN (ds.take j) * 10 : Nat) : Int) + ((c.toNat - 48 : Nat) : Int)) = ((valN (ds.take (j + 1)) : Nat) : Int) := by
           have hjl := (List.getElem?_eq_some_iff.1 hc).1
           have e : ds.take (j + 1) = ds.take j ++ [c] := by rw [List.take_add_one, hc]; rfl
           rw [e, valN_snoc, wrapU64 (by omega) (by omega)]; omega
          have u5 : IntKind.i64.wrap (((sg + j : Nat) : Int) + 1) = ((sg + (j + 1) : Nat) : Int) := by rw [wrap64 (by omega) (by omega)]; omega
          simp only [nn0, Int.toNat_natCast, hgc, u1, u2, u3, u4, u5, go_sem, Nat.reduceEqDiff, Nat.reduceAdd, Nat.reduceLeDiff, List.length_map, Int.reduceLT, Int.reduceLE, Int.reduceToNat, Int.toNat_zero, Int.le_refl, Int.reduceAdd, decide_true, decide_false, Nat.reduceMul, Nat.reduceLT, Nat.lt_irrefl, true_and, and_self, ↓reduceIte]
          exact invN_next hji' trivial (by simp only [go_sem, Nat.reduceEqDiff, Nat.reduceAdd, Nat.reduceLeDiff, List.length_map, Int.reduceLT, Int.reduceLE, Int.reduceToNat, Int.toNat_zero, Int.le_refl, Int.reduceAdd, decide_true, decide_false, Nat.reduceMul, Nat.reduceLT, Nat.lt_irrefl, true_and, and_self, ↓reduceIte])
         | false =>
          have hji' : j = i := by have := of_decide_eq_false hji; omega
          subst hji'
          have v1 := hvl j (by omega)
          have v2 : (10 : Nat) ^ j ≤ 10 ^ 19 := Nat.pow_le_pow_right (by omega) (by omega)
          have z0 : ((sg : Int) == 0) = decide (sg = 0) := by rw [Bool.eq_iff_iff, beq_iff_eq, decide_eq_true_eq]; omega
          have z1 : ((sg : Int) == 1) = decide (sg = 1) := by rw [Bool.eq_iff_iff, beq_iff_eq, decide_eq_true_eq]; omega
          generalize hu : valN (ds.take j) = u at *
          have g7 : decide ((u : Int) > 9223372036854775807) = decide (9223372036854775807 < u) := by rw [decide_eq_decide]; omega
          have g8 : decide ((u : Int) > 9223372036854775808) = decide (9223372036854775808 < u) := by rw [decide_eq_decide]; omega
          simp only [z0, go_sem, Nat.reduceEqDiff, Nat.reduceAdd, Nat.reduceLeDiff, List.length_map, Int.reduceLT, Int.reduceLE, Int.reduceToNat, Int.toNat_zero, Int.le_refl, Int.reduceAdd, decide_true, decide_false, Nat.reduceMul, Nat.reduceLT, Nat.lt_irrefl, true_and, and_self, ↓reduceIte]
          cases hz0 : decide (sg = 0) with
          | true =>
           have hz0' := of_decide_eq_true hz0
           have hz1 : decide (sg = 1) = false := by simp; omega
           simp only [g7, go_sem, Nat.reduceEqDiff, Nat.reduceAdd, Nat.reduceLeDiff, List.length_map, Int.reduceLT, Int.reduceLE, Int.reduceToNat, Int.toNat_zero, Int.le_refl, Int.reduceAdd, decide_true, decide_false, Nat.reduceMul, Nat.reduceLT, Nat.lt_irrefl, true_and, and_self, ↓reduceIte]
           cases h7 : decide (9223372036854775807 < u) with
           | true =>
            simp only [go_sem, Nat.reduceEqDiff, Nat.reduceAdd, Nat.reduceLeDiff, List.length_map, Int.reduceLT, Int.reduceLE, Int.reduceToNat, Int.toNat_zero, Int.le_refl, Int.reduceAdd, decide_true, decide_false, Nat.reduceMul, Nat.reduceLT, Nat.lt_irrefl, true_and, and_self, ↓reduceIte]
            rw [if_pos (.inl ⟨hz0', of_decide_eq_true h7⟩)]; rfl
           | false =>
            have h7' := of_decide_eq_false h7
            have h8 : decide (9223372036854775808 < u) = false := by simp; omega
            have wi : IntKind.i64.wrap (u : Int) = (u : Int) := wrap64 (by omega) (by omega)
            simp only [g8, h8, z1, hz1, wi, go_sem, Nat.reduceEqDiff, Nat.reduceAdd, Nat.reduceLeDiff, List.length_map, Int.reduceLT, Int.reduceLE, Int.reduceToNat, Int.toNat_zero, Int.le_refl, Int.reduceAdd, decide_true, decide_false, Nat.reduceMul, Nat.reduceLT, Nat.lt_irrefl, true_and, and_self, ↓reduceIte]
            rw [if_neg (by omega), if_neg (by omega)]; rfl
          | false =>
           have hz0' := of_decide_eq_false hz0
           have hz1 : decide (sg = 1) = true := by simp; omega
           simp only [g8, go_sem, Nat.reduceEqDiff, Nat.reduceAdd, Nat.reduceLeDiff, List.length_map, Int.reduceLT, Int.reduceLE, Int.reduceToNat, Int.toNat_zero, Int.le_refl, Int.reduceAdd, decide_true, decide_false, Nat.reduceMul, Nat.reduceLT, Nat.lt_irrefl, true_and, and_self, ↓reduceIte]
           cases h8 : decide (9223372036854775808 < u) with
           | true =>
            simp only [go_sem, Nat.reduceEqDiff, Nat.reduceAdd, Nat.reduceLeDiff, List.length_map, Int.reduceLT, Int.reduceLE, Int.reduceToNat, Int.toNat_zero, Int.le_refl, Int.reduceAdd, decide_true, decide_false, Nat.reduceMul, Nat.reduceLT, Nat.lt_irrefl, true_and, and_self, ↓reduceIte]
            rw [if_pos (.inr (of_decide_eq_true h8))]; rfl
           | false =>
            have h8' := of_decide_eq_false h8
            simp only [z1, hz1, negU u (by omega), go_sem, Nat.reduceEqDiff, Nat.reduceAdd, Nat.reduceLeDiff, List.length_map, Int.reduceLT, Int.reduceLE, Int.reduceToNat, Int.toNat_zero, Int.le_refl, Int.reduceAdd, decide_true, decide_false, Nat.reduceMul, Nat.reduceLT, Nat.lt_irrefl, true_and, and_self, ↓reduceIte]
            rw [if_neg (by omega), if_pos (by omega)]; rfl
      | true =>
       have up : IntKind.i64.wrap (((sg + i : Nat) : Int) + 1) = ((sg + (i + 1) : Nat) : Int) := by rw [wrap64 (by omega) (by omega)]; omega
       simp only [up, go_sem, Nat.reduceEqDiff, Nat.reduceAdd, Nat.reduceLeDiff, List.length_map, Int.reduceLT, Int.reduceLE, Int.reduceToNat, Int.toNat_zero, Int.le_refl, Int.reduceAdd, decide_true, decide_false, Nat.reduceMul, Nat.reduceLT, Nat.lt_irrefl, true_and, and_self, ↓reduceIte]
       refine invN_next hlt' (fun j hj => ?_) (by simp only [go_sem, Nat.reduceEqDiff, Nat.reduceAdd, Nat.reduceLeDiff, List.length_map, Int.reduceLT, Int.reduceLE, Int.reduceToNat, Int.toNat_zero, Int.le_refl, Int.reduceAdd, decide_true, decide_false, Nat.reduceMul, Nat.reduceLT, Nat.lt_irrefl, true_and, and_self, ↓reduceIte])
       rcases Nat.lt_or_ge j i with h | h
       ·exact hpi j h
       ·obtain rfl : j = i := by omega
        exact ⟨c, hc, by rw [dg, h48, h57]; rfl⟩
end Go.Proofs

namespace Go.Proofs
open Go.Vm
set_option linter.unusedSimpArgs false
def vstp (a : Nat) (c : UInt8) : Nat := a * 10 + (c.toNat - 48)
theorem valA_ge : ∀ (r : List UInt8) (a : Nat), a * 10 ^ r.length ≤ r.foldl vstp a
 | [], a => by simp
 | c :: r, a => by
  have h := valA_ge r (vstp a c)
  have h2 : a * 10 ≤ vstp a c := Nat.le_add_right _ _
  have h3 := Nat.mul_le_mul_right (10 ^ r.length) h2
  rw [List.foldl_cons, List.length_cons, Nat.pow_succ, Nat.mul_comm (10 ^ r.length) 10, ← Nat.mul_assoc]
  omega
theorem valA_mono (r : List UInt8) (a : Nat) : a ≤ r.foldl vstp a := by
 have := valA_ge r a
 have h : 1 ≤ 10 ^ r.length := Nat.one_le_pow _ _ (by omega)
 have := Nat.mul_le_mul_left a h
 omega
theorem dg_iff {c : UInt8} : dg c = true ↔ 48 ≤ c.toNat ∧ c.toNat ≤ 57 := by simp [dg]
theorem parse_dg : ∀ (m : List UInt8) (a : Nat), (∀ c ∈ m, dg c = true) → a < 18446744073709551616 → Lib.parseUint10 a m = if m.foldl vstp a < 18446744073709551616 then .ok (m.foldl vstp a) else .range
 | [], a, _, ha => by rw [List.foldl_nil, if_pos ha]; rfl
 | c :: m, a, hd, ha => by
  have hc := dg_iff.1 (hd c (by simp))
  have hmono := valA_mono m (vstp a c)
  have hv : vstp a c = a * 10 + (c.toNat - 48) := rfl
  rw [List.foldl_cons, Lib.parseUint10, if_pos hc]
  by_cases h1 : 1844674407370955162 ≤ a
  ·rw [if_pos h1, if_neg (by omega)]
  ·rw [if_neg h1]
   by_cases h2 : 18446744073709551616 ≤ a * 10 + (c.toNat - 48)
   ·rw [if_pos h2, if_neg (by omega)]
   ·rw [if_neg h2]
    exact parse_dg m _ (fun x hx => hd x (by simp [hx])) (by omega)
theorem valN_eq (m : List UInt8) : valN m = m.foldl vstp 0 := rfl
theorem atoi_pos {m : List UInt8} (h0 : m ≠ []) (hd : ∀ c ∈ m, dg c = true) : Lib.atoiAll m = if valN m ≤ 9223372036854775807 then .ok (valN m : Int) else .range := by
 have hp := parse_dg m 0 hd (by omega)
 rw [← valN_eq] at hp
 match m, h0, hd, hp with
 | c :: r, _, hd, hp =>
  have hc := dg_iff.1 (hd c (by simp))
  have e : Lib.atoiAll (c :: r) = match Lib.parseUint10 0 (c :: r) with
   | .syntax => .syntax
   | .range => .range
   | .ok u => if 9223372036854775808 ≤ u then .range else .ok (u : Int) := by
   unfold Lib.atoiAll
   have h1 : ¬ c.toNat = 43 := by omega
   have h2 : ¬ c.toNat = 45 := by omega
   simp only [h1, h2, or_self, if_false, Lib.parseMag, List.cons_ne_nil, reduceCtorEq, not_false_eq_true, true_and, false_and]
   cases Lib.parseUint10 0 (c :: r) <;> rfl
  rw [e, hp]
  by_cases h : valN (c :: r) < 18446744073709551616
  ·rw [if_pos h]
   by_cases h' : valN (c :: r) ≤ 9223372036854775807
   ·rw [if_pos h']; simp only []; rw [if_neg (by omega)]
   ·rw [if_neg h']; simp only []; rw [if_pos (by omega)]
  ·rw [if_neg h, if_neg (by omega)]
theorem atoi_neg {m : List UInt8} (h0 : m ≠ []) (hd : ∀ c ∈ m, dg c = true) : Lib.atoiAll (45 :: m) = if valN m ≤ 9223372036854775808 then .ok (-(valN m : Int)) else .range := by
 have hp := parse_dg m 0 hd (by omega)
 rw [← valN_eq] at hp
 have e : Lib.atoiAll (45 :: m) = match Lib.parseUint10 0 m with
     | .syntax => .syntax
     | .range => .range
     | .ok u => if 9223372036854775808 < u then .range else .ok (-(u : Int)) := by
  unfold Lib.atoiAll
  have h1 : (UInt8.toNat 45 = 43 ∨ UInt8.toNat 45 = 45) := .inr rfl
  have h2 : UInt8.toNat 45 = 45 := rfl
  simp only [h2, or_true, if_true, Lib.parseMag, h0, if_false, not_true_eq_false, true_and, false_and]
  cases Lib.parseUint10 0 m <;> rfl
 rw [e, hp]
 by_cases h : valN m < 18446744073709551616
 ·rw [if_pos h]
  by_cases h' : valN m ≤ 9223372036854775808
  ·rw [if_pos h']; simp only []; rw [if_neg (by omega)]
  ·rw [if_neg h']; simp only []; rw [if_pos (by omega)]
 ·rw [if_neg h, if_neg (by omega)]
theorem take_num (l : List UInt8) : (l.drop (sgn l)).take (numN l) = (l.drop (sgn l)).takeWhile dg := (List.prefix_iff_eq_take.1 (List.takeWhile_prefix dg)).symm
theorem take_sgn (l : List UInt8) : l.take (sgn l + numN l) = (if sgn l = 1 then [45] else []) ++ (l.drop (sgn l)).takeWhile dg := by
 rw [← take_num]
 unfold sgn
 cases h : l.head? == some 45 with
 | true =>
  match l, h with
  | c :: r, h =>
   simp at h; subst h
   simp [Nat.add_comm 1]
 | false => simp
theorem sgn_le (l : List UInt8) : sgn l = 0 ∨ sgn l = 1 := by unfold sgn; split <;> simp
theorem read_same (l : List UInt8) : read1 l = read2 l := by
 unfold read1 read2
 cases h39 : l.head? == some 39 with
 | true =>
  have h39' : l.head? = some 39 := by simpa using h39
  obtain ⟨h1, h2⟩ := quoted_same l h39'
  simp only [if_true]
  cases hq : (qv (l.drop 1) [] 1).2.2 with
  | true => rw [← h1, hq, if_pos rfl, if_pos rfl, h2 hq]
  | false => rw [← h1, hq]; rfl
 | false =>
  simp only [Bool.false_eq_true, if_false]
  have hs := sgn_le l
  by_cases h0 : numN l = 0
  ·rw [if_pos h0, if_pos h0]
   rcases hs with h | h <;> rw [h] <;> rfl
  rw [if_neg h0, if_neg h0]
  by_cases hA : (l.drop (sgn l)).head? = some 48 ∧ (1 < numN l ∨ 0 < sgn l)
  ·rw [if_pos hA, if_pos (.inl ⟨hA.1, by omega⟩)]
  rw [if_neg hA, take_sgn, take_num]
  have hdig : ∀ c ∈ (l.drop (sgn l)).takeWhile dg, dg c = true := fun c hc => by
   have := List.all_takeWhile (l := l.drop (sgn l)) (p := dg)
   exact List.all_eq_true.1 this c hc
  have hne : (l.drop (sgn l)).takeWhile dg ≠ [] := fun e => h0 (by rw [numN, e]; rfl)
  have hln : ((l.drop (sgn l)).takeWhile dg).length = numN l := rfl
  have hhd : ∀ c r, (l.drop (sgn l)).takeWhile dg = c :: r → (l.drop (sgn l)).head? = some c := fun c r e => by
   have := take_num l
   rw [e] at this
   cases hd : l.drop (sgn l) with
   | nil => rw [hd] at this; simp at this
   | cons x y =>
    rw [hd] at this
    cases hn : numN l with
    | zero => omega
    | succ k => rw [hn] at this; simp at this; rw [this.1]; rfl
  generalize (l.drop (sgn l)).takeWhile dg = m at *
  have big : 19 < numN l → 10000000000000000000 ≤ valN m := fun h => by
   match m, hne with
   | c :: r, _ =>
    have hc := dg_iff.1 (hdig c (by simp))
    have hc48 : c ≠ 48 := fun e => hA ⟨by rw [hhd c r rfl, e], .inl (by omega)⟩
    have hc48' : c.toNat ≠ 48 := fun e => hc48 (UInt8.toNat_inj.1 e)
    have h1 := valA_ge r (vstp 0 c)
    rw [valN_eq, List.foldl_cons]
    have h2 : 1 ≤ vstp 0 c := by unfold vstp; omega
    have h3 : (10 : Nat) ^ 19 ≤ 10 ^ r.length := Nat.pow_le_pow_right (by omega) (by simp at hln; omega)
    have h4 := Nat.mul_le_mul_right (10 ^ r.length) h2
    omega
  have hB : ((l.drop (sgn l)).head? = some 48 ∧ 1 < sgn l + numN l) ↔ False := ⟨fun h => hA ⟨h.1, by omega⟩, fun h => h.elim⟩
  simp only [hB, false_or]
  rcases hs with h | h
  ·rw [h]
   simp only [Nat.zero_ne_one, if_false, List.nil_append, true_and]
   rw [atoi_pos hne hdig]
   by_cases h19 : 19 < numN l
   ·have := big h19
    rw [if_pos h19, if_neg (by omega)]
   ·rw [if_neg h19]
    by_cases hv : valN m ≤ 9223372036854775807
    ·rw [if_pos hv, if_neg (by omega)]
    ·rw [if_neg hv, if_pos (by omega)]
  ·rw [h]
   simp only [if_true, List.singleton_append]
   rw [atoi_neg hne hdig]
   by_cases h19 : 19 < numN l
   ·have := big h19
    rw [if_pos h19, if_neg (by omega)]
   ·rw [if_neg h19]
    by_cases hv : valN m ≤ 9223372036854775808
    ·rw [if_pos hv, if_neg (by omega)]
    ·rw [if_neg hv, if_pos (by omega)]
end Go.Proofs
