/- A part of the proof; what is proved stands in the last text. -/
import Derived.Test.YtijhiblfdidnpaaGreatWD
import Derived.Test.YtijhiblfdidnpaaGreatMM
set_option linter.unusedVariables false
set_option maxRecDepth 2000
namespace Go.Proofs
open Go.Vm
set_option linter.unusedSimpArgs false
def preN (n : Nat) : List Nat := if h : n = 0 then [] else preN (n / 128) ++ [n % 128]
termination_by n
decreasing_by omega
def digN (n : Nat) : List Nat := preN (n / 128) ++ [n % 128]
theorem digN_big {n : Nat} (h : ¬ n < 128) : digN n = digN (n / 128) ++ [n % 128] := by
 unfold digN
 rw [preN, dif_neg (by omega)]
theorem digN_small {n : Nat} (h : n < 128) : digN n = [n] := by
 unfold digN
 rw [preN, dif_pos (by omega), Nat.mod_eq_of_lt h]; rfl
theorem digN_len : ∀ (k n : Nat), n < 128 ^ k → (digN n).length ≤ k ∨ k = 0
 | 0, _, _ => .inr rfl
 | k + 1, n, h => by
  left
  rcases Nat.lt_or_ge n 128 with hn | hn
  ·rw [digN_small hn]; simp
  ·rw [digN_big (by omega), List.length_append]
   have : n / 128 < 128 ^ k := by rw [Nat.pow_succ] at h; exact Nat.div_lt_of_lt_mul (by omega)
   rcases digN_len k (n / 128) this with h1 | h1
   ·simp; omega
   ·subst h1; simp at this; omega
theorem kdigits2 : ∀ (n : Nat), n < 18446744073709551616 → FreshAt Tryz.prog 70 [.val (.int .u64 n)] 5 1 (· = (digN n).map fun x => [u8D x]) := by
 intro n
 induction n using Nat.strongRecOn with
 | _ n ih =>
  intro hn
  refine fresh_of r70 (by kernel_rfl) ?_
  unfold m70
  have c0 : decide ((n : Int) < 128) = decide (n < 128) := by rw [decide_eq_decide]; omega
  simp only [c0, go_sem, Nat.reduceEqDiff, Nat.reduceAdd]
  cases hc : decide (n < 128)
  ·have h1 := of_decide_eq_false hc
   rw [digN_big h1]
   have ih' := ih (n / 128) (by omega) (by omega)
   have z128 : ((128 : Int) = 0) = False := by simp
   have e1 : ((n : Int).tmod 128) = ((n % 128 : Nat) : Int) := by rw [Int.tmod_eq_emod_of_nonneg (by omega)]; omega
   have e2 : ((n : Int).tdiv 128) = ((n / 128 : Nat) : Int) := by rw [Int.tdiv_eq_ediv_of_nonneg (by omega)]; omega
   have e3 : IntKind.u8.wrap ((n % 128 : Nat) : Int) = ((n % 128 : Nat) : Int) := wrap_u8 (by omega) (by omega)
   have e4 : IntKind.u64.wrap ((n / 128 : Nat) : Int) = ((n / 128 : Nat) : Int) := wrap_u64 (by omega) (by omega)
   have e5 : IntKind.u64.wrap ((n % 128 : Nat) : Int) = ((n % 128 : Nat) : Int) := wrap_u64 (by omega) (by omega)
   have hl : (digN (n / 128)).length ≤ 10 := by
    rcases digN_len 10 (n / 128) (by omega) with h | h
    ·exact h
    ·cases h
   simp only [z128, if_false, e2, e4, go_sem, Nat.reduceEqDiff]
   refine callF_by rfl rfl ih' ?_
   rintro _ rfl
   simp only [z128, if_false, e1, e3, go_sem, Nat.reduceEqDiff, Nat.reduceAdd, Nat.reduceLeDiff, List.length_map]
   exact ⟨by intro e he; obtain ⟨x, _, rfl⟩ := List.mem_map.1 he; rfl, by rintro _ rfl; rfl, by omega, by omega, by rw [List.map_append]; rfl⟩
  ·have h1 := of_decide_eq_true hc
   rw [digN_small h1]
   have e3 : IntKind.u8.wrap (n : Int) = (n : Int) := wrap_u8 (by omega) (by omega)
   simp only [e3, go_sem, Nat.reduceEqDiff, Nat.reduceAdd, Nat.reduceLeDiff]
   rfl
theorem preN_lt : ∀ (n x : Nat), x ∈ preN n → x < 128 := by
 intro n
 induction n using Nat.strongRecOn with
 | _ n ih =>
  intro x hx
  rw [preN] at hx
  split at hx
  ·cases hx
  ·rcases List.mem_append.1 hx with h | h
   ·exact ih _ (by omega) x h
   ·simp at h; omega
theorem preN_hi : ∀ n : Nat, (preN n).map (· + 128) = encHi n := by
 intro n
 induction n using Nat.strongRecOn with
 | _ n ih =>
  rw [preN, encHi]
  split
  ·rfl
  ·rw [List.map_append, ih _ (by omega)]; rfl
def upN (p : List Nat) (i : Nat) : List Nat := (p.take i).map (· + 128) ++ p.drop i
theorem upN_len (p : List Nat) {i : Nat} : (upN p i).length = p.length := by simp [upN]; omega
theorem modi {α : Type} (f : α → α) (x : α) (B : List α) : ∀ A : List α, (A ++ x :: B).modify A.length f = A ++ f x :: B
 | [] => rfl
 | a :: A => by
  have := modi f x B A
  simp only [List.cons_append, List.length_cons, List.modify_succ_cons, this]
set_option maxHeartbeats 1000000 in
theorem kUint2 (n : Nat) (hn : n < 18446744073709551616) : PureAt Tryz.prog 38 [.val (.int .u64 n)] (· = .val (.string (lb (encB n)))) := by
 refine pure_of r38 (by kernel_rfl) ?_
 unfold m38
 have hl : (digN n).length ≤ 10 := by
  rcases digN_len 10 n (by omega) with h | h
  ·exact h
  ·cases h
 have hd : digN n = preN (n / 128) ++ [n % 128] := rfl
 have hp := preN_lt (n / 128)
 have he : encB n = ((preN (n / 128)).map (· + 128) ++ [n % 128]).map UInt8.ofNat := by rw [preN_hi]; rfl
 have hlen : (preN (n / 128)).length + 1 = (digN n).length := by rw [hd]; simp
 have hlast : n % 128 < 128 := by omega
 rw [he]
 simp only [go_sem, Nat.reduceEqDiff, Nat.reduceAdd]
 refine callF_by rfl rfl (kdigits2 n hn) ?_
 rintro _ rfl
 rw [hd]
 generalize preN (n / 128) = p at *
 generalize n % 128 = z at *
 simp only [go_sem, Nat.reduceEqDiff]
 refine loop_N p.length (fun _ => True) (fun i => ⟨[(3, .sl (some (6, 5, 1)) ((upN p i ++ [z]).map fun x => [u8D x])), (4, .val (.int .i64 i))], [], [((6, 5, 1), true)]⟩) trivial (by simp only [upN, go_sem, Nat.reduceEqDiff]; rfl) ?_
 rintro i hi -
 have hul := upN_len p (i := i)
 have hll : ((upN p i ++ [z]).map fun x => [u8D x]).length = p.length + 1 := by simp [hul]
 have hw : IntKind.i64.wrap (((p.length + 1 : Nat) : Int) - 1) = (p.length : Int) := by rw [wrap64 (by omega) (by omega)]; omega
 simp only [hll, hw, go_sem, Nat.reduceEqDiff]
 refine condE_split (fun h => ?_) (fun h => ?_)
 ·have hi' : i < p.length := by simpa using h
  have hpi := hp _ (List.getElem_mem hi')
  have hup : upN p i = (p.take i).map (· + 128) ++ p[i] :: p.drop (i + 1) := by rw [upN, List.drop_eq_getElem_cons hi']
  have hus : upN p (i + 1) = (p.take i).map (· + 128) ++ (p[i] + 128) :: p.drop (i + 1) := by
   rw [upN, List.take_succ_eq_append_getElem hi', List.map_append]; simp
  have htl : ((p.take i).map (· + 128)).length = i := by simp; omega
  have hget : ((upN p i ++ [z]).map fun x => [u8D x])[i]? = some [.val (.int .u8 p[i])] := by
   rw [List.getElem?_map, hup, List.append_assoc, List.getElem?_append_right (by omega), htl, Nat.sub_self, List.cons_append]; rfl
  generalize p[i] = x at *
  have w8 : IntKind.u8.wrap ((x : Int) + 128) = ((x + 128 : Nat) : Int) := by rw [wrap_u8 (by omega) (by omega)]; rfl
  have hmod : (((upN p i ++ [z]).map fun x => [u8D x]).modify i fun e => e.set 0 (.val (.int .u8 (x + 128 : Nat)))) = (upN p (i + 1) ++ [z]).map fun x => [u8D x] := by
   have := modi (fun e : List D => e.set 0 (.val (.int .u8 (x + 128 : Nat)))) [u8D x] ((p.drop (i + 1) ++ [z]).map fun x => [u8D x]) (((p.take i).map (· + 128)).map fun x => [u8D x])
   rw [List.length_map, htl] at this
   rw [hup, hus]
   simp only [List.append_assoc, List.cons_append, List.map_append, List.map_cons] at this ⊢
   rw [this]
   rfl
  simp only [nn0, Int.toNat_natCast, hget, w8, hmod, go_sem, Nat.reduceEqDiff, Nat.reduceAdd, Nat.reduceLeDiff]
  refine invN_next hi' trivial ?_
  simp only [up64 (show i < 1000000 by omega), go_sem, Nat.reduceEqDiff]
 ·have hii : i = p.length := by simp at h; omega
  subst hii
  have hfin : upN p p.length = p.map (· + 128) := by simp [upN]
  simp only [hfin, bytes_u8, Option.map_some, go_sem, Nat.reduceEqDiff]
  rfl
end Go.Proofs

namespace Go.Proofs
open Go.Vm
set_option linter.unusedSimpArgs false
theorem kInt2 (n : Int) (h : InRange n) : PureAt Tryz.prog 68 [.val (.int .i64 n)] (· = .val (.string (lb (encB (foldN n))))) := by
 obtain ⟨h1, h2⟩ := h
 have hlt := (unfold_fold (n := n) ⟨h1, h2⟩).2
 have p := kUint2 (foldN n) hlt
 refine pure_of r68 (by kernel_rfl) ?_
 unfold m68
 simp only [go_sem, Nat.reduceEqDiff, Nat.reduceAdd]
 refine condE_split (fun h => ?_) (fun h => ?_)
 ·have h0 : 0 ≤ n := by simpa using h
  have e1 : IntKind.u64.wrap n = n := wrap_u64 (by omega) (by omega)
  have e2 : IntKind.u64.wrap (2 * n) = (foldN n : Int) := by rw [wrap_u64 (by omega) (by omega), foldN, if_neg (by omega)]; omega
  simp only [e1, e2, go_sem, Nat.reduceEqDiff]
  refine callP_eq rfl rfl p ?_
  simp only [go_sem, Nat.reduceEqDiff]
 ·have h0 : n < 0 := by simpa using h
  have e0 : IntKind.i64.wrap (-1 - n) = -1 - n := wrap64 (by omega) (by omega)
  have e1 : IntKind.u64.wrap (-1 - n) = -1 - n := wrap_u64 (by omega) (by omega)
  have e2 : IntKind.u64.wrap (2 * (-1 - n)) = 2 * (-1 - n) := wrap_u64 (by omega) (by omega)
  have e3 : IntKind.u64.wrap (2 * (-1 - n) + 1) = (foldN n : Int) := by rw [wrap_u64 (by omega) (by omega), foldN, if_pos h0]; omega
  simp only [e0, e1, e2, e3, go_sem, Nat.reduceEqDiff]
  refine callP_eq rfl rfl p ?_
  simp only [go_sem, Nat.reduceEqDiff]
theorem kStr2 (s : ByteArray) (hs : s.size ≤ 1000000) : PureAt Tryz.prog 69 [.val (.string s)] (· = .val (.string (lb (strB s)))) := by
 have p := kUint2 s.size (by omega)
 have hl := (encB_len (n := s.size) (by omega)).1
 refine pure_of r69 (by kernel_rfl) ?_
 unfold m69
 have w1 : IntKind.u64.wrap (s.size : Int) = (s.size : Int) := wrap_u64 (by omega) (by omega)
 have hsz : ((lb (encB s.size)).size + s.size ≤ 9223372036854775807) = True := by rw [size_lb]; simp; omega
 simp only [w1, go_sem, Nat.reduceEqDiff, Nat.reduceAdd]
 refine callP_eq rfl rfl p ?_
 simp only [hsz, if_true, app_lb, go_sem, Nat.reduceEqDiff]
 rfl
end Go.Proofs

namespace Go.Proofs
open Go.Vm
set_option linter.unusedSimpArgs false
theorem app_lb2 (l m : List UInt8) : lb l ++ lb m = lb (l ++ m) := by
 rw [app_lb]
 rfl
set_option maxHeartbeats 4000000 in
theorem kEvent8 (e : EvM) (hw : WvE e) : PureAt Tryz.prog 37 [.agg (evC e)] (· = .val (.string (lb (eventB e)))) := by
 refine pure_of r37 (by kernel_rfl) ?_
 unfold m37
 simp only [evC, go_sem, Nat.reduceEqDiff, Nat.reduceAdd]
 refine loop_N 4 (fun _ => True) (fun k => ⟨[(1, .ptr 1 0), (3, .val (.string (lb (valsB e k)))), (4, .val (.int .i64 (z4 k)))], [(1, evC e)], []⟩) trivial (by simp only [go_sem, Nat.reduceEqDiff]; rfl) ?_
 rintro k hk -
 have hsl := valsB_len hw k hk
 have hsn := valsB_succ e k
 have hk5 : k = 0 ∨ k = 1 ∨ k = 2 ∨ k = 3 ∨ k = 4 := by omega
 rcases hk5 with rfl | rfl | rfl | rfl | rfl
 ·have hv := hw 0 (by omega)
  have hkd : e.v0.kind = 0 ∨ e.v0.kind = 1 ∨ e.v0.kind = 2 ∧ e.v0.s.size ≤ 8 := hv.kd
  have hin : InRange e.v0.n := hv.n
  have hvb : valB (e.at 0) = valB e.v0 := rfl
  have q1 := (encB_len (unfold_fold hin).2).1
  rcases hkd with e0 | e0 | ⟨e0, hs⟩
  ·have z1 : ((lb (valsB e 0)).size + #[Nat.toUInt8 0].size ≤ 9223372036854775807) = True := by rw [size_lb]; simp; omega
   have z2 : lb (valsB e 0) ++ (⟨#[Nat.toUInt8 0]⟩ : ByteArray) = lb (valsB e 0 ++ [UInt8.ofNat 0]) := app_lb2 _ [UInt8.ofNat 0]
   simp only [evC, e0, u8_0, go_sem, Nat.reduceEqDiff, Nat.reduceAdd, Nat.reduceLeDiff, z4, Int.reduceLT, Int.toNat_zero, Int.le_refl, decide_true, c4, Nat.reduceMul, true_and, and_self, ↓reduceIte]
   simp only [z1, z2, Int.reduceBEq, go_sem, Nat.reduceEqDiff, Nat.reduceAdd, Int.reduceLT, Int.toNat_zero, Int.le_refl, Int.reduceAdd, wr1, c4, Nat.reduceMul, and_self, ↓reduceIte]
   refine invN_next (by omega) trivial ?_
   simp only [hsn, hvb, go_sem, Nat.reduceEqDiff, Nat.reduceAdd]
   simp [valB, e0]
  ·have z1 : ((lb (valsB e 0)).size + #[Nat.toUInt8 1].size ≤ 9223372036854775807) = True := by rw [size_lb]; simp; omega
   have z2 : lb (valsB e 0) ++ (⟨#[Nat.toUInt8 1]⟩ : ByteArray) = lb (valsB e 0 ++ [UInt8.ofNat 1]) := app_lb2 _ [UInt8.ofNat 1]
   simp only [evC, e0, u8_1, go_sem, Nat.reduceEqDiff, Nat.reduceAdd, Nat.reduceLeDiff, z4, Int.reduceLT, Int.reduceToNat, Int.toNat_zero, Int.le_refl, decide_true, c4, Nat.reduceMul, true_and, and_self, ↓reduceIte]
   simp only [z1, z2, beq_self_eq_true, go_sem, Nat.reduceEqDiff, Nat.reduceAdd, Int.reduceLT, Int.toNat_zero, Int.le_refl, c4, Nat.reduceMul, and_self, ↓reduceIte]
   have z3 : ((lb (valsB e 0 ++ [UInt8.ofNat 1])).size + (lb (encB (foldN e.v0.n))).size ≤ 9223372036854775807) = True := by rw [size_lb, size_lb, List.length_append]; have := q1; simp; omega
   refine callP_eq rfl rfl (kInt2 e.v0.n hin) ?_
   simp only [z3, app_lb2, Int.reduceBEq, go_sem, Nat.reduceEqDiff, Nat.reduceAdd, Int.reduceLT, Int.toNat_zero, Int.le_refl, Int.reduceAdd, wr1, c4, Nat.reduceMul, and_self, ↓reduceIte]
   refine invN_next (by omega) trivial ?_
   simp only [hsn, hvb, go_sem, Nat.reduceEqDiff, Nat.reduceAdd]
   simp [valB, e0]
  ·have z1 : ((lb (valsB e 0)).size + #[Nat.toUInt8 2].size ≤ 9223372036854775807) = True := by rw [size_lb]; simp; omega
   have z2 : lb (valsB e 0) ++ (⟨#[Nat.toUInt8 2]⟩ : ByteArray) = lb (valsB e 0 ++ [UInt8.ofNat 2]) := app_lb2 _ [UInt8.ofNat 2]
   simp only [evC, e0, u8_2, go_sem, Nat.reduceEqDiff, Nat.reduceAdd, Nat.reduceLeDiff, z4, Int.reduceLT, Int.reduceToNat, Int.toNat_zero, Int.le_refl, decide_true, c4, Nat.reduceMul, true_and, and_self, ↓reduceIte]
   simp only [z1, z2, beq_self_eq_true, Int.reduceBEq, go_sem, Nat.reduceEqDiff, Nat.reduceAdd, Int.reduceLT, Int.toNat_zero, Int.le_refl, c4, Nat.reduceMul, and_self, ↓reduceIte]
   have z3 : ((lb (valsB e 0 ++ [UInt8.ofNat 2])).size + (lb (strB e.v0.s)).size ≤ 9223372036854775807) = True := by rw [size_lb, size_lb, List.length_append]; have := strB_len (s := e.v0.s) (by omega); simp; omega
   refine callP_eq rfl rfl (kStr2 e.v0.s (by omega)) ?_
   simp only [z3, app_lb2, go_sem, Nat.reduceEqDiff, Int.reduceAdd, wr1, ↓reduceIte]
   refine invN_next (by omega) trivial ?_
   simp only [hsn, hvb, go_sem, Nat.reduceEqDiff, Nat.reduceAdd]
   simp [valB, e0]
 ·have hv := hw 1 (by omega)
  have hkd : e.v1.kind = 0 ∨ e.v1.kind = 1 ∨ e.v1.kind = 2 ∧ e.v1.s.size ≤ 8 := hv.kd
  have hin : InRange e.v1.n := hv.n
  have hvb : valB (e.at 1) = valB e.v1 := rfl
  have q1 := (encB_len (unfold_fold hin).2).1
  rcases hkd with e0 | e0 | ⟨e0, hs⟩
  ·have z1 : ((lb (valsB e 1)).size + #[Nat.toUInt8 0].size ≤ 9223372036854775807) = True := by rw [size_lb]; simp; omega
   have z2 : lb (valsB e 1) ++ (⟨#[Nat.toUInt8 0]⟩ : ByteArray) = lb (valsB e 1 ++ [UInt8.ofNat 0]) := app_lb2 _ [UInt8.ofNat 0]
   simp only [evC, e0, u8_0, go_sem, Nat.reduceEqDiff, Nat.reduceAdd, Nat.reduceLeDiff, z4, Int.reduceLT, Int.reduceLE, Int.reduceToNat, Int.toNat_zero, decide_true, c4, Nat.reduceMul, true_and, and_self, ↓reduceIte]
   simp only [z1, z2, Int.reduceBEq, go_sem, Nat.reduceEqDiff, Nat.reduceAdd, Int.reduceLT, Int.reduceLE, Int.reduceToNat, Int.reduceAdd, wr2, c4, Nat.reduceMul, and_self, ↓reduceIte]
   refine invN_next (by omega) trivial ?_
   simp only [hsn, hvb, go_sem, Nat.reduceEqDiff, Nat.reduceAdd]
   simp [valB, e0]
  ·have z1 : ((lb (valsB e 1)).size + #[Nat.toUInt8 1].size ≤ 9223372036854775807) = True := by rw [size_lb]; simp; omega
   have z2 : lb (valsB e 1) ++ (⟨#[Nat.toUInt8 1]⟩ : ByteArray) = lb (valsB e 1 ++ [UInt8.ofNat 1]) := app_lb2 _ [UInt8.ofNat 1]
   simp only [evC, e0, u8_1, go_sem, Nat.reduceEqDiff, Nat.reduceAdd, Nat.reduceLeDiff, z4, Int.reduceLT, Int.reduceLE, Int.reduceToNat, decide_true, c4, Nat.reduceMul, true_and, and_self, ↓reduceIte]
   simp only [z1, z2, beq_self_eq_true, go_sem, Nat.reduceEqDiff, Nat.reduceAdd, Int.reduceLT, Int.reduceLE, Int.reduceToNat, c4, Nat.reduceMul, and_self, ↓reduceIte]
   have z3 : ((lb (valsB e 1 ++ [UInt8.ofNat 1])).size + (lb (encB (foldN e.v1.n))).size ≤ 9223372036854775807) = True := by rw [size_lb, size_lb, List.length_append]; have := q1; simp; omega
   refine callP_eq rfl rfl (kInt2 e.v1.n hin) ?_
   simp only [z3, app_lb2, Int.reduceBEq, go_sem, Nat.reduceEqDiff, Nat.reduceAdd, Int.reduceLT, Int.reduceLE, Int.reduceToNat, Int.reduceAdd, wr2, c4, Nat.reduceMul, and_self, ↓reduceIte]
   refine invN_next (by omega) trivial ?_
   simp only [hsn, hvb, go_sem, Nat.reduceEqDiff, Nat.reduceAdd]
   simp [valB, e0]
  ·have z1 : ((lb (valsB e 1)).size + #[Nat.toUInt8 2].size ≤ 9223372036854775807) = True := by rw [size_lb]; simp; omega
   have z2 : lb (valsB e 1) ++ (⟨#[Nat.toUInt8 2]⟩ : ByteArray) = lb (valsB e 1 ++ [UInt8.ofNat 2]) := app_lb2 _ [UInt8.ofNat 2]
   simp only [evC, e0, u8_2, go_sem, Nat.reduceEqDiff, Nat.reduceAdd, Nat.reduceLeDiff, z4, Int.reduceLT, Int.reduceLE, Int.reduceToNat, decide_true, c4, Nat.reduceMul, true_and, and_self, ↓reduceIte]
   simp only [z1, z2, beq_self_eq_true, Int.reduceBEq, go_sem, Nat.reduceEqDiff, Nat.reduceAdd, Int.reduceLT, Int.reduceLE, Int.reduceToNat, c4, Nat.reduceMul, and_self, ↓reduceIte]
   have z3 : ((lb (valsB e 1 ++ [UInt8.ofNat 2])).size + (lb (strB e.v1.s)).size ≤ 9223372036854775807) = True := by rw [size_lb, size_lb, List.length_append]; have := strB_len (s := e.v1.s) (by omega); simp; omega
   refine callP_eq rfl rfl (kStr2 e.v1.s (by omega)) ?_
   simp only [z3, app_lb2, go_sem, Nat.reduceEqDiff, Int.reduceAdd, wr2, ↓reduceIte]
   refine invN_next (by omega) trivial ?_
   simp only [hsn, hvb, go_sem, Nat.reduceEqDiff, Nat.reduceAdd]
   simp [valB, e0]
 ·have hv := hw 2 (by omega)
  have hkd : e.v2.kind = 0 ∨ e.v2.kind = 1 ∨ e.v2.kind = 2 ∧ e.v2.s.size ≤ 8 := hv.kd
  have hin : InRange e.v2.n := hv.n
  have hvb : valB (e.at 2) = valB e.v2 := rfl
  have q1 := (encB_len (unfold_fold hin).2).1
  rcases hkd with e0 | e0 | ⟨e0, hs⟩
  ·have z1 : ((lb (valsB e 2)).size + #[Nat.toUInt8 0].size ≤ 9223372036854775807) = True := by rw [size_lb]; simp; omega
   have z2 : lb (valsB e 2) ++ (⟨#[Nat.toUInt8 0]⟩ : ByteArray) = lb (valsB e 2 ++ [UInt8.ofNat 0]) := app_lb2 _ [UInt8.ofNat 0]
   simp only [evC, e0, u8_0, go_sem, Nat.reduceEqDiff, Nat.reduceAdd, Nat.reduceLeDiff, z4, Int.reduceLT, Int.reduceLE, Int.reduceToNat, Int.toNat_zero, decide_true, c4, Nat.reduceMul, true_and, and_self, ↓reduceIte]
   simp only [z1, z2, Int.reduceBEq, go_sem, Nat.reduceEqDiff, Nat.reduceAdd, Int.reduceLT, Int.reduceLE, Int.reduceToNat, Int.reduceAdd, wr3, c4, Nat.reduceMul, and_self, ↓reduceIte]
   refine invN_next (by omega) trivial ?_
   simp only [hsn, hvb, go_sem, Nat.reduceEqDiff, Nat.reduceAdd]
   simp [valB, e0]
  ·have z1 : ((lb (valsB e 2)).size + #[Nat.toUInt8 1].size ≤ 9223372036854775807) = True := by rw [size_lb]; simp; omega
   have z2 : lb (valsB e 2) ++ (⟨#[Nat.toUInt8 1]⟩ : ByteArray) = lb (valsB e 2 ++ [UInt8.ofNat 1]) := app_lb2 _ [UInt8.ofNat 1]
   simp only [evC, e0, u8_1, go_sem, Nat.reduceEqDiff, Nat.reduceAdd, Nat.reduceLeDiff, z4, Int.reduceLT, Int.reduceLE, Int.reduceToNat, decide_true, c4, Nat.reduceMul, true_and, and_self, ↓reduceIte]
   simp only [z1, z2, beq_self_eq_true, go_sem, Nat.reduceEqDiff, Nat.reduceAdd, Int.reduceLT, Int.reduceLE, Int.reduceToNat, c4, Nat.reduceMul, and_self, ↓reduceIte]
   have z3 : ((lb (valsB e 2 ++ [UInt8.ofNat 1])).size + (lb (encB (foldN e.v2.n))).size ≤ 9223372036854775807) = True := by rw [size_lb, size_lb, List.length_append]; have := q1; simp; omega
   refine callP_eq rfl rfl (kInt2 e.v2.n hin) ?_
   simp only [z3, app_lb2, Int.reduceBEq, go_sem, Nat.reduceEqDiff, Nat.reduceAdd, Int.reduceLT, Int.reduceLE, Int.reduceToNat, Int.reduceAdd, wr3, c4, Nat.reduceMul, and_self, ↓reduceIte]
   refine invN_next (by omega) trivial ?_
   simp only [hsn, hvb, go_sem, Nat.reduceEqDiff, Nat.reduceAdd]
   simp [valB, e0]
  ·have z1 : ((lb (valsB e 2)).size + #[Nat.toUInt8 2].size ≤ 9223372036854775807) = True := by rw [size_lb]; simp; omega
   have z2 : lb (valsB e 2) ++ (⟨#[Nat.toUInt8 2]⟩ : ByteArray) = lb (valsB e 2 ++ [UInt8.ofNat 2]) := app_lb2 _ [UInt8.ofNat 2]
   simp only [evC, e0, u8_2, go_sem, Nat.reduceEqDiff, Nat.reduceAdd, Nat.reduceLeDiff, z4, Int.reduceLT, Int.reduceLE, Int.reduceToNat, decide_true, c4, Nat.reduceMul, true_and, and_self, ↓reduceIte]
   simp only [z1, z2, beq_self_eq_true, Int.reduceBEq, go_sem, Nat.reduceEqDiff, Nat.reduceAdd, Int.reduceLT, Int.reduceLE, Int.reduceToNat, c4, Nat.reduceMul, and_self, ↓reduceIte]
   have z3 : ((lb (valsB e 2 ++ [UInt8.ofNat 2])).size + (lb (strB e.v2.s)).size ≤ 9223372036854775807) = True := by rw [size_lb, size_lb, List.length_append]; have := strB_len (s := e.v2.s) (by omega); simp; omega
   refine callP_eq rfl rfl (kStr2 e.v2.s (by omega)) ?_
   simp only [z3, app_lb2, go_sem, Nat.reduceEqDiff, Int.reduceAdd, wr3, ↓reduceIte]
   refine invN_next (by omega) trivial ?_
   simp only [hsn, hvb, go_sem, Nat.reduceEqDiff, Nat.reduceAdd]
   simp [valB, e0]
 ·have hv := hw 3 (by omega)
  have hkd : e.v3.kind = 0 ∨ e.v3.kind = 1 ∨ e.v3.kind = 2 ∧ e.v3.s.size ≤ 8 := hv.kd
  have hin : InRange e.v3.n := hv.n
  have hvb : valB (e.at 3) = valB e.v3 := rfl
  have q1 := (encB_len (unfold_fold hin).2).1
  rcases hkd with e0 | e0 | ⟨e0, hs⟩
  ·have z1 : ((lb (valsB e 3)).size + #[Nat.toUInt8 0].size ≤ 9223372036854775807) = True := by rw [size_lb]; simp; omega
   have z2 : lb (valsB e 3) ++ (⟨#[Nat.toUInt8 0]⟩ : ByteArray) = lb (valsB e 3 ++ [UInt8.ofNat 0]) := app_lb2 _ [UInt8.ofNat 0]
   simp only [evC, e0, u8_0, go_sem, Nat.reduceEqDiff, Nat.reduceAdd, Nat.reduceLeDiff, z4, Int.reduceLT, Int.reduceLE, Int.reduceToNat, Int.toNat_zero, decide_true, c4, Nat.reduceMul, true_and, and_self, ↓reduceIte]
   simp only [z1, z2, Int.reduceBEq, go_sem, Nat.reduceEqDiff, Nat.reduceAdd, Int.reduceLT, Int.reduceLE, Int.reduceToNat, Int.reduceAdd, wr4, c4, Nat.reduceMul, and_self, ↓reduceIte]
   refine invN_next (by omega) trivial ?_
   simp only [hsn, hvb, go_sem, Nat.reduceEqDiff, Nat.reduceAdd]
   simp [valB, e0]
  ·have z1 : ((lb (valsB e 3)).size + #[Nat.toUInt8 1].size ≤ 9223372036854775807) = True := by rw [size_lb]; simp; omega
   have z2 : lb (valsB e 3) ++ (⟨#[Nat.toUInt8 1]⟩ : ByteArray) = lb (valsB e 3 ++ [UInt8.ofNat 1]) := app_lb2 _ [UInt8.ofNat 1]
   simp only [evC, e0, u8_1, go_sem, Nat.reduceEqDiff, Nat.reduceAdd, Nat.reduceLeDiff, z4, Int.reduceLT, Int.reduceLE, Int.reduceToNat, decide_true, c4, Nat.reduceMul, true_and, and_self, ↓reduceIte]
   simp only [z1, z2, beq_self_eq_true, go_sem, Nat.reduceEqDiff, Nat.reduceAdd, Int.reduceLT, Int.reduceLE, Int.reduceToNat, c4, Nat.reduceMul, and_self, ↓reduceIte]
   have z3 : ((lb (valsB e 3 ++ [UInt8.ofNat 1])).size + (lb (encB (foldN e.v3.n))).size ≤ 9223372036854775807) = True := by rw [size_lb, size_lb, List.length_append]; have := q1; simp; omega
   refine callP_eq rfl rfl (kInt2 e.v3.n hin) ?_
   simp only [z3, app_lb2, Int.reduceBEq, go_sem, Nat.reduceEqDiff, Nat.reduceAdd, Int.reduceLT, Int.reduceLE, Int.reduceToNat, Int.reduceAdd, wr4, c4, Nat.reduceMul, and_self, ↓reduceIte]
   refine invN_next (by omega) trivial ?_
   simp only [hsn, hvb, go_sem, Nat.reduceEqDiff, Nat.reduceAdd]
   simp [valB, e0]
  ·have z1 : ((lb (valsB e 3)).size + #[Nat.toUInt8 2].size ≤ 9223372036854775807) = True := by rw [size_lb]; simp; omega
   have z2 : lb (valsB e 3) ++ (⟨#[Nat.toUInt8 2]⟩ : ByteArray) = lb (valsB e 3 ++ [UInt8.ofNat 2]) := app_lb2 _ [UInt8.ofNat 2]
   simp only [evC, e0, u8_2, go_sem, Nat.reduceEqDiff, Nat.reduceAdd, Nat.reduceLeDiff, z4, Int.reduceLT, Int.reduceLE, Int.reduceToNat, decide_true, c4, Nat.reduceMul, true_and, and_self, ↓reduceIte]
   simp only [z1, z2, beq_self_eq_true, Int.reduceBEq, go_sem, Nat.reduceEqDiff, Nat.reduceAdd, Int.reduceLT, Int.reduceLE, Int.reduceToNat, c4, Nat.reduceMul, and_self, ↓reduceIte]
   have z3 : ((lb (valsB e 3 ++ [UInt8.ofNat 2])).size + (lb (strB e.v3.s)).size ≤ 9223372036854775807) = True := by rw [size_lb, size_lb, List.length_append]; have := strB_len (s := e.v3.s) (by omega); simp; omega
   refine callP_eq rfl rfl (kStr2 e.v3.s (by omega)) ?_
   simp only [z3, app_lb2, go_sem, Nat.reduceEqDiff, Int.reduceAdd, wr4, ↓reduceIte]
   refine invN_next (by omega) trivial ?_
   simp only [hsn, hvb, go_sem, Nat.reduceEqDiff, Nat.reduceAdd]
   simp [valB, e0]
 ·simp only [go_sem, Nat.reduceEqDiff, z4, Int.reduceLT, decide_false, true_and, ↓reduceIte]
  rfl
end Go.Proofs

namespace Go.Proofs
open Go.Vm
set_option linter.unusedSimpArgs false
theorem toNat_of (x : Nat) (h : x < 256) : (UInt8.ofNat x).toNat = x := by simp; omega
theorem uintG_hi : ∀ (m : Nat), m ≤ 144115188075855871 → ∀ t : List UInt8, uintG true 0 ((encHi m).map UInt8.ofNat ++ t) = uintG (decide (m = 0)) m t := by
 intro m
 induction m using Nat.strongRecOn with
 | _ m ih =>
  intro hm t
  rw [encHi]
  split
  ·rename_i h; subst h; rfl
  ·rename_i h
   rw [List.map_append, List.append_assoc, ih (m / 128) (by omega) (by omega)]
   show uintG _ _ (UInt8.ofNat (m % 128 + 128) :: t) = _
   rw [uintG, toNat_of _ (by omega)]
   have h1 : (decide (m / 128 = 0) && m % 128 + 128 == 128) = false := by
    by_cases h0 : m / 128 = 0
    ·have : ¬ m % 128 + 128 = 128 := by omega
     rw [beq_eq_false_iff_ne.2 this, Bool.and_false]
    ·simp [h0]
   rw [if_neg (by rw [h1]; simp), if_neg (by omega), if_neg (by omega), decide_eq_false h]
   congr 1
   omega
theorem uint_back (n : Nat) (hn : n < 18446744073709551616) (t : List UInt8) : uintR (encB n ++ t, 0) = (n, (t, 0)) := by
 show uintG true 0 (encB n ++ t) = _
 rw [encB, encN, List.map_append, List.append_assoc, uintG_hi _ (by omega)]
 show uintG _ _ (UInt8.ofNat (n % 128) :: t) = _
 rw [uintG, toNat_of _ (by omega)]
 have h1 : ¬ (decide (n / 128 = 0) && n % 128 == 128) = true := by
  have : ¬ n % 128 = 128 := by omega
  simp [this]
 rw [if_neg h1, if_neg (by omega), if_pos (by omega)]
 congr 1
 omega
theorem str_back (most : Nat) (s : ByteArray) (h : s.size ≤ most) (hm : most < 1000) (t : List UInt8) : strR most (strB s ++ t, 0) = (bl s, (t, 0)) := by
 have hu : uintR (strB s ++ t, 0) = (s.size, (bl s ++ t, 0)) := by
  rw [strB, List.append_assoc]; exact uint_back _ (by omega) _
 have hl : (bl s).length = s.size := size_bl s
 have hs : strS most (strB s ++ t, 0) = (bl s ++ t, 0) := by
  unfold strS
  rw [hu, if_neg (by simp; omega), if_neg (by simp; omega)]
 unfold strR
 rw [hs, hu, if_pos rfl]
 simp [← hl]
theorem int_back (n : Int) (h : InRange n) (t : List UInt8) : uintR (encB (foldN n) ++ t, 0) = (foldN n, (t, 0)) ∧ unfoldN (foldN n) = n :=
 ⟨uint_back _ (unfold_fold h).2 t, (unfold_fold h).1⟩
end Go.Proofs
