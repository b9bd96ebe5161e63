/- A part of the proof; what is proved stands in the last text. -/
import Derived.Test.YtijhiblfdidnpaaGreatWA
set_option linter.unusedVariables false
set_option maxRecDepth 2000
namespace Go.Proofs
open Go.Vm
set_option linter.unusedSimpArgs false
def encB (n : Nat) : List UInt8 := (encN n).map UInt8.ofNat
theorem lb_of {s : ByteArray} {l : List UInt8} (h : s.data.toList = l) : s = lb l := by
 subst h; rfl
theorem kcUintS (n : Nat) (hn : n < 18446744073709551616) : PureAt Tryz.prog 23 [.val (.int .u64 n)] (· = .val (.string (lb (encB n)))) :=
 (kcUint n hn).mono fun r ⟨s, h1, h2⟩ => by rw [h1, lb_of h2]; rfl
theorem kcInt (n : Int) (h : InRange n) : PureAt Tryz.prog 57 [.val (.int .i64 n)] (· = .val (.string (lb (encB (foldN n))))) := by
 have p1 := kfold n h
 have p2 := kcUintS (foldN n) (unfold_fold h).2
 refine pure_of r57 (by kernel_rfl) ?_
 unfold m57
 simp only [go_sem, Nat.reduceEqDiff, Nat.reduceAdd]
 refine callP_eq rfl rfl p1 ?_
 simp only [go_sem, Nat.reduceEqDiff]
 refine callP_eq rfl rfl p2 ?_
 simp only [go_sem, Nat.reduceEqDiff]
theorem app_lb (l : List UInt8) (s : ByteArray) : lb l ++ s = lb (l ++ bl s) := by
 apply ByteArray.ext
 rw [ByteArray.data_append]
 apply Array.toList_inj.1
 simp [lb, bl]
theorem size_lb (l : List UInt8) : (lb l).size = l.length := by show l.toArray.size = l.length; simp
theorem size_bl (s : ByteArray) : (bl s).length = s.size := by show s.data.toList.length = s.data.size; simp
theorem encHi_len (k : Nat) : ∀ n, n < 128 ^ k → (encHi n).length ≤ k := by
 induction k with
 | zero => intro n hn; have : n = 0 := by simp at hn; omega
           subst this; rw [encHi, dif_pos rfl]; simp
 | succ k ih =>
  intro n hn
  rw [encHi]
  split
  ·simp
  ·have := ih (n / 128) (by rw [Nat.pow_succ] at hn; omega)
   simp; omega
theorem encB_len {n : Nat} (h : n < 18446744073709551616) : (encB n).length ≤ 11 ∧ 1 ≤ (encB n).length := by
 have := encHi_len 10 (n / 128) (by omega)
 simp [encB, encN]; omega
def strB (s : ByteArray) : List UInt8 := encB s.size ++ bl s
theorem kcStr (s : ByteArray) (hs : s.size ≤ 1000000) : PureAt Tryz.prog 58 [.val (.string s)] (· = .val (.string (lb (strB s)))) := by
 have p := kcUintS s.size (by omega)
 have hl := (encB_len (n := s.size) (by omega)).1
 have w1 : IntKind.u64.wrap (s.size : Int) = (s.size : Int) := wrap_u64 (by omega) (by omega)
 refine pure_of r58 (by kernel_rfl) ?_
 unfold m58
 simp only [w1, go_sem, Nat.reduceEqDiff, Nat.reduceAdd]
 refine callP_eq rfl rfl p ?_
 have hsz : ((lb (encB s.size)).size + s.size ≤ 9223372036854775807) = True := by rw [size_lb]; simp; omega
 simp only [hsz, if_true, app_lb, go_sem, Nat.reduceEqDiff]
 rfl
def flagN (s : SetM) : Nat := (if s.absent then 1 else 0) + (if s.co then 2 else 0)
theorem kflags (s : SetM) : PureAt Tryz.prog 86 [.rp none (setC s) 0] (· = .val (.int .u8 (flagN s))) := by
 obtain ⟨a, is, c, ss⟩ := s
 have e1 : IntKind.u8.wrap (((BitVec.ofInt 8 0 ||| BitVec.ofInt 8 1).toNat : Nat) : Int) = 1 := by decide
 have e2 : IntKind.u8.wrap (((BitVec.ofInt 8 0 ||| BitVec.ofInt 8 2).toNat : Nat) : Int) = 2 := by decide
 have e3 : IntKind.u8.wrap (((BitVec.ofInt 8 1 ||| BitVec.ofInt 8 2).toNat : Nat) : Int) = 3 := by decide
 refine pure_of r86 (by kernel_rfl) ?_
 unfold m86 flagN
 cases a <;> cases c
 all_goals
  simp only [setC, go_sem, Nat.reduceEqDiff, Nat.reduceAdd]
 all_goals rfl
end Go.Proofs

namespace Go.Proofs
open Go.Vm
set_option linter.unusedSimpArgs false
theorem kWB' (b : Nat) (l : List UInt8) (n : Nat) (hn : n < 256) (hlen : l.length ≤ 100000000000) :
    HidAt Tryz.prog BH 18 (some (b, l)) [.val (.pointer (some ⟨b, 0, none⟩)), .val (.int .u8 n)] (fun r s' => r = .val .nilIface ∧ s' = some (b, l ++ [UInt8.ofNat n])) := by
 have := kWB b l (UInt8.ofNat n) (by omega)
 rw [show (UInt8.ofNat n).toNat = n by simp; omega] at this
 exact this
theorem kWS' (b : Nat) (l x : List UInt8) (hx : x.length ≤ 100000000) (hlen : l.length ≤ 100000000000) :
    HidAt Tryz.prog BH 20 (some (b, l)) [.val (.pointer (some ⟨b, 0, none⟩)), .val (.string (lb x))] (fun r s' => r = .tup [.val (.int .i64 (lb x).size), .val .nilIface] ∧ s' = some (b, l ++ x)) :=
 kWS b l (lb x) (by rw [size_lb]; omega)
def rgB (r : Rg) : List UInt8 := encB (foldN r.1) ++ encB (foldN r.2)
def setB (s : SetM) : List UInt8 := [UInt8.ofNat (flagN s)] ++ (encB s.ints.length ++ (s.ints.flatMap rgB ++ (encB s.strs.length ++ s.strs.flatMap strB)))
theorem flag_lt (s : SetM) : flagN s < 4 := by unfold flagN; split <;> split <;> omega
theorem rgB_len {r : Rg} (h : InB r) : (rgB r).length ≤ 22 := by
 obtain ⟨⟨h1, h2⟩, h3, h4⟩ := h
 have a := (encB_len (unfold_fold (n := r.1) ⟨by omega, by omega⟩).2).1
 have b := (encB_len (unfold_fold (n := r.2) ⟨by omega, by omega⟩).2).1
 simp only [rgB, List.length_append]; omega
theorem strB_len {s : ByteArray} (h : s.size ≤ 1000) : (strB s).length ≤ 1011 := by
 have a := (encB_len (n := s.size) (by omega)).1
 simp only [strB, List.length_append, size_bl]; omega
theorem flat_len {α : Type} {f : α → List UInt8} {k : Nat} : ∀ (l : List α), (∀ x ∈ l, (f x).length ≤ k) → (l.flatMap f).length ≤ k * l.length
 | [], _ => by simp
 | x :: l, h => by
  have := flat_len l (fun y hy => h y (by simp [hy]))
  have := h x (by simp)
  simp only [List.flatMap_cons, List.length_append, List.length_cons, Nat.mul_succ]; omega
structure Wsm (s : SetM) : Prop where
 ni : s.ints.length ≤ 40
 ns : s.strs.length ≤ 40
 sz : ∀ t ∈ s.strs, t.size ≤ 1000
 bd : Bnd s
set_option maxHeartbeats 2000000 in
theorem kputSet (b : Nat) (l : List UInt8) (s : SetM) (h : Wsm s) (hl : l.length ≤ 1000000000) :
    HidAt Tryz.prog BH 59 (some (b, l)) [.val (.pointer (some ⟨b, 0, none⟩)), .rp none (setC s) 0] (fun r s' => r = .tup [] ∧ s' = some (b, l ++ setB s)) := by
 obtain ⟨ni, ns, sz, bd⟩ := h
 have n1 := (encB_len (n := s.ints.length) (by omega)).1
 have n2 := (encB_len (n := s.strs.length) (by omega)).1
 have w1 : IntKind.u64.wrap (s.ints.length : Int) = (s.ints.length : Int) := wrap_u64 (by omega) (by omega)
 have w2 : IntKind.u64.wrap (s.strs.length : Int) = (s.strs.length : Int) := wrap_u64 (by omega) (by omega)
 have fi : ∀ i, ((s.ints.take i).flatMap rgB).length ≤ 22 * 40 := fun i => Nat.le_trans (flat_len _ (fun x hx => rgB_len (bd x (List.mem_of_mem_take hx)))) (Nat.mul_le_mul_left _ (by rw [List.length_take]; omega))
 have fs : ∀ i, ((s.strs.take i).flatMap strB).length ≤ 1011 * 40 := fun i => Nat.le_trans (flat_len _ (fun x hx => strB_len (sz x (List.mem_of_mem_take hx)))) (Nat.mul_le_mul_left _ (by rw [List.length_take]; omega))
 refine hid_of r59 (by kernel_rfl) ?_
 unfold m59
 simp only [go_sem, Nat.reduceEqDiff, Nat.reduceAdd]
 refine callP_eq rfl rfl (kflags s) ?_
 simp only [go_sem, Nat.reduceEqDiff]
 refine callH_eq rfl rfl rfl (kWB' b l (flagN s) (by have := flag_lt s; omega) (by omega)) ?_
 simp only [setC, w1, go_sem, Nat.reduceEqDiff, Nat.reduceAdd, List.length_map]
 refine callP_eq rfl rfl (kcUintS s.ints.length (by omega)) ?_
 simp only [go_sem, Nat.reduceEqDiff]
 refine callH_eq rfl rfl rfl (kWS' b _ (encB s.ints.length) (by omega) (by simp only [List.length_append, List.length_cons, List.length_nil]; omega)) ?_
 simp only [go_sem, Nat.reduceEqDiff, Nat.reduceAdd, List.length_map]
 generalize hl1 : l ++ [UInt8.ofNat (flagN s)] ++ encB s.ints.length = l1
 have len1 : l1.length ≤ 1000000100 := by rw [← hl1]; simp only [List.length_append, List.length_cons, List.length_nil]; omega
 refine loop_NH s.ints.length (fun _ => True) (fun i => ⟨[(0, .val (.pointer (some ⟨b, 0, none⟩))), (1, .rp none (setC s) 0), (24, .sl none (s.ints.map encR)), (25, .val (.int .i64 s.ints.length)), (26, .val (.int .i64 i))], [], []⟩) (fun i => some (b, l1 ++ (s.ints.take i).flatMap rgB)) trivial (by simp only [go_sem, Nat.reduceEqDiff]; rfl) (by simp) ?_
 rintro i hil -
 simp only [go_sem, Nat.reduceEqDiff]
 refine condE_split (fun h => ?_) (fun h => ?_)
 ·have hi' : i < s.ints.length := by simpa using h
  have hget : (s.ints.map encR)[i]? = some (encR s.ints[i]) := by rw [List.getElem?_map, List.getElem?_eq_getElem hi']; rfl
  have hrg := bd s.ints[i] (List.getElem_mem hi')
  have hnx : (s.ints.take (i + 1)).flatMap rgB = (s.ints.take i).flatMap rgB ++ rgB s.ints[i] := by
   rw [List.take_succ_eq_append_getElem hi', List.flatMap_append]; simp
  have hfi := fi i
  obtain ⟨⟨r1, r2⟩, r3, r4⟩ := hrg
  have p1 := kcInt s.ints[i].1 ⟨by omega, by omega⟩
  have p2 := kcInt s.ints[i].2 ⟨by omega, by omega⟩
  have q1 := (encB_len (unfold_fold (n := s.ints[i].1) ⟨by omega, by omega⟩).2).1
  have q2 := (encB_len (unfold_fold (n := s.ints[i].2) ⟨by omega, by omega⟩).2).1
  generalize s.ints[i] = r at *
  simp only [nn0, Int.toNat_natCast, hget, encR, go_sem, Nat.reduceEqDiff, Nat.reduceAdd, Nat.reduceLeDiff]
  refine callQ_by _ rfl rfl p1 ?_
  simp only [go_sem, Nat.reduceEqDiff, Nat.reduceAdd]
  refine callQ_by _ rfl rfl p2 ?_
  have hsz : ((lb (encB (foldN r.1))).size + (lb (encB (foldN r.2))).size ≤ 9223372036854775807) = True := by rw [size_lb, size_lb]; simp; omega
  simp only [hsz, if_true, app_lb, go_sem, Nat.reduceEqDiff]
  refine callH_eq rfl rfl rfl (kWS' b (l1 ++ (s.ints.take i).flatMap rgB) (rgB r) (by simp only [rgB, List.length_append]; omega) (by simp only [List.length_append]; omega)) ?_
  simp only [up64 (show i < 1000000 by omega), go_sem, Nat.reduceEqDiff]
  refine invH_next hi' trivial ?_ ?_
  ·simp only [go_sem, Nat.reduceEqDiff]
  ·rw [hnx, List.append_assoc]
 ·have hil' : i = s.ints.length := by simp at h; omega
  subst hil'
  have hfi := fi s.ints.length
  rw [List.take_length] at hfi ⊢
  simp only [setC, w2, go_sem, Nat.reduceEqDiff, Nat.reduceAdd, List.length_map]
  refine callP_eq rfl rfl (kcUintS s.strs.length (by omega)) ?_
  simp only [go_sem, Nat.reduceEqDiff]
  refine callH_eq rfl rfl rfl (kWS' b _ (encB s.strs.length) (by omega) (by simp only [List.length_append]; omega)) ?_
  generalize hl2 : l1 ++ s.ints.flatMap rgB ++ encB s.strs.length = l2
  have len2 : l2.length ≤ 1000010000 := by rw [← hl2]; simp only [List.length_append]; omega
  simp only [go_sem, Nat.reduceEqDiff, Nat.reduceAdd, List.length_map]
  refine loop_NH s.strs.length (fun _ => True) (fun i => ⟨[(0, .val (.pointer (some ⟨b, 0, none⟩))), (52, .sl none (s.strs.map encSt)), (53, .val (.int .i64 s.strs.length)), (54, .val (.int .i64 i))], [], []⟩) (fun i => some (b, l2 ++ (s.strs.take i).flatMap strB)) trivial (by simp only [go_sem, Nat.reduceEqDiff]; rfl) (by simp) ?_
  rintro i hil -
  simp only [go_sem, Nat.reduceEqDiff]
  refine condE_split (fun h => ?_) (fun h => ?_)
  ·have hi' : i < s.strs.length := by simpa using h
   have hget : (s.strs.map encSt)[i]? = some (encSt s.strs[i]) := by rw [List.getElem?_map, List.getElem?_eq_getElem hi']; rfl
   have hz := sz s.strs[i] (List.getElem_mem hi')
   have hnx : (s.strs.take (i + 1)).flatMap strB = (s.strs.take i).flatMap strB ++ strB s.strs[i] := by
    rw [List.take_succ_eq_append_getElem hi', List.flatMap_append]; simp
   have hfs := fs i
   generalize s.strs[i] = t at *
   have q1 := strB_len hz
   simp only [nn0, Int.toNat_natCast, hget, encSt, go_sem, Nat.reduceEqDiff, Nat.reduceAdd]
   refine callP_eq rfl rfl (kcStr t (by omega)) ?_
   simp only [go_sem, Nat.reduceEqDiff]
   refine callH_eq rfl rfl rfl (kWS' b _ (strB t) (by omega) (by simp only [List.length_append]; omega)) ?_
   simp only [up64 (show i < 1000000 by omega), go_sem, Nat.reduceEqDiff]
   refine invH_next hi' trivial ?_ ?_
   ·simp only [go_sem, Nat.reduceEqDiff]
   ·rw [hnx, List.append_assoc]
  ·have hil' : i = s.strs.length := by simp at h; omega
   subst hil'
   simp only [List.take_length, go_sem]
   rw [← hl2, ← hl1]
   simp [setB, List.append_assoc]
end Go.Proofs
