/- A part of the proof; what is proved stands in the last text. -/
import Derived.Test.YtijhiblfdidnpaaGreatWG
set_option linter.unusedVariables false
set_option maxRecDepth 2000
namespace Go.Proofs
open Go.Vm
set_option linter.unusedSimpArgs false
set_option maxHeartbeats 4000000 in
theorem kset8 (s : SetM) (h : Wsm s) : PureAt Tryz.prog 71 [.agg (setC s)] (· = .val (.string (lb (setB s)))) := by
 obtain ⟨ni, ns, sz, bd⟩ := h
 have fi : ∀ i, ((s.ints.take i).flatMap rgB).length ≤ 22 * 40 := fun i => Nat.le_trans (flat_len _ (fun x hx => rgB_len (bd x (List.mem_of_mem_take hx)))) (Nat.mul_le_mul_left _ (by rw [List.length_take]; omega))
 have fs : ∀ i, ((s.strs.take i).flatMap strB).length ≤ 1011 * 40 := fun i => Nat.le_trans (flat_len _ (fun x hx => strB_len (sz x (List.mem_of_mem_take hx)))) (Nat.mul_le_mul_left _ (by rw [List.length_take]; omega))
 refine pure_of r71 (by kernel_rfl) ?_
 unfold m71
 simp only [setC, go_sem, Nat.reduceEqDiff, Nat.reduceAdd, true_and, ↓reduceIte]
 cases hab : s.absent <;> cases hco : s.co
 ·have hf : flagN s = 0 := by simp [flagN, hab, hco]
  have z0 : (⟨#[(IntKind.u8.wrap 0).toNat.toUInt8]⟩ : ByteArray) = lb [UInt8.ofNat (flagN s)] := by rw [hf]; rfl
  simp only [go_sem, Nat.reduceEqDiff, Nat.reduceAdd, Nat.reduceLeDiff, List.length_map, true_and, and_self, ↓reduceIte]
  have w1 : IntKind.u64.wrap (s.ints.length : Int) = (s.ints.length : Int) := wrap_u64 (by omega) (by omega)
  have w2 : IntKind.u64.wrap (s.strs.length : Int) = (s.strs.length : Int) := wrap_u64 (by omega) (by omega)
  have n1 := (encB_len (n := s.ints.length) (by omega)).1
  have n2 := (encB_len (n := s.strs.length) (by omega)).1
  have z1 : ((lb [UInt8.ofNat (flagN s)]).size + (lb (encB s.ints.length)).size ≤ 9223372036854775807) = True := by rw [size_lb, size_lb]; simp only [List.length_cons, List.length_nil, eq_iff_iff, iff_true]; omega
  simp only [z0, w1, go_sem]
  refine callQ_by _ rfl rfl (kUint2 s.ints.length (by omega)) ?_
  simp only [z1, app_lb2, go_sem, Nat.reduceEqDiff, ↓reduceIte]
  generalize hl1 : [UInt8.ofNat (flagN s)] ++ encB s.ints.length = l1
  have len1 : l1.length ≤ 12 := by rw [← hl1]; simp only [List.length_append, List.length_cons, List.length_nil]; omega
  refine loop_N s.ints.length (fun _ => True) (fun i => ⟨[(1, .ptr 1 0), (4, .val (.string (lb (l1 ++ (s.ints.take i).flatMap rgB)))), (5, .val (.int .i64 i))], [(1, [.val (.bool s.absent), .sl none (s.ints.map encR), .val (.bool s.co), .sl none (s.strs.map encSt)])], []⟩) trivial (by simp only [hab, hco, go_sem, Nat.reduceEqDiff]; simp [← hl1]) ?_
  rintro i hil -
  have hfi := fi i
  simp only [go_sem, Nat.reduceEqDiff, Nat.reduceAdd, List.length_map]
  refine condE_split (fun h => ?_) (fun h => ?_)
  ·have hi' : i < s.ints.length := by simpa using h
   have hget : (s.ints.map encR)[i]? = some (encR s.ints[i]) := by rw [List.getElem?_map, List.getElem?_eq_getElem hi']; rfl
   have hrg := bd s.ints[i] (List.getElem_mem hi')
   have hnx : (s.ints.take (i + 1)).flatMap rgB = (s.ints.take i).flatMap rgB ++ rgB s.ints[i] := by
    rw [List.take_succ_eq_append_getElem hi', List.flatMap_append]; simp
   obtain ⟨⟨r1, r2⟩, r3, r4⟩ := hrg
   have p1 := kInt2 s.ints[i].1 ⟨by omega, by omega⟩
   have p2 := kInt2 s.ints[i].2 ⟨by omega, by omega⟩
   have q1 := (encB_len (unfold_fold (n := s.ints[i].1) ⟨by omega, by omega⟩).2).1
   have q2 := (encB_len (unfold_fold (n := s.ints[i].2) ⟨by omega, by omega⟩).2).1
   generalize s.ints[i] = r at *
   simp only [nn0, Int.toNat_natCast, hget, encR, go_sem, Nat.reduceEqDiff, Nat.reduceAdd]
   refine callQ_by _ rfl rfl p1 ?_
   simp only [nn0, Int.toNat_natCast, hget, encR, go_sem, Nat.reduceEqDiff, Nat.reduceAdd]
   refine callQ_by _ rfl rfl p2 ?_
   have hsz : ((lb (encB (foldN r.1))).size + (lb (encB (foldN r.2))).size ≤ 9223372036854775807) = True := by rw [size_lb, size_lb]; simp only [eq_iff_iff, iff_true]; omega
   have hsz2 : ((lb (l1 ++ (s.ints.take i).flatMap rgB)).size + (lb (encB (foldN r.1) ++ encB (foldN r.2))).size ≤ 9223372036854775807) = True := by rw [size_lb, size_lb]; simp only [List.length_append, eq_iff_iff, iff_true]; omega
   simp only [hsz, hsz2, if_true, app_lb2, up64 (show i < 1000000 by omega), go_sem, Nat.reduceEqDiff]
   refine invN_next hi' trivial ?_
   simp only [hnx, rgB, List.append_assoc, go_sem, Nat.reduceEqDiff]
  ·have hil' : i = s.ints.length := by simp at h; omega
   subst hil'
   rw [List.take_length] at hfi ⊢
   simp only [w2, go_sem, Nat.reduceEqDiff, Nat.reduceAdd, List.length_map]
   refine callP_eq rfl rfl (kUint2 s.strs.length (by omega)) ?_
   have hsz3 : ((lb (l1 ++ s.ints.flatMap rgB)).size + (lb (encB s.strs.length)).size ≤ 9223372036854775807) = True := by rw [size_lb, size_lb]; simp only [List.length_append, eq_iff_iff, iff_true]; omega
   simp only [hsz3, if_true, app_lb2, go_sem, Nat.reduceEqDiff]
   generalize hl2 : l1 ++ s.ints.flatMap rgB ++ encB s.strs.length = l2
   have len2 : l2.length ≤ 1000 := by rw [← hl2]; simp only [List.length_append]; omega
   refine loop_N s.strs.length (fun _ => True) (fun i => ⟨[(1, .ptr 1 0), (4, .val (.string (lb (l2 ++ (s.strs.take i).flatMap strB)))), (6, .val (.int .i64 i))], [(1, [.val (.bool s.absent), .sl none (s.ints.map encR), .val (.bool s.co), .sl none (s.strs.map encSt)])], []⟩) trivial (by simp only [go_sem, Nat.reduceEqDiff]; simp) ?_
   rintro i hil -
   have hfs := fs i
   simp only [go_sem, Nat.reduceEqDiff, Nat.reduceAdd, List.length_map]
   refine condE_split (fun h => ?_) (fun h => ?_)
   ·have hi' : i < s.strs.length := by simpa using h
    have hget : (s.strs.map encSt)[i]? = some (encSt s.strs[i]) := by rw [List.getElem?_map, List.getElem?_eq_getElem hi']; rfl
    have hz := sz s.strs[i] (List.getElem_mem hi')
    have hnx : (s.strs.take (i + 1)).flatMap strB = (s.strs.take i).flatMap strB ++ strB s.strs[i] := by
     rw [List.take_succ_eq_append_getElem hi', List.flatMap_append]; simp
    have hsb := strB_len hz
    generalize s.strs[i] = r at *
    simp only [nn0, Int.toNat_natCast, hget, encSt, go_sem, Nat.reduceEqDiff, Nat.reduceAdd]
    refine callP_eq rfl rfl (kStr2 r (by omega)) ?_
    have hsz4 : ((lb (l2 ++ (s.strs.take i).flatMap strB)).size + (lb (strB r)).size ≤ 9223372036854775807) = True := by rw [size_lb, size_lb]; simp only [List.length_append, eq_iff_iff, iff_true]; omega
    simp only [hsz4, if_true, app_lb2, up64 (show i < 1000000 by omega), go_sem, Nat.reduceEqDiff]
    refine invN_next hi' trivial ?_
    simp only [hnx, List.append_assoc, go_sem, Nat.reduceEqDiff]
   ·have hil' : i = s.strs.length := by simp at h; omega
    subst hil'
    rw [List.take_length]
    simp only [go_sem, Nat.reduceEqDiff]
    rw [← hl2, ← hl1, setB]
    simp only [List.append_assoc]
 ·have hf : flagN s = 2 := by simp [flagN, hab, hco]
  have z0 : (⟨#[(IntKind.u8.wrap 2).toNat.toUInt8]⟩ : ByteArray) = lb [UInt8.ofNat (flagN s)] := by rw [hf]; rfl
  simp only [go_sem, Nat.reduceEqDiff, Nat.reduceAdd, Nat.reduceLeDiff, List.length_map, Int.reduceAdd, wr2, true_and, and_self, ↓reduceIte]
  have w1 : IntKind.u64.wrap (s.ints.length : Int) = (s.ints.length : Int) := wrap_u64 (by omega) (by omega)
  have w2 : IntKind.u64.wrap (s.strs.length : Int) = (s.strs.length : Int) := wrap_u64 (by omega) (by omega)
  have n1 := (encB_len (n := s.ints.length) (by omega)).1
  have n2 := (encB_len (n := s.strs.length) (by omega)).1
  have z1 : ((lb [UInt8.ofNat (flagN s)]).size + (lb (encB s.ints.length)).size ≤ 9223372036854775807) = True := by rw [size_lb, size_lb]; simp only [List.length_cons, List.length_nil, eq_iff_iff, iff_true]; omega
  simp only [z0, w1, go_sem]
  refine callQ_by _ rfl rfl (kUint2 s.ints.length (by omega)) ?_
  simp only [z1, app_lb2, go_sem, Nat.reduceEqDiff, ↓reduceIte]
  generalize hl1 : [UInt8.ofNat (flagN s)] ++ encB s.ints.length = l1
  have len1 : l1.length ≤ 12 := by rw [← hl1]; simp only [List.length_append, List.length_cons, List.length_nil]; omega
  refine loop_N s.ints.length (fun _ => True) (fun i => ⟨[(1, .ptr 1 0), (4, .val (.string (lb (l1 ++ (s.ints.take i).flatMap rgB)))), (5, .val (.int .i64 i))], [(1, [.val (.bool s.absent), .sl none (s.ints.map encR), .val (.bool s.co), .sl none (s.strs.map encSt)])], []⟩) trivial (by simp only [hab, hco, go_sem, Nat.reduceEqDiff]; simp [← hl1]) ?_
  rintro i hil -
  have hfi := fi i
  simp only [go_sem, Nat.reduceEqDiff, Nat.reduceAdd, List.length_map]
  refine condE_split (fun h => ?_) (fun h => ?_)
  ·have hi' : i < s.ints.length := by simpa using h
   have hget : (s.ints.map encR)[i]? = some (encR s.ints[i]) := by rw [List.getElem?_map, List.getElem?_eq_getElem hi']; rfl
   have hrg := bd s.ints[i] (List.getElem_mem hi')
   have hnx : (s.ints.take (i + 1)).flatMap rgB = (s.ints.take i).flatMap rgB ++ rgB s.ints[i] := by
    rw [List.take_succ_eq_append_getElem hi', List.flatMap_append]; simp
   obtain ⟨⟨r1, r2⟩, r3, r4⟩ := hrg
   have p1 := kInt2 s.ints[i].1 ⟨by omega, by omega⟩
   have p2 := kInt2 s.ints[i].2 ⟨by omega, by omega⟩
   have q1 := (encB_len (unfold_fold (n := s.ints[i].1) ⟨by omega, by omega⟩).2).1
   have q2 := (encB_len (unfold_fold (n := s.ints[i].2) ⟨by omega, by omega⟩).2).1
   generalize s.ints[i] = r at *
   simp only [nn0, Int.toNat_natCast, hget, encR, go_sem, Nat.reduceEqDiff, Nat.reduceAdd]
   refine callQ_by _ rfl rfl p1 ?_
   simp only [nn0, Int.toNat_natCast, hget, encR, go_sem, Nat.reduceEqDiff, Nat.reduceAdd]
   refine callQ_by _ rfl rfl p2 ?_
   have hsz : ((lb (encB (foldN r.1))).size + (lb (encB (foldN r.2))).size ≤ 9223372036854775807) = True := by rw [size_lb, size_lb]; simp only [eq_iff_iff, iff_true]; omega
   have hsz2 : ((lb (l1 ++ (s.ints.take i).flatMap rgB)).size + (lb (encB (foldN r.1) ++ encB (foldN r.2))).size ≤ 9223372036854775807) = True := by rw [size_lb, size_lb]; simp only [List.length_append, eq_iff_iff, iff_true]; omega
   simp only [hsz, hsz2, if_true, app_lb2, up64 (show i < 1000000 by omega), go_sem, Nat.reduceEqDiff]
   refine invN_next hi' trivial ?_
   simp only [hnx, rgB, List.append_assoc, go_sem, Nat.reduceEqDiff]
  ·have hil' : i = s.ints.length := by simp at h; omega
   subst hil'
   rw [List.take_length] at hfi ⊢
   simp only [w2, go_sem, Nat.reduceEqDiff, Nat.reduceAdd, List.length_map]
   refine callP_eq rfl rfl (kUint2 s.strs.length (by omega)) ?_
   have hsz3 : ((lb (l1 ++ s.ints.flatMap rgB)).size + (lb (encB s.strs.length)).size ≤ 9223372036854775807) = True := by rw [size_lb, size_lb]; simp only [List.length_append, eq_iff_iff, iff_true]; omega
   simp only [hsz3, if_true, app_lb2, go_sem, Nat.reduceEqDiff]
   generalize hl2 : l1 ++ s.ints.flatMap rgB ++ encB s.strs.length = l2
   have len2 : l2.length ≤ 1000 := by rw [← hl2]; simp only [List.length_append]; omega
   refine loop_N s.strs.length (fun _ => True) (fun i => ⟨[(1, .ptr 1 0), (4, .val (.string (lb (l2 ++ (s.strs.take i).flatMap strB)))), (6, .val (.int .i64 i))], [(1, [.val (.bool s.absent), .sl none (s.ints.map encR), .val (.bool s.co), .sl none (s.strs.map encSt)])], []⟩) trivial (by simp only [go_sem, Nat.reduceEqDiff]; simp) ?_
   rintro i hil -
   have hfs := fs i
   simp only [go_sem, Nat.reduceEqDiff, Nat.reduceAdd, List.length_map]
   refine condE_split (fun h => ?_) (fun h => ?_)
   ·have hi' : i < s.strs.length := by simpa using h
    have hget : (s.strs.map encSt)[i]? = some (encSt s.strs[i]) := by rw [List.getElem?_map, List.getElem?_eq_getElem hi']; rfl
    have hz := sz s.strs[i] (List.getElem_mem hi')
    have hnx : (s.strs.take (i + 1)).flatMap strB = (s.strs.take i).flatMap strB ++ strB s.strs[i] := by
     rw [List.take_succ_eq_append_getElem hi', List.flatMap_append]; simp
    have hsb := strB_len hz
    generalize s.strs[i] = r at *
    simp only [nn0, Int.toNat_natCast, hget, encSt, go_sem, Nat.reduceEqDiff, Nat.reduceAdd]
    refine callP_eq rfl rfl (kStr2 r (by omega)) ?_
    have hsz4 : ((lb (l2 ++ (s.strs.take i).flatMap strB)).size + (lb (strB r)).size ≤ 9223372036854775807) = True := by rw [size_lb, size_lb]; simp only [List.length_append, eq_iff_iff, iff_true]; omega
    simp only [hsz4, if_true, app_lb2, up64 (show i < 1000000 by omega), go_sem, Nat.reduceEqDiff]
    refine invN_next hi' trivial ?_
    simp only [hnx, List.append_assoc, go_sem, Nat.reduceEqDiff]
   ·have hil' : i = s.strs.length := by simp at h; omega
    subst hil'
    rw [List.take_length]
    simp only [go_sem, Nat.reduceEqDiff]
    rw [← hl2, ← hl1, setB]
    simp only [List.append_assoc]
 ·have hf : flagN s = 1 := by simp [flagN, hab, hco]
  have z0 : (⟨#[(IntKind.u8.wrap 1).toNat.toUInt8]⟩ : ByteArray) = lb [UInt8.ofNat (flagN s)] := by rw [hf]; rfl
  simp only [go_sem, Nat.reduceEqDiff, Nat.reduceAdd, Nat.reduceLeDiff, List.length_map, Int.reduceAdd, wr1, true_and, and_self, ↓reduceIte]
  have w1 : IntKind.u64.wrap (s.ints.length : Int) = (s.ints.length : Int) := wrap_u64 (by omega) (by omega)
  have w2 : IntKind.u64.wrap (s.strs.length : Int) = (s.strs.length : Int) := wrap_u64 (by omega) (by omega)
  have n1 := (encB_len (n := s.ints.length) (by omega)).1
  have n2 := (encB_len (n := s.strs.length) (by omega)).1
  have z1 : ((lb [UInt8.ofNat (flagN s)]).size + (lb (encB s.ints.length)).size ≤ 9223372036854775807) = True := by rw [size_lb, size_lb]; simp only [List.length_cons, List.length_nil, eq_iff_iff, iff_true]; omega
  simp only [z0, w1, go_sem]
  refine callQ_by _ rfl rfl (kUint2 s.ints.length (by omega)) ?_
  simp only [z1, app_lb2, go_sem, Nat.reduceEqDiff, ↓reduceIte]
  generalize hl1 : [UInt8.ofNat (flagN s)] ++ encB s.ints.length = l1
  have len1 : l1.length ≤ 12 := by rw [← hl1]; simp only [List.length_append, List.length_cons, List.length_nil]; omega
  refine loop_N s.ints.length (fun _ => True) (fun i => ⟨[(1, .ptr 1 0), (4, .val (.string (lb (l1 ++ (s.ints.take i).flatMap rgB)))), (5, .val (.int .i64 i))], [(1, [.val (.bool s.absent), .sl none (s.ints.map encR), .val (.bool s.co), .sl none (s.strs.map encSt)])], []⟩) trivial (by simp only [hab, hco, go_sem, Nat.reduceEqDiff]; simp [← hl1]) ?_
  rintro i hil -
  have hfi := fi i
  simp only [go_sem, Nat.reduceEqDiff, Nat.reduceAdd, List.length_map]
  refine condE_split (fun h => ?_) (fun h => ?_)
  ·have hi' : i < s.ints.length := by simpa using h
   have hget : (s.ints.map encR)[i]? = some (encR s.ints[i]) := by rw [List.getElem?_map, List.getElem?_eq_getElem hi']; rfl
   have hrg := bd s.ints[i] (List.getElem_mem hi')
   have hnx : (s.ints.take (i + 1)).flatMap rgB = (s.ints.take i).flatMap rgB ++ rgB s.ints[i] := by
    rw [List.take_succ_eq_append_getElem hi', List.flatMap_append]; simp
   obtain ⟨⟨r1, r2⟩, r3, r4⟩ := hrg
   have p1 := kInt2 s.ints[i].1 ⟨by omega, by omega⟩
   have p2 := kInt2 s.ints[i].2 ⟨by omega, by omega⟩
   have q1 := (encB_len (unfold_fold (n := s.ints[i].1) ⟨by omega, by omega⟩).2).1
   have q2 := (encB_len (unfold_fold (n := s.ints[i].2) ⟨by omega, by omega⟩).2).1
   generalize s.ints[i] = r at *
   simp only [nn0, Int.toNat_natCast, hget, encR, go_sem, Nat.reduceEqDiff, Nat.reduceAdd]
   refine callQ_by _ rfl rfl p1 ?_
   simp only [nn0, Int.toNat_natCast, hget, encR, go_sem, Nat.reduceEqDiff, Nat.reduceAdd]
   refine callQ_by _ rfl rfl p2 ?_
   have hsz : ((lb (encB (foldN r.1))).size + (lb (encB (foldN r.2))).size ≤ 9223372036854775807) = True := by rw [size_lb, size_lb]; simp only [eq_iff_iff, iff_true]; omega
   have hsz2 : ((lb (l1 ++ (s.ints.take i).flatMap rgB)).size + (lb (encB (foldN r.1) ++ encB (foldN r.2))).size ≤ 9223372036854775807) = True := by rw [size_lb, size_lb]; simp only [List.length_append, eq_iff_iff, iff_true]; omega
   simp only [hsz, hsz2, if_true, app_lb2, up64 (show i < 1000000 by omega), go_sem, Nat.reduceEqDiff]
   refine invN_next hi' trivial ?_
   simp only [hnx, rgB, List.append_assoc, go_sem, Nat.reduceEqDiff]
  ·have hil' : i = s.ints.length := by simp at h; omega
   subst hil'
   rw [List.take_length] at hfi ⊢
   simp only [w2, go_sem, Nat.reduceEqDiff, Nat.reduceAdd, List.length_map]
   refine callP_eq rfl rfl (kUint2 s.strs.length (by omega)) ?_
   have hsz3 : ((lb (l1 ++ s.ints.flatMap rgB)).size + (lb (encB s.strs.length)).size ≤ 9223372036854775807) = True := by rw [size_lb, size_lb]; simp only [List.length_append, eq_iff_iff, iff_true]; omega
   simp only [hsz3, if_true, app_lb2, go_sem, Nat.reduceEqDiff]
   generalize hl2 : l1 ++ s.ints.flatMap rgB ++ encB s.strs.length = l2
   have len2 : l2.length ≤ 1000 := by rw [← hl2]; simp only [List.length_append]; omega
   refine loop_N s.strs.length (fun _ => True) (fun i => ⟨[(1, .ptr 1 0), (4, .val (.string (lb (l2 ++ (s.strs.take i).flatMap strB)))), (6, .val (.int .i64 i))], [(1, [.val (.bool s.absent), .sl none (s.ints.map encR), .val (.bool s.co), .sl none (s.strs.map encSt)])], []⟩) trivial (by simp only [go_sem, Nat.reduceEqDiff]; simp) ?_
   rintro i hil -
   have hfs := fs i
   simp only [go_sem, Nat.reduceEqDiff, Nat.reduceAdd, List.length_map]
   refine condE_split (fun h => ?_) (fun h => ?_)
   ·have hi' : i < s.strs.length := by simpa using h
    have hget : (s.strs.map encSt)[i]? = some (encSt s.strs[i]) := by rw [List.getElem?_map, List.getElem?_eq_getElem hi']; rfl
    have hz := sz s.strs[i] (List.getElem_mem hi')
    have hnx : (s.strs.take (i + 1)).flatMap strB = (s.strs.take i).flatMap strB ++ strB s.strs[i] := by
     rw [List.take_succ_eq_append_getElem hi', List.flatMap_append]; simp
    have hsb := strB_len hz
    generalize s.strs[i] = r at *
    simp only [nn0, Int.toNat_natCast, hget, encSt, go_sem, Nat.reduceEqDiff, Nat.reduceAdd]
    refine callP_eq rfl rfl (kStr2 r (by omega)) ?_
    have hsz4 : ((lb (l2 ++ (s.strs.take i).flatMap strB)).size + (lb (strB r)).size ≤ 9223372036854775807) = True := by rw [size_lb, size_lb]; simp only [List.length_append, eq_iff_iff, iff_true]; omega
    simp only [hsz4, if_true, app_lb2, up64 (show i < 1000000 by omega), go_sem, Nat.reduceEqDiff]
    refine invN_next hi' trivial ?_
    simp only [hnx, List.append_assoc, go_sem, Nat.reduceEqDiff]
   ·have hil' : i = s.strs.length := by simp at h; omega
    subst hil'
    rw [List.take_length]
    simp only [go_sem, Nat.reduceEqDiff]
    rw [← hl2, ← hl1, setB]
    simp only [List.append_assoc]
 ·have hf : flagN s = 3 := by simp [flagN, hab, hco]
  have z0 : (⟨#[(IntKind.u8.wrap 3).toNat.toUInt8]⟩ : ByteArray) = lb [UInt8.ofNat (flagN s)] := by rw [hf]; rfl
  simp only [go_sem, Nat.reduceEqDiff, Nat.reduceAdd, Nat.reduceLeDiff, List.length_map, Int.reduceAdd, wr1, wr3, true_and, and_self, ↓reduceIte]
  have w1 : IntKind.u64.wrap (s.ints.length : Int) = (s.ints.length : Int) := wrap_u64 (by omega) (by omega)
  have w2 : IntKind.u64.wrap (s.strs.length : Int) = (s.strs.length : Int) := wrap_u64 (by omega) (by omega)
  have n1 := (encB_len (n := s.ints.length) (by omega)).1
  have n2 := (encB_len (n := s.strs.length) (by omega)).1
  have z1 : ((lb [UInt8.ofNat (flagN s)]).size + (lb (encB s.ints.length)).size ≤ 9223372036854775807) = True := by rw [size_lb, size_lb]; simp only [List.length_cons, List.length_nil, eq_iff_iff, iff_true]; omega
  simp only [z0, w1, go_sem]
  refine callQ_by _ rfl rfl (kUint2 s.ints.length (by omega)) ?_
  simp only [z1, app_lb2, go_sem, Nat.reduceEqDiff, ↓reduceIte]
  generalize hl1 : [UInt8.ofNat (flagN s)] ++ encB s.ints.length = l1
  have len1 : l1.length ≤ 12 := by rw [← hl1]; simp only [List.length_append, List.length_cons, List.length_nil]; omega
  refine loop_N s.ints.length (fun _ => True) (fun i => ⟨[(1, .ptr 1 0), (4, .val (.string (lb (l1 ++ (s.ints.take i).flatMap rgB)))), (5, .val (.int .i64 i))], [(1, [.val (.bool s.absent), .sl none (s.ints.map encR), .val (.bool s.co), .sl none (s.strs.map encSt)])], []⟩) trivial (by simp only [hab, hco, go_sem, Nat.reduceEqDiff]; simp [← hl1]) ?_
  rintro i hil -
  have hfi := fi i
  simp only [go_sem, Nat.reduceEqDiff, Nat.reduceAdd, List.length_map]
  refine condE_split (fun h => ?_) (fun h => ?_)
  ·have hi' : i < s.ints.length := by simpa using h
   have hget : (s.ints.map encR)[i]? = some (encR s.ints[i]) := by rw [List.getElem?_map, List.getElem?_eq_getElem hi']; rfl
   have hrg := bd s.ints[i] (List.getElem_mem hi')
   have hnx : (s.ints.take (i + 1)).flatMap rgB = (s.ints.take i).flatMap rgB ++ rgB s.ints[i] := by
    rw [List.take_succ_eq_append_getElem hi', List.flatMap_append]; simp
   obtain ⟨⟨r1, r2⟩, r3, r4⟩ := hrg
   have p1 := kInt2 s.ints[i].1 ⟨by omega, by omega⟩
   have p2 := kInt2 s.ints[i].2 ⟨by omega, by omega⟩
   have q1 := (encB_len (unfold_fold (n := s.ints[i].1) ⟨by omega, by omega⟩).2).1
   have q2 := (encB_len (unfold_fold (n := s.ints[i].2) ⟨by omega, by omega⟩).2).1
   generalize s.ints[i] = r at *
   simp only [nn0, Int.toNat_natCast, hget, encR, go_sem, Nat.reduceEqDiff, Nat.reduceAdd]
   refine callQ_by _ rfl rfl p1 ?_
   simp only [nn0, Int.toNat_natCast, hget, encR, go_sem, Nat.reduceEqDiff, Nat.reduceAdd]
   refine callQ_by _ rfl rfl p2 ?_
   have hsz : ((lb (encB (foldN r.1))).size + (lb (encB (foldN r.2))).size ≤ 9223372036854775807) = True := by rw [size_lb, size_lb]; simp only [eq_iff_iff, iff_true]; omega
   have hsz2 : ((lb (l1 ++ (s.ints.take i).flatMap rgB)).size + (lb (encB (foldN r.1) ++ encB (foldN r.2))).size ≤ 9223372036854775807) = True := by rw [size_lb, size_lb]; simp only [List.length_append, eq_iff_iff, iff_true]; omega
   simp only [hsz, hsz2, if_true, app_lb2, up64 (show i < 1000000 by omega), go_sem, Nat.reduceEqDiff]
   refine invN_next hi' trivial ?_
   simp only [hnx, rgB, List.append_assoc, go_sem, Nat.reduceEqDiff]
  ·have hil' : i = s.ints.length := by simp at h; omega
   subst hil'
   rw [List.take_length] at hfi ⊢
   simp only [w2, go_sem, Nat.reduceEqDiff, Nat.reduceAdd, List.length_map]
   refine callP_eq rfl rfl (kUint2 s.strs.length (by omega)) ?_
   have hsz3 : ((lb (l1 ++ s.ints.flatMap rgB)).size + (lb (encB s.strs.length)).size ≤ 9223372036854775807) = True := by rw [size_lb, size_lb]; simp only [List.length_append, eq_iff_iff, iff_true]; omega
   simp only [hsz3, if_true, app_lb2, go_sem, Nat.reduceEqDiff]
   generalize hl2 : l1 ++ s.ints.flatMap rgB ++ encB s.strs.length = l2
   have len2 : l2.length ≤ 1000 := by rw [← hl2]; simp only [List.length_append]; omega
   refine loop_N s.strs.length (fun _ => True) (fun i => ⟨[(1, .ptr 1 0), (4, .val (.string (lb (l2 ++ (s.strs.take i).flatMap strB)))), (6, .val (.int .i64 i))], [(1, [.val (.bool s.absent), .sl none (s.ints.map encR), .val (.bool s.co), .sl none (s.strs.map encSt)])], []⟩) trivial (by simp only [go_sem, Nat.reduceEqDiff]; simp) ?_
   rintro i hil -
   have hfs := fs i
   simp only [go_sem, Nat.reduceEqDiff, Nat.reduceAdd, List.length_map]
   refine condE_split (fun h => ?_) (fun h => ?_)
   ·have hi' : i < s.strs.length := by simpa using h
    have hget : (s.strs.map encSt)[i]? = some (encSt s.strs[i]) := by rw [List.getElem?_map, List.getElem?_eq_getElem hi']; rfl
    have hz := sz s.strs[i] (List.getElem_mem hi')
    have hnx : (s.strs.take (i + 1)).flatMap strB = (s.strs.take i).flatMap strB ++ strB s.strs[i] := by
     rw [List.take_succ_eq_append_getElem hi', List.flatMap_append]; simp
    have hsb := strB_len hz
    generalize s.strs[i] = r at *
    simp only [nn0, Int.toNat_natCast, hget, encSt, go_sem, Nat.reduceEqDiff, Nat.reduceAdd]
    refine callP_eq rfl rfl (kStr2 r (by omega)) ?_
    have hsz4 : ((lb (l2 ++ (s.strs.take i).flatMap strB)).size + (lb (strB r)).size ≤ 9223372036854775807) = True := by rw [size_lb, size_lb]; simp only [List.length_append, eq_iff_iff, iff_true]; omega
    simp only [hsz4, if_true, app_lb2, up64 (show i < 1000000 by omega), go_sem, Nat.reduceEqDiff]
    refine invN_next hi' trivial ?_
    simp only [hnx, List.append_assoc, go_sem, Nat.reduceEqDiff]
   ·have hil' : i = s.strs.length := by simp at h; omega
    subst hil'
    rw [List.take_length]
    simp only [go_sem, Nat.reduceEqDiff]
    rw [← hl2, ← hl1, setB]
    simp only [List.append_assoc]
set_option maxHeartbeats 4000000 in
theorem kFilter8 (f : List BoxM) (hl : f.length ≤ 100) (hw : ∀ b ∈ f, WsmB b) : PureAt Tryz.prog 39 [.sl none (f.map boxC)] (· = .val (.string (lb (filterB f)))) := by
 have n1 := (encB_len (n := f.length) (by omega)).1
 have w1 : IntKind.u64.wrap (f.length : Int) = (f.length : Int) := wrap_u64 (by omega) (by omega)
 have ff : ∀ i, ((f.take i).flatMap boxB).length ≤ 400000 * 100 := fun i => Nat.le_trans (flat_len _ (fun x hx => setsB_len (hw x (List.mem_of_mem_take hx)) 4 (by omega))) (Nat.mul_le_mul_left _ (by rw [List.length_take]; omega))
 refine pure_of r39 (by kernel_rfl) ?_
 unfold m39
 simp only [w1, go_sem, Nat.reduceEqDiff, Nat.reduceAdd, List.length_map]
 refine callP_eq rfl rfl (kUint2 f.length (by omega)) ?_
 simp only [go_sem, Nat.reduceEqDiff]
 refine loop_N f.length (fun _ => True) (fun i => ⟨[(0, .sl none (f.map boxC)), (3, .val (.string (lb (encB f.length ++ (f.take i).flatMap boxB)))), (4, .val (.int .i64 i))], [], []⟩) trivial (by simp only [go_sem, Nat.reduceEqDiff]; simp) ?_
 rintro i hil -
 have hfi := ff i
 simp only [go_sem, Nat.reduceEqDiff, List.length_map]
 refine condE_split (fun h => ?_) (fun h => ?_)
 ·have hi' : i < f.length := by simpa using h
  have hx := hw _ (getD_mem hi')
  have hget := get_boxC hi'
  have hnx : (f.take (i + 1)).flatMap boxB = (f.take i).flatMap boxB ++ boxB (f.getD i allB) := by
   rw [takeB hi', List.flatMap_append]; simp
  simp only [go_sem, Nat.reduceEqDiff]
  generalize hpre : encB f.length ++ (f.take i).flatMap boxB = pre at *
  have hpl : pre.length ≤ 50000000 := by rw [← hpre, List.length_append]; omega
  generalize hx0 : f.getD i allB = x at *
  refine loop_N 4 (fun _ => True) (fun k => ⟨[(0, .sl none (f.map boxC)), (3, .val (.string (lb (pre ++ setsB x k)))), (4, .val (.int .i64 i)), (5, .val (.int .i64 (z4 k)))], [], []⟩) trivial (by simp only [go_sem, Nat.reduceEqDiff]; simp [setsB]; rfl) ?_
  rintro k hk -
  have hsl := setsB_len hx k hk
  have hsn := setsB_succ x k
  have hk5 : k = 0 ∨ k = 1 ∨ k = 2 ∨ k = 3 ∨ k = 4 := by omega
  rcases hk5 with rfl | rfl | rfl | rfl | rfl
  ·have p : PureAt Tryz.prog 71 [.agg (setC (x.at 0))] (· = .val (.string (lb (setB (x.at 0))))) := kset8 (x.at 0) (hx 0 (by omega))
   have hs1 := setB_len (hx 0 (by omega))
   have hsz : ((lb (pre ++ setsB x 0)).size + (lb (setB (x.at 0))).size ≤ 9223372036854775807) = True := by rw [size_lb, size_lb]; simp only [List.length_append, eq_iff_iff, iff_true]; omega
   simp only [nn0, Int.toNat_natCast, hget, boxC, go_sem, Nat.reduceEqDiff, Nat.reduceAdd, Nat.reduceLeDiff, z4, Int.reduceLT, Int.toNat_zero, Int.le_refl, decide_true, c4, Nat.reduceMul, and_self, ↓reduceIte]
   refine callP_eq rfl rfl p ?_
   simp only [hsz, if_true, app_lb2, go_sem, Nat.reduceEqDiff]
   refine invN_next (by omega) trivial ?_
   simp only [hsn, List.append_assoc, go_sem, Nat.reduceEqDiff, Nat.reduceAdd]
   rfl
  ·have p : PureAt Tryz.prog 71 [.agg (setC (x.at 1))] (· = .val (.string (lb (setB (x.at 1))))) := kset8 (x.at 1) (hx 1 (by omega))
   have hs1 := setB_len (hx 1 (by omega))
   have hsz : ((lb (pre ++ setsB x 1)).size + (lb (setB (x.at 1))).size ≤ 9223372036854775807) = True := by rw [size_lb, size_lb]; simp only [List.length_append, eq_iff_iff, iff_true]; omega
   simp only [nn0, Int.toNat_natCast, hget, boxC, go_sem, Nat.reduceEqDiff, Nat.reduceAdd, Nat.reduceLeDiff, z4, Int.reduceLT, Int.reduceLE, Int.reduceToNat, decide_true, c4, Nat.reduceMul, and_self, ↓reduceIte]
   refine callP_eq rfl rfl p ?_
   simp only [hsz, if_true, app_lb2, go_sem, Nat.reduceEqDiff]
   refine invN_next (by omega) trivial ?_
   simp only [hsn, List.append_assoc, go_sem, Nat.reduceEqDiff, Nat.reduceAdd]
   rfl
  ·have p : PureAt Tryz.prog 71 [.agg (setC (x.at 2))] (· = .val (.string (lb (setB (x.at 2))))) := kset8 (x.at 2) (hx 2 (by omega))
   have hs1 := setB_len (hx 2 (by omega))
   have hsz : ((lb (pre ++ setsB x 2)).size + (lb (setB (x.at 2))).size ≤ 9223372036854775807) = True := by rw [size_lb, size_lb]; simp only [List.length_append, eq_iff_iff, iff_true]; omega
   simp only [nn0, Int.toNat_natCast, hget, boxC, go_sem, Nat.reduceEqDiff, Nat.reduceAdd, Nat.reduceLeDiff, z4, Int.reduceLT, Int.reduceLE, Int.reduceToNat, decide_true, c4, Nat.reduceMul, and_self, ↓reduceIte]
   refine callP_eq rfl rfl p ?_
   simp only [hsz, if_true, app_lb2, go_sem, Nat.reduceEqDiff]
   refine invN_next (by omega) trivial ?_
   simp only [hsn, List.append_assoc, go_sem, Nat.reduceEqDiff, Nat.reduceAdd]
   rfl
  ·have p : PureAt Tryz.prog 71 [.agg (setC (x.at 3))] (· = .val (.string (lb (setB (x.at 3))))) := kset8 (x.at 3) (hx 3 (by omega))
   have hs1 := setB_len (hx 3 (by omega))
   have hsz : ((lb (pre ++ setsB x 3)).size + (lb (setB (x.at 3))).size ≤ 9223372036854775807) = True := by rw [size_lb, size_lb]; simp only [List.length_append, eq_iff_iff, iff_true]; omega
   simp only [nn0, Int.toNat_natCast, hget, boxC, go_sem, Nat.reduceEqDiff, Nat.reduceAdd, Nat.reduceLeDiff, z4, Int.reduceLT, Int.reduceLE, Int.reduceToNat, decide_true, c4, Nat.reduceMul, and_self, ↓reduceIte]
   refine callP_eq rfl rfl p ?_
   simp only [hsz, if_true, app_lb2, go_sem, Nat.reduceEqDiff]
   refine invN_next (by omega) trivial ?_
   simp only [hsn, List.append_assoc, go_sem, Nat.reduceEqDiff, Nat.reduceAdd]
   rfl
  ·simp only [up64 (show i < 1000000 by omega), go_sem, Nat.reduceEqDiff, z4, Int.reduceLT, decide_false, ↓reduceIte]
   refine invN_next hi' trivial ?_
   simp only [hnx, ← hpre, List.append_assoc, boxB, go_sem, Nat.reduceEqDiff]
 ·have hil' : i = f.length := by simp at h; omega
  subst hil'
  rw [List.take_length]
  simp only [go_sem, Nat.reduceEqDiff]
  rfl
end Go.Proofs

namespace Go.Proofs
open Go.Vm
set_option linter.unusedSimpArgs false
theorem rdRgs_head (s : Rdr) : ∀ k, rdRgs s (k + 1) = ((rgR s).1 :: (rdRgs (rgR s).2 k).1, (rdRgs (rgR s).2 k).2)
 | 0 => rfl
 | k + 1 => by
  rw [rdRgs, rdRgs_head s k]
  rfl
theorem rdStrs_head (s : Rdr) : ∀ k, rdStrs s (k + 1) = (lb (strR 8 s).1 :: (rdStrs (strR 8 s).2 k).1, (rdStrs (strR 8 s).2 k).2)
 | 0 => rfl
 | k + 1 => by
  rw [rdStrs, rdStrs_head s k]
  rfl
theorem rdBoxes_head (s : Rdr) (k : Nat) : rdBoxes s (k + 1) = ((bxR s).1 :: (rdBoxes (bxR s).2 k).1, (rdBoxes (bxR s).2 k).2) := by
 induction k with
 | zero => simp only [rdBoxes, List.nil_append]
 | succ k ih =>
  rw [rdBoxes, ih]
  simp only [rdBoxes, List.cons_append]
theorem rg_back {r : Rg} (h : InB r) (t : List UInt8) : rgR (rgB r ++ t, 0) = (r, (t, 0)) := by
 obtain ⟨⟨a1, a2⟩, a3, a4⟩ := h
 have h1 := int_back r.1 ⟨by omega, by omega⟩ (encB (foldN r.2) ++ t)
 have h2 := int_back r.2 ⟨by omega, by omega⟩ t
 unfold rgR
 rw [rgB, List.append_assoc, h1.1]
 simp only
 rw [h2.1, h1.2, h2.2]
theorem rgs_back : ∀ (l : List Rg) (_ : ∀ r ∈ l, InB r) (t : List UInt8), rdRgs (l.flatMap rgB ++ t, 0) l.length = (l, (t, 0))
 | [], _, t => rfl
 | r :: l, h, t => by
  rw [List.length_cons, rdRgs_head, List.flatMap_cons, List.append_assoc, rg_back (h r (by simp)), rgs_back l (fun x hx => h x (by simp [hx]))]
theorem strs_back : ∀ (l : List ByteArray) (_ : ∀ s ∈ l, s.size ≤ 8) (t : List UInt8), rdStrs (l.flatMap strB ++ t, 0) l.length = (l, (t, 0))
 | [], _, t => rfl
 | s :: l, h, t => by
  rw [List.length_cons, rdStrs_head, List.flatMap_cons, List.append_assoc, str_back 8 s (h s (by simp)) (by omega), strs_back l (fun x hx => h x (by simp [hx])), lb_bl]
theorem count_back (m n : Nat) (h : n ≤ m) (hm : m < 1000) (t : List UInt8) : countR m (encB n ++ t, 0) = (n, (t, 0)) := by
 unfold countR
 rw [uint_back n (by omega) t, if_neg (by simp; omega)]
theorem abs_flag (s : SetM) : absN (flagN s) = s.absent := by
 unfold absN flagN
 cases s.absent <;> cases s.co <;> rfl
theorem co_flag (s : SetM) : coN (flagN s) = s.co := by
 unfold coN flagN
 cases s.absent <;> cases s.co <;> rfl
structure Sml (s : SetM) : Prop where
 ni : s.ints.length ≤ 6
 ns : s.strs.length ≤ 6
 sz : ∀ t ∈ s.strs, t.size ≤ 8
 bd : Bnd s
theorem set_back {s : SetM} (h : Sml s) (t : List UInt8) : takeSX (setB s ++ t, 0) = (s, (t, 0)) := by
 have hf := flag_lt s
 have e1 : setB s ++ t = UInt8.ofNat (flagN s) :: (encB s.ints.length ++ (s.ints.flatMap rgB ++ (encB s.strs.length ++ (s.strs.flatMap strB ++ t)))) := by simp [setB]
 have hb : byteR (setB s ++ t, 0) = (flagN s, (encB s.ints.length ++ (s.ints.flatMap rgB ++ (encB s.strs.length ++ (s.strs.flatMap strB ++ t))), 0)) := by
  rw [e1, byteR_cons, toNat_of _ (by omega)]
 have h1 : flR (setB s ++ t, 0) = (encB s.ints.length ++ (s.ints.flatMap rgB ++ (encB s.strs.length ++ (s.strs.flatMap strB ++ t))), 0) := by
  unfold flR
  rw [hb, if_neg (by simp; omega)]
 have h2 : isR (setB s ++ t, 0) = (s.ints, (encB s.strs.length ++ (s.strs.flatMap strB ++ t), 0)) := by
  unfold isR
  rw [h1, count_back 6 _ h.ni (by omega)]
  exact rgs_back _ h.bd _
 have h3 : ssR (setB s ++ t, 0) = (s.strs, (t, 0)) := by
  unfold ssR
  rw [h2]
  simp only
  rw [count_back 6 _ h.ns (by omega)]
  exact strs_back _ h.sz _
 unfold takeSX
 rw [h2, h3, hb]
 simp only [abs_flag, co_flag]
def SmlB (b : BoxM) : Prop := ∀ i, i < 4 → Sml (b.at i)
theorem bx_back {b : BoxM} (h : SmlB b) (t : List UInt8) : bxR (boxB b ++ t, 0) = (b, (t, 0)) := by
 have e4 : boxB b ++ t = setB b.s0 ++ (setB b.s1 ++ (setB b.s2 ++ (setB b.s3 ++ t))) := by rw [boxB_four]; simp
 have s0 := set_back (s := b.s0) (h 0 (by omega)) (setB b.s1 ++ (setB b.s2 ++ (setB b.s3 ++ t)))
 have s1 := set_back (s := b.s1) (h 1 (by omega)) (setB b.s2 ++ (setB b.s3 ++ t))
 have s2 := set_back (s := b.s2) (h 2 (by omega)) (setB b.s3 ++ t)
 have s3 := set_back (s := b.s3) (h 3 (by omega)) t
 rw [e4]
 generalize setB b.s0 ++ (setB b.s1 ++ (setB b.s2 ++ (setB b.s3 ++ t))) = l0 at *
 have r1 : rdS (l0, 0) 1 = (setB b.s1 ++ (setB b.s2 ++ (setB b.s3 ++ t)), 0) := congrArg Prod.snd s0
 have r2 : rdS (l0, 0) 2 = (setB b.s2 ++ (setB b.s3 ++ t), 0) := by show (takeSX (rdS (l0, 0) 1)).2 = _; rw [r1]; exact congrArg Prod.snd s1
 have r3 : rdS (l0, 0) 3 = (setB b.s3 ++ t, 0) := by show (takeSX (rdS (l0, 0) 2)).2 = _; rw [r2]; exact congrArg Prod.snd s2
 have r4 : rdS (l0, 0) 4 = (t, 0) := by show (takeSX (rdS (l0, 0) 3)).2 = _; rw [r3]; exact congrArg Prod.snd s3
 have v0 : sK (l0, 0) 0 = b.s0 := congrArg Prod.fst s0
 have v1 : sK (l0, 0) 1 = b.s1 := by unfold sK; rw [r1]; exact congrArg Prod.fst s1
 have v2 : sK (l0, 0) 2 = b.s2 := by unfold sK; rw [r2]; exact congrArg Prod.fst s2
 have v3 : sK (l0, 0) 3 = b.s3 := by unfold sK; rw [r3]; exact congrArg Prod.fst s3
 unfold bxR
 rw [v0, v1, v2, v3, r4]
theorem bxs_back : ∀ (l : List BoxM) (_ : ∀ b ∈ l, SmlB b) (t : List UInt8), rdBoxes (l.flatMap boxB ++ t, 0) l.length = (l, (t, 0))
 | [], _, t => rfl
 | b :: l, h, t => by
  rw [List.length_cons, rdBoxes_head, List.flatMap_cons, List.append_assoc, bx_back (h b (by simp)), bxs_back l (fun x hx => h x (by simp [hx]))]
theorem sml_fine {b : BoxM} (hb : BndB b) (h : fineB b = true) : SmlB b := by
 simp only [fineB, smallB, Bool.and_eq_true] at h
 intro i hi
 have h1 := (rightB_iff hb).1 h.1 i hi
 have h2 := all4_iff.1 h.2 i hi
 simp only [smallM, Bool.and_eq_true, decide_eq_true_eq] at h2
 exact ⟨by omega, by omega, fun t ht => h1.sz t ht, hb i hi⟩
theorem take_filter {f : List BoxM} (hb : ∀ b ∈ f, BndB b) (h : rightF f = true) (t : List UInt8) : takeFX (filterB f ++ t, 0) = (f, (t, 0)) := by
 have h0 := h
 simp only [rightF, Bool.and_eq_true, decide_eq_true_eq, List.all_eq_true] at h
 have h1 : filR (filterB f ++ t, 0) = (f, (t, 0)) := by
  unfold filR
  rw [filterB, List.append_assoc, count_back 4 _ h.1.1 (by omega)]
  exact bxs_back f (fun b hm => sml_fine (hb b hm) (h.1.2 b hm)) t
 have h2 : takeFR (filterB f ++ t, 0) = (t, 0) := by
  unfold takeFR
  rw [h1, if_neg (by rintro ⟨-, hf⟩; rw [h0] at hf; cases hf)]
 unfold takeFX
 rw [h2, h1]
 rfl
theorem setB_sml {s : SetM} (h : Sml s) : (setB s).length ≤ 300 := by
 have n1 := (encB_len (n := s.ints.length) (by have := h.ni; omega)).1
 have n2 := (encB_len (n := s.strs.length) (by have := h.ns; omega)).1
 have f1 := Nat.le_trans (flat_len (f := rgB) s.ints (fun x hx => rgB_len (h.bd x hx))) (Nat.mul_le_mul_left 22 h.ni)
 have f2 := Nat.le_trans (flat_len (f := strB) (k := 19) s.strs (fun x hx => by
  have h8 := h.sz x hx
  have := (encB_len (n := x.size) (by omega)).1
  simp only [strB, List.length_append, size_bl]; omega)) (Nat.mul_le_mul_left 19 h.ns)
 simp only [setB, List.length_append, List.length_cons, List.length_nil]; omega
theorem boxB_sml {b : BoxM} (h : SmlB b) : (boxB b).length ≤ 1200 := by
 have h0 := setB_sml (s := b.s0) (h 0 (by omega))
 have h1 := setB_sml (s := b.s1) (h 1 (by omega))
 have h2 := setB_sml (s := b.s2) (h 2 (by omega))
 have h3 := setB_sml (s := b.s3) (h 3 (by omega))
 rw [boxB_four]; simp only [List.length_append]; omega
theorem filterB_len {f : List BoxM} (hb : ∀ b ∈ f, BndB b) (h : rightF f = true) : (filterB f).length ≤ 5000 := by
 simp only [rightF, Bool.and_eq_true, decide_eq_true_eq, List.all_eq_true] at h
 have hl := h.1.1
 have n1 := (encB_len (n := f.length) (by omega)).1
 have := Nat.le_trans (flat_len (f := boxB) f (fun x hx => boxB_sml (sml_fine (hb x hx) (h.1.2 x hx)))) (Nat.mul_le_mul_left _ hl)
 rw [filterB, List.length_append]; omega
end Go.Proofs
