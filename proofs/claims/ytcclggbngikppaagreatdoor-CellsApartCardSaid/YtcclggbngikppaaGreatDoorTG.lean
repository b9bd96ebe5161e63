/- A part of the proof; what is proved stands in the last text. -/
import Derived.Test.YtcclggbngikppaaGreatDoorTO
import Derived.Test.YtcclggbngikppaaGreatDoorMX
set_option linter.unusedVariables false
set_option maxRecDepth 2000
namespace Go.Proofs
open Go.Vm
set_option linter.unusedSimpArgs false
@[go_sem] theorem len_boxC (b : BoxM) : (boxC b).length = 16 := rfl
@[go_sem] theorem take_boxC (b : BoxM) : (boxC b).take 16 = boxC b := rfl
@[go_sem] theorem frz_boxC (b : BoxM) : frzL (boxC b) = some (boxC b) := rfl
@[go_sem] theorem one_boxC (b : BoxM) : (boxC b).all D.one = true := rfl
@[go_sem] theorem keep_boxC (p : Nat → Bool) (q : Tag → Bool) (b : BoxM) : (boxC b).map (D.keep p q) = boxC b := rfl
@[go_sem] theorem fzb_boxC (o : Nat) (fs : List D) (b : BoxM) : (boxC b).map (D.fzb o fs) = boxC b := rfl
@[go_sem] theorem upd_boxC (t : Tag) (i off : Nat) (ds : List D) (b : BoxM) : (boxC b).map (D.upd t i off ds) = boxC b := rfl
@[go_sem] theorem put_boxC (z0 z1 z2 z3 z4 z5 z6 z7 z8 z9 za zb zc zd ze zf : D) (b : BoxM) : putCells [z0, z1, z2, z3, z4, z5, z6, z7, z8, z9, za, zb, zc, zd, ze, zf] 0 (boxC b) = boxC b := rfl
@[go_sem] theorem chunk_boxC (b : BoxM) : chunk 16 1 (boxC b) = [boxC b] := rfl
theorem getD_at {l : List BoxM} {i : Nat} (h : i < l.length) : l.getD i allB = l[i] := by
 rw [List.getD_eq_getElem?_getD, List.getElem?_eq_getElem h]; rfl
theorem get_boxC {l : List BoxM} {i : Nat} (h : i < l.length) : (l.map boxC)[i]? = some (boxC (l.getD i allB)) := by
 rw [List.getElem?_map, List.getElem?_eq_getElem h, getD_at h]; rfl
theorem up64 {i : Nat} (h : i < 1000000) : IntKind.i64.wrap ((i : Int) + 1) = ((i + 1 : Nat) : Int) := by rw [wrap64 (by omega) (by omega)]; rfl
theorem nn0 (i : Nat) : (0 ≤ (i : Int)) = True := by simp
attribute [go_sem] Bool.true_or Bool.false_or Bool.or_true
theorem kref3Empty (s : SetM) : PureAt Tryz.prog 50 [.agg (setC s)] (· = .val (.bool (emptyM s))) := by
 have e1 : (((s.ints.length : Int)) == 0) = s.ints.isEmpty := by cases s.ints <;> simp; omega
 have e2 : (((s.strs.length : Int)) == 0) = s.strs.isEmpty := by cases s.strs <;> simp; omega
 refine pure_of r50 (by kernel_rfl) ?_
 unfold m50 emptyM
 obtain ⟨z, si, u, ss⟩ := s
 simp only at e1 e2
 cases hx : si.isEmpty <;> cases hy : ss.isEmpty <;> cases z <;> cases u
 all_goals
  rw [hx] at e1
  rw [hy] at e2
  simp only [setC, e1, e2, hx, hy, go_sem, Nat.reduceEqDiff, Nat.reduceAdd, Nat.reduceLeDiff, List.length_map]
theorem badR_at {l : List Rg} {i : Nat} (hi : i < l.length) (hb : ∀ r ∈ l, InB r) : badR l i = true ↔ l[i].1 > l[i].2 ∨ (0 < i ∧ (l[i].1 ≤ (l[i - 1]'(by omega)).2 ∨ l[i].1 - 1 = (l[i - 1]'(by omega)).2)) := by
 have h1 : l[i]? = some l[i] := List.getElem?_eq_getElem hi
 have h2 : l[i - 1]? = some (l[i - 1]'(by omega)) := List.getElem?_eq_getElem (by omega)
 have b1 := hb _ (List.getElem_mem hi)
 have b2 := hb _ (List.getElem_mem (show i - 1 < l.length by omega))
 unfold badR
 rw [h1]
 simp only
 rw [h2]
 simp only
 generalize l[i] = r at *
 generalize l[i - 1]'(by omega) = q at *
 obtain ⟨⟨b3, b4⟩, b5, b6⟩ := b1
 obtain ⟨⟨b7, b8⟩, b9, b10⟩ := b2
 simp only [Bool.or_eq_true, Bool.and_eq_true, decide_eq_true_eq]
 by_cases hq : q.2 = 9223372036854775807
 ·have : r.1 ≤ q.2 := by omega
  constructor
  ·rintro (h | ⟨h, -⟩)
   ·exact .inl h
   ·exact .inr ⟨h, .inl this⟩
  ·rintro (h | ⟨h, -⟩)
   ·exact .inl h
   ·exact .inr ⟨h, .inl this⟩
 ·rw [wrap64 (by omega) (by omega)]
  constructor
  ·rintro (h | ⟨h, h' | h'⟩)
   ·exact .inl h
   ·exact .inr ⟨h, .inl h'⟩
   ·exact .inr ⟨h, by omega⟩
  ·rintro (h | ⟨h, h'⟩)
   ·exact .inl h
   ·exact .inr ⟨h, by omega⟩
def prefR (s : SetM) (i : Nat) : Prop := ∀ j, j < i → badR s.ints j = false
def prefS (s : SetM) (i : Nat) : Prop := ∀ j, j < i → badS s.strs j = false
theorem nextP {p : Nat → Prop} {i : Nat} (h : ∀ j, j < i → p j) (hi : p i) : ∀ j, j < i + 1 → p j := next4 h hi
theorem wrap_pred {i : Nat} (h0 : 0 < i) (h : i < 1000000) : IntKind.i64.wrap ((i : Int) - 1) = ((i - 1 : Nat) : Int) := by rw [wrap64 (by omega) (by omega)]; omega
set_option maxHeartbeats 2000000 in
theorem ksetRight (s : SetM) (hi : s.ints.length ≤ 100000) (hs : s.strs.length ≤ 100000) (hb : Bnd s) : PureAt Tryz.prog 42 [.agg (setC s)] (· = .val (.bool (rightM s))) := by
 refine pure_of r42 (by kernel_rfl) ?_
 unfold m42
 simp only [setC, go_sem, Nat.reduceEqDiff, Nat.reduceAdd, Nat.reduceLeDiff, List.length_map]
 refine loop_N s.ints.length (prefR s) (fun i => ⟨[(1, .ptr 1 0), (8, .sl none (s.ints.map encR)), (9, .val (.int .i64 s.ints.length)), (10, .val (.int .i64 i))], [(1, setC s)], []⟩) (fun j hj => by omega) (by simp only [setC, go_sem, Nat.reduceEqDiff, Nat.reduceAdd, Nat.reduceLeDiff, List.length_map]; rfl) ?_
 intro i hil hp
 simp only [setC, go_sem, Nat.reduceEqDiff, Nat.reduceAdd, Nat.reduceLeDiff, List.length_map]
 refine condE_split (fun h => ?_) (fun h => ?_)
 ·have hi' : i < s.ints.length := by simpa using h
  have hget : (s.ints.map encR)[i]? = some [.val (.int .i64 s.ints[i].1), .val (.int .i64 s.ints[i].2)] := by simp [encR, hi']
  have hget1 : (s.ints.map encR)[i - 1]? = some [.val (.int .i64 (s.ints[i - 1]'(by omega)).1), .val (.int .i64 (s.ints[i - 1]'(by omega)).2)] := by
   rw [List.getElem?_map, List.getElem?_eq_getElem (by omega)]; rfl
  have bad := badR_at hi' hb
  have b1 := hb _ (List.getElem_mem hi')
  obtain ⟨⟨b3, b4⟩, b5, b6⟩ := b1
  have no : badR s.ints i = true → rightM s = false := fun hx => by unfold rightM okI; rw [allF hi' hx]; rfl
  have yes : badR s.ints i = false → prefR s (i + 1) := fun hx => nextP hp hx
  generalize s.ints[i] = r at *
  generalize s.ints[i - 1]'(by omega) = q at *
  simp only [nn0, Int.toNat_natCast, hget, up64 (show i < 1000000 by omega), go_sem, Nat.reduceEqDiff, Nat.reduceAdd, Nat.reduceLeDiff, List.length_map]
  first | refine condE_split (fun c1 => ?_) (fun c1 => ?_) | refine wantE_split (fun c1 => ?_) (fun c1 => ?_) | refine wantQ_split (fun c1 => ?_) (fun c1 => ?_)
  ·simp only [c1, go_sem, Nat.reduceEqDiff, Nat.reduceAdd, Nat.reduceLeDiff, List.length_map]
   rw [no (bad.2 (.inl (by simpa using c1)))]
  have n1 : ¬ r.1 > r.2 := by simpa using c1
  simp only [c1, go_sem, Nat.reduceEqDiff, Nat.reduceAdd, Nat.reduceLeDiff, List.length_map]
  first | refine condE_split (fun c2 => ?_) (fun c2 => ?_) | refine wantE_split (fun c2 => ?_) (fun c2 => ?_) | refine wantQ_split (fun c2 => ?_) (fun c2 => ?_)
  ·have hpos : 0 < i := by simp at c2; omega
   simp only [c2, wrap_pred hpos (show i < 1000000 by omega), nn0, Int.toNat_natCast, hget1, go_sem, Nat.reduceEqDiff, Nat.reduceAdd, Nat.reduceLeDiff, List.length_map]
   first | refine condE_split (fun c3 => ?_) (fun c3 => ?_) | refine wantE_split (fun c3 => ?_) (fun c3 => ?_) | refine wantQ_split (fun c3 => ?_) (fun c3 => ?_)
   ·simp only [c2, c3, go_sem, Nat.reduceEqDiff, Nat.reduceAdd, Nat.reduceLeDiff, List.length_map]
    rw [no (bad.2 (.inr ⟨hpos, .inl (by simpa using c3)⟩))]
   have n3 : ¬ r.1 ≤ q.2 := by simpa using c3
   by_cases hmin : r.1 = -9223372036854775808
   ·exfalso
    have b2 := hb _ (List.getElem_mem (show i - 1 < s.ints.length by omega))
    have : (s.ints.map encR)[i - 1]? = some (encR (s.ints[i - 1]'(by omega))) := by rw [List.getElem?_map, List.getElem?_eq_getElem (by omega)]; rfl
    rw [hget1] at this
    simp [encR] at this
    obtain ⟨⟨b7, b8⟩, b9, b10⟩ := b2
    omega
   have hw : IntKind.i64.wrap (r.1 - 1) = r.1 - 1 := wrap64 (by omega) (by omega)
   simp only [c2, c3, hw, wrap_pred hpos (show i < 1000000 by omega), nn0, Int.toNat_natCast, hget1, go_sem, Nat.reduceEqDiff, Nat.reduceAdd, Nat.reduceLeDiff, List.length_map]
   refine condE_split (fun c4 => ?_) (fun c4 => ?_)
   ·simp only [go_sem, Nat.reduceEqDiff, Nat.reduceAdd, Nat.reduceLeDiff, List.length_map]
    rw [no (bad.2 (.inr ⟨hpos, .inr (by simpa using c4)⟩))]
   ·simp only [up64 (show i < 1000000 by omega), go_sem, Nat.reduceEqDiff, Nat.reduceAdd, Nat.reduceLeDiff, List.length_map]
    refine invN_next hi' (yes ?_) (by simp only [setC, go_sem, Nat.reduceEqDiff, Nat.reduceAdd, Nat.reduceLeDiff, List.length_map])
    rw [← Bool.not_eq_true, bad]
    have n4 : ¬ r.1 - 1 = q.2 := by simpa using c4
    rintro (h | ⟨-, h | h⟩)
    ·exact n1 h
    ·exact n3 h
    ·exact n4 h
  ·have hz : ¬ 0 < i := by simp at c2; omega
   simp only [c2, up64 (show i < 1000000 by omega), go_sem, Nat.reduceEqDiff, Nat.reduceAdd, Nat.reduceLeDiff, List.length_map]
   refine invN_next hi' (yes ?_) (by simp only [setC, go_sem, Nat.reduceEqDiff, Nat.reduceAdd, Nat.reduceLeDiff, List.length_map])
   rw [← Bool.not_eq_true, bad]
   rintro (h | ⟨h, -⟩)
   ·exact n1 h
   ·exact hz h
 have hil' : i = s.ints.length := by simp at h; omega
 subst hil'
 have okI1 : okI s.ints = true := allT hp
 clear hp
 simp only [setC, go_sem, Nat.reduceEqDiff, Nat.reduceAdd, Nat.reduceLeDiff, List.length_map]
 refine loop_N s.strs.length (prefS s) (fun i => ⟨[(1, .ptr 1 0), (51, .sl none (s.strs.map encSt)), (52, .val (.int .i64 s.strs.length)), (53, .val (.int .i64 i))], [(1, setC s)], []⟩) (fun j hj => by omega) (by simp only [setC, go_sem, Nat.reduceEqDiff, Nat.reduceAdd, Nat.reduceLeDiff, List.length_map]; rfl) ?_
 intro i hil hp
 simp only [setC, go_sem, Nat.reduceEqDiff, Nat.reduceAdd, Nat.reduceLeDiff, List.length_map]
 refine condE_split (fun h => ?_) (fun h => ?_)
 ·have hi' : i < s.strs.length := by simpa using h
  have hget : (s.strs.map encSt)[i]? = some [.val (.string s.strs[i])] := by simp [encSt, hi']
  have hget1 : (s.strs.map encSt)[i - 1]? = some [.val (.string (s.strs[i - 1]'(by omega)))] := by
   rw [List.getElem?_map, List.getElem?_eq_getElem (by omega)]; rfl
  have bad : badS s.strs i = (decide ((s.strs[i].size : Int) > 8) || (decide (0 < i) && !(Op.bytesLess (s.strs[i - 1]'(by omega)).toList s.strs[i].toList))) := by
   unfold badS
   rw [List.getElem?_eq_getElem hi', List.getElem?_eq_getElem (show i - 1 < s.strs.length by omega)]
  have no : badS s.strs i = true → rightM s = false := fun hx => by unfold rightM okS; rw [allF hi' hx, Bool.and_false]
  have yes : badS s.strs i = false → prefS s (i + 1) := fun hx => nextP hp hx
  generalize s.strs[i] = r at *
  generalize s.strs[i - 1]'(by omega) = q at *
  simp only [nn0, Int.toNat_natCast, hget, up64 (show i < 1000000 by omega), go_sem, Nat.reduceEqDiff, Nat.reduceAdd, Nat.reduceLeDiff, List.length_map]
  first | refine condE_split (fun c1 => ?_) (fun c1 => ?_) | refine wantE_split (fun c1 => ?_) (fun c1 => ?_) | refine wantQ_split (fun c1 => ?_) (fun c1 => ?_)
  ·simp only [c1, go_sem, Nat.reduceEqDiff, Nat.reduceAdd, Nat.reduceLeDiff, List.length_map]
   rw [no (by rw [bad]; simp only [c1, Bool.true_or])]
  simp only [c1, go_sem, Nat.reduceEqDiff, Nat.reduceAdd, Nat.reduceLeDiff, List.length_map]
  first | refine condE_split (fun c2 => ?_) (fun c2 => ?_) | refine wantE_split (fun c2 => ?_) (fun c2 => ?_) | refine wantQ_split (fun c2 => ?_) (fun c2 => ?_)
  ·have hpos : 0 < i := by simp at c2; omega
   simp only [c2, wrap_pred hpos (show i < 1000000 by omega), nn0, Int.toNat_natCast, hget1, go_sem, Nat.reduceEqDiff, Nat.reduceAdd, Nat.reduceLeDiff, List.length_map]
   refine condE_split (fun c4 => ?_) (fun c4 => ?_)
   ·simp only [go_sem, Nat.reduceEqDiff, Nat.reduceAdd, Nat.reduceLeDiff, List.length_map]
    rw [no (by rw [bad, c4]; simp [hpos])]
   ·simp only [up64 (show i < 1000000 by omega), go_sem, Nat.reduceEqDiff, Nat.reduceAdd, Nat.reduceLeDiff, List.length_map]
    refine invN_next hi' (yes ?_) (by simp only [setC, go_sem, Nat.reduceEqDiff, Nat.reduceAdd, Nat.reduceLeDiff, List.length_map])
    rw [bad, c1, c4]; simp
  ·have hz : ¬ 0 < i := by simp at c2; omega
   simp only [c2, up64 (show i < 1000000 by omega), go_sem, Nat.reduceEqDiff, Nat.reduceAdd, Nat.reduceLeDiff, List.length_map]
   refine invN_next hi' (yes ?_) (by simp only [setC, go_sem, Nat.reduceEqDiff, Nat.reduceAdd, Nat.reduceLeDiff, List.length_map])
   rw [bad, c1]; simp [hz]
 ·have hil' : i = s.strs.length := by simp at h; omega
  subst hil'
  have okS1 : okS s.strs = true := allT hp
  simp only [go_sem, Nat.reduceEqDiff, Nat.reduceAdd, Nat.reduceLeDiff, List.length_map]
  unfold rightM
  rw [okI1, okS1]; rfl
end Go.Proofs

namespace Go.Proofs
open Go.Vm
set_option linter.unusedSimpArgs false
end Go.Proofs

namespace Go.Proofs
open Go.Vm
set_option linter.unusedSimpArgs false
end Go.Proofs
