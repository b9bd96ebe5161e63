/- A part of the proof; what is proved stands in the last text. -/
import Derived.Test.YtaoppmjidjdgdaaGreatTK
set_option linter.unusedVariables false
set_option maxRecDepth 2000
namespace Go.Proofs
open Go.Vm
set_option linter.unusedSimpArgs false
def badR (rs : List Rg) (i : Nat) : Bool := match rs[i]? with
 | some r => decide (r.1 > r.2) || (decide (0 < i) && match rs[i - 1]? with | some q => decide (q.2 ≥ r.1) || decide (IntKind.i64.wrap (q.2 + 1) ≥ r.1) | none => false)
 | none => false
theorem allF {p : Nat → Bool} {n i : Nat} (hi : i < n) (h : p i = true) : ((List.range n).all fun i => !p i) = false := by
 rw [List.all_eq_false]; exact ⟨i, List.mem_range.2 hi, by simp [h]⟩
theorem allT {p : Nat → Bool} {n : Nat} (h : ∀ j, j < n → p j = false) : ((List.range n).all fun i => !p i) = true := by
 rw [List.all_eq_true]; intro i hi; simp [h i (List.mem_range.1 hi)]
def okI (rs : List Rg) : Bool := (List.range rs.length).all fun i => !badR rs i
def badS (ss : List ByteArray) (i : Nat) : Bool := match ss[i]? with
 | some s => decide ((s.size : Int) > 8) || (decide (0 < i) && match ss[i - 1]? with | some q => !(Op.bytesLess q.toList s.toList) | none => false)
 | none => false
def okS (ss : List ByteArray) : Bool := (List.range ss.length).all fun i => !badS ss i
def rightM (s : SetM) : Bool := okI s.ints && okS s.strs
def inv8a (s : SetM) (S : St) (n : Nat) : Prop := ∃ i : Nat, i ≤ s.ints.length ∧ n = s.ints.length - i ∧ (∀ j, j < i → badR s.ints j = false) ∧
 S.trim [1, 3] [1] [] = ⟨[(1, .ptr 1 0), (3, .val (.int .i64 i))], [(1, setC s)], []⟩
def inv8b (s : SetM) (S : St) (n : Nat) : Prop := ∃ i : Nat, i ≤ s.strs.length ∧ n = s.strs.length - i ∧ (∀ j, j < i → badS s.strs j = false) ∧
 S.trim [1, 5] [1] [] = ⟨[(1, .ptr 1 0), (5, .val (.int .i64 i))], [(1, setC s)], []⟩
theorem krefRight3 (s : SetM) (hi : s.ints.length ≤ 1000000) (hs : s.strs.length ≤ 1000000) : PureAt Tryz.prog 60 [.agg (setC s)] (· = .val (.bool (rightM s))) := by
 refine pure_of r60 (by kernel_rfl) ?_
 unfold m60
 simp only [setC, go_sem, Nat.reduceEqDiff, Nat.reduceAdd, Nat.reduceLeDiff, List.length_map]
 refine ev_loop_by (inv8a s) s.ints.length ⟨0, by simp, by simp, by simp, by simp only [setC, go_sem, Nat.reduceEqDiff, Nat.reduceAdd, Nat.reduceLeDiff, List.length_map]; rfl⟩ ?_
 rintro n S ⟨i, hil, hn, hg, hS⟩
 rw [ev_trim, hS]
 subst hn
 clear hS S
 simp only [setC, go_sem, Nat.reduceEqDiff, Nat.reduceAdd, Nat.reduceLeDiff, List.length_map]
 refine condE_split (fun h => ?_) (fun h => ?_)
 ·have hi' : i < s.ints.length := by simpa using h
  have hget : (s.ints.map encR)[i]? = some [.val (.int .i64 s.ints[i].1), .val (.int .i64 s.ints[i].2)] := by simp [encR, hi']
  have h0 : (0 ≤ (i : Int)) = True := by simp
  have hw : IntKind.i64.wrap ((i : Int) + 1) = ((i + 1 : Nat) : Int) := by rw [wrap64 (by omega) (by omega)]; rfl
  have hbad : badR s.ints i = (decide (s.ints[i].1 > s.ints[i].2) || (decide (0 < i) && match s.ints[i - 1]? with | some q => decide (q.2 ≥ s.ints[i].1) || decide (IntKind.i64.wrap (q.2 + 1) ≥ s.ints[i].1) | none => false)) := by
   unfold badR; rw [List.getElem?_eq_getElem hi']
  have next : ∀ S, badR s.ints i = false → S.trim [1, 3] [1] [] = ⟨[(1, .ptr 1 0), (3, .val (.int .i64 (i + 1 : Nat)))], [(1, setC s)], []⟩ → ∃ k, k < s.ints.length - i ∧ inv8a s S k := fun S h1 h2 =>
   ⟨s.ints.length - (i + 1), by omega, i + 1, by omega, rfl, fun j hj => by
    by_cases hji : j = i
    ·subst hji; exact h1
    ·exact hg j (by omega), h2⟩
  have done : badR s.ints i = true → rightM s = false := fun h1 => by unfold rightM okI; rw [allF hi' h1]; rfl
  generalize s.ints[i] = r at hget hbad
  obtain ⟨lo, up⟩ := r
  simp only at hget hbad
  simp only [setC, h0, Int.toNat_natCast, hget, go_sem, Nat.reduceEqDiff, Nat.reduceAdd, Nat.reduceLeDiff, List.length_map]
  refine condE_split (fun h1 => ?_) (fun h1 => ?_)
  ·simp only [setC, h0, Int.toNat_natCast, hget, go_sem, Nat.reduceEqDiff, Nat.reduceAdd, Nat.reduceLeDiff, List.length_map]
   rw [done (by rw [hbad, h1]; rfl)]
  ·simp only [setC, h0, Int.toNat_natCast, hget, go_sem, Nat.reduceEqDiff, Nat.reduceAdd, Nat.reduceLeDiff, List.length_map]
   rw [h1, Bool.false_or] at hbad
   by_cases hpos : 0 < i
   ·have e0 : decide ((i : Int) > 0) = true := by simpa using hpos
    have e1 : IntKind.i64.wrap ((i : Int) - 1) = ((i - 1 : Nat) : Int) := by rw [wrap64 (by omega) (by omega)]; omega
    have e2 : (0 ≤ ((i - 1 : Nat) : Int)) = True := by simp
    have hget1 : (s.ints.map encR)[i - 1]? = some [.val (.int .i64 (s.ints[i - 1]'(by omega)).1), .val (.int .i64 (s.ints[i - 1]'(by omega)).2)] := by
     rw [List.getElem?_map, List.getElem?_eq_getElem (by omega)]; rfl
    rw [List.getElem?_eq_getElem (by omega), show decide (0 < i) = true by simpa using hpos, Bool.true_and] at hbad
    generalize (s.ints[i - 1]'(by omega)) = q at hget1 hbad
    obtain ⟨ql, qh⟩ := q
    simp only at hget1 hbad
    simp only [setC, e0, e1, e2, h0, Int.toNat_natCast, hget, hget1, go_sem, Nat.reduceEqDiff, Nat.reduceAdd, Nat.reduceLeDiff, List.length_map]
    refine wantQ_split (fun h2 => ?_) (fun h2 => ?_)
    ·simp only [h2, setC, e0, e1, e2, h0, Int.toNat_natCast, hget, hget1, go_sem, Nat.reduceEqDiff, Nat.reduceAdd, Nat.reduceLeDiff, List.length_map]
     rw [done (by rw [hbad, h2]; rfl)]
    ·simp only [h2, setC, e0, e1, e2, h0, Int.toNat_natCast, hget, hget1, go_sem, Nat.reduceEqDiff, Nat.reduceAdd, Nat.reduceLeDiff, List.length_map]
     rw [h2, Bool.false_or] at hbad
     refine condE_split (fun h3 => ?_) (fun h3 => ?_)
     ·simp only [go_sem, Nat.reduceEqDiff, Nat.reduceAdd, Nat.reduceLeDiff, List.length_map]
      rw [done (by rw [hbad, h3])]
     ·simp only [hw, go_sem, Nat.reduceEqDiff, Nat.reduceAdd, Nat.reduceLeDiff, List.length_map]
      refine next _ (by rw [hbad, h3]) ?_
      simp only [setC, go_sem, Nat.reduceEqDiff, Nat.reduceAdd, Nat.reduceLeDiff, List.length_map]
   ·have hz : i = 0 := by omega
    subst hz
    have e0 : decide (((0 : Nat) : Int) > 0) = false := rfl
    simp only [setC, e0, hw, go_sem, Nat.reduceEqDiff, Nat.reduceAdd, Nat.reduceLeDiff, List.length_map]
    refine next _ (by rw [hbad]; rfl) ?_
    simp only [setC, go_sem, Nat.reduceEqDiff, Nat.reduceAdd, Nat.reduceLeDiff, List.length_map]
 ·have hge : ¬ i < s.ints.length := by simpa using h
  have hall : okI s.ints = true := allT fun j hj => hg j (by omega)
  simp only [setC, go_sem, Nat.reduceEqDiff, Nat.reduceAdd, Nat.reduceLeDiff, List.length_map]
  clear hg hge h hil i
  refine ev_loop_by (inv8b s) s.strs.length ⟨0, by simp, by simp, by simp, by simp only [setC, go_sem, Nat.reduceEqDiff, Nat.reduceAdd, Nat.reduceLeDiff, List.length_map]; rfl⟩ ?_
  rintro n S ⟨i, hil, hn, hg, hS⟩
  rw [ev_trim, hS]
  subst hn
  clear hS S
  simp only [setC, go_sem, Nat.reduceEqDiff, Nat.reduceAdd, Nat.reduceLeDiff, List.length_map]
  refine condE_split (fun h => ?_) (fun h => ?_)
  ·have hi' : i < s.strs.length := by simpa using h
   have hget : (s.strs.map encSt)[i]? = some [.val (.string s.strs[i])] := by simp [encSt, hi']
   have h0 : (0 ≤ (i : Int)) = True := by simp
   have hw : IntKind.i64.wrap ((i : Int) + 1) = ((i + 1 : Nat) : Int) := by rw [wrap64 (by omega) (by omega)]; rfl
   have hbad : badS s.strs i = (decide ((s.strs[i].size : Int) > 8) || (decide (0 < i) && match s.strs[i - 1]? with | some q => !(Op.bytesLess q.toList s.strs[i].toList) | none => false)) := by
    unfold badS; rw [List.getElem?_eq_getElem hi']
   have next : ∀ S, badS s.strs i = false → S.trim [1, 5] [1] [] = ⟨[(1, .ptr 1 0), (5, .val (.int .i64 (i + 1 : Nat)))], [(1, setC s)], []⟩ → ∃ k, k < s.strs.length - i ∧ inv8b s S k := fun S h1 h2 =>
    ⟨s.strs.length - (i + 1), by omega, i + 1, by omega, rfl, fun j hj => by
     by_cases hji : j = i
     ·subst hji; exact h1
     ·exact hg j (by omega), h2⟩
   have done : badS s.strs i = true → rightM s = false := fun h1 => by unfold rightM okS; rw [allF hi' h1, Bool.and_false]
   generalize s.strs[i] = r at hget hbad
   simp only [setC, h0, Int.toNat_natCast, hget, go_sem, Nat.reduceEqDiff, Nat.reduceAdd, Nat.reduceLeDiff, List.length_map]
   refine wantQ_split (fun h1 => ?_) (fun h1 => ?_)
   ·simp only [h1, setC, h0, Int.toNat_natCast, hget, go_sem, Nat.reduceEqDiff, Nat.reduceAdd, Nat.reduceLeDiff, List.length_map]
    rw [done (by rw [hbad, h1]; rfl)]
   ·rw [h1, Bool.false_or] at hbad
    simp only [h1, setC, h0, Int.toNat_natCast, hget, go_sem, Nat.reduceEqDiff, Nat.reduceAdd, Nat.reduceLeDiff, List.length_map]
    by_cases hpos : 0 < i
    ·have e0 : decide ((i : Int) > 0) = true := by simpa using hpos
     have e1 : IntKind.i64.wrap ((i : Int) - 1) = ((i - 1 : Nat) : Int) := by rw [wrap64 (by omega) (by omega)]; omega
     have e2 : (0 ≤ ((i - 1 : Nat) : Int)) = True := by simp
     have hget1 : (s.strs.map encSt)[i - 1]? = some [.val (.string (s.strs[i - 1]'(by omega)))] := by
      rw [List.getElem?_map, List.getElem?_eq_getElem (by omega)]; rfl
     rw [List.getElem?_eq_getElem (by omega), show decide (0 < i) = true by simpa using hpos, Bool.true_and] at hbad
     generalize (s.strs[i - 1]'(by omega)) = q at hget1 hbad
     simp only at hbad
     simp only [h1, setC, e0, e1, e2, h0, Int.toNat_natCast, hget, hget1, go_sem, Nat.reduceEqDiff, Nat.reduceAdd, Nat.reduceLeDiff, List.length_map]
     refine condE_split (fun h3 => ?_) (fun h3 => ?_)
     ·simp only [go_sem, Nat.reduceEqDiff, Nat.reduceAdd, Nat.reduceLeDiff, List.length_map]
      rw [done (by rw [hbad, h3])]
     ·simp only [hw, go_sem, Nat.reduceEqDiff, Nat.reduceAdd, Nat.reduceLeDiff, List.length_map]
      refine next _ (by rw [hbad, h3]) ?_
      simp only [setC, go_sem, Nat.reduceEqDiff, Nat.reduceAdd, Nat.reduceLeDiff, List.length_map]
    ·have hz : i = 0 := by omega
     subst hz
     have e0 : decide (((0 : Nat) : Int) > 0) = false := rfl
     simp only [h1, setC, e0, hw, go_sem, Nat.reduceEqDiff, Nat.reduceAdd, Nat.reduceLeDiff, List.length_map]
     refine next _ (by rw [hbad]; rfl) ?_
     simp only [setC, go_sem, Nat.reduceEqDiff, Nat.reduceAdd, Nat.reduceLeDiff, List.length_map]
  ·have hge : ¬ i < s.strs.length := by simpa using h
   have hall2 : okS s.strs = true := allT fun j hj => hg j (by omega)
   simp only [setC, go_sem, Nat.reduceEqDiff, Nat.reduceAdd, Nat.reduceLeDiff, List.length_map]
   simp [rightM, hall, hall2]
end Go.Proofs

namespace Go.Proofs
open Go.Vm
set_option linter.unusedSimpArgs false
def inv7a (a b : SetM) (S : St) (n : Nat) : Prop := ∃ i : Nat, i ≤ a.ints.length ∧ n = a.ints.length - i ∧ a.ints.take i = b.ints.take i ∧
 S.trim [2, 3, 5] [2, 3] [] = ⟨[(2, .ptr 2 0), (3, .ptr 3 0), (5, .val (.int .i64 i))], [(2, setC a), (3, setC b)], []⟩
def inv7b (a b : SetM) (S : St) (n : Nat) : Prop := ∃ i : Nat, i ≤ a.strs.length ∧ n = a.strs.length - i ∧ a.strs.take i = b.strs.take i ∧
 S.trim [2, 3, 6] [2, 3] [] = ⟨[(2, .ptr 2 0), (3, .ptr 3 0), (6, .val (.int .i64 i))], [(2, setC a), (3, setC b)], []⟩
theorem take_eq_succ {α : Type} {xs ys : List α} {i : Nat} (h : xs.take i = ys.take i) (hi : i < xs.length) (hj : i < ys.length) (he : xs[i] = ys[i]) : xs.take (i + 1) = ys.take (i + 1) := by
 rw [List.take_succ_eq_append_getElem hi, List.take_succ_eq_append_getElem hj, h, he]
theorem krefSame3 (a b : SetM) (hi : a.ints.length ≤ 1000000) (hs : a.strs.length ≤ 1000000) : PureAt Tryz.prog 67 [.agg (setC a), .agg (setC b)] (· = .val (.bool (sameM a b))) := by
 refine pure_of r67 (by kernel_rfl) ?_
 unfold m67
 simp only [setC, go_sem, Nat.reduceEqDiff, Nat.reduceAdd, Nat.reduceLeDiff, List.length_map]
 have eA : (!a.absent == b.absent) = true → sameM a b = false := fun h => by
  have : (a.absent == b.absent) = false := by simpa using h
  simp [sameM, this]
 have eC : (!a.co == b.co) = true → sameM a b = false := fun h => by
  have : (a.co == b.co) = false := by simpa using h
  simp [sameM, this]
 have eI : ((a.ints.length : Int) != b.ints.length) = true → sameM a b = false := fun h => by
  have : a.ints ≠ b.ints := by rintro e; rw [e] at h; simp at h
  simp [sameM, this]
 have eS : ((a.strs.length : Int) != b.strs.length) = true → sameM a b = false := fun h => by
  have : a.strs ≠ b.strs := by rintro e; rw [e] at h; simp at h
  simp [sameM, this]
 refine wantE_split (fun h1 => ?_) (fun h1 => ?_)
 ·simp only [h1, go_sem, Nat.reduceEqDiff, Nat.reduceAdd, Nat.reduceLeDiff, List.length_map]
  rw [eA h1]
 ·simp only [h1, go_sem, Nat.reduceEqDiff, Nat.reduceAdd, Nat.reduceLeDiff, List.length_map]
  refine wantE_split (fun h2 => ?_) (fun h2 => ?_)
  ·simp only [h1, h2, go_sem, Nat.reduceEqDiff, Nat.reduceAdd, Nat.reduceLeDiff, List.length_map]
   rw [eC h2]
  ·simp only [h1, h2, go_sem, Nat.reduceEqDiff, Nat.reduceAdd, Nat.reduceLeDiff, List.length_map]
   refine wantE_split (fun h3 => ?_) (fun h3 => ?_)
   ·simp only [h1, h2, h3, go_sem, Nat.reduceEqDiff, Nat.reduceAdd, Nat.reduceLeDiff, List.length_map]
    rw [eI h3]
   ·simp only [h1, h2, h3, go_sem, Nat.reduceEqDiff, Nat.reduceAdd, Nat.reduceLeDiff, List.length_map]
    refine condE_split (fun h4 => ?_) (fun h4 => ?_)
    ·simp only [go_sem, Nat.reduceEqDiff, Nat.reduceAdd, Nat.reduceLeDiff, List.length_map]
     rw [eS h4]
    ·have hlI : a.ints.length = b.ints.length := by simp at h3; omega
     have hlS : a.strs.length = b.strs.length := by simp at h4; omega
     simp only [go_sem, Nat.reduceEqDiff, Nat.reduceAdd, Nat.reduceLeDiff, List.length_map]
     refine ev_loop_by (inv7a a b) a.ints.length ⟨0, by simp, by simp, by simp, by simp only [setC, go_sem, Nat.reduceEqDiff, Nat.reduceAdd, Nat.reduceLeDiff, List.length_map]; rfl⟩ ?_
     rintro n S ⟨i, hil, hn, ht, hS⟩
     rw [ev_trim, hS]
     subst hn
     clear hS S
     simp only [setC, go_sem, Nat.reduceEqDiff, Nat.reduceAdd, Nat.reduceLeDiff, List.length_map]
     refine condE_split (fun h => ?_) (fun h => ?_)
     ·have hi' : i < a.ints.length := by simpa using h
      have hget : (a.ints.map encR)[i]? = some [.val (.int .i64 a.ints[i].1), .val (.int .i64 a.ints[i].2)] := by simp [encR, hi']
      have hget' : (b.ints.map encR)[i]? = some [.val (.int .i64 (b.ints[i]'(by omega)).1), .val (.int .i64 (b.ints[i]'(by omega)).2)] := by
       rw [List.getElem?_map, List.getElem?_eq_getElem (by omega)]; rfl
      have h0 : (0 ≤ (i : Int)) = True := by simp
      have hw : IntKind.i64.wrap ((i : Int) + 1) = ((i + 1 : Nat) : Int) := by rw [wrap64 (by omega) (by omega)]; rfl
      simp only [setC, h0, Int.toNat_natCast, hget, hget', go_sem, Nat.reduceEqDiff, Nat.reduceAdd, Nat.reduceLeDiff, List.length_map]
      refine condE_split (fun h2 => ?_) (fun h2 => ?_)
      ·simp only [go_sem, Nat.reduceEqDiff, Nat.reduceAdd, Nat.reduceLeDiff, List.length_map]
       have : a.ints ≠ b.ints := by
        intro e
        have : a.ints[i] = b.ints[i]'(by omega) := by simp [e]
        rw [this] at h2
        simp at h2
       simp [sameM, this]
      ·simp only [hw, go_sem, Nat.reduceEqDiff, Nat.reduceAdd, Nat.reduceLeDiff, List.length_map]
       refine ⟨a.ints.length - (i + 1), by omega, i + 1, by omega, rfl, take_eq_succ ht hi' (by omega) ?_, ?_⟩
       ·simp at h2
        exact Prod.ext h2.1 h2.2
       ·simp only [setC, go_sem, Nat.reduceEqDiff, Nat.reduceAdd, Nat.reduceLeDiff, List.length_map]
     ·have hge : ¬ i < a.ints.length := by simpa using h
      have hI : a.ints = b.ints := by
       rw [List.take_of_length_le (by omega), List.take_of_length_le (by omega)] at ht; exact ht
      simp only [setC, go_sem, Nat.reduceEqDiff, Nat.reduceAdd, Nat.reduceLeDiff, List.length_map]
      clear ht hge h hil i
      refine ev_loop_by (inv7b a b) a.strs.length ⟨0, by simp, by simp, by simp, by simp only [setC, go_sem, Nat.reduceEqDiff, Nat.reduceAdd, Nat.reduceLeDiff, List.length_map]; rfl⟩ ?_
      rintro n S ⟨i, hil, hn, ht, hS⟩
      rw [ev_trim, hS]
      subst hn
      clear hS S
      simp only [setC, go_sem, Nat.reduceEqDiff, Nat.reduceAdd, Nat.reduceLeDiff, List.length_map]
      refine condE_split (fun h => ?_) (fun h => ?_)
      ·have hi' : i < a.strs.length := by simpa using h
       have hget : (a.strs.map encSt)[i]? = some [.val (.string a.strs[i])] := by simp [encSt, hi']
       have hget' : (b.strs.map encSt)[i]? = some [.val (.string (b.strs[i]'(by omega)))] := by
        rw [List.getElem?_map, List.getElem?_eq_getElem (by omega)]; rfl
       have h0 : (0 ≤ (i : Int)) = True := by simp
       have hw : IntKind.i64.wrap ((i : Int) + 1) = ((i + 1 : Nat) : Int) := by rw [wrap64 (by omega) (by omega)]; rfl
       simp only [setC, h0, Int.toNat_natCast, hget, hget', beqS, go_sem, Nat.reduceEqDiff, Nat.reduceAdd, Nat.reduceLeDiff, List.length_map]
       refine condE_split (fun h2 => ?_) (fun h2 => ?_)
       ·simp only [go_sem, Nat.reduceEqDiff, Nat.reduceAdd, Nat.reduceLeDiff, List.length_map]
        have : a.strs ≠ b.strs := by
         intro e
         have : a.strs[i] = b.strs[i]'(by omega) := by simp [e]
         rw [this] at h2
         simp at h2
        simp [sameM, this]
       ·simp only [hw, go_sem, Nat.reduceEqDiff, Nat.reduceAdd, Nat.reduceLeDiff, List.length_map]
        refine ⟨a.strs.length - (i + 1), by omega, i + 1, by omega, rfl, take_eq_succ ht hi' (by omega) ?_, ?_⟩
        ·simpa using h2
        ·simp only [setC, go_sem, Nat.reduceEqDiff, Nat.reduceAdd, Nat.reduceLeDiff, List.length_map]
      ·have hge : ¬ i < a.strs.length := by simpa using h
       have hS : a.strs = b.strs := by
        rw [List.take_of_length_le (by omega), List.take_of_length_le (by omega)] at ht; exact ht
       simp only [setC, go_sem, Nat.reduceEqDiff, Nat.reduceAdd, Nat.reduceLeDiff, List.length_map]
       have e1 : (a.absent == b.absent) = true := by simpa using h1
       have e2 : (a.co == b.co) = true := by simpa using ‹(!a.co == b.co) = false›
       simp [sameM, hI, hS] at e1 e2 ⊢
       exact ⟨e1, e2⟩
end Go.Proofs

namespace Go.Proofs
open Go.Vm
set_option linter.unusedSimpArgs false
end Go.Proofs
