/- A part of the proof; what is proved stands in the last text. -/
import Derived.Test.YtcclggbngikppaaGreatDoorTK
set_option linter.unusedVariables false
set_option maxRecDepth 2000
namespace Go.Proofs
open Go.Vm
set_option linter.unusedSimpArgs false
def badR (rs : List Rg) (i : Nat) : Bool := match rs[i]? with
 | some r => decide (r.1 > r.2) || (decide (0 < i) && match rs[i - 1]? with | some q => decide (q.2 ≥ r.1) || decide (IntKind.i64.wrap (q.2 + 1) ≥ r.1) | none => false)
 | none => false
theorem allF {p : Nat → Bool} {n i : Nat} (hi : i < n) (h : p i = true) : ((List.range n).all fun i => !p i) = false := by
 rw [List.all_eq_false]; exact ⟨i, List.mem_range.2 hi, by simp [h]⟩
theorem allT {p : Nat → Bool} {n : Nat} (h : ∀ j, j < n → p j = false) : ((List.range n).all fun i => !p i) = true := by
 rw [List.all_eq_true]; intro i hi; simp [h i (List.mem_range.1 hi)]
def okI (rs : List Rg) : Bool := (List.range rs.length).all fun i => !badR rs i
def badS (ss : List ByteArray) (i : Nat) : Bool := match ss[i]? with
 | some s => decide ((s.size : Int) > 8) || (decide (0 < i) && match ss[i - 1]? with | some q => !(Op.bytesLess q.toList s.toList) | none => false)
 | none => false
def okS (ss : List ByteArray) : Bool := (List.range ss.length).all fun i => !badS ss i
def rightM (s : SetM) : Bool := okI s.ints && okS s.strs
def inv8a (s : SetM) (S : St) (n : Nat) : Prop := ∃ i : Nat, i ≤ s.ints.length ∧ n = s.ints.length - i ∧ (∀ j, j < i → badR s.ints j = false) ∧
 S.trim [1, 3] [1] [] = ⟨[(1, .ptr 1 0), (3, .val (.int .i64 i))], [(1, setC s)], []⟩
def inv8b (s : SetM) (S : St) (n : Nat) : Prop := ∃ i : Nat, i ≤ s.strs.length ∧ n = s.strs.length - i ∧ (∀ j, j < i → badS s.strs j = false) ∧
 S.trim [1, 5] [1] [] = ⟨[(1, .ptr 1 0), (5, .val (.int .i64 i))], [(1, setC s)], []⟩
theorem krefRight3 (s : SetM) (hi : s.ints.length ≤ 1000000) (hs : s.strs.length ≤ 1000000) : PureAt Tryz.prog 28 [.agg (setC s)] (· = .val (.bool (rightM s))) := by
 refine pure_of r28 (by kernel_rfl) ?_
 unfold m28
 simp only [setC, go_sem, Nat.reduceEqDiff, Nat.reduceAdd, Nat.reduceLeDiff, List.length_map]
 refine ev_loop_by (inv8a s) s.ints.length ⟨0, by simp, by simp, by simp, by simp only [setC, go_sem, Nat.reduceEqDiff, Nat.reduceAdd, Nat.reduceLeDiff, List.length_map]; rfl⟩ ?_
 rintro n S ⟨i, hil, hn, hg, hS⟩
 rw [ev_trim, hS]
 subst hn
 clear hS S
 simp only [setC, go_sem, Nat.reduceEqDiff, Nat.reduceAdd, Nat.reduceLeDiff, List.length_map]
 refine condE_split (fun h => ?_) (fun h => ?_)
 ·have hi' : i < s.ints.length := by simpa using h
  have hget : (s.ints.map encR)[i]? = some [.val (.int .i64 s.ints[i].1), .val (.int .i64 s.ints[i].2)] := by simp [encR, hi']
  have h0 : (0 ≤ (i : Int)) = True := by simp
  have hw : IntKind.i64.wrap ((i : Int) + 1) = ((i + 1 : Nat) : Int) := by rw [wrap64 (by omega) (by omega)]; rfl
  have hbad : badR s.ints i = (decide (s.ints[i].1 > s.ints[i].2) || (decide (0 < i) && match s.ints[i - 1]? with | some q => decide (q.2 ≥ s.ints[i].1) || decide (IntKind.i64.wrap (q.2 + 1) ≥ s.ints[i].1) | none => false)) := by
   unfold badR; rw [List.getElem?_eq_getElem hi']
  have next : ∀ S, badR s.ints i = false → S.trim [1, 3] [1] [] = ⟨[(1, .ptr 1 0), (3, .val (.int .i64 (i + 1 : Nat)))], [(1, setC s)], []⟩ → ∃ k, k < s.ints.length - i ∧ inv8a s S k := fun S h1 h2 =>
   ⟨s.ints.length - (i + 1), by omega, i + 1, by omega, rfl, fun j hj => by
    by_cases hji : j = i
    ·subst hji; exact h1
    ·exact hg j (by omega), h2⟩
  have done : badR s.ints i = true → rightM s = false := fun h1 => by unfold rightM okI; rw [allF hi' h1]; rfl
  generalize s.ints[i] = r at hget hbad
  obtain ⟨lo, up⟩ := r
  simp only at hget hbad
  simp only [setC, h0, Int.toNat_natCast, hget, go_sem, Nat.reduceEqDiff, Nat.reduceAdd, Nat.reduceLeDiff, List.length_map]
  refine condE_split (fun h1 => ?_) (fun h1 => ?_)
  ·simp only [setC, h0, Int.toNat_natCast, hget, go_sem, Nat.reduceEqDiff, Nat.reduceAdd, Nat.reduceLeDiff, List.length_map]
   rw [done (by rw [hbad, h1]; rfl)]
  ·simp only [setC, h0, Int.toNat_natCast, hget, go_sem, Nat.reduceEqDiff, Nat.reduceAdd, Nat.reduceLeDiff, List.length_map]
   rw [h1, Bool.false_or] at hbad
   by_cases hpos : 0 < i
   ·have e0 : decide ((i : Int) > 0) = true := by simpa using hpos
    have e1 : IntKind.i64.wrap ((i : Int) - 1) = ((i - 1 : Nat) : Int) := by rw [wrap64 (by omega) (by omega)]; omega
    have e2 : (0 ≤ ((i - 1 : Nat) : Int)) = True := by simp
    have hget1 : (s.ints.map encR)[i - 1]? = some [.val (.int .i64 (s.ints[i - 1]'(by omega)).1), .val (.int .i64 (s.ints[i - 1]'(by omega)).2)] := by
     rw [List.getElem?_map, List.getElem?_eq_getElem (by omega)]; rfl
    rw [List.getElem?_eq_getElem (by omega), show decide (0 < i) = true by simpa using hpos, Bool.true_and] at hbad
    generalize (s.ints[i - 1]'(by omega)) = q at hget1 hbad
    obtain ⟨ql, qh⟩ := q
    simp only at hget1 hbad
    simp only [setC, e0, e1, e2, h0, Int.toNat_natCast, hget, hget1, go_sem, Nat.reduceEqDiff, Nat.reduceAdd, Nat.reduceLeDiff, List.length_map]
    refine wantQ_split (fun h2 => ?_) (fun h2 => ?_)
    ·simp only [h2, setC, e0, e1, e2, h0, Int.toNat_natCast, hget, hget1, go_sem, Nat.reduceEqDiff, Nat.reduceAdd, Nat.reduceLeDiff, List.length_map]
     rw [done (by rw [hbad, h2]; rfl)]
    ·simp only [h2, setC, e0, e1, e2, h0, Int.toNat_natCast, hget, hget1, go_sem, Nat.reduceEqDiff, Nat.reduceAdd, Nat.reduceLeDiff, List.length_map]
     rw [h2, Bool.false_or] at hbad
     refine condE_split (fun h3 => ?_) (fun h3 => ?_)
     ·simp only [go_sem, Nat.reduceEqDiff, Nat.reduceAdd, Nat.reduceLeDiff, List.length_map]
      rw [done (by rw [hbad, h3])]
     ·simp only [hw, go_sem, Nat.reduceEqDiff, Nat.reduceAdd, Nat.reduceLeDiff, List.length_map]
      refine next _ (by rw [hbad, h3]) ?_
      simp only [setC, go_sem, Nat.reduceEqDiff, Nat.reduceAdd, Nat.reduceLeDiff, List.length_map]
   ·have hz : i = 0 := by omega
    subst hz
    have e0 : decide (((0 : Nat) : Int) > 0) = false := rfl
    simp only [setC, e0, hw, go_sem, Nat.reduceEqDiff, Nat.reduceAdd, Nat.reduceLeDiff, List.length_map]
    refine next _ (by rw [hbad]; rfl) ?_
    simp only [setC, go_sem, Nat.reduceEqDiff, Nat.reduceAdd, Nat.reduceLeDiff, List.length_map]
 ·have hge : ¬ i < s.ints.length := by simpa using h
  have hall : okI s.ints = true := allT fun j hj => hg j (by omega)
  simp only [setC, go_sem, Nat.reduceEqDiff, Nat.reduceAdd, Nat.reduceLeDiff, List.length_map]
  clear hg hge h hil i
  refine ev_loop_by (inv8b s) s.strs.length ⟨0, by simp, by simp, by simp, by simp only [setC, go_sem, Nat.reduceEqDiff, Nat.reduceAdd, Nat.reduceLeDiff, List.length_map]; rfl⟩ ?_
  rintro n S ⟨i, hil, hn, hg, hS⟩
  rw [ev_trim, hS]
  subst hn
  clear hS S
  simp only [setC, go_sem, Nat.reduceEqDiff, Nat.reduceAdd, Nat.reduceLeDiff, List.length_map]
  refine condE_split (fun h => ?_) (fun h => ?_)
  ·have hi' : i < s.strs.length := by simpa using h
   have hget : (s.strs.map encSt)[i]? = some [.val (.string s.strs[i])] := by simp [encSt, hi']
   have h0 : (0 ≤ (i : Int)) = True := by simp
   have hw : IntKind.i64.wrap ((i : Int) + 1) = ((i + 1 : Nat) : Int) := by rw [wrap64 (by omega) (by omega)]; rfl
   have hbad : badS s.strs i = (decide ((s.strs[i].size : Int) > 8) || (decide (0 < i) && match s.strs[i - 1]? with | some q => !(Op.bytesLess q.toList s.strs[i].toList) | none => false)) := by
    unfold badS; rw [List.getElem?_eq_getElem hi']
   have next : ∀ S, badS s.strs i = false → S.trim [1, 5] [1] [] = ⟨[(1, .ptr 1 0), (5, .val (.int .i64 (i + 1 : Nat)))], [(1, setC s)], []⟩ → ∃ k, k < s.strs.length - i ∧ inv8b s S k := fun S h1 h2 =>
    ⟨s.strs.length - (i + 1), by omega, i + 1, by omega, rfl, fun j hj => by
     by_cases hji : j = i
     ·subst hji; exact h1
     ·exact hg j (by omega), h2⟩
   have done : badS s.strs i = true → rightM s = false := fun h1 => by unfold rightM okS; rw [allF hi' h1, Bool.and_false]
   generalize s.strs[i] = r at hget hbad
   simp only [setC, h0, Int.toNat_natCast, hget, go_sem, Nat.reduceEqDiff, Nat.reduceAdd, Nat.reduceLeDiff, List.length_map]
   refine wantQ_split (fun h1 => ?_) (fun h1 => ?_)
   ·simp only [h1, setC, h0, Int.toNat_natCast, hget, go_sem, Nat.reduceEqDiff, Nat.reduceAdd, Nat.reduceLeDiff, List.length_map]
    rw [done (by rw [hbad, h1]; rfl)]
   ·rw [h1, Bool.false_or] at hbad
    simp only [h1, setC, h0, Int.toNat_natCast, hget, go_sem, Nat.reduceEqDiff, Nat.reduceAdd, Nat.reduceLeDiff, List.length_map]
    by_cases hpos : 0 < i
    ·have e0 : decide ((i : Int) > 0) = true := by simpa using hpos
     have e1 : IntKind.i64.wrap ((i : Int) - 1) = ((i - 1 : Nat) : Int) := by rw [wrap64 (by omega) (by omega)]; omega
     have e2 : (0 ≤ ((i - 1 : Nat) : Int)) = True := by simp
     have hget1 : (s.strs.map encSt)[i - 1]? = some [.val (.string (s.strs[i - 1]'(by omega)))] := by
      rw [List.getElem?_map, List.getElem?_eq_getElem (by omega)]; rfl
     rw [List.getElem?_eq_getElem (by omega), show decide (0 < i) = true by simpa using hpos, Bool.true_and] at hbad
     generalize (s.strs[i - 1]'(by omega)) = q at hget1 hbad
     simp only at hbad
     simp only [h1, setC, e0, e1, e2, h0, Int.toNat_natCast, hget, hget1, go_sem, Nat.reduceEqDiff, Nat.reduceAdd, Nat.reduceLeDiff, List.length_map]
     refine condE_split (fun h3 => ?_) (fun h3 => ?_)
     ·simp only [go_sem, Nat.reduceEqDiff, Nat.reduceAdd, Nat.reduceLeDiff, List.length_map]
      rw [done (by rw [hbad, h3])]
     ·simp only [hw, go_sem, Nat.reduceEqDiff, Nat.reduceAdd, Nat.reduceLeDiff, List.length_map]
      refine next _ (by rw [hbad, h3]) ?_
      simp only [setC, go_sem, Nat.reduceEqDiff, Nat.reduceAdd, Nat.reduceLeDiff, List.length_map]
    ·have hz : i = 0 := by omega
     subst hz
     have e0 : decide (((0 : Nat) : Int) > 0) = false := rfl
     simp only [h1, setC, e0, hw, go_sem, Nat.reduceEqDiff, Nat.reduceAdd, Nat.reduceLeDiff, List.length_map]
     refine next _ (by rw [hbad]; rfl) ?_
     simp only [setC, go_sem, Nat.reduceEqDiff, Nat.reduceAdd, Nat.reduceLeDiff, List.length_map]
  ·have hge : ¬ i < s.strs.length := by simpa using h
   have hall2 : okS s.strs = true := allT fun j hj => hg j (by omega)
   simp only [setC, go_sem, Nat.reduceEqDiff, Nat.reduceAdd, Nat.reduceLeDiff, List.length_map]
   simp [rightM, hall, hall2]
end Go.Proofs

namespace Go.Proofs
open Go.Vm
set_option linter.unusedSimpArgs false
end Go.Proofs

namespace Go.Proofs
open Go.Vm
set_option linter.unusedSimpArgs false
def candB (out : List Rg) (r : Rg) : Bool := !decide (r.1 > r.2) && !(match out.getLast? with | none => false | some q => decide (r.2 ≤ q.2))
def Best (l out : List Rg) (i : Nat) (best : Int) : Prop :=
 (best = -1 ∧ ∀ (j : Nat) (r : Rg), j < i → l[j]? = some r → candB out r = false) ∨
 ∃ (k : Nat) (q : Rg), best = k ∧ k < i ∧ l[k]? = some q ∧ candB out q = true ∧ ∀ (j : Nat) (r : Rg), j < i → l[j]? = some r → candB out r = true → q.1 < r.1 ∨ q.1 = r.1 ∧ r.2 ≤ q.2
theorem Best.keep {l out : List Rg} {i k : Nat} {r q : Rg} (h : Best l out i k) (hk : l[k]? = some q) (hr : l[i]? = some r) (hb : ¬ (r.1 < q.1 ∨ r.1 = q.1 ∧ r.2 > q.2)) : Best l out (i + 1) k := by
 rcases h with ⟨h1, h2⟩ | ⟨k', q', h1, h2, h3, h4, h5⟩
 ·omega
 ·have : k' = k := by omega
  subst this
  rw [hk] at h3; injection h3 with h3; subst h3
  refine .inr ⟨k', q, rfl, by omega, hk, h4, fun j r' hj hr' hc' => ?_⟩
  by_cases hji : j = i
  ·subst hji; rw [hr] at hr'; injection hr' with hr'; subst hr'; omega
  ·exact h5 j r' (by omega) hr' hc'
end Go.Proofs
