/- A part of the proof; what is proved stands in the last text. -/
import Derived.Test.YtaoppmjidjdgdaaGreatT20
import Derived.Test.YtaoppmjidjdgdaaGreatTM
set_option linter.unusedVariables false
set_option maxRecDepth 2000
namespace Go.Proofs
open Go.Vm
set_option linter.unusedSimpArgs false
theorem kCloneSF (es : List (List D)) (h2 : ∀ e ∈ es, e.length = 1) (hl : es.length ≤ 1000000) : FreshAt Tryz.prog 93 [.sl none es] 9 1 (· = es) := by
 refine fresh_of r93 (by kernel_rfl) ?_
 unfold m93
 simp only [go_sem, Nat.reduceEqDiff, Nat.reduceAdd, Nat.reduceLeDiff, List.length_map]
 intro b hb
 refine condE_split (fun h => ?_) (fun h => ?_)
 ·simp only [go_sem, Nat.reduceEqDiff, Nat.reduceAdd, Nat.reduceLeDiff, List.length_map]
  simp_all
 ·simp only [List.length_append, List.nil_append, go_sem, Nat.reduceEqDiff, Nat.reduceAdd, Nat.reduceLeDiff, List.length_map]
  simp only [Nat.zero_add]
  refine ⟨h2, by omega, by omega⟩
def pickM (a b : List ByteArray) (inn : Bool) : List ByteArray := a.filter fun s => (b.any fun x => decide (s = x)) == inn
def joinM (a b : List ByteArray) : List ByteArray := compactS (sortS (a ++ b))
def invPick (a b : List ByteArray) (inn : Bool) (S : St) (n : Nat) : Prop := ∃ i : Nat, i ≤ a.length ∧ n = a.length - i ∧
 S.trim [1, 2, 6, 9, 10, 11] [] [(6, 9, 1)] = ⟨[(1, .sl none (b.map encSt)), (2, .val (.bool inn)), (6, .sl (some (6, 9, 1)) ((pickM (a.take i) b inn).map encSt)), (9, .sl none (a.map encSt)), (10, .val (.int .i64 a.length)), (11, .val (.int .i64 i))], [], [((6, 9, 1), true)]⟩
theorem kpick (a b : List ByteArray) (ha : a.length ≤ 1000000) (hb : b.length ≤ 1000000) (inn : Bool) : PureAt Tryz.prog 87 [.sl none (a.map encSt), .sl none (b.map encSt), .val (.bool inn)] (· = .sl none ((pickM a b inn).map encSt)) := by
 refine pure_of r87 (by kernel_rfl) ?_
 unfold m87
 simp only [go_sem, Nat.reduceEqDiff, Nat.reduceAdd, Nat.reduceLeDiff, List.length_map]
 refine ev_loop_by (invPick a b inn) a.length ⟨0, by simp, by simp, by simp only [go_sem, Nat.reduceEqDiff, Nat.reduceAdd, Nat.reduceLeDiff, List.length_map]; rfl⟩ ?_
 rintro n S ⟨i, hi, hn, hS⟩
 rw [ev_trim, hS]
 subst hn
 clear hS S
 simp only [go_sem, Nat.reduceEqDiff, Nat.reduceAdd, Nat.reduceLeDiff, List.length_map]
 refine condE_split (fun h => ?_) (fun h => ?_)
 ·have hi' : i < a.length := by simpa using h
  have hget : (a.map encSt)[i]? = some [.val (.string a[i])] := by simp [encSt, hi']
  have h0 : (0 ≤ (i : Int)) = True := by simp
  have hw : IntKind.i64.wrap ((i : Int) + 1) = ((i + 1 : Nat) : Int) := by rw [wrap64 (by omega) (by omega)]; rfl
  have htake : pickM (a.take (i + 1)) b inn = pickM (a.take i) b inn ++ if ((b.any fun x => decide (a[i] = x)) == inn) = true then [a[i]] else [] := by
   rw [List.take_succ_eq_append_getElem hi']
   simp only [pickM, List.filter_append, List.filter_cons, List.filter_nil]
  have hlen : (pickM (a.take i) b inn).length ≤ i := by
   have := List.length_filter_le (fun s => (b.any fun x => decide (s = x)) == inn) (a.take i)
   simp only [pickM, List.length_take] at this ⊢; omega
  simp only [h0, Int.toNat_natCast, hget, go_sem, Nat.reduceEqDiff, Nat.reduceAdd, Nat.reduceLeDiff, List.length_map]
  refine callP_eq rfl rfl (kContainsS b hb a[i]) ?_
  simp only [go_sem, Nat.reduceEqDiff, Nat.reduceAdd, Nat.reduceLeDiff, List.length_map]
  refine condE_split (fun h1 => ?_) (fun h1 => ?_)
  ·simp only [hw, go_sem, Nat.reduceEqDiff, Nat.reduceAdd, Nat.reduceLeDiff, List.length_map]
   refine ⟨?_, ?_, ?_, ?_, a.length - (i + 1), by omega, i + 1, by omega, rfl, ?_⟩
   ·intro e he; obtain ⟨r, _, rfl⟩ := List.mem_map.1 he; rfl
   ·simp
   ·omega
   ·omega
   ·rw [htake, if_pos h1]
    simp only [go_sem, Nat.reduceEqDiff, Nat.reduceAdd, Nat.reduceLeDiff, List.length_map]
    simp [encSt]
  ·simp only [hw, go_sem, Nat.reduceEqDiff, Nat.reduceAdd, Nat.reduceLeDiff, List.length_map]
   refine ⟨a.length - (i + 1), by omega, i + 1, by omega, rfl, ?_⟩
   rw [htake, if_neg (by rw [h1]; simp), List.append_nil]
   simp only [go_sem, Nat.reduceEqDiff, Nat.reduceAdd, Nat.reduceLeDiff, List.length_map]
 ·have hge : ¬ i < a.length := by simpa using h
  simp only [go_sem, Nat.reduceEqDiff, Nat.reduceAdd, Nat.reduceLeDiff, List.length_map]
  rw [List.take_of_length_le (by omega)]
theorem kjoin (a b : List ByteArray) (ha : a.length ≤ 1000) (hb : b.length ≤ 1000) : PureAt Tryz.prog 88 [.sl none (a.map encSt), .sl none (b.map encSt)] (· = .sl none ((joinM a b).map encSt)) := by
 refine pure_of r88 (by kernel_rfl) ?_
 unfold m88
 simp only [go_sem, Nat.reduceEqDiff, Nat.reduceAdd, Nat.reduceLeDiff, List.length_map]
 have hm : ∀ (l : List ByteArray), ∀ e ∈ l.map encSt, e.length = 1 := fun l e he => by obtain ⟨r, _, rfl⟩ := List.mem_map.1 he; rfl
 refine callF_by rfl rfl (kCloneSF (a.map encSt) (hm a) (by simp; omega)) ?_
 rintro es rfl
 simp only [go_sem, Nat.reduceEqDiff, Nat.reduceAdd, Nat.reduceLeDiff, List.length_map]
 refine ⟨hm a, hm b, by omega, by omega, ?_⟩
 have hs := kSortS (a ++ b) (by simp; omega)
 rw [List.map_append] at hs
 refine callT_by rfl rfl rfl hs ?_
 rintro es' r ⟨rfl, rfl⟩
 simp only [go_sem, Nat.reduceEqDiff, Nat.reduceAdd, Nat.reduceLeDiff, List.length_map]
 refine callK_by rfl rfl rfl (kCompactS (sortS (a ++ b)) (by rw [sortS_len]; simp; omega)) ?_
 rintro es' r rfl
 simp only [go_sem, Nat.reduceEqDiff, Nat.reduceAdd, Nat.reduceLeDiff, List.length_map]
 rfl
def orM (norm : List Rg → List Rg) (a b : SetM) : SetM := ⟨a.absent || b.absent, norm (a.ints ++ b.ints), a.co || b.co,
 if a.co then (if b.co then pickM a.strs b.strs true else pickM a.strs b.strs false) else if b.co then pickM b.strs a.strs false else joinM a.strs b.strs⟩
set_option maxHeartbeats 2000000 in
theorem kOr (a b : SetM) (ha : a.ints.length ≤ 1000) (hb : b.ints.length ≤ 1000) (hs : a.strs.length ≤ 1000) (ht : b.strs.length ≤ 1000) : PureAt Tryz.prog 81 [.agg (setC a), .agg (setC b)] (· = .agg (setC (orM normR a b))) := by
 obtain ⟨aa, ai, ac, sa⟩ := a
 obtain ⟨ba, bi, bc, sb⟩ := b
 simp only at ha hb hs ht
 refine pure_of r81 (by kernel_rfl) ?_
 unfold m81 setC
 have hm : ∀ (l : List Rg), ∀ e ∈ l.map encR, e.length = 2 := fun l e he => by obtain ⟨r, _, rfl⟩ := List.mem_map.1 he; rfl
 have hR := kRanges' (ai ++ bi) (by simp; omega)
 rw [show (sortRg (ai ++ bi)).foldl merge1 [] = normR (ai ++ bi) from rfl, List.map_append] at hR
 have p1 := kpick sa sb (by omega) (by omega) true
 have p2 := kpick sa sb (by omega) (by omega) false
 have p3 := kpick sb sa (by omega) (by omega) false
 have p4 := kjoin sa sb (by omega) (by omega)
 cases aa <;> cases ba <;> cases ac <;> cases bc
 all_goals
  simp only [go_sem, Nat.reduceEqDiff, Nat.reduceAdd, Nat.reduceLeDiff, List.length_map]
  refine callF_by rfl rfl (kCloneR (ai.map encR) (hm ai) (by simp; omega)) ?_
  rintro es rfl
  simp only [go_sem, Nat.reduceEqDiff, Nat.reduceAdd, Nat.reduceLeDiff, List.length_map]
  refine ⟨hm ai, hm bi, by omega, by omega, ?_⟩
  refine callP_eq rfl rfl hR ?_
  simp only [go_sem, Nat.reduceEqDiff, Nat.reduceAdd, Nat.reduceLeDiff, List.length_map]
  first
   | (refine callP_eq rfl rfl p4 ?_; simp only [go_sem, Nat.reduceEqDiff, Nat.reduceAdd, Nat.reduceLeDiff, List.length_map]; rfl)
   | (refine callP_eq rfl rfl p3 ?_; simp only [go_sem, Nat.reduceEqDiff, Nat.reduceAdd, Nat.reduceLeDiff, List.length_map]; rfl)
   | (refine callP_eq rfl rfl p2 ?_; simp only [go_sem, Nat.reduceEqDiff, Nat.reduceAdd, Nat.reduceLeDiff, List.length_map]; rfl)
   | (refine callP_eq rfl rfl p1 ?_; simp only [go_sem, Nat.reduceEqDiff, Nat.reduceAdd, Nat.reduceLeDiff, List.length_map]; rfl)
end Go.Proofs

namespace Go.Proofs
open Go.Vm
set_option linter.unusedSimpArgs false
theorem orM_ints (a b : SetM) : (orM normR a b).ints.length ≤ a.ints.length + b.ints.length := by
 have h1 := normR_len (a.ints ++ b.ints)
 simpa [orM] using h1
theorem pickM_len (a b : List ByteArray) (inn : Bool) : (pickM a b inn).length ≤ a.length := List.length_filter_le _ _
theorem joinM_len (a b : List ByteArray) : (joinM a b).length ≤ a.length + b.length := by
 have h1 := List.length_filter_le (Lib.keeps ((sortS (a ++ b)).map bl).toArray) (List.range ((sortS (a ++ b)).map bl).length)
 have h2 := sortS_len (a ++ b)
 simp [Lib.compact, Lib.compactUpTo, joinM, compactS] at h1 h2 ⊢
 omega
theorem orM_strs (a b : SetM) : (orM normR a b).strs.length ≤ a.strs.length + b.strs.length := by
 have h1 := pickM_len a.strs b.strs true
 have h2 := pickM_len a.strs b.strs false
 have h3 := pickM_len b.strs a.strs false
 have h4 := joinM_len a.strs b.strs
 simp only [orM]
 split <;> split <;> omega
def inM (a b : SetM) : Bool := sameM (orM normR a b) b
theorem kIn (a b : SetM) (ha : a.ints.length ≤ 900) (hb : b.ints.length ≤ 900) (hs : a.strs.length ≤ 900) (ht : b.strs.length ≤ 900) : PureAt Tryz.prog 76 [.agg (setC a), .agg (setC b)] (· = .val (.bool (inM a b))) := by
 have n3 := orM_ints a b
 have n4 := orM_strs a b
 have p1 := kOr a b (by omega) (by omega) (by omega) (by omega)
 have p2 := kSame (orM normR a b) b (by omega) (by omega)
 clear n3 n4
 simp only [inM]
 generalize orM normR a b = o at *
 obtain ⟨aa, ai, ac, sa⟩ := a
 obtain ⟨ba, bi, bc, sb⟩ := b
 refine pure_of r76 (by kernel_rfl) ?_
 unfold m76
 simp only [setC, go_sem, Nat.reduceEqDiff, Nat.reduceAdd, Nat.reduceLeDiff, List.length_map]
 refine callQ_by _ rfl rfl p1 ?_
 simp only [go_sem, Nat.reduceEqDiff, Nat.reduceAdd, Nat.reduceLeDiff, List.length_map]
 refine callQ_by _ (fs := [.agg (setC o), .agg (setC ⟨ba, bi, bc, sb⟩)]) rfl rfl p2 ?_
 simp only [go_sem, Nat.reduceEqDiff, Nat.reduceAdd, Nat.reduceLeDiff, List.length_map]
def invIn (xs : List (List D)) (f : D) (N : Nat) (q : Nat → Prop) (S : St) (n : Nat) : Prop := ∃ i : Nat, i ≤ N ∧ n = N - i ∧ (∀ j, j < i → q j) ∧
 S.trim [0, 1, 5] [] [] = ⟨[(0, .sl none xs), (1, f), (5, .val (.int .i64 i))], [], []⟩
theorem invIn_next {xs : List (List D)} {f : D} {q : Nat → Prop} {i m : Nat} {S : St} (hi : i < m) (h : ∀ j, j < i → q j) (hq : q i) (hS : S.trim [0, 1, 5] [] [] = ⟨[(0, .sl none xs), (1, f), (5, .val (.int .i64 (i + 1 : Nat)))], [], []⟩) :
    ∃ k, k < m - i ∧ invIn xs f m q S k := ⟨m - (i + 1), by omega, i + 1, by omega, rfl, fun j hj => by
     by_cases e : j = i
     ·subst e; exact hq
     ·exact h j (by omega), hS⟩
theorem any_none {α : Type} {p : α → Bool} {xs : List α} (h : ∀ j, j < xs.length → ∀ h : j < xs.length, p xs[j] = false) : xs.any p = false := by
 rw [List.any_eq_false]
 intro x hx
 obtain ⟨j, hj, rfl⟩ := List.getElem_of_mem hx
 simp [h j hj hj]
theorem kInStrs (xs : List ByteArray) (hx : xs.length ≤ 1000000) (s : ByteArray) : PureAt Tryz.prog 59 [.sl none (xs.map encSt), .val (.string s)] (· = .val (.bool (xs.any fun x => decide (s = x)))) := by
 refine pure_of r59 (by kernel_rfl) ?_
 unfold m59
 simp only [go_sem, Nat.reduceEqDiff, Nat.reduceAdd, Nat.reduceLeDiff, List.length_map]
 refine ev_loop_by (invIn (xs.map encSt) (.val (.string s)) xs.length (fun j => ∀ h : j < xs.length, decide (s = xs[j]) = false)) xs.length ⟨0, by simp, by simp, by simp, by simp only [go_sem, Nat.reduceEqDiff, Nat.reduceAdd, Nat.reduceLeDiff, List.length_map]; rfl⟩ ?_
 rintro n S ⟨i, hi, hn, hq, hS⟩
 rw [ev_trim, hS]
 subst hn
 clear hS S
 simp only [go_sem, Nat.reduceEqDiff, Nat.reduceAdd, Nat.reduceLeDiff, List.length_map]
 refine condE_split (fun h => ?_) (fun h => ?_)
 ·have hi' : i < xs.length := by simpa using h
  have hget : (xs.map encSt)[i]? = some [.val (.string xs[i])] := by simp [encSt, hi']
  have h0 : (0 ≤ (i : Int)) = True := by simp
  have hw : IntKind.i64.wrap ((i : Int) + 1) = ((i + 1 : Nat) : Int) := by rw [wrap64 (by omega) (by omega)]; rfl
  simp only [h0, Int.toNat_natCast, hget, beqS, go_sem, Nat.reduceEqDiff, Nat.reduceAdd, Nat.reduceLeDiff, List.length_map]
  refine condE_split (fun h2 => ?_) (fun h2 => ?_)
  ·simp only [go_sem, Nat.reduceEqDiff, Nat.reduceAdd, Nat.reduceLeDiff, List.length_map]
   have ha : (xs.any fun x => decide (s = x)) = true := List.any_eq_true.2 ⟨xs[i], by simp, by simp at h2; simp [h2]⟩
   rw [ha]
  ·simp only [hw, go_sem, Nat.reduceEqDiff, Nat.reduceAdd, Nat.reduceLeDiff, List.length_map]
   exact invIn_next hi' hq (fun _ => by simp at h2 ⊢; exact fun e => h2 e.symm) (by simp only [go_sem, Nat.reduceEqDiff, Nat.reduceAdd, Nat.reduceLeDiff, List.length_map])
 ·simp only [go_sem, Nat.reduceEqDiff, Nat.reduceAdd, Nat.reduceLeDiff, List.length_map]
  have hl : ¬ i < xs.length := by simpa using h
  rw [any_none fun j hj => hq j (by omega)]
def inI (rs : List Rg) (n : Int) : Bool := rs.any fun r => decide (r.1 ≤ n) && decide (n ≤ r.2)
theorem kInInts (xs : List Rg) (hx : xs.length ≤ 1000000) (m : Int) : PureAt Tryz.prog 58 [.sl none (xs.map encR), .val (.int .i64 m)] (· = .val (.bool (inI xs m))) := by
 refine pure_of r58 (by kernel_rfl) ?_
 unfold m58
 simp only [go_sem, Nat.reduceEqDiff, Nat.reduceAdd, Nat.reduceLeDiff, List.length_map]
 refine ev_loop_by (invIn (xs.map encR) (.val (.int .i64 m)) xs.length (fun j => ∀ h : j < xs.length, (decide (xs[j].1 ≤ m) && decide (m ≤ xs[j].2)) = false)) xs.length ⟨0, by simp, by simp, by simp, by simp only [go_sem, Nat.reduceEqDiff, Nat.reduceAdd, Nat.reduceLeDiff, List.length_map]; rfl⟩ ?_
 rintro n S ⟨i, hi, hn, hq, hS⟩
 rw [ev_trim, hS]
 subst hn
 clear hS S
 simp only [go_sem, Nat.reduceEqDiff, Nat.reduceAdd, Nat.reduceLeDiff, List.length_map]
 refine condE_split (fun h => ?_) (fun h => ?_)
 ·have hi' : i < xs.length := by simpa using h
  have hget : (xs.map encR)[i]? = some [.val (.int .i64 xs[i].1), .val (.int .i64 xs[i].2)] := by simp [encR, hi']
  have h0 : (0 ≤ (i : Int)) = True := by simp
  have hw : IntKind.i64.wrap ((i : Int) + 1) = ((i + 1 : Nat) : Int) := by rw [wrap64 (by omega) (by omega)]; rfl
  simp only [h0, Int.toNat_natCast, hget, go_sem, Nat.reduceEqDiff, Nat.reduceAdd, Nat.reduceLeDiff, List.length_map]
  refine wantE_split (fun h1 => ?_) (fun h1 => ?_)
  ·simp only [h1, h0, Int.toNat_natCast, hget, go_sem, Nat.reduceEqDiff, Nat.reduceAdd, Nat.reduceLeDiff, List.length_map]
   refine condE_split (fun h2 => ?_) (fun h2 => ?_)
   ·simp only [go_sem, Nat.reduceEqDiff, Nat.reduceAdd, Nat.reduceLeDiff, List.length_map]
    have ha : inI xs m = true := List.any_eq_true.2 ⟨xs[i], by simp, by simp at h1 h2; simp [h1, h2]⟩
    rw [ha]
   ·simp only [hw, go_sem, Nat.reduceEqDiff, Nat.reduceAdd, Nat.reduceLeDiff, List.length_map]
    exact invIn_next hi' hq (fun _ => by simp at h1 h2 ⊢; intro; omega) (by simp only [go_sem, Nat.reduceEqDiff, Nat.reduceAdd, Nat.reduceLeDiff, List.length_map])
  ·simp only [h1, hw, go_sem, Nat.reduceEqDiff, Nat.reduceAdd, Nat.reduceLeDiff, List.length_map]
   exact invIn_next hi' hq (fun _ => by simp at h1 ⊢; intro; omega) (by simp only [go_sem, Nat.reduceEqDiff, Nat.reduceAdd, Nat.reduceLeDiff, List.length_map])
 ·simp only [go_sem, Nat.reduceEqDiff, Nat.reduceAdd, Nat.reduceLeDiff, List.length_map]
  have hl : ¬ i < xs.length := by simpa using h
  rw [inI, any_none fun j hj => hq j (by omega)]
theorem kref1Right (v : ValM) : PureAt Tryz.prog 57 [.agg (valC v)] (· = .val (.bool (rightV v))) := by
 obtain ⟨kd, n, s⟩ := v
 refine pure_of r57 (by kernel_rfl) ?_
 unfold m57 valC
 simp only [go_sem, Nat.reduceEqDiff, Nat.reduceAdd, Nat.reduceLeDiff, List.length_map]
 repeat' (first
  | (refine wantE_split (fun h => ?_) (fun h => ?_) <;> simp only [h, go_sem, Nat.reduceEqDiff, Nat.reduceAdd, Nat.reduceLeDiff, List.length_map])
  | (refine wantQ_split (fun h => ?_) (fun h => ?_) <;> simp only [h, go_sem, Nat.reduceEqDiff, Nat.reduceAdd, Nat.reduceLeDiff, List.length_map])
  | (refine condE_split (fun h => ?_) (fun h => ?_) <;> simp only [h, go_sem, Nat.reduceEqDiff, Nat.reduceAdd, Nat.reduceLeDiff, List.length_map]))
 all_goals simp_all [rightV]
theorem krefHas3 (s : SetM) (hi : s.ints.length ≤ 1000000) (hs : s.strs.length ≤ 1000000) (v : ValM) : PureAt Tryz.prog 43 [.agg (setC s), .agg (valC v)] (· = .val (.bool (hasM s v))) := by
 have p1 := kref1Right v
 have p2 := kInInts s.ints hi v.n
 have p3 := kInStrs s.strs hs v.s
 obtain ⟨sa, si, sc, ss⟩ := s
 obtain ⟨kd, n, st⟩ := v
 refine pure_of r43 (by kernel_rfl) ?_
 unfold m43
 simp only [setC, valC, go_sem, Nat.reduceEqDiff, Nat.reduceAdd, Nat.reduceLeDiff, List.length_map]
 refine callP_eq rfl rfl p1 ?_
 simp only [go_sem, Nat.reduceEqDiff, Nat.reduceAdd, Nat.reduceLeDiff, List.length_map]
 refine condE_split (fun h1 => ?_) (fun h1 => ?_)
 ·simp only [go_sem, Nat.reduceEqDiff, Nat.reduceAdd, Nat.reduceLeDiff, List.length_map]
  have : rightV ⟨kd, n, st⟩ = false := by simpa using h1
  simp [hasM, this]
 ·have hr : rightV ⟨kd, n, st⟩ = true := by simpa using h1
  simp only [go_sem, Nat.reduceEqDiff, Nat.reduceAdd, Nat.reduceLeDiff, List.length_map]
  refine condE_split (fun h2 => ?_) (fun h2 => ?_)
  ·have h2 : kd = 0 := by simpa using h2
   subst h2
   simp only [go_sem, Nat.reduceEqDiff, Nat.reduceAdd, Nat.reduceLeDiff, List.length_map]
   simp [hasM, hr]
  ·have h2 : kd ≠ 0 := by simpa using h2
   simp only [go_sem, Nat.reduceEqDiff, Nat.reduceAdd, Nat.reduceLeDiff, List.length_map]
   refine condE_split (fun h3 => ?_) (fun h3 => ?_)
   ·have h3 : kd = 1 := by simpa using h3
    subst h3
    simp only [go_sem, Nat.reduceEqDiff, Nat.reduceAdd, Nat.reduceLeDiff, List.length_map]
    refine callP_eq rfl rfl p2 ?_
    simp only [go_sem, Nat.reduceEqDiff, Nat.reduceAdd, Nat.reduceLeDiff, List.length_map]
    simp [hasM, hr, inI]
   ·have h3 : kd ≠ 1 := by simpa using h3
    have h4 : kd = 2 := by
     simp only [rightV, if_neg h2, if_neg h3] at hr
     split at hr
     ·assumption
     ·cases hr
    subst h4
    simp only [go_sem, Nat.reduceEqDiff, Nat.reduceAdd, Nat.reduceLeDiff, List.length_map]
    refine callQ_by _ rfl rfl p3 ?_
    simp only [go_sem, Nat.reduceEqDiff, Nat.reduceAdd, Nat.reduceLeDiff, List.length_map]
    simp [hasM, hr]
    cases (ss.any fun x => decide (st = x)) <;> cases sc <;> rfl
end Go.Proofs

namespace Go.Proofs
open Go.Vm
set_option linter.unusedSimpArgs false
def FewOf (b : Bool) (l : List SetM) : Prop := b = true → ∀ s ∈ l, s.ints.length ≤ 40 ∧ s.strs.length ≤ 40
def few1 (s : SetM) : Bool := decide (s.ints.length ≤ 40) && decide (s.strs.length ≤ 40) && s.strs.all fun t => decide (t.size ≤ 100)
def fewM (l : List SetM) : Bool := l.all few1
theorem fewM_of {l : List SetM} : FewOf (fewM l) l := fun h s hs => by
 have := List.all_eq_true.1 h s hs
 simp [few1] at this
 omega
def inv12a (l : List SetM) (S : St) (n : Nat) : Prop := ∃ i : Nat, i ≤ l.length ∧ n = l.length - i ∧ (∀ j, j < i → ∀ h : j < l.length, few1 l[j] = true) ∧
 S.trim [0, 3] [] [] = ⟨[(0, .sl none (l.map setC)), (3, .val (.int .i64 i))], [], []⟩
def inv12b (l : List SetM) (ss : List ByteArray) (i N : Nat) (S : St) (n : Nat) : Prop := ∃ k : Nat, k ≤ N ∧ n = N - k ∧ (∀ j, j < k → ∀ h : j < ss.length, ss[j].size ≤ 100) ∧
 S.trim [0, 3, 4] [] [] = ⟨[(0, .sl none (l.map setC)), (3, .val (.int .i64 i)), (4, .val (.int .i64 k))], [], []⟩
theorem fewM_f {l : List SetM} {i : Nat} (hi : i < l.length) (h : few1 l[i] = false) : fewM l = false := by
 cases hf : fewM l
 ·rfl
 ·rw [List.all_eq_true.1 hf l[i] (by simp)] at h; cases h
theorem krefFew3x (l : List SetM) (hl : l.length ≤ 1000000) : PureAt Tryz.prog 52 [.sl none (l.map setC)] (· = .val (.bool (fewM l))) := by
 refine pure_of r52 (by kernel_rfl) ?_
 unfold m52
 simp only [go_sem, Nat.reduceEqDiff, Nat.reduceAdd, Nat.reduceLeDiff, List.length_map]
 refine ev_loop_by (inv12a l) l.length ⟨0, by simp, by simp, by simp, by simp only [go_sem, Nat.reduceEqDiff, Nat.reduceAdd, Nat.reduceLeDiff, List.length_map]; rfl⟩ ?_
 rintro n S ⟨i, hi, hn, hq, hS⟩
 rw [ev_trim, hS]
 subst hn
 clear hS S
 simp only [go_sem, Nat.reduceEqDiff, Nat.reduceAdd, Nat.reduceLeDiff, List.length_map]
 refine condE_split (fun h => ?_) (fun h => ?_)
 ·have hi' : i < l.length := by simpa using h
  have hget : (l.map setC)[i]? = some [.val (.bool l[i].absent), .sl none (l[i].ints.map encR), .val (.bool l[i].co), .sl none (l[i].strs.map encSt)] := by simp [setC, hi']
  have h0 : (0 ≤ (i : Int)) = True := by simp
  have hw : IntKind.i64.wrap ((i : Int) + 1) = ((i + 1 : Nat) : Int) := by rw [wrap64 (by omega) (by omega)]; rfl
  simp only [h0, Int.toNat_natCast, hget, go_sem, Nat.reduceEqDiff, Nat.reduceAdd, Nat.reduceLeDiff, List.length_map]
  first | refine condE_split (fun h1 => ?_) (fun h1 => ?_) | refine wantE_split (fun h1 => ?_) (fun h1 => ?_) | refine wantQ_split (fun h1 => ?_) (fun h1 => ?_)
  ·simp only [h1, h0, Int.toNat_natCast, hget, go_sem, Nat.reduceEqDiff, Nat.reduceAdd, Nat.reduceLeDiff, List.length_map]
   rw [fewM_f hi' (by simp at h1; simp [few1]; intros; omega)]
  ·simp only [h1, h0, Int.toNat_natCast, hget, go_sem, Nat.reduceEqDiff, Nat.reduceAdd, Nat.reduceLeDiff, List.length_map]
   refine condE_split (fun h2 => ?_) (fun h2 => ?_)
   ·simp only [go_sem, Nat.reduceEqDiff, Nat.reduceAdd, Nat.reduceLeDiff, List.length_map]
    rw [fewM_f hi' (by simp at h2; simp [few1]; intros; omega)]
   ·have hk : l[i].ints.length ≤ 40 ∧ l[i].strs.length ≤ 40 := by simp at h1 h2; omega
    simp only [go_sem, Nat.reduceEqDiff, Nat.reduceAdd, Nat.reduceLeDiff, List.length_map]
    refine ev_loop_by (inv12b l l[i].strs i l[i].strs.length) l[i].strs.length ⟨0, by simp, by simp, by simp, by simp only [go_sem, Nat.reduceEqDiff, Nat.reduceAdd, Nat.reduceLeDiff, List.length_map]; rfl⟩ ?_
    rintro n S ⟨k, hk', hn, hq', hS⟩
    rw [ev_trim, hS]
    subst hn
    clear hS S
    simp only [h0, Int.toNat_natCast, hget, go_sem, Nat.reduceEqDiff, Nat.reduceAdd, Nat.reduceLeDiff, List.length_map]
    refine condE_split (fun h3 => ?_) (fun h3 => ?_)
    ·have hk3 : k < l[i].strs.length := by simpa using h3
     have hget' : (l[i].strs.map encSt)[k]? = some [.val (.string l[i].strs[k])] := by simp [encSt, hk3]
     have k0 : (0 ≤ (k : Int)) = True := by simp
     have hw' : IntKind.i64.wrap ((k : Int) + 1) = ((k + 1 : Nat) : Int) := by rw [wrap64 (by omega) (by omega)]; rfl
     simp only [h0, k0, Int.toNat_natCast, hget, hget', go_sem, Nat.reduceEqDiff, Nat.reduceAdd, Nat.reduceLeDiff, List.length_map]
     refine condE_split (fun h4 => ?_) (fun h4 => ?_)
     ·simp only [go_sem, Nat.reduceEqDiff, Nat.reduceAdd, Nat.reduceLeDiff, List.length_map]
      have h4 : ¬ l[i].strs[k].size ≤ 100 := by simp at h4; omega
      have h5 : (l[i].strs.all fun t => decide (t.size ≤ 100)) = false := by
       rw [List.all_eq_false]
       exact ⟨l[i].strs[k], by simp, by simpa using h4⟩
      rw [fewM_f hi' (by simp only [few1, h5, Bool.and_false])]
     ·simp only [hw', go_sem, Nat.reduceEqDiff, Nat.reduceAdd, Nat.reduceLeDiff, List.length_map]
      refine ⟨l[i].strs.length - (k + 1), by omega, k + 1, by omega, rfl, fun j hj hjl => ?_, by simp only [go_sem, Nat.reduceEqDiff, Nat.reduceAdd, Nat.reduceLeDiff, List.length_map]⟩
      by_cases e : j = k
      ·subst e; simp at h4; omega
      ·exact hq' j (by omega) hjl
    ·simp only [hw, go_sem, Nat.reduceEqDiff, Nat.reduceAdd, Nat.reduceLeDiff, List.length_map]
     have h3 : ¬ k < l[i].strs.length := by simpa using h3
     have h5 : (l[i].strs.all fun t => decide (t.size ≤ 100)) = true := by
      rw [List.all_eq_true]
      intro t ht
      obtain ⟨j, hj, rfl⟩ := List.getElem_of_mem ht
      simpa using hq' j (by omega) hj
     refine ⟨l.length - (i + 1), by omega, i + 1, by omega, rfl, fun j hj hjl => ?_, by simp only [go_sem, Nat.reduceEqDiff, Nat.reduceAdd, Nat.reduceLeDiff, List.length_map]⟩
     by_cases e : j = i
     ·subst e; simp only [few1, h5, hk.1, hk.2, decide_true, Bool.and_self]
     ·exact hq j (by omega) hjl
 ·simp only [go_sem, Nat.reduceEqDiff, Nat.reduceAdd, Nat.reduceLeDiff, List.length_map]
  have hl : ¬ i < l.length := by simpa using h
  have : fewM l = true := List.all_eq_true.2 fun s hs => by
   obtain ⟨j, hj, rfl⟩ := List.getElem_of_mem hs
   exact hq j (by omega) hj
  rw [this]
theorem wrapU64 {n : Int} (h1 : 0 ≤ n) (h2 : n < 18446744073709551616) : IntKind.u64.wrap n = n := by
 have : IntKind.u64.wrap n = n % 18446744073709551616 := rfl
 rw [this]; omega
theorem wrapU8 {n : Int} (h1 : 0 ≤ n) (h2 : n < 256) : IntKind.u8.wrap n = n := by
 have : IntKind.u8.wrap n = n % 256 := rfl
 rw [this]; omega
theorem ten0 : ((10 : Int) = 0) = False := by simp
def digL (n : Nat) : List UInt8 := if h : n < 10 then [UInt8.ofNat (48 + n)] else digL (n / 10) ++ [UInt8.ofNat (48 + n % 10)]
termination_by n
theorem digL_lt {n : Nat} (h : n < 10) : digL n = [UInt8.ofNat (48 + n)] := by rw [digL, dif_pos h]
theorem digL_ge {n : Nat} (h : ¬ n < 10) : digL n = digL (n / 10) ++ [UInt8.ofNat (48 + n % 10)] := by conv => lhs; rw [digL, dif_neg h]
theorem digL_len (n : Nat) : ∀ k, 0 < k → n < 10 ^ k → (digL n).length ≤ k := by
 induction n using Nat.strongRecOn with
 | ind n ih =>
  intro k hk hn
  by_cases h : n < 10
  ·rw [digL_lt h]; simp; omega
  ·rw [digL_ge h]
   obtain ⟨k, rfl⟩ : ∃ k', k = k' + 1 := ⟨k - 1, by omega⟩
   have hk : 0 < k := by
    rcases Nat.eq_zero_or_pos k with rfl | h'
    ·simp at hn; omega
    ·exact h'
   have := ih (n / 10) (by omega) k hk (by rw [Nat.pow_succ] at hn; omega)
   simp; omega
theorem lb_size (l : List UInt8) : (lb l).size = l.length := by simp [lb, ByteArray.size]
theorem kdigits (n : Nat) (hn : n < 9223372036854775808) : PureAt Tryz.prog 96 [.val (.int .u64 n)] (· = .val (.string (lb (digL n)))) := by
 induction n using Nat.strongRecOn with
 | ind n ih =>
  refine pure_of r96 (by kernel_rfl) ?_
  unfold m96
  simp only [go_sem, Nat.reduceEqDiff, Nat.reduceAdd, Nat.reduceLeDiff, List.length_map]
  refine condE_split (fun h => ?_) (fun h => ?_)
  ·have hn10 : n < 10 := by simp at h; omega
   simp only [go_sem, Nat.reduceEqDiff, Nat.reduceAdd, Nat.reduceLeDiff, List.length_map]
   rw [wrapU64 (by omega) (by omega), wrapU8 (by omega) (by omega), digL_lt hn10]
   rfl
  ·have hn10 : ¬ n < 10 := by simp at h; omega
   have e1 : IntKind.u64.wrap ((n : Int).tdiv 10) = ((n / 10 : Nat) : Int) := by
    rw [wrapU64 (by rw [Int.tdiv_eq_ediv_of_nonneg (by omega)]; omega) (by rw [Int.tdiv_eq_ediv_of_nonneg (by omega)]; omega), Int.tdiv_eq_ediv_of_nonneg (by omega)]; rfl
   have e2 : (n : Int).tmod 10 = ((n % 10 : Nat) : Int) := by
    rw [Int.tmod_eq_emod_of_nonneg (by omega)]; rfl
   have e3 : IntKind.u8.wrap (IntKind.u64.wrap (48 + ((n % 10 : Nat) : Int))) = ((48 + n % 10 : Nat) : Int) := by
    rw [wrapU64 (by omega) (by omega), wrapU8 (by omega) (by omega)]; rfl
   have hsz : (lb (digL (n / 10))).size + #[((48 + n % 10 : Nat) : Int).toNat.toUInt8].size ≤ 9223372036854775807 := by
    have := digL_len (n / 10) 19 (by omega) (by omega)
    rw [lb_size]; simp; omega
   simp only [ten0, ↓reduceIte, e1, e2, e3, go_sem, Nat.reduceEqDiff, Nat.reduceAdd, Nat.reduceLeDiff, List.length_map]
   refine callQ_by _ rfl rfl (ih (n / 10) (by omega) (by omega)) ?_
   simp only [ten0, ↓reduceIte, e1, e2, e3, go_sem, Nat.reduceEqDiff, Nat.reduceAdd, Nat.reduceLeDiff, List.length_map]
   rw [if_pos hsz]
   simp only [go_sem, Nat.reduceEqDiff, Nat.reduceAdd, Nat.reduceLeDiff, List.length_map]
   rw [digL_ge hn10]
   rfl
theorem kDecimal (n : Nat) (hn : n < 1000000000) : PureAt Tryz.prog 89 [.val (.int .i64 n)] (· = .val (.string (lb (digL n)))) := by
 refine pure_of r89 (by kernel_rfl) ?_
 unfold m89
 simp only [go_sem, Nat.reduceEqDiff, Nat.reduceAdd, Nat.reduceLeDiff, List.length_map]
 refine condE_split (fun h => ?_) (fun h => ?_)
 ·simp at h; omega
 ·simp only [go_sem, Nat.reduceEqDiff, Nat.reduceAdd, Nat.reduceLeDiff, List.length_map]
  rw [wrapU64 (by omega) (by omega)]
  refine callP_eq rfl rfl (kdigits n (by omega)) ?_
  simp only [go_sem, Nat.reduceEqDiff, Nat.reduceAdd, Nat.reduceLeDiff, List.length_map]
def valL (l : List UInt8) : Nat := l.foldl (fun v b => 10 * v + (b.toNat - 48)) 0
theorem digL_val (n : Nat) : valL (digL n) = n := by
 induction n using Nat.strongRecOn with
 | ind n ih =>
  have h8 : ∀ k, k < 10 → (UInt8.ofNat (48 + k)).toNat - 48 = k := fun k hk => by
   rw [UInt8.toNat_ofNat']; omega
  by_cases h : n < 10
  ·rw [digL_lt h]
   have := h8 n h
   simp only [valL, List.foldl_cons, List.foldl_nil]; omega
  ·rw [digL_ge h]
   have := ih (n / 10) (by omega)
   unfold valL at this ⊢
   rw [List.foldl_append, this]
   simp only [List.foldl_cons, List.foldl_nil, h8 (n % 10) (by omega)]
   omega
theorem app_inj {s a b : ByteArray} (h : s ++ a = s ++ b) : a = b := by
 have := congrArg (fun x => x.data) h
 simp only [ByteArray.data_append] at this
 have t := congrArg Array.toList this
 rw [Array.toList_append, Array.toList_append] at t
 exact ByteArray.ext (Array.ext' (List.append_cancel_left t))
theorem dec_inj {s : ByteArray} {i j : Nat} (h : s ++ lb (digL i) = s ++ lb (digL j)) : i = j := by
 have h1 := congrArg bl (app_inj h)
 rw [bl_lb, bl_lb] at h1
 rw [← digL_val i, ← digL_val j, h1]
theorem pigeon {α : Type} [DecidableEq α] (f : Nat → α) (hf : ∀ i j, f i = f j → i = j) : ∀ (n : Nat) (L : List α), (∀ i, i < n → f i ∈ L) → n ≤ L.length
 | 0, L, _ => Nat.zero_le _
 | n + 1, L, h => by
  have h1 := h n (by omega)
  have := pigeon f hf n (L.erase (f n)) (fun i hi => (List.mem_erase_of_ne (fun e => by have := hf _ _ e; omega)).2 (h i (by omega)))
  rw [List.length_erase_of_mem h1] at this
  have : 0 < L.length := List.length_pos_of_mem h1
  omega
def inStrs (t : ByteArray) (x : SetM) : Bool := x.strs.any fun y => decide (t = y)
def inv45a (l : List SetM) (s : ByteArray) (S : St) (n : Nat) : Prop := ∃ i : Nat, i ≤ 100000 ∧ n = 100000 - i ∧ (∀ j, j < i → l.any (inStrs (s ++ lb (digL j))) = true) ∧
 S.trim [0, 1, 5] [] [] = ⟨[(0, .sl none (l.map setC)), (1, .val (.string s)), (5, .val (.int .i64 i))], [], []⟩
def inv45b (l : List SetM) (s t : ByteArray) (i : Nat) (S : St) (n : Nat) : Prop := ∃ k : Nat, k ≤ l.length ∧ n = l.length - k ∧
 S.trim [0, 1, 5, 6, 7, 8] [] [] = ⟨[(0, .sl none (l.map setC)), (1, .val (.string s)), (5, .val (.int .i64 i)), (6, .val (.string t)), (7, .val (.bool ((l.take k).any (inStrs t)))), (8, .val (.int .i64 k))], [], []⟩
theorem kFresh (l : List SetM) (hl : l.length ≤ 1000) (hs : ∀ x ∈ l, x.strs.length ≤ 1000000) (hn : (l.flatMap (·.strs)).length < 100000) (s : ByteArray) (hsz : s.size ≤ 1000) :
    PureAt Tryz.prog 82 [.sl none (l.map setC), .val (.string s)] (fun d => ∃ k, k < 100000 ∧ d = .val (.string (s ++ lb (digL k))) ∧ l.any (inStrs (s ++ lb (digL k))) = false) := by
 refine pure_of r82 (by kernel_rfl) ?_
 unfold m82
 simp only [go_sem, Nat.reduceEqDiff, Nat.reduceAdd, Nat.reduceLeDiff, List.length_map]
 refine ev_loop_by (inv45a l s) 100000 ⟨0, by simp, by simp, by simp, by simp only [go_sem, Nat.reduceEqDiff, Nat.reduceAdd, Nat.reduceLeDiff, List.length_map]; rfl⟩ ?_
 rintro n S ⟨i, hi, hn', hq, hS⟩
 rw [ev_trim, hS]
 subst hn'
 clear hS S
 simp only [go_sem, Nat.reduceEqDiff, Nat.reduceAdd, Nat.reduceLeDiff, List.length_map]
 refine condE_split (fun h => ?_) (fun h => ?_)
 ·have hi' : i < 100000 := by simp at h; omega
  have hw : IntKind.i64.wrap ((i : Int) + 1) = ((i + 1 : Nat) : Int) := by rw [wrap64 (by omega) (by omega)]; rfl
  simp only [go_sem, Nat.reduceEqDiff, Nat.reduceAdd, Nat.reduceLeDiff, List.length_map]
  refine callP_eq rfl rfl (kDecimal i (by omega)) ?_
  have hsz : s.size + (lb (digL i)).size ≤ 9223372036854775807 := by
   have := digL_len i 5 (by omega) (by omega)
   rw [lb_size]; omega
  simp only [go_sem, Nat.reduceEqDiff, Nat.reduceAdd, Nat.reduceLeDiff, List.length_map]
  rw [if_pos hsz]
  simp only [go_sem, Nat.reduceEqDiff, Nat.reduceAdd, Nat.reduceLeDiff, List.length_map]
  generalize ht : s ++ lb (digL i) = t
  refine ev_loop_by (inv45b l s t i) l.length ⟨0, by simp, by simp, by simp only [go_sem, Nat.reduceEqDiff, Nat.reduceAdd, Nat.reduceLeDiff, List.length_map]; rfl⟩ ?_
  rintro n S ⟨k, hk, hn', hS⟩
  rw [ev_trim, hS]
  subst hn'
  clear hS S
  simp only [go_sem, Nat.reduceEqDiff, Nat.reduceAdd, Nat.reduceLeDiff, List.length_map]
  refine condE_split (fun h1 => ?_) (fun h1 => ?_)
  ·have hk' : k < l.length := by simpa using h1
   have hget : (l.map setC)[k]? = some [.val (.bool l[k].absent), .sl none (l[k].ints.map encR), .val (.bool l[k].co), .sl none (l[k].strs.map encSt)] := by simp [setC, hk']
   have h0 : (0 ≤ (k : Int)) = True := by simp
   have hw' : IntKind.i64.wrap ((k : Int) + 1) = ((k + 1 : Nat) : Int) := by rw [wrap64 (by omega) (by omega)]; rfl
   have hany : (l.take (k + 1)).any (inStrs t) = ((l.take k).any (inStrs t) || inStrs t l[k]) := by
    rw [List.take_succ_eq_append_getElem hk', List.any_append]; simp only [List.any_cons, List.any_nil, Bool.or_false]
   simp only [go_sem, Nat.reduceEqDiff, Nat.reduceAdd, Nat.reduceLeDiff, List.length_map]
   first | refine condE_split (fun h2 => ?_) (fun h2 => ?_) | refine wantE_split (fun h2 => ?_) (fun h2 => ?_) | refine wantQ_split (fun h2 => ?_) (fun h2 => ?_)
   ·simp only [h2, hw', go_sem, Nat.reduceEqDiff, Nat.reduceAdd, Nat.reduceLeDiff, List.length_map]
    refine ⟨l.length - (k + 1), by omega, k + 1, by omega, rfl, ?_⟩
    rw [hany, h2]
    simp only [go_sem, Nat.reduceEqDiff, Nat.reduceAdd, Nat.reduceLeDiff, List.length_map]
    rfl
   ·simp only [h2, h0, Int.toNat_natCast, hget, go_sem, Nat.reduceEqDiff, Nat.reduceAdd, Nat.reduceLeDiff, List.length_map]
    refine callP_eq rfl rfl (kInStrs l[k].strs (hs _ (by simp)) t) ?_
    simp only [h2, hw', go_sem, Nat.reduceEqDiff, Nat.reduceAdd, Nat.reduceLeDiff, List.length_map]
    refine ⟨l.length - (k + 1), by omega, k + 1, by omega, rfl, ?_⟩
    rw [hany, h2]
    simp only [go_sem, Nat.reduceEqDiff, Nat.reduceAdd, Nat.reduceLeDiff, List.length_map]
    rfl
  ·have hkl : ¬ k < l.length := by simpa using h1
   rw [List.take_of_length_le (by omega)]
   simp only [go_sem, Nat.reduceEqDiff, Nat.reduceAdd, Nat.reduceLeDiff, List.length_map]
   refine condE_split (fun h2 => ?_) (fun h2 => ?_)
   ·simp only [go_sem, Nat.reduceEqDiff, Nat.reduceAdd, Nat.reduceLeDiff, List.length_map]
    exact ⟨i, hi', by rw [ht], by rw [ht]; simpa using h2⟩
   ·simp only [hw, go_sem, Nat.reduceEqDiff, Nat.reduceAdd, Nat.reduceLeDiff, List.length_map]
    refine ⟨100000 - (i + 1), by omega, i + 1, by omega, rfl, fun j hj => ?_, by simp only [go_sem, Nat.reduceEqDiff, Nat.reduceAdd, Nat.reduceLeDiff, List.length_map]⟩
    by_cases e : j = i
    ·subst e; rw [ht]; simpa using h2
    ·exact hq j (by omega)
 ·exfalso
  have hi' : i = 100000 := by simp at h; omega
  subst hi'
  have := pigeon (fun j => s ++ lb (digL j)) (fun i j h => dec_inj h) 100000 (l.flatMap (·.strs)) (fun j hj => by
   have := hq j hj
   obtain ⟨x, hx, h2⟩ := List.any_eq_true.1 this
   obtain ⟨y, hy, h3⟩ := List.any_eq_true.1 h2
   have h3 : s ++ lb (digL j) = y := by simpa using h3
   exact List.mem_flatMap.2 ⟨x, hx, by rw [h3]; exact hy⟩)
  omega
end Go.Proofs
