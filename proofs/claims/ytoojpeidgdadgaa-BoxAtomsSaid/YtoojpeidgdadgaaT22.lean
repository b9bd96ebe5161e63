/- A part of the proof; what is proved stands in the last text. -/
import Derived.Test.YtoojpeidgdadgaaT21
namespace Go.Proofs
open Go.Vm
set_option linter.unusedSimpArgs false

/-! ### sizes -/
theorem gapsGo_len : ∀ (rs : List Rg) (a : Int) (out : List Rg), (gapsGo rs a out).length ≤ out.length + rs.length + 1
  | [], a, out => by simp [gapsGo]
  | r :: rs, a, out => by
    have ih := gapsGo_len rs (IntKind.i64.wrap (r.2 + 1)) (if r.1 > a then out ++ [(a, IntKind.i64.wrap (r.1 - 1))] else out)
    simp only [gapsGo, List.length_cons]
    by_cases h : r.1 > a
    · simp only [if_pos h, List.length_append, List.length_cons, List.length_nil] at ih ⊢
      split
      · simp
      · omega
    · simp only [if_neg h] at ih ⊢
      split <;> omega
theorem notM_ints (s : SetM) : (notM normR s).ints.length ≤ s.ints.length + 1 := by
  have h1 := normR_len s.ints
  have h2 := gapsGo_len (normR s.ints) (-9223372036854775808) []
  simp only [notM, gapsM, List.length_nil] at h2 ⊢
  omega
theorem notM_strs (s : SetM) : (notM normR s).strs.length = s.strs.length := rfl
theorem orM_ints (a b : SetM) : (orM normR a b).ints.length ≤ a.ints.length + b.ints.length := by
  have h1 := normR_len (a.ints ++ b.ints)
  simpa [orM] using h1
theorem pickM_len (a b : List ByteArray) (inn : Bool) : (pickM a b inn).length ≤ a.length := List.length_filter_le _ _
theorem joinM_len (a b : List ByteArray) : (joinM a b).length ≤ a.length + b.length := by
  have h1 := List.length_filter_le (Lib.keeps ((sortS (a ++ b)).map bl).toArray) (List.range ((sortS (a ++ b)).map bl).length)
  have h2 := sortS_len (a ++ b)
  simp [Lib.compact, Lib.compactUpTo, joinM, compactS] at h1 h2 ⊢
  omega
theorem orM_strs (a b : SetM) : (orM normR a b).strs.length ≤ a.strs.length + b.strs.length := by
  have h1 := pickM_len a.strs b.strs true
  have h2 := pickM_len a.strs b.strs false
  have h3 := pickM_len b.strs a.strs false
  have h4 := joinM_len a.strs b.strs
  simp only [orM]
  split <;> split <;> omega

/-! ### set.And, set.In -/
def andM (norm : List Rg → List Rg) (a b : SetM) : SetM := notM norm (orM norm (notM norm a) (notM norm b))
theorem andM_ints (a b : SetM) : (andM normR a b).ints.length ≤ a.ints.length + b.ints.length + 3 := by
  have h1 := notM_ints (orM normR (notM normR a) (notM normR b))
  have h2 := orM_ints (notM normR a) (notM normR b)
  have h3 := notM_ints a
  have h4 := notM_ints b
  simp only [andM]
  omega
theorem andM_strs (a b : SetM) : (andM normR a b).strs.length ≤ a.strs.length + b.strs.length := orM_strs (notM normR a) (notM normR b)

theorem kAnd (a b : SetM) (ha : a.ints.length ≤ 900) (hb : b.ints.length ≤ 900) (hs : a.strs.length ≤ 900) (ht : b.strs.length ≤ 900) : PureAt Try.prog 16 [.agg (setC a), .agg (setC b)] (· = .agg (setC (andM normR a b))) := by
  have n1 := notM_ints a
  have n2 := notM_ints b
  have n3 := orM_ints (notM normR a) (notM normR b)
  have n4 := orM_strs (notM normR a) (notM normR b)
  have e1 := notM_strs a
  have e2 := notM_strs b
  have p1 := kNot' a (by omega) (by omega)
  have p2 := kNot' b (by omega) (by omega)
  have p3 := kOr (notM normR a) (notM normR b) (by omega) (by omega) (by omega) (by omega)
  have p4 := kNot' (orM normR (notM normR a) (notM normR b)) (by omega) (by omega)
  clear n1 n2 n3 n4 e1 e2
  simp only [andM]
  generalize notM normR a = na at *
  generalize notM normR b = nb at *
  generalize orM normR na nb = o at *
  generalize notM normR o = r at *
  obtain ⟨aa, ai, ac, sa⟩ := a
  obtain ⟨ba, bi, bc, sb⟩ := b
  refine pure_of r16 (by kernel_rfl) ?_
  unfold m16
  simp only [setC, go_sem, Nat.reduceEqDiff, Nat.reduceAdd, Nat.reduceLeDiff, List.length_map]
  refine callQ_by _ rfl rfl p1 ?_
  simp only [go_sem, Nat.reduceEqDiff, Nat.reduceAdd, Nat.reduceLeDiff, List.length_map]
  refine callQ_by _ rfl rfl p2 ?_
  simp only [go_sem, Nat.reduceEqDiff, Nat.reduceAdd, Nat.reduceLeDiff, List.length_map]
  refine callQ_by _ (fs := [.agg (setC na), .agg (setC nb)]) rfl rfl p3 ?_
  simp only [go_sem, Nat.reduceEqDiff, Nat.reduceAdd, Nat.reduceLeDiff, List.length_map]
  refine callQ_by _ (fs := [.agg (setC o)]) rfl rfl p4 ?_
  simp only [setC, go_sem, Nat.reduceEqDiff, Nat.reduceAdd, Nat.reduceLeDiff, List.length_map]

def inM (a b : SetM) : Bool := sameM (orM normR a b) b
theorem kIn (a b : SetM) (ha : a.ints.length ≤ 900) (hb : b.ints.length ≤ 900) (hs : a.strs.length ≤ 900) (ht : b.strs.length ≤ 900) : PureAt Try.prog 23 [.agg (setC a), .agg (setC b)] (· = .val (.bool (inM a b))) := by
  have n3 := orM_ints a b
  have n4 := orM_strs a b
  have p1 := kOr a b (by omega) (by omega) (by omega) (by omega)
  have p2 := kSame (orM normR a b) b (by omega) (by omega)
  clear n3 n4
  simp only [inM]
  generalize orM normR a b = o at *
  obtain ⟨aa, ai, ac, sa⟩ := a
  obtain ⟨ba, bi, bc, sb⟩ := b
  refine pure_of r23 (by kernel_rfl) ?_
  unfold m23
  simp only [setC, go_sem, Nat.reduceEqDiff, Nat.reduceAdd, Nat.reduceLeDiff, List.length_map]
  refine callQ_by _ rfl rfl p1 ?_
  simp only [go_sem, Nat.reduceEqDiff, Nat.reduceAdd, Nat.reduceLeDiff, List.length_map]
  refine callQ_by _ (fs := [.agg (setC o), .agg (setC ⟨ba, bi, bc, sb⟩)]) rfl rfl p2 ?_
  simp only [go_sem, Nat.reduceEqDiff, Nat.reduceAdd, Nat.reduceLeDiff, List.length_map]

/-! ### arbourref03.InStrs, InInts -/
def invIn (xs : List (List D)) (f : D) (N : Nat) (q : Nat → Prop) (S : St) (n : Nat) : Prop := ∃ i : Nat, i ≤ N ∧ n = N - i ∧ (∀ j, j < i → q j) ∧
  S.trim [0, 1, 5] [] [] = ⟨[(0, .sl none xs), (1, f), (5, .val (.int .i64 i))], [], []⟩
theorem invIn_next {xs : List (List D)} {f : D} {q : Nat → Prop} {i m : Nat} {S : St} (hi : i < m) (h : ∀ j, j < i → q j) (hq : q i) (hS : S.trim [0, 1, 5] [] [] = ⟨[(0, .sl none xs), (1, f), (5, .val (.int .i64 (i + 1 : Nat)))], [], []⟩) :
    ∃ k, k < m - i ∧ invIn xs f m q S k := ⟨m - (i + 1), by omega, i + 1, by omega, rfl, fun j hj => by
      by_cases e : j = i
      · subst e; exact hq
      · exact h j (by omega), hS⟩
theorem any_none {α : Type} {p : α → Bool} {xs : List α} (h : ∀ j, j < xs.length → ∀ h : j < xs.length, p xs[j] = false) : xs.any p = false := by
  rw [List.any_eq_false]
  intro x hx
  obtain ⟨j, hj, rfl⟩ := List.getElem_of_mem hx
  simp [h j hj hj]

theorem kInStrs (xs : List ByteArray) (hx : xs.length ≤ 1000000) (s : ByteArray) : PureAt Try.prog 48 [.sl none (xs.map encSt), .val (.string s)] (· = .val (.bool (xs.any fun x => decide (s = x)))) := by
  refine pure_of r48 (by kernel_rfl) ?_
  unfold m48
  simp only [go_sem, Nat.reduceEqDiff, Nat.reduceAdd, Nat.reduceLeDiff, List.length_map]
  refine ev_loop_by (invIn (xs.map encSt) (.val (.string s)) xs.length (fun j => ∀ h : j < xs.length, decide (s = xs[j]) = false)) xs.length ⟨0, by simp, by simp, by simp, by simp only [go_sem, Nat.reduceEqDiff, Nat.reduceAdd, Nat.reduceLeDiff, List.length_map]; rfl⟩ ?_
  rintro n S ⟨i, hi, hn, hq, hS⟩
  rw [ev_trim, hS]
  subst hn
  clear hS S
  simp only [go_sem, Nat.reduceEqDiff, Nat.reduceAdd, Nat.reduceLeDiff, List.length_map]
  refine condE_split (fun h => ?_) (fun h => ?_)
  · have hi' : i < xs.length := by simpa using h
    have hget : (xs.map encSt)[i]? = some [.val (.string xs[i])] := by simp [encSt, hi']
    have h0 : (0 ≤ (i : Int)) = True := by simp
    have hw : IntKind.i64.wrap ((i : Int) + 1) = ((i + 1 : Nat) : Int) := by rw [wrap64 (by omega) (by omega)]; rfl
    simp only [h0, Int.toNat_natCast, hget, beqS, go_sem, Nat.reduceEqDiff, Nat.reduceAdd, Nat.reduceLeDiff, List.length_map]
    refine condE_split (fun h2 => ?_) (fun h2 => ?_)
    · simp only [go_sem, Nat.reduceEqDiff, Nat.reduceAdd, Nat.reduceLeDiff, List.length_map]
      have ha : (xs.any fun x => decide (s = x)) = true := List.any_eq_true.2 ⟨xs[i], by simp, by simp at h2; simp [h2]⟩
      rw [ha]
    · simp only [hw, go_sem, Nat.reduceEqDiff, Nat.reduceAdd, Nat.reduceLeDiff, List.length_map]
      exact invIn_next hi' hq (fun _ => by simp at h2 ⊢; exact fun e => h2 e.symm) (by simp only [go_sem, Nat.reduceEqDiff, Nat.reduceAdd, Nat.reduceLeDiff, List.length_map])
  · simp only [go_sem, Nat.reduceEqDiff, Nat.reduceAdd, Nat.reduceLeDiff, List.length_map]
    have hl : ¬ i < xs.length := by simpa using h
    rw [any_none fun j hj => hq j (by omega)]

def inI (rs : List Rg) (n : Int) : Bool := rs.any fun r => decide (r.1 ≤ n) && decide (n ≤ r.2)
theorem kInInts (xs : List Rg) (hx : xs.length ≤ 1000000) (m : Int) : PureAt Try.prog 47 [.sl none (xs.map encR), .val (.int .i64 m)] (· = .val (.bool (inI xs m))) := by
  refine pure_of r47 (by kernel_rfl) ?_
  unfold m47
  simp only [go_sem, Nat.reduceEqDiff, Nat.reduceAdd, Nat.reduceLeDiff, List.length_map]
  refine ev_loop_by (invIn (xs.map encR) (.val (.int .i64 m)) xs.length (fun j => ∀ h : j < xs.length, (decide (xs[j].1 ≤ m) && decide (m ≤ xs[j].2)) = false)) xs.length ⟨0, by simp, by simp, by simp, by simp only [go_sem, Nat.reduceEqDiff, Nat.reduceAdd, Nat.reduceLeDiff, List.length_map]; rfl⟩ ?_
  rintro n S ⟨i, hi, hn, hq, hS⟩
  rw [ev_trim, hS]
  subst hn
  clear hS S
  simp only [go_sem, Nat.reduceEqDiff, Nat.reduceAdd, Nat.reduceLeDiff, List.length_map]
  refine condE_split (fun h => ?_) (fun h => ?_)
  · have hi' : i < xs.length := by simpa using h
    have hget : (xs.map encR)[i]? = some [.val (.int .i64 xs[i].1), .val (.int .i64 xs[i].2)] := by simp [encR, hi']
    have h0 : (0 ≤ (i : Int)) = True := by simp
    have hw : IntKind.i64.wrap ((i : Int) + 1) = ((i + 1 : Nat) : Int) := by rw [wrap64 (by omega) (by omega)]; rfl
    simp only [h0, Int.toNat_natCast, hget, go_sem, Nat.reduceEqDiff, Nat.reduceAdd, Nat.reduceLeDiff, List.length_map]
    refine wantE_split (fun h1 => ?_) (fun h1 => ?_)
    · simp only [h1, h0, Int.toNat_natCast, hget, go_sem, Nat.reduceEqDiff, Nat.reduceAdd, Nat.reduceLeDiff, List.length_map]
      refine condE_split (fun h2 => ?_) (fun h2 => ?_)
      · simp only [go_sem, Nat.reduceEqDiff, Nat.reduceAdd, Nat.reduceLeDiff, List.length_map]
        have ha : inI xs m = true := List.any_eq_true.2 ⟨xs[i], by simp, by simp at h1 h2; simp [h1, h2]⟩
        rw [ha]
      · simp only [hw, go_sem, Nat.reduceEqDiff, Nat.reduceAdd, Nat.reduceLeDiff, List.length_map]
        exact invIn_next hi' hq (fun _ => by simp at h1 h2 ⊢; intro; omega) (by simp only [go_sem, Nat.reduceEqDiff, Nat.reduceAdd, Nat.reduceLeDiff, List.length_map])
    · simp only [h1, hw, go_sem, Nat.reduceEqDiff, Nat.reduceAdd, Nat.reduceLeDiff, List.length_map]
      exact invIn_next hi' hq (fun _ => by simp at h1 ⊢; intro; omega) (by simp only [go_sem, Nat.reduceEqDiff, Nat.reduceAdd, Nat.reduceLeDiff, List.length_map])
  · simp only [go_sem, Nat.reduceEqDiff, Nat.reduceAdd, Nat.reduceLeDiff, List.length_map]
    have hl : ¬ i < xs.length := by simpa using h
    rw [inI, any_none fun j hj => hq j (by omega)]

/-! ### arbourref01.Right, arbourref03.Has -/
theorem kref1Right (v : ValM) : PureAt Try.prog 46 [.agg (valC v)] (· = .val (.bool (rightV v))) := by
  obtain ⟨kd, n, s⟩ := v
  refine pure_of r46 (by kernel_rfl) ?_
  unfold m46 valC
  simp only [go_sem, Nat.reduceEqDiff, Nat.reduceAdd, Nat.reduceLeDiff, List.length_map]
  repeat' (first
    | (refine wantE_split (fun h => ?_) (fun h => ?_) <;> simp only [h, go_sem, Nat.reduceEqDiff, Nat.reduceAdd, Nat.reduceLeDiff, List.length_map])
    | (refine wantQ_split (fun h => ?_) (fun h => ?_) <;> simp only [h, go_sem, Nat.reduceEqDiff, Nat.reduceAdd, Nat.reduceLeDiff, List.length_map])
    | (refine condE_split (fun h => ?_) (fun h => ?_) <;> simp only [h, go_sem, Nat.reduceEqDiff, Nat.reduceAdd, Nat.reduceLeDiff, List.length_map]))
  all_goals simp_all [rightV]

theorem krefHas3 (s : SetM) (hi : s.ints.length ≤ 1000000) (hs : s.strs.length ≤ 1000000) (v : ValM) : PureAt Try.prog 19 [.agg (setC s), .agg (valC v)] (· = .val (.bool (hasM s v))) := by
  have p1 := kref1Right v
  have p2 := kInInts s.ints hi v.n
  have p3 := kInStrs s.strs hs v.s
  obtain ⟨sa, si, sc, ss⟩ := s
  obtain ⟨kd, n, st⟩ := v
  refine pure_of r19 (by kernel_rfl) ?_
  unfold m19
  simp only [setC, valC, go_sem, Nat.reduceEqDiff, Nat.reduceAdd, Nat.reduceLeDiff, List.length_map]
  refine callP_eq rfl rfl p1 ?_
  simp only [go_sem, Nat.reduceEqDiff, Nat.reduceAdd, Nat.reduceLeDiff, List.length_map]
  refine condE_split (fun h1 => ?_) (fun h1 => ?_)
  · simp only [go_sem, Nat.reduceEqDiff, Nat.reduceAdd, Nat.reduceLeDiff, List.length_map]
    have : rightV ⟨kd, n, st⟩ = false := by simpa using h1
    simp [hasM, this]
  · have hr : rightV ⟨kd, n, st⟩ = true := by simpa using h1
    simp only [go_sem, Nat.reduceEqDiff, Nat.reduceAdd, Nat.reduceLeDiff, List.length_map]
    refine condE_split (fun h2 => ?_) (fun h2 => ?_)
    · have h2 : kd = 0 := by simpa using h2
      subst h2
      simp only [go_sem, Nat.reduceEqDiff, Nat.reduceAdd, Nat.reduceLeDiff, List.length_map]
      simp [hasM, hr]
    · have h2 : kd ≠ 0 := by simpa using h2
      simp only [go_sem, Nat.reduceEqDiff, Nat.reduceAdd, Nat.reduceLeDiff, List.length_map]
      refine condE_split (fun h3 => ?_) (fun h3 => ?_)
      · have h3 : kd = 1 := by simpa using h3
        subst h3
        simp only [go_sem, Nat.reduceEqDiff, Nat.reduceAdd, Nat.reduceLeDiff, List.length_map]
        refine callP_eq rfl rfl p2 ?_
        simp only [go_sem, Nat.reduceEqDiff, Nat.reduceAdd, Nat.reduceLeDiff, List.length_map]
        simp [hasM, hr, inI]
      · have h3 : kd ≠ 1 := by simpa using h3
        have h4 : kd = 2 := by
          simp only [rightV, if_neg h2, if_neg h3] at hr
          split at hr
          · assumption
          · cases hr
        subst h4
        simp only [go_sem, Nat.reduceEqDiff, Nat.reduceAdd, Nat.reduceLeDiff, List.length_map]
        refine callQ_by _ rfl rfl p3 ?_
        simp only [go_sem, Nat.reduceEqDiff, Nat.reduceAdd, Nat.reduceLeDiff, List.length_map]
        simp [hasM, hr]
        cases (ss.any fun x => decide (st = x)) <;> cases sc <;> rfl
end Go.Proofs
