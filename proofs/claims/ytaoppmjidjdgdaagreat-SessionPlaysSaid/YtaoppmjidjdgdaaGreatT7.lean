/- A part of the proof; what is proved stands in the last text. -/
import Derived.Test.YtaoppmjidjdgdaaGreatTJ
set_option linter.unusedVariables false
set_option maxRecDepth 2000
namespace Go.Proofs
open Go.Vm
set_option linter.unusedSimpArgs false
theorem kIndexS (xs : List ByteArray) (hx : xs.length ≤ 1000000) (s : ByteArray) : PureAt Tryz.prog 79 [.sl none (xs.map encSt), .val (.string s)] (· = .val (.int .i64 (idxOf (fun x => decide (s = x)) xs))) := by
 refine pure_of r79 (by kernel_rfl) ?_
 unfold m79
 simp only [go_sem, Nat.reduceEqDiff, Nat.reduceAdd, Nat.reduceLeDiff, List.length_map]
 refine ev_loop_by (invIx (xs.map encSt) (.val (.string s)) xs.length (fun j => ∀ h : j < xs.length, decide (s = xs[j]) = false)) xs.length ⟨0, by simp, by simp, by simp, by simp only [go_sem, Nat.reduceEqDiff, Nat.reduceAdd, Nat.reduceLeDiff, List.length_map]; rfl⟩ ?_
 rintro n S ⟨i, hi, hn, hq, hS⟩
 rw [ev_trim, hS]
 subst hn
 clear hS S
 simp only [go_sem, Nat.reduceEqDiff, Nat.reduceAdd, Nat.reduceLeDiff, List.length_map]
 refine condE_split (fun h => ?_) (fun h => ?_)
 ·have hi' : i < xs.length := by simpa using h
  have hget : (xs.map encSt)[i]? = some [.val (.string xs[i])] := by simp [encSt, hi']
  have h0 : (0 ≤ (i : Int)) = True := by simp
  have hw : IntKind.i64.wrap ((i : Int) + 1) = ((i + 1 : Nat) : Int) := by rw [wrap64 (by omega) (by omega)]; rfl
  simp only [h0, Int.toNat_natCast, hget, hw, go_sem, Nat.reduceEqDiff, Nat.reduceAdd, Nat.reduceLeDiff, List.length_map, beqS]
  refine condE_split (fun h2 => ?_) (fun h2 => ?_)
  ·simp only [go_sem, Nat.reduceEqDiff, Nat.reduceAdd, Nat.reduceLeDiff, List.length_map]
   congr 3
   have ha : (xs.any fun x => decide (s = x)) = true := List.any_eq_true.2 ⟨xs[i], by simp, h2⟩
   rw [idxOf, if_pos ha]
   have := (List.findIdx_eq (p := fun x => decide (s = x)) hi').2 ⟨h2, fun j hj => by simpa using hq j hj (by omega)⟩
   rw [this]
  ·simp only [go_sem, Nat.reduceEqDiff, Nat.reduceAdd, Nat.reduceLeDiff, List.length_map, hw]
   exact invIx_next hi' hq (fun _ => h2) (by simp only [go_sem, Nat.reduceEqDiff, Nat.reduceAdd, Nat.reduceLeDiff, List.length_map])
 ·simp only [go_sem, Nat.reduceEqDiff, Nat.reduceAdd, Nat.reduceLeDiff, List.length_map]
  have ha : ¬ (xs.any fun x => decide (s = x)) = true := by
   intro ha
   obtain ⟨x, hx, hp⟩ := List.any_eq_true.1 ha
   obtain ⟨j, hj, rfl⟩ := List.getElem_of_mem hx
   have := hq j (by simp at h; omega) hj
   rw [hp] at this; cases this
  rw [idxOf, if_neg ha]
theorem kContainsS (xs : List ByteArray) (hx : xs.length ≤ 1000000) (s : ByteArray) : PureAt Tryz.prog 75 [.sl none (xs.map encSt), .val (.string s)] (· = .val (.bool (xs.any fun x => decide (s = x)))) := by
 refine pure_of r75 (by kernel_rfl) ?_
 unfold m75
 simp only [go_sem, Nat.reduceEqDiff, Nat.reduceAdd, Nat.reduceLeDiff, List.length_map]
 refine callP_eq rfl rfl (kIndexS xs hx s) ?_
 simp only [go_sem, Nat.reduceEqDiff, Nat.reduceAdd, Nat.reduceLeDiff, List.length_map, idxOf_nonneg]
theorem encSt_inj {x y : ByteArray} (h : encSt x = encSt y) : x = y := by
 simp [encSt] at h; exact h
theorem kEqualS (xs ys : List ByteArray) (hx : xs.length ≤ 1000000) : PureAt Tryz.prog 84 [.sl none (xs.map encSt), .sl none (ys.map encSt)] (· = .val (.bool (decide (xs = ys)))) := by
 refine pure_of r84 (by kernel_rfl) ?_
 unfold m84
 simp only [go_sem, Nat.reduceEqDiff, Nat.reduceAdd, Nat.reduceLeDiff, List.length_map]
 refine condE_split (fun h => ?_) (fun h => ?_)
 ·simp only [h, go_sem, Nat.reduceEqDiff, Nat.reduceAdd, Nat.reduceLeDiff, List.length_map]
  have : xs ≠ ys := by rintro rfl; simp at h
  simp [this]
 ·simp only [go_sem, Nat.reduceEqDiff, Nat.reduceAdd, Nat.reduceLeDiff, List.length_map]
  have hl : xs.length = ys.length := by simp at h; omega
  refine ev_loop_by (invEq (xs.map encSt) (ys.map encSt)) xs.length ⟨0, by simp, by simp, by simp, by simp only [go_sem, Nat.reduceEqDiff, Nat.reduceAdd, Nat.reduceLeDiff, List.length_map]; rfl⟩ ?_
  rintro n S ⟨i, hi, hn, ht, hS⟩
  rw [ev_trim, hS]
  subst hn
  clear hS S
  simp only [go_sem, Nat.reduceEqDiff, Nat.reduceAdd, Nat.reduceLeDiff, List.length_map]
  refine condE_split (fun h => ?_) (fun h => ?_)
  ·have hi' : i < xs.length := by simpa using h
   have hget : (xs.map encSt)[i]? = some [.val (.string xs[i])] := by simp [encSt, hi']
   have hget' : (ys.map encSt)[i]? = some [.val (.string (ys[i]'(by omega)))] := by
    have : i < ys.length := by omega
    simp [encSt, this]
   have h0 : (0 ≤ (i : Int)) = True := by simp
   have hw : IntKind.i64.wrap ((i : Int) + 1) = ((i + 1 : Nat) : Int) := by rw [wrap64 (by omega) (by omega)]; rfl
   simp only [h0, Int.toNat_natCast, hget, hget', hw, go_sem, Nat.reduceEqDiff, Nat.reduceAdd, Nat.reduceLeDiff, List.length_map, beqS]
   have htk : ∀ zs : List ByteArray, (hz : i < zs.length) → (zs.map encSt).take (i + 1) = (zs.map encSt).take i ++ [encSt zs[i]] := fun zs hz => by
    rw [← List.map_take, ← List.map_take, show zs.take (i + 1) = zs.take i ++ [zs[i]] by simp [hz], List.map_append]; rfl
   refine condE_split (fun h2 => ?_) (fun h2 => ?_)
   ·simp only [go_sem, Nat.reduceEqDiff, Nat.reduceAdd, Nat.reduceLeDiff, List.length_map]
    have : xs ≠ ys := by
     rintro rfl
     simp at h2
    simp [this]
   ·simp only [go_sem, Nat.reduceEqDiff, Nat.reduceAdd, Nat.reduceLeDiff, List.length_map, hw]
    refine invEq_next (List.length_map _) (by simpa using hi') ?_ (by simp only [go_sem, Nat.reduceEqDiff, Nat.reduceAdd, Nat.reduceLeDiff, List.length_map])
    rw [htk xs hi', htk ys (by omega), ht]
    have he : xs[i] = ys[i]'(by omega) := by simpa using h2
    rw [he]
  ·simp only [go_sem, Nat.reduceEqDiff, Nat.reduceAdd, Nat.reduceLeDiff, List.length_map]
   have hi' : i = xs.length := by simp at h hi; omega
   rw [List.take_of_length_le (by simp; omega), List.take_of_length_le (by simp; omega)] at ht
   have : xs = ys := map_inj (fun x y h => encSt_inj h) ht
   simp [this]
theorem kAll : PureAt Tryz.prog 37 [] (· = .agg (setC ⟨true, [(-9223372036854775808, 9223372036854775807)], true, []⟩)) := by
 refine pure_of r37 (by kernel_rfl) ?_
 unfold m37
 simp only [go_sem, Nat.reduceEqDiff, Nat.reduceAdd, Nat.reduceLeDiff, List.length_map]
 simp [setC, encR]
def sameM (a b : SetM) : Bool := a.absent == b.absent && a.co == b.co && decide (a.ints = b.ints) && decide (a.strs = b.strs)
theorem kSame (a b : SetM) (ha : a.ints.length ≤ 1000000) (hs : a.strs.length ≤ 1000000) : PureAt Tryz.prog 80 [.agg (setC a), .agg (setC b)] (· = .val (.bool (sameM a b))) := by
 obtain ⟨ab, is, co, ss⟩ := a
 obtain ⟨ab', is', co', ss'⟩ := b
 refine pure_of r80 (by kernel_rfl) ?_
 unfold m80 setC
 simp only [go_sem, Nat.reduceEqDiff, Nat.reduceAdd, Nat.reduceLeDiff, List.length_map]
 repeat' (first
  | (refine wantE_split (fun h => ?_) (fun h => ?_) <;> simp only [h, go_sem, Nat.reduceEqDiff, Nat.reduceAdd, Nat.reduceLeDiff, List.length_map])
  | (refine callP_eq rfl rfl (kEqualR _ _ (by assumption)) ?_ <;> simp only [go_sem, Nat.reduceEqDiff, Nat.reduceAdd, Nat.reduceLeDiff, List.length_map])
  | (refine callP_eq rfl rfl (kEqualS _ _ (by assumption)) ?_ <;> simp only [go_sem, Nat.reduceEqDiff, Nat.reduceAdd, Nat.reduceLeDiff, List.length_map]))
 all_goals simp_all [sameM]
def hasM (s : SetM) (v : ValM) : Bool := if !rightV v then false else if v.kind = 1 then s.ints.any (fun r => decide (r.1 ≤ v.n) && decide (v.n ≤ r.2)) else if v.kind = 2 then (s.strs.any fun x => decide (v.s = x)) != s.co else s.absent
end Go.Proofs
