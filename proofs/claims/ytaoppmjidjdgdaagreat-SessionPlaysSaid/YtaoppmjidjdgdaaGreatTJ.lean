/- A part of the proof; what is proved stands in the last text. -/
import Derived.Test.YtaoppmjidjdgdaaGreatTA
set_option linter.unusedVariables false
set_option maxRecDepth 2000
namespace Go.Proofs
open Go.Vm
set_option linter.unusedSimpArgs false
structure SetM where
 absent : Bool
 ints : List Rg
 co : Bool
 strs : List ByteArray
structure ValM where
 kind : Int
 n : Int
 s : ByteArray
def encSt (b : ByteArray) : List D := [.val (.string b)]
def setC (s : SetM) : List D := [.val (.bool s.absent), .sl none (s.ints.map encR), .val (.bool s.co), .sl none (s.strs.map encSt)]
def valC (v : ValM) : List D := [.val (.int .i64 v.kind), .val (.int .i64 v.n), .val (.string v.s)]
@[go_sem] theorem tags_setC (s : SetM) : tagsL (setC s) = [] := rfl
@[go_sem] theorem av_setC (p : Nat → Bool) (q : Tag → Bool) (s : SetM) : D.avoids.avoidsL p q (setC s) = true := rfl
@[go_sem] theorem av_valC (p : Nat → Bool) (q : Tag → Bool) (v : ValM) : D.avoids.avoidsL p q (valC v) = true := rfl
@[go_sem] theorem tags_valC (v : ValM) : tagsL (valC v) = [] := rfl
theorem kEmpty (s : SetM) : PureAt Tryz.prog 68 [.agg (setC s)] (· = .val (.bool (!s.absent && s.ints.isEmpty && !s.co && s.strs.isEmpty))) := by
 obtain ⟨ab, is, co, ss⟩ := s
 refine pure_of r68 (by kernel_rfl) ?_
 unfold m68 setC
 simp only [go_sem, Nat.reduceEqDiff, Nat.reduceAdd, Nat.reduceLeDiff, List.length_map]
 repeat' (first
  | (refine wantE_split (fun h => ?_) (fun h => ?_) <;> simp only [h, go_sem, Nat.reduceEqDiff, Nat.reduceAdd, Nat.reduceLeDiff, List.length_map])
  | (refine wantQ_split (fun h => ?_) (fun h => ?_) <;> simp only [h, go_sem, Nat.reduceEqDiff, Nat.reduceAdd, Nat.reduceLeDiff, List.length_map])
  | (refine condE_split (fun h => ?_) (fun h => ?_) <;> simp only [h, go_sem, Nat.reduceEqDiff, Nat.reduceAdd, Nat.reduceLeDiff, List.length_map]))
 all_goals (cases is <;> cases ss <;> simp_all <;> omega)
def rightV (v : ValM) : Bool := if v.kind = 0 then v.n == 0 && v.s.toList == [] else if v.kind = 1 then v.s.toList == [] else if v.kind = 2 then v.n == 0 && decide ((v.s.size : Int) ≤ 8) else false
theorem kvalRight (v : ValM) : PureAt Tryz.prog 72 [.agg (valC v)] (· = .val (.bool (rightV v))) := by
 obtain ⟨kd, n, s⟩ := v
 refine pure_of r72 (by kernel_rfl) ?_
 unfold m72 valC
 simp only [go_sem, Nat.reduceEqDiff, Nat.reduceAdd, Nat.reduceLeDiff, List.length_map]
 repeat' (first
  | (refine wantE_split (fun h => ?_) (fun h => ?_) <;> simp only [h, go_sem, Nat.reduceEqDiff, Nat.reduceAdd, Nat.reduceLeDiff, List.length_map])
  | (refine wantQ_split (fun h => ?_) (fun h => ?_) <;> simp only [h, go_sem, Nat.reduceEqDiff, Nat.reduceAdd, Nat.reduceLeDiff, List.length_map])
  | (refine condE_split (fun h => ?_) (fun h => ?_) <;> simp only [h, go_sem, Nat.reduceEqDiff, Nat.reduceAdd, Nat.reduceLeDiff, List.length_map]))
 all_goals simp_all [rightV]
theorem encR_inj {x y : Rg} (h : encR x = encR y) : x = y := by
 obtain ⟨a, b⟩ := x
 obtain ⟨c, d⟩ := y
 simp [encR] at h
 exact Prod.ext h.1 h.2
theorem map_inj {α β : Type} {f : α → β} (hf : ∀ x y, f x = f y → x = y) : ∀ {xs ys : List α}, xs.map f = ys.map f → xs = ys
 | [], [], _ => rfl
 | [], _ :: _, h => by simp at h
 | _ :: _, [], h => by simp at h
 | x :: xs, y :: ys, h => by
  simp only [List.map_cons, List.cons.injEq] at h
  rw [hf x y h.1, map_inj hf h.2]
def invEq (xs ys : List (List D)) (S : St) (n : Nat) : Prop := ∃ i : Nat, i ≤ xs.length ∧ n = xs.length - i ∧ xs.take i = ys.take i ∧
 S.trim [0, 1, 12, 13] [] [] = ⟨[(0, .sl none xs), (1, .sl none ys), (12, .val (.int .i64 xs.length)), (13, .val (.int .i64 i))], [], []⟩
theorem invEq_next {xs ys : List (List D)} {i m : Nat} {S : St} (hm : xs.length = m) (hi : i < xs.length) (h : xs.take (i + 1) = ys.take (i + 1)) (hS : S.trim [0, 1, 12, 13] [] [] = ⟨[(0, .sl none xs), (1, .sl none ys), (12, .val (.int .i64 xs.length)), (13, .val (.int .i64 (i + 1 : Nat)))], [], []⟩) :
    ∃ k, k < m - i ∧ invEq xs ys S k := ⟨xs.length - (i + 1), by omega, i + 1, by omega, rfl, h, hS⟩
theorem kEqualR (xs ys : List Rg) (hx : xs.length ≤ 1000000) : PureAt Tryz.prog 83 [.sl none (xs.map encR), .sl none (ys.map encR)] (· = .val (.bool (decide (xs = ys)))) := by
 refine pure_of r83 (by kernel_rfl) ?_
 unfold m83
 simp only [go_sem, Nat.reduceEqDiff, Nat.reduceAdd, Nat.reduceLeDiff, List.length_map]
 refine condE_split (fun h => ?_) (fun h => ?_)
 ·simp only [h, go_sem, Nat.reduceEqDiff, Nat.reduceAdd, Nat.reduceLeDiff, List.length_map]
  have : xs ≠ ys := by rintro rfl; simp at h
  simp [this]
 ·simp only [go_sem, Nat.reduceEqDiff, Nat.reduceAdd, Nat.reduceLeDiff, List.length_map]
  have hl : xs.length = ys.length := by simp at h; omega
  refine ev_loop_by (invEq (xs.map encR) (ys.map encR)) xs.length ⟨0, by simp, by simp, by simp, by simp only [go_sem, Nat.reduceEqDiff, Nat.reduceAdd, Nat.reduceLeDiff, List.length_map]; rfl⟩ ?_
  rintro n S ⟨i, hi, hn, ht, hS⟩
  rw [ev_trim, hS]
  subst hn
  clear hS S
  simp only [go_sem, Nat.reduceEqDiff, Nat.reduceAdd, Nat.reduceLeDiff, List.length_map]
  refine condE_split (fun h => ?_) (fun h => ?_)
  ·have hi' : i < xs.length := by simpa using h
   have hget : (xs.map encR)[i]? = some [.val (.int .i64 xs[i].1), .val (.int .i64 xs[i].2)] := by simp [encR, hi']
   have hget' : (ys.map encR)[i]? = some [.val (.int .i64 (ys[i]'(by omega)).1), .val (.int .i64 (ys[i]'(by omega)).2)] := by
    have : i < ys.length := by omega
    simp [encR, this]
   have h0 : (0 ≤ (i : Int)) = True := by simp
   have hw : IntKind.i64.wrap ((i : Int) + 1) = ((i + 1 : Nat) : Int) := by rw [wrap64 (by omega) (by omega)]; rfl
   simp only [h0, Int.toNat_natCast, hget, hget', hw, go_sem, Nat.reduceEqDiff, Nat.reduceAdd, Nat.reduceLeDiff, List.length_map]
   have htk : ∀ zs : List Rg, (hz : i < zs.length) → (zs.map encR).take (i + 1) = (zs.map encR).take i ++ [encR zs[i]] := fun zs hz => by
    rw [← List.map_take, ← List.map_take, show zs.take (i + 1) = zs.take i ++ [zs[i]] by simp [hz], List.map_append]; rfl
   refine condE_split (fun h2 => ?_) (fun h2 => ?_)
   ·simp only [go_sem, Nat.reduceEqDiff, Nat.reduceAdd, Nat.reduceLeDiff, List.length_map]
    have : xs ≠ ys := by
     rintro rfl
     simp at h2
    simp [this]
   ·simp only [go_sem, Nat.reduceEqDiff, Nat.reduceAdd, Nat.reduceLeDiff, List.length_map, hw]
    refine invEq_next (List.length_map _) (by simpa using hi') ?_ (by simp only [go_sem, Nat.reduceEqDiff, Nat.reduceAdd, Nat.reduceLeDiff, List.length_map])
    rw [htk xs hi', htk ys (by omega), ht]
    have he : xs[i] = ys[i]'(by omega) := by
     simp at h2
     exact Prod.ext h2.1 h2.2
    rw [he]
  ·simp only [go_sem, Nat.reduceEqDiff, Nat.reduceAdd, Nat.reduceLeDiff, List.length_map]
   have hi' : i = xs.length := by simp at h hi; omega
   rw [List.take_of_length_le (by simp; omega), List.take_of_length_le (by simp; omega)] at ht
   have : xs = ys := map_inj (fun x y h => encR_inj h) ht
   simp [this]
end Go.Proofs

namespace Go.Proofs
open Go.Vm
set_option linter.unusedSimpArgs false
theorem beqS (a b : ByteArray) : (a.toList == b.toList) = decide (a = b) := by
 rw [Go.ByteArray.toList_eq, Go.ByteArray.toList_eq]
 by_cases h : a = b
 ·subst h; simp
 ·have : ¬ a.data.toList = b.data.toList := fun e => h (ByteArray.ext (Array.ext' e))
  simp [h]
  intro e; exact this (by rw [e])
def idxOf {α : Type} (p : α → Bool) (xs : List α) : Int := if xs.any p then (xs.findIdx p : Nat) else -1
def invIx (xs : List (List D)) (f : D) (N : Nat) (q : Nat → Prop) (S : St) (n : Nat) : Prop := ∃ i : Nat, i ≤ N ∧ n = N - i ∧ (∀ j, j < i → q j) ∧
 S.trim [0, 1, 7, 8] [] [] = ⟨[(0, .sl none xs), (1, f), (7, .val (.int .i64 N)), (8, .val (.int .i64 i))], [], []⟩
theorem invIx_next {xs : List (List D)} {f : D} {q : Nat → Prop} {i m : Nat} {S : St} (hi : i < m) (h : ∀ j, j < i → q j) (hq : q i) (hS : S.trim [0, 1, 7, 8] [] [] = ⟨[(0, .sl none xs), (1, f), (7, .val (.int .i64 m)), (8, .val (.int .i64 (i + 1 : Nat)))], [], []⟩) :
    ∃ k, k < m - i ∧ invIx xs f m q S k := ⟨m - (i + 1), by omega, i + 1, by omega, rfl, fun j hj => by
     by_cases e : j = i
     ·subst e; exact hq
     ·exact h j (by omega), hS⟩
theorem kIndexFuncR (f : FuncId) (caps : List D) (hz : frzL caps = some caps) (ht : tagsL caps = []) (xs : List Rg) (hx : xs.length ≤ 1000000) (p : Rg → Bool) (hf : ∀ r, r ∈ xs → PureAt Tryz.prog f (.agg (encR r) :: caps) (· = .val (.bool (p r)))) :
    PureAt Tryz.prog 78 [.sl none (xs.map encR), .fn f [] caps] (· = .val (.int .i64 (idxOf p xs))) := by
 refine pure_of r78 (by kernel_rfl) ?_
 unfold m78
 simp only [go_sem, Nat.reduceEqDiff, Nat.reduceAdd, Nat.reduceLeDiff, List.length_map]
 refine ev_loop_by (invIx (xs.map encR) (.fn f [] caps) xs.length (fun j => ∀ h : j < xs.length, p xs[j] = false)) xs.length ⟨0, by simp, by simp, by simp, by simp only [go_sem, Nat.reduceEqDiff, Nat.reduceAdd, Nat.reduceLeDiff, List.length_map]; rfl⟩ ?_
 rintro n S ⟨i, hi, hn, hq, hS⟩
 rw [ev_trim, hS]
 subst hn
 clear hS S
 simp only [go_sem, Nat.reduceEqDiff, Nat.reduceAdd, Nat.reduceLeDiff, List.length_map]
 refine condE_split (fun h => ?_) (fun h => ?_)
 ·have hi' : i < xs.length := by simpa using h
  have hget : (xs.map encR)[i]? = some [.val (.int .i64 xs[i].1), .val (.int .i64 xs[i].2)] := by simp [encR, hi']
  have h0 : (0 ≤ (i : Int)) = True := by simp
  have hw : IntKind.i64.wrap ((i : Int) + 1) = ((i + 1 : Nat) : Int) := by rw [wrap64 (by omega) (by omega)]; rfl
  simp only [h0, Int.toNat_natCast, hget, hw, go_sem, Nat.reduceEqDiff, Nat.reduceAdd, Nat.reduceLeDiff, List.length_map]
  refine callP_eq (d := .val (.bool (p xs[i]))) (fs := .agg (encR xs[i]) :: caps) (by simp only [go_sem, Nat.reduceEqDiff, Nat.reduceAdd, Nat.reduceLeDiff, List.length_map, hz]; rfl) (by simp only [liveAll, go_sem, Nat.reduceEqDiff, Nat.reduceAdd, Nat.reduceLeDiff, List.length_map, ht]) (hf _ (by simp)) ?_
  simp only [go_sem, Nat.reduceEqDiff, Nat.reduceAdd, Nat.reduceLeDiff, List.length_map, ht, List.append_nil]
  refine condE_split (fun h2 => ?_) (fun h2 => ?_)
  ·simp only [go_sem, Nat.reduceEqDiff, Nat.reduceAdd, Nat.reduceLeDiff, List.length_map]
   congr 3
   have ha : xs.any p = true := List.any_eq_true.2 ⟨xs[i], by simp, h2⟩
   rw [idxOf, if_pos ha]
   have := (List.findIdx_eq hi').2 ⟨h2, fun j hj => by simp [hq j hj (by omega)]⟩
   rw [this]
  ·simp only [go_sem, Nat.reduceEqDiff, Nat.reduceAdd, Nat.reduceLeDiff, List.length_map, hw]
   exact invIx_next hi' hq (fun _ => h2) (by simp only [go_sem, Nat.reduceEqDiff, Nat.reduceAdd, Nat.reduceLeDiff, List.length_map])
 ·simp only [go_sem, Nat.reduceEqDiff, Nat.reduceAdd, Nat.reduceLeDiff, List.length_map]
  have ha : ¬ xs.any p = true := by
   intro ha
   obtain ⟨x, hx, hp⟩ := List.any_eq_true.1 ha
   obtain ⟨j, hj, rfl⟩ := List.getElem_of_mem hx
   have := hq j (by simp at h; omega) hj
   rw [hp] at this; cases this
  rw [idxOf, if_neg ha]
theorem idxOf_nonneg {α : Type} (p : α → Bool) (xs : List α) : decide (idxOf p xs ≥ 0) = xs.any p := by
 unfold idxOf
 split
 ·rename_i h; simp [h]
 ·rename_i h; simp at h ⊢; exact fun x hx => by simpa using h x hx
theorem kContainsFuncR (f : FuncId) (caps : List D) (hz : frzL caps = some caps) (ht : tagsL caps = []) (xs : List Rg) (hx : xs.length ≤ 1000000) (p : Rg → Bool) (hf : ∀ r, r ∈ xs → PureAt Tryz.prog f (.agg (encR r) :: caps) (· = .val (.bool (p r)))) :
    PureAt Tryz.prog 73 [.sl none (xs.map encR), .fn f [] caps] (· = .val (.bool (xs.any p))) := by
 refine pure_of r73 (by kernel_rfl) ?_
 unfold m73
 simp only [go_sem, Nat.reduceEqDiff, Nat.reduceAdd, Nat.reduceLeDiff, List.length_map]
 refine callP_eq (fs := [.sl none (xs.map encR), .fn f [] caps]) (by simp only [go_sem, Nat.reduceEqDiff, Nat.reduceAdd, Nat.reduceLeDiff, List.length_map, hz]) (by simp only [liveAll, go_sem, Nat.reduceEqDiff, Nat.reduceAdd, Nat.reduceLeDiff, List.length_map, ht]) (kIndexFuncR f caps hz ht xs hx p hf) ?_
 simp only [go_sem, Nat.reduceEqDiff, Nat.reduceAdd, Nat.reduceLeDiff, List.length_map, ht, List.append_nil, idxOf_nonneg]
end Go.Proofs
