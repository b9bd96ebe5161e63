/- A part of the proof; what is proved stands in the last text. -/
import Derived.Test.YtaoppmjidjdgdaaGreatMA
set_option linter.unusedVariables false
set_option maxRecDepth 2000
namespace Go.Proofs
open Go.Vm
set_option linter.unusedSimpArgs false
theorem kCloneR (es : List (List D)) (h2 : ∀ e ∈ es, e.length = 2) (hl : es.length ≤ 1000000) : FreshAt Tryz.prog 86 [.sl none es] 89 2 (· = es) := by
 refine fresh_of r86 (by kernel_rfl) ?_
 unfold m86
 simp only [go_sem, Nat.reduceEqDiff, Nat.reduceAdd, Nat.reduceLeDiff]
 intro b hb
 refine condE_split (fun h => ?_) (fun h => ?_)
 ·simp only [go_sem, Nat.reduceEqDiff, Nat.reduceAdd, Nat.reduceLeDiff]
  simp_all
 ·simp only [go_sem, Nat.reduceEqDiff, Nat.reduceAdd, Nat.reduceLeDiff, List.length_append, List.nil_append]
  simp only [Nat.zero_add]
  refine ⟨h2, by omega, by omega⟩
end Go.Proofs

namespace Go.Proofs
open Go.Vm
set_option linter.unusedSimpArgs false
theorem wrap64 {n : Int} (h1 : -9223372036854775808 ≤ n) (h2 : n ≤ 9223372036854775807) : IntKind.i64.wrap n = n := by
 simp [IntKind.wrap, IntKind.bits, IntKind.signed]; omega
theorem modify_end {α : Type} (f : α → α) (y : α) : ∀ (xs : List α) {n : Nat} (_ : xs.length = n), (xs ++ [y]).modify n f = xs ++ [f y]
 | [], n, h => by subst h; rfl
 | x :: xs, n, h => by
  subst h
  have := modify_end f y xs rfl
  simp only [List.cons_append, List.length_cons, List.modify_succ_cons, this]
abbrev Rg := Int × Int
def encR (r : Rg) : List D := [.val (.int .i64 r.1), .val (.int .i64 r.2)]
def merge1 (out : List Rg) (r : Rg) : List Rg :=
 if r.1 > r.2 then out else match out.getLast? with
  | some l => if l.2 = 9223372036854775807 ∨ r.1 ≤ IntKind.i64.wrap (l.2 + 1) then out.dropLast ++ [(l.1, if r.2 > l.2 then r.2 else l.2)] else out ++ [r]
  | none => out ++ [r]
def inv5 (rs : List Rg) (S : St) (n : Nat) : Prop := ∃ (i : Nat) (out : List Rg), i ≤ rs.length ∧ n = rs.length - i ∧ out = (rs.take i).foldl merge1 [] ∧ out.length ≤ i ∧
 S.trim [2, 10, 11, 12] [] [(2, 89, 2), (7, 89, 2)] = ⟨[(2, .sl (some (2, 89, 2)) (out.map encR)), (10, .sl (some (7, 89, 2)) (rs.map encR)), (11, .val (.int .i64 rs.length)), (12, .val (.int .i64 i))], [], [((2, 89, 2), true), ((7, 89, 2), true)]⟩
theorem inv5_next {rs : List Rg} {i : Nat} {out out' : List Rg} {S : St} (hi : i < rs.length) (hout : out = (rs.take i).foldl merge1 []) (hout' : out' = merge1 out rs[i]) (hl : out'.length ≤ i + 1)
    (hS : S.trim [2, 10, 11, 12] [] [(2, 89, 2), (7, 89, 2)] = ⟨[(2, .sl (some (2, 89, 2)) (out'.map encR)), (10, .sl (some (7, 89, 2)) (rs.map encR)), (11, .val (.int .i64 rs.length)), (12, .val (.int .i64 (i + 1 : Nat)))], [], [((2, 89, 2), true), ((7, 89, 2), true)]⟩) :
    ∃ k, k < rs.length - i ∧ inv5 rs S k := by
 refine ⟨rs.length - (i + 1), by omega, i + 1, out', by omega, rfl, ?_, hl, hS⟩
 have htake : rs.take (i + 1) = rs.take i ++ [rs[i]] := by simp [hi]
 rw [htake, List.foldl_append, ← hout, hout']; rfl
theorem kRanges (srt : List Rg → List Rg) (hsort : ∀ rs : List Rg, rs.length ≤ 1000000 → MutAt Tryz.prog 90 89 2 (rs.map encR) [.fn 91 [] []] (fun es' r => es' = (srt rs).map encR ∧ r = .tup [])) (hsl : ∀ rs, (srt rs).length = rs.length)
    (rs : List Rg) (hl : rs.length ≤ 1000000) : PureAt Tryz.prog 85 [.sl none (rs.map encR)] (· = .sl none (((srt rs).foldl merge1 []).map encR)) := by
 refine pure_of r85 (by kernel_rfl) ?_
 unfold m85
 simp only [go_sem, Nat.reduceEqDiff, Nat.reduceAdd, Nat.reduceLeDiff]
 refine callF_by rfl rfl (kCloneR _ (by intro e he; obtain ⟨r, _, rfl⟩ := List.mem_map.1 he; rfl) (by simpa using hl)) ?_
 rintro es rfl
 simp only [go_sem, Nat.reduceEqDiff, Nat.reduceAdd, Nat.reduceLeDiff]
 refine callT_by rfl rfl rfl (hsort rs hl) ?_
 rintro es' r ⟨rfl, rfl⟩
 have hlen' := hsl rs
 generalize srt rs = rs' at hlen' ⊢
 simp only [go_sem, Nat.reduceEqDiff, Nat.reduceAdd, Nat.reduceLeDiff]
 refine ev_loop_by (inv5 rs') rs'.length ⟨0, [], by simp, by simp, by simp, by simp, by simp only [go_sem, Nat.reduceEqDiff, Nat.reduceAdd, Nat.reduceLeDiff, List.length_map]; rfl⟩ ?_
 rintro n S ⟨i, out, hi, hn, hout, hlen, hS⟩
 rw [ev_trim, hS]
 subst hn
 clear hS S
 simp only [go_sem, Nat.reduceEqDiff, Nat.reduceAdd, Nat.reduceLeDiff, List.length_map]
 refine condE_split (fun h => ?_) (fun h => ?_)
 ·have hi' : i < rs'.length := by simpa using h
  have hget : (rs'.map encR)[i]? = some [.val (.int .i64 rs'[i].1), .val (.int .i64 rs'[i].2)] := by simp [encR, hi']
  have h0 : (0 ≤ (i : Int)) = True := by simp
  have hw : IntKind.i64.wrap ((i : Int) + 1) = ((i + 1 : Nat) : Int) := by rw [wrap64 (by omega) (by omega)]; rfl
  have next := fun out' S h1 h2 h3 => inv5_next (out' := out') (S := S) hi' hout h1 h2 h3
  generalize rs'[i] = r at hget next
  obtain ⟨lo, hi2⟩ := r
  simp only at hget
  simp only [go_sem, Nat.reduceEqDiff, Nat.reduceAdd, Nat.reduceLeDiff, List.length_map, h0, Int.toNat_natCast, hget]
  refine condE_split (fun h1 => ?_) (fun h1 => ?_)
  ·simp only [go_sem, Nat.reduceEqDiff, Nat.reduceAdd, Nat.reduceLeDiff, List.length_map, hw]
   refine next out _ ?_ (by omega) ?_
   ·simp only [merge1]; rw [if_pos (by simpa using h1)]
   ·simp only [go_sem, Nat.reduceEqDiff, Nat.reduceAdd, Nat.reduceLeDiff, List.length_map]
  ·simp only [go_sem, Nat.reduceEqDiff, Nat.reduceAdd, Nat.reduceLeDiff, List.length_map, hw]
   have hm1 : ¬ lo > hi2 := by simpa using h1
   rcases List.eq_nil_or_concat out with rfl | ⟨out0, l, hcc⟩
   ·have e0 : decide (((0 : Nat) : Int) > 0) = false := rfl
    simp only [e0, go_sem, Nat.reduceEqDiff, Nat.reduceAdd, Nat.reduceLeDiff, List.length_map, hw]
    refine ⟨by simp, by omega, next [(lo, hi2)] _ ?_ ?_ ?_⟩
    ·simp only [merge1]; rw [if_neg hm1]; rfl
    ·simp
    ·simp only [go_sem, Nat.reduceEqDiff, Nat.reduceAdd, Nat.reduceLeDiff, List.length_map]; rfl
   ·have hcc' : out = out0 ++ [l] := by simpa using hcc
    clear hcc; subst hcc'
    have e0 : decide ((((out0 ++ [l]).length : Nat) : Int) > 0) = true := by simp
    have hlen0 : out0.length + 1 ≤ i := by simpa using hlen
    have e1 : IntKind.i64.wrap ((((out0 ++ [l]).length : Nat) : Int) - 1) = (out0.length : Int) := by
     have hll : (out0 ++ [l]).length = out0.length + 1 := by simp
     rw [wrap64 (by omega) (by omega)]; omega
    have e2 : (0 ≤ (out0.length : Int)) = True := by simp
    have hget2 : (List.map encR (out0 ++ [l]))[out0.length]? = some [.val (.int .i64 l.1), .val (.int .i64 l.2)] := by simp [encR]
    have hmod : ∀ v, (List.map encR (out0 ++ [l])).modify out0.length (fun e => List.set e 1 (.val (.int .i64 v))) = List.map encR (out0 ++ [(l.1, v)]) := by intro v; rw [List.map_append, List.map_append]; exact (modify_end _ _ _ (by simp)).trans rfl
    simp only [e0, e1, e2, hget2, Int.toNat_natCast, go_sem, Nat.reduceEqDiff, Nat.reduceAdd, Nat.reduceLeDiff, List.length_map, hw]
    have hlast : merge1 (out0 ++ [l]) (lo, hi2) = if l.2 = 9223372036854775807 ∨ lo ≤ IntKind.i64.wrap (l.2 + 1) then out0 ++ [(l.1, if hi2 > l.2 then hi2 else l.2)] else out0 ++ [l] ++ [(lo, hi2)] := by
     simp only [merge1]; rw [if_neg hm1]; simp
    refine wantQ_split (fun h2 => ?_) (fun h2 => ?_)
    ·simp only [h2, e0, e1, e2, hget2, Int.toNat_natCast, go_sem, Nat.reduceEqDiff, Nat.reduceAdd, Nat.reduceLeDiff, List.length_map, hw, hmod]
     refine next (out0 ++ [(l.1, if hi2 > l.2 then hi2 else l.2)]) _ ?_ ?_ ?_
     ·rw [hlast]; exact (if_pos (.inl (by simpa using h2))).symm
     ·simp; omega
     ·simp only [go_sem, Nat.reduceEqDiff, Nat.reduceAdd, Nat.reduceLeDiff, List.length_map]
    ·simp only [h2, e0, e1, e2, hget2, Int.toNat_natCast, go_sem, Nat.reduceEqDiff, Nat.reduceAdd, Nat.reduceLeDiff, List.length_map, hw]
     refine condE_split (fun h3 => ?_) (fun h3 => ?_)
     ·simp only [h2, h3, e0, e1, e2, hget2, Int.toNat_natCast, go_sem, Nat.reduceEqDiff, Nat.reduceAdd, Nat.reduceLeDiff, List.length_map, hw, hmod]
      refine next (out0 ++ [(l.1, if hi2 > l.2 then hi2 else l.2)]) _ ?_ ?_ ?_
      ·rw [hlast]; exact (if_pos (.inr (by simpa using h3))).symm
      ·simp; omega
      ·simp only [go_sem, Nat.reduceEqDiff, Nat.reduceAdd, Nat.reduceLeDiff, List.length_map]
     ·simp only [h2, h3, e0, e1, e2, hget2, Int.toNat_natCast, go_sem, Nat.reduceEqDiff, Nat.reduceAdd, Nat.reduceLeDiff, List.length_map, hw, hmod]
      refine ⟨?_, ?_, ?_, ?_, next (out0 ++ [l] ++ [(lo, hi2)]) _ ?_ ?_ ?_⟩
      ·intro e he; obtain ⟨r, _, rfl⟩ := List.mem_map.1 he; rfl
      ·simp
      ·simp; omega
      ·simp; omega
      ·rw [hlast]
       refine (if_neg ?_).symm
       intro hor
       rcases hor with hor | hor
       ·simp [hor] at h2
       ·simp [hor] at h3
      ·simp; omega
      ·simp only [go_sem, Nat.reduceEqDiff, Nat.reduceAdd, Nat.reduceLeDiff, List.length_map]; simp [encR]
 ·simp only [go_sem, Nat.reduceEqDiff, Nat.reduceAdd, Nat.reduceLeDiff, List.length_map]
  have hi' : i = rs'.length := by have : ¬ i < rs'.length := by simpa using h
                                  omega
  rw [hout, hi', List.take_length]
end Go.Proofs

namespace Go.Proofs
open Go.Vm
set_option linter.unusedSimpArgs false
theorem kHasF (lo hi kd n : Int) (s : ByteArray) : PureAt Tryz.prog 74 [.agg [.val (.int .i64 lo), .val (.int .i64 hi)], .rp none [.val (.int .i64 kd), .val (.int .i64 n), .val (.string s)] 0] (· = .val (.bool (decide (lo ≤ n) && decide (n ≤ hi)))) := by
 refine pure_of r74 (by kernel_rfl) ?_
 unfold m74
 simp only [go_sem, Nat.reduceEqDiff, Nat.reduceAdd, Nat.reduceLeDiff]
 repeat' (first | (apply wantE_split <;> intro h <;> simp only [h, go_sem, Nat.reduceEqDiff, Nat.reduceAdd, Nat.reduceLeDiff]))
end Go.Proofs
