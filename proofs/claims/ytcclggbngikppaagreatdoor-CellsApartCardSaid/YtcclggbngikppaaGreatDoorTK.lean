/- A part of the proof; what is proved stands in the last text. -/
import Derived.Test.YtcclggbngikppaaGreatDoorT7
import Derived.Test.YtcclggbngikppaaGreatDoorTA
set_option linter.unusedVariables false
set_option maxRecDepth 2000
namespace Go.Proofs
open Go.Vm
set_option linter.unusedSimpArgs false
theorem kHas (s : SetM) (hi : s.ints.length ≤ 1000000) (hs : s.strs.length ≤ 1000000) (v : ValM) : PureAt Tryz.prog 48 [.agg (setC s), .agg (valC v)] (· = .val (.bool (hasM s v))) := by
 have hc := kvalRight v
 have h21 := kContainsFuncR 76 [.rp none (valC v) 0] rfl rfl s.ints hi (fun r => decide (r.1 ≤ v.n) && decide (v.n ≤ r.2)) (fun r _ => kHasF r.1 r.2 v.kind v.n v.s)
 have h23 := kContainsS s.strs hs v.s
 obtain ⟨ab, is, co, ss⟩ := s
 obtain ⟨kd, n, b⟩ := v
 refine pure_of r48 (by kernel_rfl) ?_
 unfold m48 setC valC
 simp only [go_sem, Nat.reduceEqDiff, Nat.reduceAdd, Nat.reduceLeDiff, List.length_map]
 refine callP_eq rfl rfl hc ?_
 simp only [go_sem, Nat.reduceEqDiff, Nat.reduceAdd, Nat.reduceLeDiff, List.length_map]
 refine condE_split (fun h => ?_) (fun h => ?_)
 ·simp only [go_sem, Nat.reduceEqDiff, Nat.reduceAdd, Nat.reduceLeDiff, List.length_map]
  simp_all [hasM]
 ·simp only [go_sem, Nat.reduceEqDiff, Nat.reduceAdd, Nat.reduceLeDiff, List.length_map]
  refine condE_split (fun h1 => ?_) (fun h1 => ?_)
  ·simp only [go_sem, Nat.reduceEqDiff, Nat.reduceAdd, Nat.reduceLeDiff, List.length_map]
   refine callP_eq rfl rfl h21 ?_
   simp only [go_sem, Nat.reduceEqDiff, Nat.reduceAdd, Nat.reduceLeDiff, List.length_map]
   simp_all [hasM]
  ·simp only [go_sem, Nat.reduceEqDiff, Nat.reduceAdd, Nat.reduceLeDiff, List.length_map]
   refine condE_split (fun h2 => ?_) (fun h2 => ?_)
   ·simp only [go_sem, Nat.reduceEqDiff, Nat.reduceAdd, Nat.reduceLeDiff, List.length_map]
    refine callQ_by _ rfl rfl h23 ?_
    simp only [go_sem, Nat.reduceEqDiff, Nat.reduceAdd, Nat.reduceLeDiff, List.length_map]
    have hkd : kd = 2 := by simpa using h2
    subst hkd
    simp only [hasM, setC, valC] at h ⊢
    have hr : rightV ⟨2, n, b⟩ = true := by simpa using h
    rw [hr]
    simp
    cases (ss.any fun x => decide (b = x)) <;> cases co <;> rfl
   ·simp only [go_sem, Nat.reduceEqDiff, Nat.reduceAdd, Nat.reduceLeDiff, List.length_map]
    simp_all [hasM]
end Go.Proofs

namespace Go.Proofs
open Go.Vm
set_option linter.unusedSimpArgs false
theorem kCloneS (es : List (List D)) (h2 : ∀ e ∈ es, e.length = 1) (hl : es.length ≤ 1000000) : PureAt Tryz.prog 86 [.sl none es] (· = .sl none es) := by
 refine pure_of r86 (by kernel_rfl) ?_
 unfold m86
 simp only [go_sem, Nat.reduceEqDiff, Nat.reduceAdd, Nat.reduceLeDiff, List.length_map]
 intro b hb
 refine condE_split (fun h => ?_) (fun h => ?_)
 ·simp only [go_sem, Nat.reduceEqDiff, Nat.reduceAdd, Nat.reduceLeDiff, List.length_map]
  simp_all
 ·simp only [go_sem, Nat.reduceEqDiff, Nat.reduceAdd, Nat.reduceLeDiff, List.length_map, List.length_append, List.nil_append]
  simp only [Nat.zero_add]
  refine ⟨h2, by omega, by omega⟩
def gapsGo : List Rg → Int → List Rg → List Rg
 | [], a, out => out ++ [(a, 9223372036854775807)]
 | r :: rs, a, out => if r.2 = 9223372036854775807 then (if r.1 > a then out ++ [(a, IntKind.i64.wrap (r.1 - 1))] else out) else gapsGo rs (IntKind.i64.wrap (r.2 + 1)) (if r.1 > a then out ++ [(a, IntKind.i64.wrap (r.1 - 1))] else out)
def inv18 (rs : List Rg) (S : St) (n : Nat) : Prop := ∃ (i : Nat) (a : Int) (out : List Rg), i ≤ rs.length ∧ n = rs.length - i ∧ gapsGo (rs.drop i) a out = gapsGo rs (-9223372036854775808) [] ∧ out.length ≤ i ∧
 S.trim [2, 3, 6, 7, 8] [] [(2, 65, 2)] = ⟨[(2, .sl (some (2, 65, 2)) (out.map encR)), (3, .val (.int .i64 a)), (6, .sl none (rs.map encR)), (7, .val (.int .i64 rs.length)), (8, .val (.int .i64 i))], [], [((2, 65, 2), true)]⟩
theorem kgaps (rs : List Rg) (hl : rs.length ≤ 1000000) : PureAt Tryz.prog 85 [.sl none (rs.map encR)] (· = .sl none ((gapsGo rs (-9223372036854775808) []).map encR)) := by
 refine pure_of r85 (by kernel_rfl) ?_
 unfold m85
 simp only [go_sem, Nat.reduceEqDiff, Nat.reduceAdd, Nat.reduceLeDiff, List.length_map]
 refine ev_loop_by (inv18 rs) rs.length ⟨0, -9223372036854775808, [], by simp, by simp, by simp, by simp, by simp only [go_sem, Nat.reduceEqDiff, Nat.reduceAdd, Nat.reduceLeDiff, List.length_map]; rfl⟩ ?_
 rintro n S ⟨i, a, out, hi, hn, hg, hlen, hS⟩
 rw [ev_trim, hS]
 subst hn
 clear hS S
 simp only [go_sem, Nat.reduceEqDiff, Nat.reduceAdd, Nat.reduceLeDiff, List.length_map]
 refine condE_split (fun h => ?_) (fun h => ?_)
 ·have hi' : i < rs.length := by simpa using h
  have hget : (rs.map encR)[i]? = some [.val (.int .i64 rs[i].1), .val (.int .i64 rs[i].2)] := by simp [encR, hi']
  have h0 : (0 ≤ (i : Int)) = True := by simp
  have hw : IntKind.i64.wrap ((i : Int) + 1) = ((i + 1 : Nat) : Int) := by rw [wrap64 (by omega) (by omega)]; rfl
  have hdrop : rs.drop i = rs[i] :: rs.drop (i + 1) := List.drop_eq_getElem_cons hi'
  have next : ∀ a' out' S, gapsGo (rs.drop (i + 1)) a' out' = gapsGo rs (-9223372036854775808) [] → out'.length ≤ i + 1 → S.trim [2, 3, 6, 7, 8] [] [(2, 65, 2)] = ⟨[(2, .sl (some (2, 65, 2)) (out'.map encR)), (3, .val (.int .i64 a')), (6, .sl none (rs.map encR)), (7, .val (.int .i64 rs.length)), (8, .val (.int .i64 (i + 1 : Nat)))], [], [((2, 65, 2), true)]⟩ →
      ∃ k, k < rs.length - i ∧ inv18 rs S k := fun a' out' S h1 h2 h3 => ⟨rs.length - (i + 1), by omega, i + 1, a', out', by omega, rfl, h1, h2, h3⟩
  rw [hdrop] at hg
  generalize rs[i] = r at hget hg
  obtain ⟨lo, up⟩ := r
  simp only at hget
  simp only [gapsGo] at hg
  simp only [h0, Int.toNat_natCast, hget, hw, go_sem, Nat.reduceEqDiff, Nat.reduceAdd, Nat.reduceLeDiff, List.length_map]
  refine condE_split (fun h1 => ?_) (fun h1 => ?_)
  ·have hgt : lo > a := by simpa using h1
   simp only [if_pos hgt] at hg
   simp only [go_sem, Nat.reduceEqDiff, Nat.reduceAdd, Nat.reduceLeDiff, List.length_map, hw]
   refine ⟨by intro e he; obtain ⟨r, _, rfl⟩ := List.mem_map.1 he; rfl, by simp, by omega, by omega, ?_⟩
   refine condE_split (fun h3 => ?_) (fun h3 => ?_)
   ·simp only [go_sem, Nat.reduceEqDiff, Nat.reduceAdd, Nat.reduceLeDiff, List.length_map]
    rw [if_pos (by simpa using h3)] at hg
    rw [← hg]; simp [encR]
   ·simp only [go_sem, Nat.reduceEqDiff, Nat.reduceAdd, Nat.reduceLeDiff, List.length_map, hw]
    rw [if_neg (by simpa using h3)] at hg
    refine next _ (out ++ [(a, IntKind.i64.wrap (lo - 1))]) _ hg (by simp; omega) ?_
    simp only [go_sem, Nat.reduceEqDiff, Nat.reduceAdd, Nat.reduceLeDiff, List.length_map]; simp [encR]
  ·have hgt : ¬ lo > a := by simpa using h1
   simp only [if_neg hgt] at hg
   simp only [go_sem, Nat.reduceEqDiff, Nat.reduceAdd, Nat.reduceLeDiff, List.length_map, hw]
   refine condE_split (fun h3 => ?_) (fun h3 => ?_)
   ·simp only [go_sem, Nat.reduceEqDiff, Nat.reduceAdd, Nat.reduceLeDiff, List.length_map]
    rw [if_pos (by simpa using h3)] at hg
    rw [← hg]
   ·simp only [go_sem, Nat.reduceEqDiff, Nat.reduceAdd, Nat.reduceLeDiff, List.length_map, hw]
    rw [if_neg (by simpa using h3)] at hg
    refine next _ out _ hg (by omega) ?_
    simp only [go_sem, Nat.reduceEqDiff, Nat.reduceAdd, Nat.reduceLeDiff, List.length_map]
 ·have hi' : i = rs.length := by simp at h hi; omega
  simp only [go_sem, Nat.reduceEqDiff, Nat.reduceAdd, Nat.reduceLeDiff, List.length_map]
  subst hi'
  rw [List.drop_length] at hg
  simp only [gapsGo] at hg
  refine ⟨by intro e he; obtain ⟨r, _, rfl⟩ := List.mem_map.1 he; rfl, by simp, by omega, by omega, ?_⟩
  rw [← hg]; simp [encR]
end Go.Proofs
