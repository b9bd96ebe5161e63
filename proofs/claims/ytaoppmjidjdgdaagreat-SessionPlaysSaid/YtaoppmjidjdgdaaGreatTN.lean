/- A part of the proof; what is proved stands in the last text. -/
import Derived.Test.YtaoppmjidjdgdaaGreatTB
set_option linter.unusedVariables false
set_option maxRecDepth 2000
namespace Go.Proofs
open Go.Vm
set_option linter.unusedSimpArgs false
def ptI (n : Int) : ValM := ⟨1, n, ⟨#[]⟩⟩
def ptS (s : ByteArray) : ValM := ⟨2, 0, s⟩
def ptsR (r : Rg) : List ValM := ([ptI r.1, ptI r.2] ++ if r.1 > -9223372036854775808 then [ptI (r.1 - 1)] else []) ++ if r.2 < 9223372036854775807 then [ptI (r.2 + 1)] else []
def pts0 : List ValM := [⟨0, 0, ⟨#[]⟩⟩, ptI (-9223372036854775808), ptI 9223372036854775807, ptI 0]
def ptsS (s : SetM) : List ValM := s.ints.flatMap ptsR ++ s.strs.map ptS
def ptsM (l : List SetM) (t : ByteArray) : List ValM := pts0 ++ l.flatMap ptsS ++ [ptS t]
theorem ptsR_len (r : Rg) : (ptsR r).length ≤ 4 := by
 unfold ptsR
 split <;> split <;> simp
theorem ptsRs_len (rs : List Rg) : (rs.flatMap ptsR).length ≤ 4 * rs.length := by
 induction rs with
 | nil => simp
 | cons r rs ih => have := ptsR_len r; simp only [List.flatMap_cons, List.length_append, List.length_cons]; omega
theorem ptsS_len {l : List SetM} (h : ∀ s ∈ l, s.ints.length ≤ 490 ∧ s.strs.length ≤ 490) : (l.flatMap ptsS).length ≤ 2450 * l.length := by
 induction l with
 | nil => simp
 | cons s l ih =>
  have h1 := ptsRs_len s.ints
  have h2 := h s (by simp)
  have := ih (fun x hx => h x (by simp [hx]))
  simp only [List.flatMap_cons, List.length_append, List.length_cons, ptsS, List.length_map]; omega
theorem strs_len {l : List SetM} (h : ∀ s ∈ l, s.ints.length ≤ 490 ∧ s.strs.length ≤ 490) : (l.flatMap (·.strs)).length ≤ 490 * l.length := by
 induction l with
 | nil => simp
 | cons s l ih =>
  have h2 := h s (by simp)
  have := ih (fun x hx => h x (by simp [hx]))
  simp only [List.flatMap_cons, List.length_append, List.length_cons]; omega
theorem vals_len (l : List ValM) : ∀ e ∈ l.map valC, e.length = 3 := fun e he => by obtain ⟨v, _, rfl⟩ := List.mem_map.1 he; rfl
def ptSt (l : List SetM) (out : List ValM) (x : Nat) (rest : List (Nat × D)) : St := ⟨[(0, .sl none (l.map setC)), (3, .sl (some (13, 31, 3)) (out.map valC)), (4, .val (.string ⟨#[126]⟩)), (5, .val (.int .i64 x))] ++ rest, [], [((13, 31, 3), true)]⟩
def inv18a (l : List SetM) (S : St) (n : Nat) : Prop := ∃ i : Nat, i ≤ l.length ∧ n = l.length - i ∧ S.trim [0, 3, 4, 5] [] [(13, 31, 3)] = ptSt l (pts0 ++ (l.take i).flatMap ptsS) i []
def inv18b (l : List SetM) (out : List ValM) (rs : List Rg) (i : Nat) (S : St) (n : Nat) : Prop := ∃ k : Nat, k ≤ rs.length ∧ n = rs.length - k ∧
 S.trim [0, 3, 4, 5, 6] [] [(13, 31, 3)] = ptSt l (out ++ (rs.take k).flatMap ptsR) i [(6, .val (.int .i64 k))]
def inv18c (l : List SetM) (out : List ValM) (ss : List ByteArray) (i : Nat) (S : St) (n : Nat) : Prop := ∃ k : Nat, k ≤ ss.length ∧ n = ss.length - k ∧
 S.trim [0, 3, 4, 5, 8] [] [(13, 31, 3)] = ptSt l (out ++ (ss.take k).map ptS) i [(8, .val (.int .i64 k))]
def PtsOf (l : List SetM) (ps : List ValM) : Prop := ∃ t, ps = ptsM l t ∧ l.any (inStrs t) = false ∧ t.size ≤ 8
set_option maxHeartbeats 2000000 in
theorem kPoints5 (l : List SetM) (hl : l.length ≤ 40) (hf : ∀ s ∈ l, s.ints.length ≤ 490 ∧ s.strs.length ≤ 490) (hb : ∀ s ∈ l, ∀ r ∈ s.ints, InB r) :
    FreshAt Tryz.prog 77 [.sl none (l.map setC)] 31 3 (fun es => ∃ ps, es = ps.map valC ∧ PtsOf l ps) := by
 refine fresh_of r77 (by kernel_rfl) ?_
 unfold m77
 simp only [go_sem, Nat.reduceEqDiff, Nat.reduceAdd, Nat.reduceLeDiff, List.length_map]
 refine ev_loop_by (inv18a l) l.length ⟨0, by simp, by simp, by simp only [ptSt, List.take_zero, List.flatMap_nil, List.append_nil, pts0, ptI, List.map_cons, List.map_nil, valC, go_sem, Nat.reduceEqDiff, Nat.reduceAdd, Nat.reduceLeDiff, List.length_map]; rfl⟩ ?_
 rintro n S ⟨i, hi, hn, hS⟩
 rw [ev_trim, hS]
 subst hn
 clear hS S
 unfold ptSt
 simp only [List.append_nil, go_sem, Nat.reduceEqDiff, Nat.reduceAdd, Nat.reduceLeDiff, List.length_map]
 refine condE_split (fun h => ?_) (fun h => ?_)
 ·have hi' : i < l.length := by simpa using h
  have hget : (l.map setC)[i]? = some [.val (.bool l[i].absent), .sl none (l[i].ints.map encR), .val (.bool l[i].co), .sl none (l[i].strs.map encSt)] := by simp [setC, hi']
  have h0 : (0 ≤ (i : Int)) = True := by simp
  have hw : IntKind.i64.wrap ((i : Int) + 1) = ((i + 1 : Nat) : Int) := by rw [wrap64 (by omega) (by omega)]; rfl
  have hpl : (pts0 ++ (l.take i).flatMap ptsS).length ≤ 4 + 2450 * i := by
   have := ptsS_len (l := l.take i) (fun s hs => hf s (List.mem_of_mem_take hs))
   simp [pts0] at this ⊢; omega
  have hfi := hf l[i] (by simp)
  have hbi := hb l[i] (by simp)
  have htake : pts0 ++ (l.take (i + 1)).flatMap ptsS = pts0 ++ (l.take i).flatMap ptsS ++ l[i].ints.flatMap ptsR ++ l[i].strs.map ptS := by
   rw [List.take_succ_eq_append_getElem hi', List.flatMap_append]
   simp only [List.flatMap_cons, List.flatMap_nil, List.append_nil, ptsS, List.append_assoc]
  generalize pts0 ++ (l.take i).flatMap ptsS = out at *
  simp only [go_sem, Nat.reduceEqDiff, Nat.reduceAdd, Nat.reduceLeDiff, List.length_map]
  refine ev_loop_by (inv18b l out l[i].ints i) l[i].ints.length ⟨0, by simp, by simp, by simp only [ptSt, List.take_zero, List.flatMap_nil, List.append_nil, go_sem, Nat.reduceEqDiff, Nat.reduceAdd, Nat.reduceLeDiff, List.length_map]; rfl⟩ ?_
  rintro n S ⟨k, hk, hn, hS⟩
  rw [ev_trim, hS]
  subst hn
  clear hS S
  unfold ptSt
  simp only [h0, Int.toNat_natCast, hget, List.cons_append, List.nil_append, go_sem, Nat.reduceEqDiff, Nat.reduceAdd, Nat.reduceLeDiff, List.length_map]
  refine condE_split (fun h1 => ?_) (fun h1 => ?_)
  ·have hk' : k < l[i].ints.length := by simpa using h1
   have hget' : (l[i].ints.map encR)[k]? = some [.val (.int .i64 l[i].ints[k].1), .val (.int .i64 l[i].ints[k].2)] := by simp [encR, hk']
   have k0 : (0 ≤ (k : Int)) = True := by simp
   have hw' : IntKind.i64.wrap ((k : Int) + 1) = ((k + 1 : Nat) : Int) := by rw [wrap64 (by omega) (by omega)]; rfl
   have hpl' : (out ++ (l[i].ints.take k).flatMap ptsR).length ≤ 4 + 2450 * i + 4 * k := by
    have := ptsRs_len (l[i].ints.take k)
    simp at this ⊢; omega
   have htake' : out ++ (l[i].ints.take (k + 1)).flatMap ptsR = out ++ (l[i].ints.take k).flatMap ptsR ++ ptsR l[i].ints[k] := by
    rw [List.take_succ_eq_append_getElem hk', List.flatMap_append]
    simp only [List.flatMap_cons, List.flatMap_nil, List.append_nil, List.append_assoc]
   have hbk := hbi _ (List.getElem_mem hk')
   have next : ∀ S, S.trim [0, 3, 4, 5, 6] [] [(13, 31, 3)] = ptSt l (out ++ (l[i].ints.take k).flatMap ptsR ++ ptsR l[i].ints[k]) i [(6, .val (.int .i64 (k + 1 : Nat)))] → ∃ k', k' < l[i].ints.length - k ∧ inv18b l out l[i].ints i S k' := fun S h =>
    ⟨l[i].ints.length - (k + 1), by omega, k + 1, by omega, rfl, by rw [htake']; exact h⟩
   generalize out ++ (l[i].ints.take k).flatMap ptsR = out' at *
   generalize l[i].ints[k] = r at *
   obtain ⟨lo, up⟩ := r
   simp only [InB] at hbk
   simp only [h0, k0, Int.toNat_natCast, hget, hget', go_sem, Nat.reduceEqDiff, Nat.reduceAdd, Nat.reduceLeDiff, List.length_map]
   have hv := vals_len out'
   have hw1 : -9223372036854775808 < lo → IntKind.i64.wrap (lo - 1) = lo - 1 := fun h => wrap64 (by omega) (by omega)
   have hw2 : up < 9223372036854775807 → IntKind.i64.wrap (up + 1) = up + 1 := fun h => wrap64 (by omega) (by omega)
   refine ⟨hv, by rintro y (rfl | rfl) <;> rfl, by omega, by omega, ?_⟩
   refine condE_split (fun h2 => ?_) (fun h2 => ?_)
   ·have h2 : lo > -9223372036854775808 := by simpa using h2
    simp only [hw1 h2, go_sem, Nat.reduceEqDiff, Nat.reduceAdd, Nat.reduceLeDiff, List.length_map]
    refine ⟨by intro e he; rcases List.mem_append.1 he with he | he; exact hv e he; simp at he; rcases he with rfl | rfl <;> rfl, by simp, by simp only [List.length_append, List.length_map, List.length_cons, List.length_nil]; omega, by simp only [List.length_append, List.length_map, List.length_cons, List.length_nil]; omega, ?_⟩
    refine condE_split (fun h3 => ?_) (fun h3 => ?_)
    ·have h3 : up < 9223372036854775807 := by simpa using h3
     simp only [hw2 h3, go_sem, Nat.reduceEqDiff, Nat.reduceAdd, Nat.reduceLeDiff, List.length_map]
     refine ⟨by intro e he; rcases List.mem_append.1 he with he | he; rcases List.mem_append.1 he with he | he; exact hv e he; simp at he; rcases he with rfl | rfl <;> rfl; simp at he; subst he; rfl, by simp, by simp only [List.length_append, List.length_map, List.length_cons, List.length_nil]; omega, by simp only [List.length_append, List.length_map, List.length_cons, List.length_nil]; omega, ?_⟩
     simp only [hw', go_sem, Nat.reduceEqDiff, Nat.reduceAdd, Nat.reduceLeDiff, List.length_map]
     refine next _ ?_
     simp only [ptSt, ptsR, if_pos h2, if_pos h3, List.map_append, List.map_cons, List.map_nil, valC, ptI, List.append_assoc, List.cons_append, List.nil_append, go_sem, Nat.reduceEqDiff, Nat.reduceAdd, Nat.reduceLeDiff, List.length_map]
    ·have h3 : ¬ up < 9223372036854775807 := by simpa using h3
     simp only [hw', go_sem, Nat.reduceEqDiff, Nat.reduceAdd, Nat.reduceLeDiff, List.length_map]
     refine next _ ?_
     simp only [ptSt, ptsR, if_pos h2, if_neg h3, List.map_append, List.map_cons, List.map_nil, valC, ptI, List.append_assoc, List.cons_append, List.nil_append, List.append_nil, go_sem, Nat.reduceEqDiff, Nat.reduceAdd, Nat.reduceLeDiff, List.length_map]
   ·have h2 : ¬ lo > -9223372036854775808 := by simpa using h2
    simp only [go_sem, Nat.reduceEqDiff, Nat.reduceAdd, Nat.reduceLeDiff, List.length_map]
    refine condE_split (fun h3 => ?_) (fun h3 => ?_)
    ·have h3 : up < 9223372036854775807 := by simpa using h3
     simp only [hw2 h3, go_sem, Nat.reduceEqDiff, Nat.reduceAdd, Nat.reduceLeDiff, List.length_map]
     refine ⟨by intro e he; rcases List.mem_append.1 he with he | he; exact hv e he; simp at he; rcases he with rfl | rfl <;> rfl, by simp, by simp only [List.length_append, List.length_map, List.length_cons, List.length_nil]; omega, by simp only [List.length_append, List.length_map, List.length_cons, List.length_nil]; omega, ?_⟩
     simp only [hw', go_sem, Nat.reduceEqDiff, Nat.reduceAdd, Nat.reduceLeDiff, List.length_map]
     refine next _ ?_
     simp only [ptSt, ptsR, if_neg h2, if_pos h3, List.map_append, List.map_cons, List.map_nil, valC, ptI, List.append_assoc, List.cons_append, List.nil_append, List.append_nil, go_sem, Nat.reduceEqDiff, Nat.reduceAdd, Nat.reduceLeDiff, List.length_map]
    ·have h3 : ¬ up < 9223372036854775807 := by simpa using h3
     simp only [hw', go_sem, Nat.reduceEqDiff, Nat.reduceAdd, Nat.reduceLeDiff, List.length_map]
     refine next _ ?_
     simp only [ptSt, ptsR, if_neg h2, if_neg h3, List.map_append, List.map_cons, List.map_nil, valC, ptI, List.append_assoc, List.cons_append, List.nil_append, List.append_nil, go_sem, Nat.reduceEqDiff, Nat.reduceAdd, Nat.reduceLeDiff, List.length_map]
  ·have hkl : ¬ k < l[i].ints.length := by simpa using h1
   have hpl2 : (out ++ l[i].ints.flatMap ptsR).length ≤ 4 + 2450 * i + 1960 := by
    have := ptsRs_len l[i].ints
    simp at this ⊢; omega
   rw [List.take_of_length_le (by omega)]
   generalize out ++ l[i].ints.flatMap ptsR = out2 at *
   simp only [go_sem, Nat.reduceEqDiff, Nat.reduceAdd, Nat.reduceLeDiff, List.length_map]
   refine ev_loop_by (inv18c l out2 l[i].strs i) l[i].strs.length ⟨0, by simp, by simp, by simp only [ptSt, List.take_zero, List.map_nil, List.append_nil, go_sem, Nat.reduceEqDiff, Nat.reduceAdd, Nat.reduceLeDiff, List.length_map]; rfl⟩ ?_
   clear hk h1 hkl k
   rintro n S ⟨k, hk, hn, hS⟩
   rw [ev_trim, hS]
   subst hn
   clear hS S
   unfold ptSt
   simp only [h0, Int.toNat_natCast, hget, List.cons_append, List.nil_append, go_sem, Nat.reduceEqDiff, Nat.reduceAdd, Nat.reduceLeDiff, List.length_map]
   refine condE_split (fun h1 => ?_) (fun h1 => ?_)
   ·have hk' : k < l[i].strs.length := by simpa using h1
    have hget' : (l[i].strs.map encSt)[k]? = some [.val (.string l[i].strs[k])] := by simp [encSt, hk']
    have k0 : (0 ≤ (k : Int)) = True := by simp
    have hw' : IntKind.i64.wrap ((k : Int) + 1) = ((k + 1 : Nat) : Int) := by rw [wrap64 (by omega) (by omega)]; rfl
    have hpl' : (out2 ++ (l[i].strs.take k).map ptS).length ≤ 4 + 2450 * i + 1960 + k := by
     simp at hpl2 ⊢; omega
    have htake' : out2 ++ (l[i].strs.take (k + 1)).map ptS = out2 ++ (l[i].strs.take k).map ptS ++ [ptS l[i].strs[k]] := by
     rw [List.take_succ_eq_append_getElem hk', List.map_append]
     simp only [List.map_cons, List.map_nil, List.append_assoc]
    have next : ∀ S, S.trim [0, 3, 4, 5, 8] [] [(13, 31, 3)] = ptSt l (out2 ++ (l[i].strs.take k).map ptS ++ [ptS l[i].strs[k]]) i [(8, .val (.int .i64 (k + 1 : Nat)))] → ∃ k', k' < l[i].strs.length - k ∧ inv18c l out2 l[i].strs i S k' := fun S h =>
     ⟨l[i].strs.length - (k + 1), by omega, k + 1, by omega, rfl, by rw [htake']; exact h⟩
    generalize out2 ++ (l[i].strs.take k).map ptS = out' at *
    have hv := vals_len out'
    simp only [h0, k0, Int.toNat_natCast, hget, hget', go_sem, Nat.reduceEqDiff, Nat.reduceAdd, Nat.reduceLeDiff, List.length_map]
    refine ⟨hv, by simp, by omega, by omega, ?_⟩
    simp only [hw', go_sem, Nat.reduceEqDiff, Nat.reduceAdd, Nat.reduceLeDiff, List.length_map]
    refine next _ ?_
    simp only [ptSt, List.map_append, List.map_cons, List.map_nil, valC, ptS, List.append_assoc, List.cons_append, List.nil_append, List.append_nil, go_sem, Nat.reduceEqDiff, Nat.reduceAdd, Nat.reduceLeDiff, List.length_map]
   ·have hkl : ¬ k < l[i].strs.length := by simpa using h1
    rw [List.take_of_length_le (by omega)]
    simp only [hw, go_sem, Nat.reduceEqDiff, Nat.reduceAdd, Nat.reduceLeDiff, List.length_map]
    refine ⟨l.length - (i + 1), by omega, i + 1, by omega, rfl, ?_⟩
    rw [htake]
    simp only [ptSt, List.append_nil, go_sem, Nat.reduceEqDiff, Nat.reduceAdd, Nat.reduceLeDiff, List.length_map]
 ·have hil : ¬ i < l.length := by simpa using h
  rw [List.take_of_length_le (by omega)]
  simp only [go_sem, Nat.reduceEqDiff, Nat.reduceAdd, Nat.reduceLeDiff, List.length_map]
  have hfl := ptsS_len hf
  have hns := strs_len hf
  refine callP_by rfl rfl (kFresh l (by omega) (fun x hx => by have := hf x hx; omega) (by omega) ⟨#[126]⟩ (by decide)) ?_
  rintro d ⟨k, hk, rfl, hfr⟩
  generalize hoo : pts0 ++ l.flatMap ptsS = out
  have hpl : out.length ≤ 4 + 2450 * l.length := by rw [← hoo]; simp [pts0] at hfl ⊢; omega
  have hv := vals_len out
  simp only [go_sem, Nat.reduceEqDiff, Nat.reduceAdd, Nat.reduceLeDiff, List.length_map]
  refine ⟨hv, by simp, by omega, by omega, ?_⟩
  refine ⟨out ++ [ptS (⟨#[126]⟩ ++ lb (digL k))], ?_, _, by rw [← hoo]; rfl, hfr, ?_⟩
  ·simp only [List.map_append, List.map_cons, List.map_nil, valC, ptS, go_sem, Nat.reduceEqDiff, Nat.reduceAdd, Nat.reduceLeDiff, List.length_map]
  ·have := digL_len k 5 (by omega) (by omega)
   rw [ByteArray.size_append, lb_size]
   have : (ByteArray.mk #[126]).size = 1 := rfl
   omega
end Go.Proofs

namespace Go.Proofs
open Go.Vm
set_option linter.unusedSimpArgs false
theorem PtsOf.len5 {l : List SetM} {ps : List ValM} (h : PtsOf l ps) (hf : ∀ s ∈ l, s.ints.length ≤ 490 ∧ s.strs.length ≤ 490) : ps.length ≤ 5 + 2450 * l.length := by
 obtain ⟨t, rfl, -, -⟩ := h
 have := ptsS_len hf
 simp [ptsM, pts0] at this ⊢; omega
def leaves (a b : SetM) (p : ValM) : Bool := hasM a p && !hasM b p
def inv24 (a b : SetM) (ps : List ValM) (S : St) (n : Nat) : Prop := ∃ i : Nat, i ≤ ps.length ∧ n = ps.length - i ∧ (∀ j, j < i → ∀ h : j < ps.length, leaves a b ps[j] = false) ∧
 S.trim [2, 3, 5, 6] [2, 3] [(10, 31, 3)] = ⟨[(2, .ptr 2 0), (3, .ptr 3 0), (5, .sl (some (10, 31, 3)) (ps.map valC)), (6, .val (.int .i64 i))], [(2, setC a), (3, setC b)], [((10, 31, 3), true)]⟩
theorem krefIn35 (a b : SetM) (hf : ∀ s ∈ [a, b], s.ints.length ≤ 490 ∧ s.strs.length ≤ 490) (hb : ∀ s ∈ [a, b], ∀ r ∈ s.ints, InB r) :
    PureAt Tryz.prog 71 [.agg (setC a), .agg (setC b)] (fun d => ∃ ps, PtsOf [a, b] ps ∧ d = .val (.bool (!ps.any (leaves a b)))) := by
 have pp := kPoints5 [a, b] (by simp) hf hb
 have l1 := hf a (by simp)
 have l2 := hf b (by simp)
 have hp1 := fun v => krefHas3 a (by omega) (by omega) v
 have hp2 := fun v => krefHas3 b (by omega) (by omega) v
 refine pure_of r71 (by kernel_rfl) ?_
 unfold m71
 simp only [setC, go_sem, Nat.reduceEqDiff, Nat.reduceAdd, Nat.reduceLeDiff, List.length_map]
 refine callF_by rfl rfl pp ?_
 rintro es ⟨ps, rfl, hps⟩
 have hpl := hps.len5 hf
 simp only [List.length_cons, List.length_nil] at hpl
 simp only [go_sem, Nat.reduceEqDiff, Nat.reduceAdd, Nat.reduceLeDiff, List.length_map]
 refine ev_loop_by (inv24 a b ps) ps.length ⟨0, by simp, by simp, by simp, by simp only [setC, go_sem, Nat.reduceEqDiff, Nat.reduceAdd, Nat.reduceLeDiff, List.length_map]; rfl⟩ ?_
 rintro n S ⟨i, hi, hn, hq, hS⟩
 rw [ev_trim, hS]
 subst hn
 clear hS S
 simp only [setC, go_sem, Nat.reduceEqDiff, Nat.reduceAdd, Nat.reduceLeDiff, List.length_map]
 refine condE_split (fun h => ?_) (fun h => ?_)
 ·have hi' : i < ps.length := by simpa using h
  have hget : (ps.map valC)[i]? = some [.val (.int .i64 ps[i].kind), .val (.int .i64 ps[i].n), .val (.string ps[i].s)] := by simp [valC, hi']
  have h0 : (0 ≤ (i : Int)) = True := by simp
  have hw : IntKind.i64.wrap ((i : Int) + 1) = ((i + 1 : Nat) : Int) := by rw [wrap64 (by omega) (by omega)]; rfl
  simp only [h0, Int.toNat_natCast, hget, go_sem, Nat.reduceEqDiff, Nat.reduceAdd, Nat.reduceLeDiff, List.length_map]
  refine callQ_by _ rfl rfl (hp1 ps[i]) ?_
  simp only [h0, Int.toNat_natCast, hget, go_sem, Nat.reduceEqDiff, Nat.reduceAdd, Nat.reduceLeDiff, List.length_map]
  first | refine condE_split (fun h1 => ?_) (fun h1 => ?_) | refine wantE_split (fun h1 => ?_) (fun h1 => ?_) | refine wantQ_split (fun h1 => ?_) (fun h1 => ?_)
  ·simp only [h1, h0, Int.toNat_natCast, hget, go_sem, Nat.reduceEqDiff, Nat.reduceAdd, Nat.reduceLeDiff, List.length_map]
   refine callQ_by _ rfl rfl (hp2 ps[i]) ?_
   simp only [h1, h0, Int.toNat_natCast, hget, go_sem, Nat.reduceEqDiff, Nat.reduceAdd, Nat.reduceLeDiff, List.length_map]
   refine condE_split (fun h2 => ?_) (fun h2 => ?_)
   ·simp only [go_sem, Nat.reduceEqDiff, Nat.reduceAdd, Nat.reduceLeDiff, List.length_map]
    have hl : leaves a b ps[i] = true := by simp only [leaves, h1, h2]; rfl
    have : ps.any (leaves a b) = true := List.any_eq_true.2 ⟨ps[i], by simp, hl⟩
    exact ⟨ps, hps, by rw [this]; rfl⟩
   ·simp only [hw, go_sem, Nat.reduceEqDiff, Nat.reduceAdd, Nat.reduceLeDiff, List.length_map]
    refine ⟨ps.length - (i + 1), by omega, i + 1, by omega, rfl, fun j hj hjl => ?_, by simp only [setC, go_sem, Nat.reduceEqDiff, Nat.reduceAdd, Nat.reduceLeDiff, List.length_map]⟩
    by_cases e : j = i
    ·subst e; simp only [leaves, h1, h2]; rfl
    ·exact hq j (by omega) hjl
  ·simp only [h1, hw, go_sem, Nat.reduceEqDiff, Nat.reduceAdd, Nat.reduceLeDiff, List.length_map]
   refine ⟨ps.length - (i + 1), by omega, i + 1, by omega, rfl, fun j hj hjl => ?_, by simp only [setC, go_sem, Nat.reduceEqDiff, Nat.reduceAdd, Nat.reduceLeDiff, List.length_map]⟩
   by_cases e : j = i
   ·subst e; simp only [leaves, h1]; rfl
   ·exact hq j (by omega) hjl
 ·have hil : ¬ i < ps.length := by simpa using h
  simp only [go_sem, Nat.reduceEqDiff, Nat.reduceAdd, Nat.reduceLeDiff, List.length_map]
  have : ps.any (leaves a b) = false := any_none fun j hj => hq j (by omega)
  exact ⟨ps, hps, by rw [this]; rfl⟩
end Go.Proofs
