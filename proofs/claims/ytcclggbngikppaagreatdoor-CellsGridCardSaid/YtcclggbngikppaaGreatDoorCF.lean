/- A part of the proof; what is proved stands in the last text. -/
import Derived.Test.YtcclggbngikppaaGreatDoorCE
import Derived.Test.YtcclggbngikppaaGreatDoorCC
import Derived.Test.YtcclggbngikppaaGreatDoorT230
set_option linter.unusedVariables false
set_option maxRecDepth 2000
namespace Go.Proofs
open Go.Vm
set_option linter.unusedSimpArgs false
def rOf (l : List SetM) : List SetM := l.filter rightM
theorem rOf_snoc (l : List SetM) (s : SetM) : rOf (l ++ [s]) = if rightM s = true then rOf l ++ [s] else rOf l := by
 unfold rOf
 rw [List.filter_append]
 by_cases h : rightM s = true
 ·rw [if_pos h, List.filter_cons_of_pos h]; rfl
 ·rw [if_neg h, List.filter_cons_of_neg h]; simp
theorem rgs_snoc (r : List SetM) (s : SetM) : rgsOf (r ++ [s]) = rgsOf r ++ s.ints := by unfold rgsOf; rw [List.flatMap_append]; simp
theorem strs_snoc (r : List SetM) (s : SetM) : strsOf (r ++ [s]) = strsOf r ++ s.strs := by unfold strsOf; rw [List.flatMap_append]; simp
theorem hiF_app (lo : Int) (a b : List Rg) : hiF lo (a ++ b) = b.foldl (stepH lo) (hiF lo a) := by unfold hiF; rw [List.foldl_append]
theorem take_get {α : Type} (l : List α) (i : Nat) (d : α) (h : i < l.length) : l.take (i + 1) = l.take i ++ [l.getD i d] := by
 rw [List.take_succ_eq_append_getElem h]; simp [h]
theorem min_if (a b : Int) : (if b < a then b else a) = min a b := by omega
theorem rOf_ok {l : List SetM} (hb : ∀ s ∈ l, Bnd s) : AllOK (rOf l) := fun s hs => by
 obtain ⟨h1, h2⟩ := List.mem_filter.1 hs
 exact Few1.ok (hb s h1) h2
theorem cut1_next (r : List SetM) {j : Nat} (hj : j < (endsM r).length) : cut1 r (j + 1) = cut1 r j ++ [cellN (loAt (endsM r) j) ((endsM r).getD j 0)] := by
 unfold cut1
 rw [cellsI_take _ hj, List.cons_append]
theorem lessR (x y : ByteArray) : Op.bytesLess x.toList y.toList = lessB x y := by
 rw [bytesLess_lt, ByteArray.toList_eq, ByteArray.toList_eq]; rfl
theorem gtR (u x : ByteArray) : (!(lessB u x || u.toList == x.toList)) = lessB x u := by
 rcases ltB_total u x with h | h | h
 ·rw [lessB_iff.2 h]
  cases hh : lessB x u
  ·rfl
  ·exact absurd (ltB_trans h (lessB_iff.1 hh)) (ltB_irrefl _)
 ·subst h
  cases hh : lessB u u
  ·simp
  ·exact absurd (lessB_iff.1 hh) (ltB_irrefl _)
 ·rw [lessB_iff.2 h]
  cases hh : lessB u x
  ·simp only [Bool.false_or, Bool.not_eq_true', beq_eq_false_iff_ne, ne_eq]
   intro e
   have : u = x := bl_inj (by rw [ByteArray.toList_eq, ByteArray.toList_eq] at e; exact e)
   subst this
   exact ltB_irrefl _ h
  ·exact absurd (ltB_trans h (lessB_iff.1 hh)) (ltB_irrefl _)
theorem q0 : (((0 : Nat) : Int) == 0) = true := rfl
set_option maxHeartbeats 16000000 in
theorem kCut9 (l : List SetM) (hb : ∀ s ∈ l, Bnd s) (hl : l.length ≤ 100) (hs : ∀ s ∈ l, s.ints.length ≤ 400 ∧ s.strs.length ≤ 400) : PureAt Tryz.prog 27 [.sl none (l.map setC)] (· = .sl none ((cutR (rOf l)).map setC)) := by
 have hok := rOf_ok hb
 have hrl : (rOf l).length ≤ 100 := Nat.le_trans (List.length_filter_le _ _) hl
 have hrs : ∀ s ∈ rOf l, s.ints.length ≤ 400 ∧ s.strs.length ≤ 400 := fun s h => hs s (List.mem_filter.1 h).1
 have hE : (endsM (rOf l)).length ≤ 100000 := by
  have := ends_len (rOf l)
  have h3 := rgsOf_len (r := rOf l) (k := 400) (fun s m => (hrs s m).1)
  omega
 have hN : (namesM (rOf l)).length ≤ 100000 := by
  have := names_len (rOf l)
  have h3 := strsOf_len (r := rOf l) (k := 400) (fun s m => (hrs s m).2)
  omega
 refine pure_of r27 (by kernel_rfl) ?_
 unfold m27
 simp only [go_sem, Nat.reduceEqDiff, Nat.reduceAdd, Nat.reduceLeDiff, List.length_map]
 have hE0 : 0 < (endsM (rOf l)).length := List.length_pos_of_mem (maxI_mem _)
 refine loop_N (endsM (rOf l)).length (fun j => j < (endsM (rOf l)).length) (fun j => ⟨[(0, .sl none (l.map setC)), (3, .sl (some (16, 31, 4)) ((cut1 (rOf l) j).map setC)), (4, .sl (some (4, 9, 1)) []), (5, .val (.int .i64 (loAt (endsM (rOf l)) j)))], [], [((4, 9, 1), true), ((16, 31, 4), true)]⟩) hE0 (by simp only [cut1, loAt, absS, List.take_zero, cellsI, setC, List.map_cons, List.map_nil, if_true, go_sem, Nat.reduceEqDiff, Nat.reduceAdd, Nat.reduceLeDiff, List.length_map]; rfl) ?_
 rintro j - hj
 obtain ⟨lo1, lo2, lo3⟩ := loAt_in hok hj
 have hat := hi_at hok hj
 have hlast := last_max hok hj
 have hcl := cut1_len (rOf l) (Nat.le_of_lt hj)
 have hnx := cut1_next (rOf l) hj
 have hlo1 : loAt (endsM (rOf l)) (j + 1) = (endsM (rOf l)).getD j 0 + 1 := by unfold loAt; rw [if_neg (by omega)]; rfl
 generalize loAt (endsM (rOf l)) j = lo at *
 simp only [go_sem, Nat.reduceEqDiff, Nat.reduceAdd, Nat.reduceLeDiff, List.length_map]
 refine loop_N l.length (fun _ => True) (fun i => ⟨[(0, .sl none (l.map setC)), (3, .sl (some (16, 31, 4)) ((cut1 (rOf l) j).map setC)), (4, .sl (some (4, 9, 1)) []), (5, .val (.int .i64 lo)), (6, .val (.int .i64 (hiF lo (rgsOf (rOf (l.take i)))))), (7, .val (.int .i64 i))], [], [((4, 9, 1), true), ((16, 31, 4), true)]⟩) trivial (by simp only [go_sem, Nat.reduceEqDiff, Nat.reduceAdd, Nat.reduceLeDiff, List.length_map]; rfl) ?_
 rintro i hi -
 simp only [go_sem, Nat.reduceEqDiff, Nat.reduceAdd, Nat.reduceLeDiff, List.length_map]
 refine condE_split (fun hc => ?_) (fun hc => ?_)
 ·have hi' : i < l.length := by simpa using hc
  have hup := up64 (show i < 1000000 by omega)
  have g1 := get_setC hi'
  have hm := setD_mem hi'
  have hsi := (hs _ hm).1
  have hbi := hb _ hm
  have pr := krefRight3 (l.getD i noM) (by have := (hs _ hm).1; omega) (by have := (hs _ hm).2; omega)
  have hti := take_get l i noM hi'
  have hro := rOf_snoc (l.take i) (l.getD i noM)
  rw [← hti] at hro
  generalize l.getD i noM = s at *
  unfold setC at pr
  simp only [nn0, Int.toNat_natCast, g1, setC, go_sem, Nat.reduceEqDiff, Nat.reduceAdd, Nat.reduceLeDiff, List.length_map]
  refine callP_eq rfl rfl pr ?_
  simp only [go_sem, Nat.reduceEqDiff, Nat.reduceAdd, Nat.reduceLeDiff, List.length_map]
  refine condE_split (fun hr => ?_) (fun hr => ?_)
  ·have hr' : ¬ rightM s = true := by simpa using hr
   rw [if_neg hr'] at hro
   simp only [hup, go_sem, Nat.reduceEqDiff, Nat.reduceAdd, Nat.reduceLeDiff, List.length_map]
   refine invN_next hi' trivial ?_
   simp only [hro, go_sem, Nat.reduceEqDiff, Nat.reduceAdd, Nat.reduceLeDiff, List.length_map]
  ·have hr' : rightM s = true := by simpa using hr
   rw [if_pos hr'] at hro
   simp only [go_sem, Nat.reduceEqDiff, Nat.reduceAdd, Nat.reduceLeDiff, List.length_map]
   refine loop_N s.ints.length (fun _ => True) (fun k => ⟨[(0, .sl none (l.map setC)), (3, .sl (some (16, 31, 4)) ((cut1 (rOf l) j).map setC)), (4, .sl (some (4, 9, 1)) []), (5, .val (.int .i64 lo)), (6, .val (.int .i64 ((s.ints.take k).foldl (stepH lo) (hiF lo (rgsOf (rOf (l.take i))))))), (7, .val (.int .i64 i)), (8, .val (.int .i64 k))], [], [((4, 9, 1), true), ((16, 31, 4), true)]⟩) trivial (by simp only [go_sem, Nat.reduceEqDiff, Nat.reduceAdd, Nat.reduceLeDiff, List.length_map]; rfl) ?_
   rintro k hk -
   simp only [nn0, Int.toNat_natCast, g1, setC, go_sem, Nat.reduceEqDiff, Nat.reduceAdd, Nat.reduceLeDiff, List.length_map]
   refine condE_split (fun hd => ?_) (fun hd => ?_)
   ·have hk' : k < s.ints.length := by simpa using hd
    have hupk := up64 (show k < 1000000 by omega)
    have g2 := get_encR hk'
    have hgm : s.ints.getD k (0, 0) ∈ s.ints := by simp [hk']
    have hgb := hbi _ hgm
    have htk := take_get s.ints k (0, 0) hk'
    generalize s.ints.getD k (0, 0) = g at *
    obtain ⟨ga, gb⟩ := g
    have hst : (s.ints.take (k + 1)).foldl (stepH lo) (hiF lo (rgsOf (rOf (l.take i)))) = stepH lo ((s.ints.take k).foldl (stepH lo) (hiF lo (rgsOf (rOf (l.take i))))) (ga, gb) := by rw [htk, List.foldl_append]; rfl
    generalize (s.ints.take k).foldl (stepH lo) (hiF lo (rgsOf (rOf (l.take i)))) = hh at *
    have hga := hgb.1
    simp only [nn0, Int.toNat_natCast, g1, setC, g2, encR, go_sem, Nat.reduceEqDiff, Nat.reduceAdd, Nat.reduceLeDiff, List.length_map]
    refine condE_split (fun h1 => ?_) (fun h1 => ?_)
    ·have h1' : ga > lo := by simpa using h1
     have wr : IntKind.i64.wrap (ga - 1) = ga - 1 := wrap64 (by unfold minI at lo1; omega) (by have := hga.2; simp only at this; omega)
     simp only [wr, min_if, go_sem, Nat.reduceEqDiff, Nat.reduceAdd, Nat.reduceLeDiff, List.length_map]
     refine condE_split (fun h2 => ?_) (fun h2 => ?_)
     ·have h2' : gb ≥ lo := by simpa using h2
      rw [show stepH lo hh (ga, gb) = min (min hh (ga - 1)) gb by unfold stepH; simp only [if_pos h1', if_pos h2']] at hst
      simp only [hupk, min_if, go_sem, Nat.reduceEqDiff, Nat.reduceAdd, Nat.reduceLeDiff, List.length_map]
      refine invN_next hk' trivial ?_
      simp only [hst, go_sem, Nat.reduceEqDiff, Nat.reduceAdd, Nat.reduceLeDiff, List.length_map]
     ·have h2' : ¬ gb ≥ lo := by simpa using h2
      rw [show stepH lo hh (ga, gb) = min hh (ga - 1) by unfold stepH; simp only [if_pos h1', if_neg h2']] at hst
      simp only [hupk, min_if, go_sem, Nat.reduceEqDiff, Nat.reduceAdd, Nat.reduceLeDiff, List.length_map]
      refine invN_next hk' trivial ?_
      simp only [hst, go_sem, Nat.reduceEqDiff, Nat.reduceAdd, Nat.reduceLeDiff, List.length_map]
    ·have h1' : ¬ ga > lo := by simpa using h1
     simp only [go_sem, Nat.reduceEqDiff, Nat.reduceAdd, Nat.reduceLeDiff, List.length_map]
     refine condE_split (fun h2 => ?_) (fun h2 => ?_)
     ·have h2' : gb ≥ lo := by simpa using h2
      rw [show stepH lo hh (ga, gb) = min hh gb by unfold stepH; simp only [if_neg h1', if_pos h2']] at hst
      simp only [hupk, min_if, go_sem, Nat.reduceEqDiff, Nat.reduceAdd, Nat.reduceLeDiff, List.length_map]
      refine invN_next hk' trivial ?_
      simp only [hst, go_sem, Nat.reduceEqDiff, Nat.reduceAdd, Nat.reduceLeDiff, List.length_map]
     ·have h2' : ¬ gb ≥ lo := by simpa using h2
      rw [show stepH lo hh (ga, gb) = hh by unfold stepH; simp only [if_neg h1', if_neg h2']] at hst
      simp only [hupk, min_if, go_sem, Nat.reduceEqDiff, Nat.reduceAdd, Nat.reduceLeDiff, List.length_map]
      refine invN_next hk' trivial ?_
      simp only [hst, go_sem, Nat.reduceEqDiff, Nat.reduceAdd, Nat.reduceLeDiff, List.length_map]
   ·have : k = s.ints.length := by simp at hd; omega
    subst this
    rw [List.take_length]
    simp only [hup, go_sem, Nat.reduceEqDiff, Nat.reduceAdd, Nat.reduceLeDiff, List.length_map]
    refine invN_next hi' trivial ?_
    simp only [hro, rgs_snoc, hiF_app, go_sem, Nat.reduceEqDiff, Nat.reduceAdd, Nat.reduceLeDiff, List.length_map]
 ·have : i = l.length := by simp at hc; omega
  subst this
  rw [List.take_length]
  simp only [go_sem, Nat.reduceEqDiff, Nat.reduceAdd, Nat.reduceLeDiff, List.length_map]
  refine ⟨setC_len _, by rintro y rfl; rfl, by omega, by omega, ?_⟩
  rw [hat]
  refine condE_split (fun hd => ?_) (fun hd => ?_)
  ·have hd' : j + 1 = (endsM (rOf l)).length := hlast.1 (by have := hd; simp only [beq_iff_eq] at this; exact this)
   have h20 : (cut1 (rOf l) j).map setC ++ [[.val (.bool false), .sl none [[.val (.int .i64 lo), .val (.int .i64 ((endsM (rOf l)).getD j 0))]], .val (.bool false), .sl none []]] = (cut2 (rOf l) 0).map setC := by
    have e1 : cut1 (rOf l) (j + 1) = cut2 (rOf l) 0 := by rw [hd']; unfold cut1 cut2; rw [List.take_length, List.take_zero]; simp
    rw [← e1, hnx, List.map_append]; rfl
   simp only [h20, go_sem, Nat.reduceEqDiff, Nat.reduceAdd, Nat.reduceLeDiff, List.length_map]
   refine loop_N (namesM (rOf l)).length (fun _ => True) (fun j => ⟨[(0, .sl none (l.map setC)), (3, .sl (some (16, 31, 4)) ((cut2 (rOf l) j).map setC)), (4, .sl (some (4, 9, 1)) (((namesM (rOf l)).take j).map encSt))], [], [((4, 9, 1), true), ((16, 31, 4), true)]⟩) trivial (by simp only [List.take_zero, List.map_nil, go_sem, Nat.reduceEqDiff, Nat.reduceAdd, Nat.reduceLeDiff, List.length_map]; rfl) ?_
   rintro q hq -
   have hbest := best_at (rOf l) q hq
   have hcl2 := cut2_len (rOf l) hq
   have hLl : ((namesM (rOf l)).take q).length = q := by rw [List.length_take]; omega
   simp only [go_sem, Nat.reduceEqDiff, Nat.reduceAdd, Nat.reduceLeDiff, List.length_map]
   refine loop_N l.length (fun _ => True) (fun i => ⟨[(0, .sl none (l.map setC)), (3, .sl (some (16, 31, 4)) ((cut2 (rOf l) q).map setC)), (4, .sl (some (4, 9, 1)) (((namesM (rOf l)).take q).map encSt)), (10, .val (.string ((bestN ((namesM (rOf l)).take q) (strsOf (rOf (l.take i)))).getD ⟨#[]⟩))), (11, .val (.bool (bestN ((namesM (rOf l)).take q) (strsOf (rOf (l.take i)))).isSome)), (12, .val (.int .i64 i))], [], [((4, 9, 1), true), ((16, 31, 4), true)]⟩) trivial (by simp only [go_sem, Nat.reduceEqDiff, Nat.reduceAdd, Nat.reduceLeDiff, List.length_map]; rfl) ?_
   rintro i hi -
   simp only [go_sem, Nat.reduceEqDiff, Nat.reduceAdd, Nat.reduceLeDiff, List.length_map]
   refine condE_split (fun hc => ?_) (fun hc => ?_)
   ·have hi' : i < l.length := by simpa using hc
    have hup := up64 (show i < 1000000 by omega)
    have g1 := get_setC hi'
    have hm := setD_mem hi'
    have hsi := (hs _ hm).2
    have pr := krefRight3 (l.getD i noM) (by have := (hs _ hm).1; omega) (by have := (hs _ hm).2; omega)
    have hti := take_get l i noM hi'
    have hro := rOf_snoc (l.take i) (l.getD i noM)
    rw [← hti] at hro
    generalize l.getD i noM = s at *
    unfold setC at pr
    simp only [nn0, Int.toNat_natCast, g1, setC, go_sem, Nat.reduceEqDiff, Nat.reduceAdd, Nat.reduceLeDiff, List.length_map]
    refine callP_eq rfl rfl pr ?_
    simp only [go_sem, Nat.reduceEqDiff, Nat.reduceAdd, Nat.reduceLeDiff, List.length_map]
    refine condE_split (fun hr => ?_) (fun hr => ?_)
    ·have hr' : ¬ rightM s = true := by simpa using hr
     rw [if_neg hr'] at hro
     simp only [hup, go_sem, Nat.reduceEqDiff, Nat.reduceAdd, Nat.reduceLeDiff, List.length_map]
     refine invN_next hi' trivial ?_
     simp only [hro, go_sem, Nat.reduceEqDiff, Nat.reduceAdd, Nat.reduceLeDiff, List.length_map]
    ·have hr' : rightM s = true := by simpa using hr
     rw [if_pos hr'] at hro
     simp only [go_sem, Nat.reduceEqDiff, Nat.reduceAdd, Nat.reduceLeDiff, List.length_map]
     refine loop_N s.strs.length (fun _ => True) (fun k => ⟨[(0, .sl none (l.map setC)), (3, .sl (some (16, 31, 4)) ((cut2 (rOf l) q).map setC)), (4, .sl (some (4, 9, 1)) (((namesM (rOf l)).take q).map encSt)), (10, .val (.string (((s.strs.take k).foldl (stepN ((namesM (rOf l)).take q)) (bestN ((namesM (rOf l)).take q) (strsOf (rOf (l.take i))))).getD ⟨#[]⟩))), (11, .val (.bool ((s.strs.take k).foldl (stepN ((namesM (rOf l)).take q)) (bestN ((namesM (rOf l)).take q) (strsOf (rOf (l.take i))))).isSome)), (12, .val (.int .i64 i)), (13, .val (.int .i64 k))], [], [((4, 9, 1), true), ((16, 31, 4), true)]⟩) trivial (by simp only [go_sem, Nat.reduceEqDiff, Nat.reduceAdd, Nat.reduceLeDiff, List.length_map]; rfl) ?_
     rintro k hk -
     simp only [nn0, Int.toNat_natCast, g1, setC, go_sem, Nat.reduceEqDiff, Nat.reduceAdd, Nat.reduceLeDiff, List.length_map]
     refine condE_split (fun hd => ?_) (fun hd => ?_)
     ·have hk' : k < s.strs.length := by simpa using hd
      have hupk := up64 (show k < 1000000 by omega)
      have g2 := get_encSt hk'
      have htk := take_get s.strs k ⟨#[]⟩ hk'
      generalize s.strs.getD k ⟨#[]⟩ = u at *
      have hst : (s.strs.take (k + 1)).foldl (stepN ((namesM (rOf l)).take q)) (bestN ((namesM (rOf l)).take q) (strsOf (rOf (l.take i)))) = stepN ((namesM (rOf l)).take q) ((s.strs.take k).foldl (stepN ((namesM (rOf l)).take q)) (bestN ((namesM (rOf l)).take q) (strsOf (rOf (l.take i))))) u := by rw [htk, List.foldl_append]; rfl
      generalize (s.strs.take k).foldl (stepN ((namesM (rOf l)).take q)) (bestN ((namesM (rOf l)).take q) (strsOf (rOf (l.take i)))) = ob at *
      generalize (namesM (rOf l)).take q = L at *
      cases hL : L.getLast? with
      | none =>
       have : L = [] := List.getLast?_eq_none_iff.1 hL
       subst this
       cases ob with
       | none =>
        simp only [nn0, Int.toNat_natCast, g1, setC, g2, lessR, gtR, List.length_nil, q0, List.map_nil, Option.isSome_none, go_sem, Nat.reduceEqDiff, Nat.reduceAdd, Nat.reduceLeDiff, List.length_map]
        have hs2 : stepN [] none u = some u := by simp [stepN, pastB, undB, hL]
        rw [hs2] at hst
        simp only [hupk, go_sem, Nat.reduceEqDiff, Nat.reduceAdd, Nat.reduceLeDiff, List.length_map]
        refine invN_next hk' trivial ?_
        simp only [hst, Option.getD_some, Option.isSome_some, Option.getD_none, Option.isSome_none, go_sem, Nat.reduceEqDiff, Nat.reduceAdd, Nat.reduceLeDiff, List.length_map]
       | some b =>
        simp only [nn0, Int.toNat_natCast, g1, setC, g2, lessR, gtR, List.length_nil, q0, List.map_nil, Option.isSome_some, Option.getD_some, go_sem, Nat.reduceEqDiff, Nat.reduceAdd, Nat.reduceLeDiff, List.length_map]
        refine condE_split (fun hub => ?_) (fun hub => ?_)
        ·skip
         have hs2 : stepN [] (some b) u = some u := by simp [stepN, pastB, undB, hL, hub]
         rw [hs2] at hst
         simp only [hupk, go_sem, Nat.reduceEqDiff, Nat.reduceAdd, Nat.reduceLeDiff, List.length_map]
         refine invN_next hk' trivial ?_
         simp only [hst, Option.getD_some, Option.isSome_some, Option.getD_none, Option.isSome_none, go_sem, Nat.reduceEqDiff, Nat.reduceAdd, Nat.reduceLeDiff, List.length_map]
        ·skip
         have hs2 : stepN [] (some b) u = some b := by simp [stepN, pastB, undB, hL, hub]
         rw [hs2] at hst
         simp only [hupk, go_sem, Nat.reduceEqDiff, Nat.reduceAdd, Nat.reduceLeDiff, List.length_map]
         refine invN_next hk' trivial ?_
         simp only [hst, Option.getD_some, Option.isSome_some, Option.getD_none, Option.isSome_none, go_sem, Nat.reduceEqDiff, Nat.reduceAdd, Nat.reduceLeDiff, List.length_map]
      | some x =>
       have hx := hL
       rw [List.getLast?_eq_getElem?] at hx
       have hlt : L.length - 1 < L.length := (List.getElem?_eq_some_iff.1 hx).1
       have e0 : ((L.length : Int) == 0) = false := by simp; intro h; rw [h] at hlt; simp at hlt
       have ew : IntKind.i64.wrap ((L.length : Int) - 1) = ((L.length - 1 : Nat) : Int) := by rw [wrap64 (by omega) (by omega)]; omega
       have gL : (L.map encSt)[L.length - 1]? = some [.val (.string x)] := by rw [List.getElem?_map, hx]; rfl
       cases ob with
       | none =>
        simp only [nn0, Int.toNat_natCast, g1, setC, g2, lessR, gtR, e0, ew, gL, Option.isSome_none, go_sem, Nat.reduceEqDiff, Nat.reduceAdd, Nat.reduceLeDiff, List.length_map]
        cases hxu : lessB x u
        ·simp only [go_sem, Nat.reduceEqDiff, Nat.reduceAdd, Nat.reduceLeDiff, List.length_map]
         have hs2 : stepN L none u = none := by simp [stepN, pastB, undB, hL, hxu]
         rw [hs2] at hst
         simp only [hupk, go_sem, Nat.reduceEqDiff, Nat.reduceAdd, Nat.reduceLeDiff, List.length_map]
         refine invN_next hk' trivial ?_
         simp only [hst, Option.getD_some, Option.isSome_some, Option.getD_none, Option.isSome_none, go_sem, Nat.reduceEqDiff, Nat.reduceAdd, Nat.reduceLeDiff, List.length_map]
        ·simp only [go_sem, Nat.reduceEqDiff, Nat.reduceAdd, Nat.reduceLeDiff, List.length_map]
         have hs2 : stepN L none u = some u := by simp [stepN, pastB, undB, hL, hxu]
         rw [hs2] at hst
         simp only [hupk, go_sem, Nat.reduceEqDiff, Nat.reduceAdd, Nat.reduceLeDiff, List.length_map]
         refine invN_next hk' trivial ?_
         simp only [hst, Option.getD_some, Option.isSome_some, Option.getD_none, Option.isSome_none, go_sem, Nat.reduceEqDiff, Nat.reduceAdd, Nat.reduceLeDiff, List.length_map]
       | some b =>
        simp only [nn0, Int.toNat_natCast, g1, setC, g2, lessR, gtR, e0, ew, gL, Option.isSome_some, Option.getD_some, go_sem, Nat.reduceEqDiff, Nat.reduceAdd, Nat.reduceLeDiff, List.length_map]
        cases hxu : lessB x u
        ·simp only [go_sem, Nat.reduceEqDiff, Nat.reduceAdd, Nat.reduceLeDiff, List.length_map]
         have hs2 : stepN L (some b) u = some b := by simp [stepN, pastB, undB, hL, hxu]
         rw [hs2] at hst
         simp only [hupk, go_sem, Nat.reduceEqDiff, Nat.reduceAdd, Nat.reduceLeDiff, List.length_map]
         refine invN_next hk' trivial ?_
         simp only [hst, Option.getD_some, Option.isSome_some, Option.getD_none, Option.isSome_none, go_sem, Nat.reduceEqDiff, Nat.reduceAdd, Nat.reduceLeDiff, List.length_map]
        ·simp only [lessR, go_sem, Nat.reduceEqDiff, Nat.reduceAdd, Nat.reduceLeDiff, List.length_map]
         refine condE_split (fun hub => ?_) (fun hub => ?_)
         ·skip
          have hs2 : stepN L (some b) u = some u := by simp [stepN, pastB, undB, hL, hxu, hub]
          rw [hs2] at hst
          simp only [hupk, go_sem, Nat.reduceEqDiff, Nat.reduceAdd, Nat.reduceLeDiff, List.length_map]
          refine invN_next hk' trivial ?_
          simp only [hst, Option.getD_some, Option.isSome_some, Option.getD_none, Option.isSome_none, go_sem, Nat.reduceEqDiff, Nat.reduceAdd, Nat.reduceLeDiff, List.length_map]
         ·skip
          have hs2 : stepN L (some b) u = some b := by simp [stepN, pastB, undB, hL, hxu, hub]
          rw [hs2] at hst
          simp only [hupk, go_sem, Nat.reduceEqDiff, Nat.reduceAdd, Nat.reduceLeDiff, List.length_map]
          refine invN_next hk' trivial ?_
          simp only [hst, Option.getD_some, Option.isSome_some, Option.getD_none, Option.isSome_none, go_sem, Nat.reduceEqDiff, Nat.reduceAdd, Nat.reduceLeDiff, List.length_map]
     ·have : k = s.strs.length := by simp at hd; omega
      subst this
      rw [List.take_length]
      simp only [hup, go_sem, Nat.reduceEqDiff, Nat.reduceAdd, Nat.reduceLeDiff, List.length_map]
      refine invN_next hi' trivial ?_
      simp only [hro, strs_snoc, bestN, List.foldl_append, go_sem, Nat.reduceEqDiff, Nat.reduceAdd, Nat.reduceLeDiff, List.length_map]
   ·have : i = l.length := by simp at hc; omega
    subst this
    rw [List.take_length]
    rw [hbest]
    rcases Nat.lt_or_ge q (namesM (rOf l)).length with hqN | hqN
    ·have hu := List.getElem?_eq_getElem hqN
     have htq : (namesM (rOf l)).take (q + 1) = (namesM (rOf l)).take q ++ [(namesM (rOf l))[q]] := List.take_succ_eq_append_getElem hqN
     have hnx2 : cut2 (rOf l) (q + 1) = cut2 (rOf l) q ++ [cellS ((namesM (rOf l))[q])] := by
      unfold cut2
      rw [htq, List.map_append, List.cons_append, List.append_assoc]; rfl
     rw [hu]
     generalize (namesM (rOf l))[q] = u at *
     simp only [Option.isSome_some, Option.getD_some, go_sem, Nat.reduceEqDiff, Nat.reduceAdd, Nat.reduceLeDiff, List.length_map]
     refine ⟨hone_s _, by rintro y rfl; rfl, by omega, by omega, ?_⟩
     refine ⟨setC_len _, by rintro y rfl; rfl, by omega, by omega, ?_⟩
     refine invN_next hqN trivial ?_
     simp only [hnx2, htq, cellS, setC, List.map_append, List.map_cons, List.map_nil, encSt, go_sem, Nat.reduceEqDiff, Nat.reduceAdd, Nat.reduceLeDiff, List.length_map]
     rfl
    ·have : q = (namesM (rOf l)).length := by omega
     subst this
     have hfin : cut2 (rOf l) (namesM (rOf l)).length ++ [⟨false, [], true, namesM (rOf l)⟩] = cutR (rOf l) := by
      unfold cut2 cutR
      rw [List.take_length, List.cons_append, List.append_assoc]; rfl
     rw [List.getElem?_eq_none (Nat.le_refl _), List.take_length]
     simp only [Option.isSome_none, Option.getD_none, go_sem, Nat.reduceEqDiff, Nat.reduceAdd, Nat.reduceLeDiff, List.length_map]
     refine ⟨setC_len _, by rintro y rfl; rfl, by omega, by omega, ?_⟩
     rw [← hfin]
     simp only [setC, List.map_append, List.map_cons, List.map_nil, go_sem, Nat.reduceEqDiff, Nat.reduceAdd, Nat.reduceLeDiff, List.length_map]
  ·have hd' : ¬ j + 1 = (endsM (rOf l)).length := fun h => by
     have := hlast.2 h
     rw [this] at hd
     cases hd
   have hne : ¬ (endsM (rOf l)).getD j 0 = maxI := fun h => hd' (hlast.1 h)
   have hin := ends_in hok _ (getD_in hj)
   have hwr : IntKind.i64.wrap ((endsM (rOf l)).getD j 0 + 1) = (endsM (rOf l)).getD j 0 + 1 := by
    unfold minI maxI at hin; unfold maxI at hne
    exact wrap64 (by omega) (by omega)
   simp only [hwr, go_sem, Nat.reduceEqDiff, Nat.reduceAdd, Nat.reduceLeDiff, List.length_map]
   refine invN_next hj (show j + 1 < (endsM (rOf l)).length by omega) ?_
   simp only [hnx, hlo1, cellN, setC, List.map_append, List.map_cons, List.map_nil, encR, go_sem, Nat.reduceEqDiff, Nat.reduceAdd, Nat.reduceLeDiff, List.length_map]
   rfl
end Go.Proofs

namespace Go.Proofs
open Go.Vm
set_option linter.unusedSimpArgs false
theorem same_self (s : SetM) : sameM s s = true := by simp [sameM]
theorem kSameAll9 (l : List SetM) (hl : l.length ≤ 1000000) (hs : ∀ s ∈ l, s.ints.length ≤ 1000000 ∧ s.strs.length ≤ 1000000) : PureAt Tryz.prog 23 [.sl none (l.map setC), .sl none (l.map setC)] (· = .val (.bool true)) := by
 refine pure_of r23 (by kernel_rfl) ?_
 unfold m23
 have e0 : ((l.length : Int) != (l.length : Int)) = false := by simp
 simp only [e0, go_sem, Nat.reduceEqDiff, Nat.reduceAdd, Nat.reduceLeDiff, List.length_map]
 refine loop_N l.length (fun _ => True) (fun i => ⟨[(0, .sl none (l.map setC)), (1, .sl none (l.map setC)), (5, .val (.int .i64 i))], [], []⟩) trivial (by simp only [go_sem, Nat.reduceEqDiff, Nat.reduceAdd, Nat.reduceLeDiff, List.length_map]; rfl) ?_
 rintro i hi -
 simp only [go_sem, Nat.reduceEqDiff, Nat.reduceAdd, Nat.reduceLeDiff, List.length_map]
 refine condE_split (fun hc => ?_) (fun hc => ?_)
 ·have hi' : i < l.length := by simpa using hc
  have hup := up64 (show i < 1000000 by omega)
  have g1 := get_setC hi'
  have hm := setD_mem hi'
  have pr := krefSame3 _ (l.getD i noM) (hs _ hm).1 (hs _ hm).2
  rw [same_self] at pr
  generalize l.getD i noM = s at *
  unfold setC at pr
  simp only [nn0, Int.toNat_natCast, g1, setC, go_sem, Nat.reduceEqDiff, Nat.reduceAdd, Nat.reduceLeDiff, List.length_map]
  refine callQ_by _ rfl rfl pr ?_
  simp only [hup, go_sem, Nat.reduceEqDiff, Nat.reduceAdd, Nat.reduceLeDiff, List.length_map]
  refine invN_next hi' trivial ?_
  simp only [go_sem, Nat.reduceEqDiff, Nat.reduceAdd, Nat.reduceLeDiff, List.length_map]
 ·simp only [go_sem, Nat.reduceEqDiff, Nat.reduceAdd, Nat.reduceLeDiff, List.length_map]
theorem kAttr90 (bs : List BoxM) (hn : bs.length ≤ 100) (hf : ∀ b ∈ bs, FewB 40 b) (hb : ∀ b ∈ bs, BndB b) : PureAt Tryz.prog 24 [.sl none (bs.map boxC), .val (.int .i64 0)] (· = .sl none ((attrM bs 0).map setC)) := by
 have hll : (setsAt bs 0).length ≤ 100 := by unfold setsAt; rw [List.length_map]; omega
 have pc := kCut9 (setsAt bs 0) (fun s hs => by obtain ⟨b, hb', rfl⟩ := List.mem_map.1 hs; exact hb b hb' 0 (by omega)) hll (fun s hs => by
  obtain ⟨b, hb', rfl⟩ := List.mem_map.1 hs
  have := hf b hb' 0 (by omega)
  exact ⟨by have := this.1; omega, by have := this.2; omega⟩)
 rw [show cutR (rOf (setsAt bs 0)) = attrM bs 0 from rfl] at pc
 refine pure_of r24 (by kernel_rfl) ?_
 unfold m24
 simp only [go_sem, Nat.reduceEqDiff, Nat.reduceAdd, Nat.reduceLeDiff, List.length_map]
 refine loop_N bs.length (fun _ => True) (fun i => ⟨[(0, .sl none (bs.map boxC)), (1, .val (.int .i64 0)), (5, .sl (some (5, 31, 4)) ((setsAt (bs.take i) 0).map setC)), (6, .val (.int .i64 i))], [], [((5, 31, 4), true)]⟩) trivial (by simp only [setsAt, List.take_zero, List.map_nil, go_sem, Nat.reduceEqDiff, Nat.reduceAdd, Nat.reduceLeDiff, List.length_map]; rfl) ?_
 rintro i hi -
 have hlt : (setsAt (bs.take i) 0).length = i := by unfold setsAt; rw [List.length_map, List.length_take]; omega
 simp only [go_sem, Nat.reduceEqDiff, Nat.reduceAdd, Nat.reduceLeDiff, List.length_map]
 refine condE_split (fun hc => ?_) (fun hc => ?_)
 ·have hi' : i < bs.length := by simpa using hc
  have hup := up64 (show i < 1000000 by omega)
  have g2 := get_boxC hi'
  have hst : setsAt (bs.take (i + 1)) 0 = setsAt (bs.take i) 0 ++ [(bs.getD i allB).at 0] := by
   unfold setsAt
   rw [take_get bs i allB hi', List.map_append]; rfl
  generalize bs.getD i allB = b at *
  simp only [nn0, Int.toNat_natCast, g2, boxC, go_sem, Nat.reduceEqDiff, Nat.reduceAdd, Nat.reduceLeDiff, List.length_map, z4, at4, BoxM.at, EvM.at, fillB, Int.reduceLT, Int.reduceLE, Int.reduceToNat, Int.toNat_zero, Int.le_refl, Int.reduceAdd, decide_true, decide_false, wr1, wr2, wr3, wr4, c0, c1, c2, c3, c4, Nat.reduceMul, Nat.reduceLT, Nat.lt_irrefl, true_and, and_self, ↓reduceIte]
  refine ⟨setC_len _, by rintro y rfl; rfl, by omega, by omega, ?_⟩
  simp only [hup, go_sem, Nat.reduceEqDiff, Nat.reduceAdd, Nat.reduceLeDiff, List.length_map, z4, at4, BoxM.at, EvM.at, fillB, Int.reduceLT, Int.reduceLE, Int.reduceToNat, Int.toNat_zero, Int.le_refl, Int.reduceAdd, decide_true, decide_false, wr1, wr2, wr3, wr4, c0, c1, c2, c3, c4, Nat.reduceMul, Nat.reduceLT, Nat.lt_irrefl, true_and, and_self, ↓reduceIte]
  refine invN_next hi' trivial ?_
  simp only [hst, setC, BoxM.at, at4, List.map_append, List.map_cons, List.map_nil, go_sem, Nat.reduceEqDiff, Nat.reduceAdd, Nat.reduceLeDiff, List.length_map, z4, at4, BoxM.at, EvM.at, fillB, Int.reduceLT, Int.reduceLE, Int.reduceToNat, Int.toNat_zero, Int.le_refl, Int.reduceAdd, decide_true, decide_false, wr1, wr2, wr3, wr4, c0, c1, c2, c3, c4, Nat.reduceMul, Nat.reduceLT, Nat.lt_irrefl, true_and, and_self, ↓reduceIte]
 ·have : i = bs.length := by simp at hc; omega
  subst this
  rw [List.take_length]
  simp only [go_sem, Nat.reduceEqDiff, Nat.reduceAdd, Nat.reduceLeDiff, List.length_map]
  refine callP_eq rfl rfl pc ?_
  simp only [go_sem, Nat.reduceEqDiff, Nat.reduceAdd, Nat.reduceLeDiff, List.length_map]
theorem kAttr91 (bs : List BoxM) (hn : bs.length ≤ 100) (hf : ∀ b ∈ bs, FewB 40 b) (hb : ∀ b ∈ bs, BndB b) : PureAt Tryz.prog 24 [.sl none (bs.map boxC), .val (.int .i64 1)] (· = .sl none ((attrM bs 1).map setC)) := by
 have hll : (setsAt bs 1).length ≤ 100 := by unfold setsAt; rw [List.length_map]; omega
 have pc := kCut9 (setsAt bs 1) (fun s hs => by obtain ⟨b, hb', rfl⟩ := List.mem_map.1 hs; exact hb b hb' 1 (by omega)) hll (fun s hs => by
  obtain ⟨b, hb', rfl⟩ := List.mem_map.1 hs
  have := hf b hb' 1 (by omega)
  exact ⟨by have := this.1; omega, by have := this.2; omega⟩)
 rw [show cutR (rOf (setsAt bs 1)) = attrM bs 1 from rfl] at pc
 refine pure_of r24 (by kernel_rfl) ?_
 unfold m24
 simp only [go_sem, Nat.reduceEqDiff, Nat.reduceAdd, Nat.reduceLeDiff, List.length_map]
 refine loop_N bs.length (fun _ => True) (fun i => ⟨[(0, .sl none (bs.map boxC)), (1, .val (.int .i64 1)), (5, .sl (some (5, 31, 4)) ((setsAt (bs.take i) 1).map setC)), (6, .val (.int .i64 i))], [], [((5, 31, 4), true)]⟩) trivial (by simp only [setsAt, List.take_zero, List.map_nil, go_sem, Nat.reduceEqDiff, Nat.reduceAdd, Nat.reduceLeDiff, List.length_map]; rfl) ?_
 rintro i hi -
 have hlt : (setsAt (bs.take i) 1).length = i := by unfold setsAt; rw [List.length_map, List.length_take]; omega
 simp only [go_sem, Nat.reduceEqDiff, Nat.reduceAdd, Nat.reduceLeDiff, List.length_map]
 refine condE_split (fun hc => ?_) (fun hc => ?_)
 ·have hi' : i < bs.length := by simpa using hc
  have hup := up64 (show i < 1000000 by omega)
  have g2 := get_boxC hi'
  have hst : setsAt (bs.take (i + 1)) 1 = setsAt (bs.take i) 1 ++ [(bs.getD i allB).at 1] := by
   unfold setsAt
   rw [take_get bs i allB hi', List.map_append]; rfl
  generalize bs.getD i allB = b at *
  simp only [nn0, Int.toNat_natCast, g2, boxC, go_sem, Nat.reduceEqDiff, Nat.reduceAdd, Nat.reduceLeDiff, List.length_map, z4, at4, BoxM.at, EvM.at, fillB, Int.reduceLT, Int.reduceLE, Int.reduceToNat, Int.toNat_zero, Int.le_refl, Int.reduceAdd, decide_true, decide_false, wr1, wr2, wr3, wr4, c0, c1, c2, c3, c4, Nat.reduceMul, Nat.reduceLT, Nat.lt_irrefl, true_and, and_self, ↓reduceIte]
  refine ⟨setC_len _, by rintro y rfl; rfl, by omega, by omega, ?_⟩
  simp only [hup, go_sem, Nat.reduceEqDiff, Nat.reduceAdd, Nat.reduceLeDiff, List.length_map, z4, at4, BoxM.at, EvM.at, fillB, Int.reduceLT, Int.reduceLE, Int.reduceToNat, Int.toNat_zero, Int.le_refl, Int.reduceAdd, decide_true, decide_false, wr1, wr2, wr3, wr4, c0, c1, c2, c3, c4, Nat.reduceMul, Nat.reduceLT, Nat.lt_irrefl, true_and, and_self, ↓reduceIte]
  refine invN_next hi' trivial ?_
  simp only [hst, setC, BoxM.at, at4, List.map_append, List.map_cons, List.map_nil, go_sem, Nat.reduceEqDiff, Nat.reduceAdd, Nat.reduceLeDiff, List.length_map, z4, at4, BoxM.at, EvM.at, fillB, Int.reduceLT, Int.reduceLE, Int.reduceToNat, Int.toNat_zero, Int.le_refl, Int.reduceAdd, decide_true, decide_false, wr1, wr2, wr3, wr4, c0, c1, c2, c3, c4, Nat.reduceMul, Nat.reduceLT, Nat.lt_irrefl, true_and, and_self, ↓reduceIte]
 ·have : i = bs.length := by simp at hc; omega
  subst this
  rw [List.take_length]
  simp only [go_sem, Nat.reduceEqDiff, Nat.reduceAdd, Nat.reduceLeDiff, List.length_map]
  refine callP_eq rfl rfl pc ?_
  simp only [go_sem, Nat.reduceEqDiff, Nat.reduceAdd, Nat.reduceLeDiff, List.length_map]
theorem kAttr92 (bs : List BoxM) (hn : bs.length ≤ 100) (hf : ∀ b ∈ bs, FewB 40 b) (hb : ∀ b ∈ bs, BndB b) : PureAt Tryz.prog 24 [.sl none (bs.map boxC), .val (.int .i64 2)] (· = .sl none ((attrM bs 2).map setC)) := by
 have hll : (setsAt bs 2).length ≤ 100 := by unfold setsAt; rw [List.length_map]; omega
 have pc := kCut9 (setsAt bs 2) (fun s hs => by obtain ⟨b, hb', rfl⟩ := List.mem_map.1 hs; exact hb b hb' 2 (by omega)) hll (fun s hs => by
  obtain ⟨b, hb', rfl⟩ := List.mem_map.1 hs
  have := hf b hb' 2 (by omega)
  exact ⟨by have := this.1; omega, by have := this.2; omega⟩)
 rw [show cutR (rOf (setsAt bs 2)) = attrM bs 2 from rfl] at pc
 refine pure_of r24 (by kernel_rfl) ?_
 unfold m24
 simp only [go_sem, Nat.reduceEqDiff, Nat.reduceAdd, Nat.reduceLeDiff, List.length_map]
 refine loop_N bs.length (fun _ => True) (fun i => ⟨[(0, .sl none (bs.map boxC)), (1, .val (.int .i64 2)), (5, .sl (some (5, 31, 4)) ((setsAt (bs.take i) 2).map setC)), (6, .val (.int .i64 i))], [], [((5, 31, 4), true)]⟩) trivial (by simp only [setsAt, List.take_zero, List.map_nil, go_sem, Nat.reduceEqDiff, Nat.reduceAdd, Nat.reduceLeDiff, List.length_map]; rfl) ?_
 rintro i hi -
 have hlt : (setsAt (bs.take i) 2).length = i := by unfold setsAt; rw [List.length_map, List.length_take]; omega
 simp only [go_sem, Nat.reduceEqDiff, Nat.reduceAdd, Nat.reduceLeDiff, List.length_map]
 refine condE_split (fun hc => ?_) (fun hc => ?_)
 ·have hi' : i < bs.length := by simpa using hc
  have hup := up64 (show i < 1000000 by omega)
  have g2 := get_boxC hi'
  have hst : setsAt (bs.take (i + 1)) 2 = setsAt (bs.take i) 2 ++ [(bs.getD i allB).at 2] := by
   unfold setsAt
   rw [take_get bs i allB hi', List.map_append]; rfl
  generalize bs.getD i allB = b at *
  simp only [nn0, Int.toNat_natCast, g2, boxC, go_sem, Nat.reduceEqDiff, Nat.reduceAdd, Nat.reduceLeDiff, List.length_map, z4, at4, BoxM.at, EvM.at, fillB, Int.reduceLT, Int.reduceLE, Int.reduceToNat, Int.toNat_zero, Int.le_refl, Int.reduceAdd, decide_true, decide_false, wr1, wr2, wr3, wr4, c0, c1, c2, c3, c4, Nat.reduceMul, Nat.reduceLT, Nat.lt_irrefl, true_and, and_self, ↓reduceIte]
  refine ⟨setC_len _, by rintro y rfl; rfl, by omega, by omega, ?_⟩
  simp only [hup, go_sem, Nat.reduceEqDiff, Nat.reduceAdd, Nat.reduceLeDiff, List.length_map, z4, at4, BoxM.at, EvM.at, fillB, Int.reduceLT, Int.reduceLE, Int.reduceToNat, Int.toNat_zero, Int.le_refl, Int.reduceAdd, decide_true, decide_false, wr1, wr2, wr3, wr4, c0, c1, c2, c3, c4, Nat.reduceMul, Nat.reduceLT, Nat.lt_irrefl, true_and, and_self, ↓reduceIte]
  refine invN_next hi' trivial ?_
  simp only [hst, setC, BoxM.at, at4, List.map_append, List.map_cons, List.map_nil, go_sem, Nat.reduceEqDiff, Nat.reduceAdd, Nat.reduceLeDiff, List.length_map, z4, at4, BoxM.at, EvM.at, fillB, Int.reduceLT, Int.reduceLE, Int.reduceToNat, Int.toNat_zero, Int.le_refl, Int.reduceAdd, decide_true, decide_false, wr1, wr2, wr3, wr4, c0, c1, c2, c3, c4, Nat.reduceMul, Nat.reduceLT, Nat.lt_irrefl, true_and, and_self, ↓reduceIte]
 ·have : i = bs.length := by simp at hc; omega
  subst this
  rw [List.take_length]
  simp only [go_sem, Nat.reduceEqDiff, Nat.reduceAdd, Nat.reduceLeDiff, List.length_map]
  refine callP_eq rfl rfl pc ?_
  simp only [go_sem, Nat.reduceEqDiff, Nat.reduceAdd, Nat.reduceLeDiff, List.length_map]
theorem kAttr93 (bs : List BoxM) (hn : bs.length ≤ 100) (hf : ∀ b ∈ bs, FewB 40 b) (hb : ∀ b ∈ bs, BndB b) : PureAt Tryz.prog 24 [.sl none (bs.map boxC), .val (.int .i64 3)] (· = .sl none ((attrM bs 3).map setC)) := by
 have hll : (setsAt bs 3).length ≤ 100 := by unfold setsAt; rw [List.length_map]; omega
 have pc := kCut9 (setsAt bs 3) (fun s hs => by obtain ⟨b, hb', rfl⟩ := List.mem_map.1 hs; exact hb b hb' 3 (by omega)) hll (fun s hs => by
  obtain ⟨b, hb', rfl⟩ := List.mem_map.1 hs
  have := hf b hb' 3 (by omega)
  exact ⟨by have := this.1; omega, by have := this.2; omega⟩)
 rw [show cutR (rOf (setsAt bs 3)) = attrM bs 3 from rfl] at pc
 refine pure_of r24 (by kernel_rfl) ?_
 unfold m24
 simp only [go_sem, Nat.reduceEqDiff, Nat.reduceAdd, Nat.reduceLeDiff, List.length_map]
 refine loop_N bs.length (fun _ => True) (fun i => ⟨[(0, .sl none (bs.map boxC)), (1, .val (.int .i64 3)), (5, .sl (some (5, 31, 4)) ((setsAt (bs.take i) 3).map setC)), (6, .val (.int .i64 i))], [], [((5, 31, 4), true)]⟩) trivial (by simp only [setsAt, List.take_zero, List.map_nil, go_sem, Nat.reduceEqDiff, Nat.reduceAdd, Nat.reduceLeDiff, List.length_map]; rfl) ?_
 rintro i hi -
 have hlt : (setsAt (bs.take i) 3).length = i := by unfold setsAt; rw [List.length_map, List.length_take]; omega
 simp only [go_sem, Nat.reduceEqDiff, Nat.reduceAdd, Nat.reduceLeDiff, List.length_map]
 refine condE_split (fun hc => ?_) (fun hc => ?_)
 ·have hi' : i < bs.length := by simpa using hc
  have hup := up64 (show i < 1000000 by omega)
  have g2 := get_boxC hi'
  have hst : setsAt (bs.take (i + 1)) 3 = setsAt (bs.take i) 3 ++ [(bs.getD i allB).at 3] := by
   unfold setsAt
   rw [take_get bs i allB hi', List.map_append]; rfl
  generalize bs.getD i allB = b at *
  simp only [nn0, Int.toNat_natCast, g2, boxC, go_sem, Nat.reduceEqDiff, Nat.reduceAdd, Nat.reduceLeDiff, List.length_map, z4, at4, BoxM.at, EvM.at, fillB, Int.reduceLT, Int.reduceLE, Int.reduceToNat, Int.toNat_zero, Int.le_refl, Int.reduceAdd, decide_true, decide_false, wr1, wr2, wr3, wr4, c0, c1, c2, c3, c4, Nat.reduceMul, Nat.reduceLT, Nat.lt_irrefl, true_and, and_self, ↓reduceIte]
  refine ⟨setC_len _, by rintro y rfl; rfl, by omega, by omega, ?_⟩
  simp only [hup, go_sem, Nat.reduceEqDiff, Nat.reduceAdd, Nat.reduceLeDiff, List.length_map, z4, at4, BoxM.at, EvM.at, fillB, Int.reduceLT, Int.reduceLE, Int.reduceToNat, Int.toNat_zero, Int.le_refl, Int.reduceAdd, decide_true, decide_false, wr1, wr2, wr3, wr4, c0, c1, c2, c3, c4, Nat.reduceMul, Nat.reduceLT, Nat.lt_irrefl, true_and, and_self, ↓reduceIte]
  refine invN_next hi' trivial ?_
  simp only [hst, setC, BoxM.at, at4, List.map_append, List.map_cons, List.map_nil, go_sem, Nat.reduceEqDiff, Nat.reduceAdd, Nat.reduceLeDiff, List.length_map, z4, at4, BoxM.at, EvM.at, fillB, Int.reduceLT, Int.reduceLE, Int.reduceToNat, Int.toNat_zero, Int.le_refl, Int.reduceAdd, decide_true, decide_false, wr1, wr2, wr3, wr4, c0, c1, c2, c3, c4, Nat.reduceMul, Nat.reduceLT, Nat.lt_irrefl, true_and, and_self, ↓reduceIte]
 ·have : i = bs.length := by simp at hc; omega
  subst this
  rw [List.take_length]
  simp only [go_sem, Nat.reduceEqDiff, Nat.reduceAdd, Nat.reduceLeDiff, List.length_map]
  refine callP_eq rfl rfl pc ?_
  simp only [go_sem, Nat.reduceEqDiff, Nat.reduceAdd, Nat.reduceLeDiff, List.length_map]
theorem cnt_step' (C : Nat → List SetM) (k : Nat) (h : (C k).length ≤ 100000) : IntKind.i64.wrap ((cntC C k : Int) * ((C k).length : Int)) = ((cntC C k * (C k).length : Nat) : Int) := by
 have h1 := cnt_big C k
 have h2 : cntC C k * (C k).length ≤ 1099511627776 * 100000 := Nat.mul_le_mul h1 h
 have h3 : ((cntC C k * (C k).length : Nat) : Int) = (cntC C k : Int) * ((C k).length : Int) := Int.natCast_mul _ _
 rw [← h3, wrap64 (by omega) (by omega)]
theorem attr_len9 {bs : List BoxM} (hn : bs.length ≤ 100) (hf : ∀ b ∈ bs, FewB 40 b) {i : Nat} (hi : i < 4) : (attrM bs i).length ≤ 100000 ∧ (namesM (rOf (setsAt bs i))).length ≤ 4000 := by
 have hs : ∀ s ∈ rOf (setsAt bs i), s.ints.length ≤ 40 ∧ s.strs.length ≤ 40 := fun s hs => by
  obtain ⟨b, hb, rfl⟩ := List.mem_map.1 (List.mem_filter.1 hs).1
  exact hf b hb i hi
 have hl : (rOf (setsAt bs i)).length ≤ 100 := Nat.le_trans (List.length_filter_le _ _) (by unfold setsAt; rw [List.length_map]; exact hn)
 have e1 := ends_len (rOf (setsAt bs i))
 have e2 := names_len (rOf (setsAt bs i))
 have e3 := strsOf_len (r := rOf (setsAt bs i)) (k := 40) (fun s h => (hs s h).2)
 have e4 := rgsOf_len (r := rOf (setsAt bs i)) (k := 40) (fun s h => (hs s h).1)
 have e5 : (attrM bs i).length = _ := cut_len (rOf (setsAt bs i))
 omega
set_option maxHeartbeats 4000000 in
theorem kCount9 (bs : List BoxM) (hn : bs.length ≤ 100) (hf : ∀ b ∈ bs, FewB 40 b) (hb : ∀ b ∈ bs, BndB b) : PureAt Tryz.prog 22 [.sl none (bs.map boxC)] (· = .val (.int .i64 (cntC (attrM bs) 4))) := by
 have e0 := cnt_step' (attrM bs) 0 (attr_len9 hn hf (by omega)).1
 have p0 := kAttr90 bs hn hf hb
 have e1 := cnt_step' (attrM bs) 1 (attr_len9 hn hf (by omega)).1
 have p1 := kAttr91 bs hn hf hb
 have e2 := cnt_step' (attrM bs) 2 (attr_len9 hn hf (by omega)).1
 have p2 := kAttr92 bs hn hf hb
 have e3 := cnt_step' (attrM bs) 3 (attr_len9 hn hf (by omega)).1
 have p3 := kAttr93 bs hn hf hb
 refine pure_of r22 (by kernel_rfl) ?_
 unfold m22
 simp only [go_sem, Nat.reduceEqDiff, Nat.reduceAdd, Nat.reduceLeDiff, List.length_map]
 refine loop_N 4 (fun _ => True) (fun k => ⟨[(0, .sl none (bs.map boxC)), (3, .val (.int .i64 (cntC (attrM bs) k))), (4, .val (.int .i64 (z4 k)))], [], []⟩) trivial (by simp only [go_sem, Nat.reduceEqDiff, Nat.reduceAdd, Nat.reduceLeDiff, List.length_map]; rfl) ?_
 rintro k hk -
 have hk5 : k = 0 ∨ k = 1 ∨ k = 2 ∨ k = 3 ∨ k = 4 := by omega
 rcases hk5 with rfl | rfl | rfl | rfl | rfl
 ·simp only [go_sem, Nat.reduceEqDiff, Nat.reduceAdd, Nat.reduceLeDiff, List.length_map, z4, at4, BoxM.at, EvM.at, fillB, Int.reduceLT, Int.reduceLE, Int.reduceToNat, Int.toNat_zero, Int.le_refl, Int.reduceAdd, decide_true, decide_false, wr1, wr2, wr3, wr4, c0, c1, c2, c3, c4, Nat.reduceMul, Nat.reduceLT, Nat.lt_irrefl, true_and, and_self, ↓reduceIte]
  refine callP_eq rfl rfl p0 ?_
  simp only [e0, cnt_if, go_sem, Nat.reduceEqDiff, Nat.reduceAdd, Nat.reduceLeDiff, List.length_map, z4, at4, BoxM.at, EvM.at, fillB, Int.reduceLT, Int.reduceLE, Int.reduceToNat, Int.toNat_zero, Int.le_refl, Int.reduceAdd, decide_true, decide_false, wr1, wr2, wr3, wr4, c0, c1, c2, c3, c4, Nat.reduceMul, Nat.reduceLT, Nat.lt_irrefl, true_and, and_self, ↓reduceIte]
  refine invN_next (show 0 < 4 by omega) trivial ?_
  rfl
 ·simp only [go_sem, Nat.reduceEqDiff, Nat.reduceAdd, Nat.reduceLeDiff, List.length_map, z4, at4, BoxM.at, EvM.at, fillB, Int.reduceLT, Int.reduceLE, Int.reduceToNat, Int.toNat_zero, Int.le_refl, Int.reduceAdd, decide_true, decide_false, wr1, wr2, wr3, wr4, c0, c1, c2, c3, c4, Nat.reduceMul, Nat.reduceLT, Nat.lt_irrefl, true_and, and_self, ↓reduceIte]
  refine callP_eq rfl rfl p1 ?_
  simp only [e1, cnt_if, go_sem, Nat.reduceEqDiff, Nat.reduceAdd, Nat.reduceLeDiff, List.length_map, z4, at4, BoxM.at, EvM.at, fillB, Int.reduceLT, Int.reduceLE, Int.reduceToNat, Int.toNat_zero, Int.le_refl, Int.reduceAdd, decide_true, decide_false, wr1, wr2, wr3, wr4, c0, c1, c2, c3, c4, Nat.reduceMul, Nat.reduceLT, Nat.lt_irrefl, true_and, and_self, ↓reduceIte]
  refine invN_next (show 1 < 4 by omega) trivial ?_
  rfl
 ·simp only [go_sem, Nat.reduceEqDiff, Nat.reduceAdd, Nat.reduceLeDiff, List.length_map, z4, at4, BoxM.at, EvM.at, fillB, Int.reduceLT, Int.reduceLE, Int.reduceToNat, Int.toNat_zero, Int.le_refl, Int.reduceAdd, decide_true, decide_false, wr1, wr2, wr3, wr4, c0, c1, c2, c3, c4, Nat.reduceMul, Nat.reduceLT, Nat.lt_irrefl, true_and, and_self, ↓reduceIte]
  refine callP_eq rfl rfl p2 ?_
  simp only [e2, cnt_if, go_sem, Nat.reduceEqDiff, Nat.reduceAdd, Nat.reduceLeDiff, List.length_map, z4, at4, BoxM.at, EvM.at, fillB, Int.reduceLT, Int.reduceLE, Int.reduceToNat, Int.toNat_zero, Int.le_refl, Int.reduceAdd, decide_true, decide_false, wr1, wr2, wr3, wr4, c0, c1, c2, c3, c4, Nat.reduceMul, Nat.reduceLT, Nat.lt_irrefl, true_and, and_self, ↓reduceIte]
  refine invN_next (show 2 < 4 by omega) trivial ?_
  rfl
 ·simp only [go_sem, Nat.reduceEqDiff, Nat.reduceAdd, Nat.reduceLeDiff, List.length_map, z4, at4, BoxM.at, EvM.at, fillB, Int.reduceLT, Int.reduceLE, Int.reduceToNat, Int.toNat_zero, Int.le_refl, Int.reduceAdd, decide_true, decide_false, wr1, wr2, wr3, wr4, c0, c1, c2, c3, c4, Nat.reduceMul, Nat.reduceLT, Nat.lt_irrefl, true_and, and_self, ↓reduceIte]
  refine callP_eq rfl rfl p3 ?_
  simp only [e3, cnt_if, go_sem, Nat.reduceEqDiff, Nat.reduceAdd, Nat.reduceLeDiff, List.length_map, z4, at4, BoxM.at, EvM.at, fillB, Int.reduceLT, Int.reduceLE, Int.reduceToNat, Int.toNat_zero, Int.le_refl, Int.reduceAdd, decide_true, decide_false, wr1, wr2, wr3, wr4, c0, c1, c2, c3, c4, Nat.reduceMul, Nat.reduceLT, Nat.lt_irrefl, true_and, and_self, ↓reduceIte]
  refine invN_next (show 3 < 4 by omega) trivial ?_
  rfl
 ·simp only [go_sem, Nat.reduceEqDiff, Nat.reduceAdd, Nat.reduceLeDiff, List.length_map, z4, at4, BoxM.at, EvM.at, fillB, Int.reduceLT, Int.reduceLE, Int.reduceToNat, Int.toNat_zero, Int.le_refl, Int.reduceAdd, decide_true, decide_false, wr1, wr2, wr3, wr4, c0, c1, c2, c3, c4, Nat.reduceMul, Nat.reduceLT, Nat.lt_irrefl, true_and, and_self, ↓reduceIte]
end Go.Proofs

namespace Go.Proofs
open Go.Vm
set_option linter.unusedSimpArgs false
theorem evC_len (l : List EvM) : ∀ e ∈ l.map evC, e.length = 12 := fun e he => by obtain ⟨n, -, rfl⟩ := List.mem_map.1 he; rfl
theorem get_evC {l : List EvM} {i : Nat} (h : i < l.length) : (l.map evC)[i]? = some (evC (l.getD i zE9)) := by
 rw [List.getElem?_map, List.getElem?_eq_getElem h]; simp [h]
theorem attr_cell {bs : List BoxM} (hok : ∀ b ∈ bs, OKB b) (hn : bs.length ≤ 100) (hf : ∀ b ∈ bs, FewB 40 b) {i : Nat} (hi : i < 4) {c : SetM} (hc : c ∈ attrM bs i) : Bnd c ∧ c.ints.length ≤ 1 ∧ c.strs.length ≤ 5000 := by
 have h2 := (attr_len9 hn hf hi).2
 rw [attr_cut hok hi] at hc
 have hr : rOf (setsAt bs i) = setsAt bs i := List.filter_eq_self.2 fun s hs => (setsAt_ok hok hi s hs).right
 rw [hr] at h2
 refine ⟨(cut_ok (setsAt_ok hok hi) hc).inb, cut_ints hc, ?_⟩
 have := cut_strs hc
 omega
def rowE (C : List SetM) (k : Nat) (L : List EvM) (i : Nat) : List EvM := (L.take i).flatMap fun e => C.map fun c => putE e k (sampleM c).1
def rowC (C : List SetM) (k : Nat) (e : EvM) (j : Nat) : List EvM := (C.take j).map fun c => putE e k (sampleM c).1
theorem rowE_len (C : List SetM) (k : Nat) (L : List EvM) {i : Nat} (hi : i ≤ L.length) : (rowE C k L i).length = i * C.length := by
 unfold rowE
 rw [len_flat _ C.length _ (fun e _ => by simp), List.length_take, Nat.min_eq_left hi]
theorem rowC_len (C : List SetM) (k : Nat) (e : EvM) {j : Nat} (hj : j ≤ C.length) : (rowC C k e j).length = j := by
 unfold rowC
 rw [List.length_map, List.length_take, Nat.min_eq_left hj]
theorem rowE_next (C : List SetM) (k : Nat) (L : List EvM) {i : Nat} (hi : i < L.length) : rowE C k L (i + 1) = rowE C k L i ++ rowC C k (L.getD i zE9) C.length := by
 unfold rowE rowC
 rw [take_get L i zE9 hi, List.flatMap_append, List.take_length]
 simp
theorem rowC_next (C : List SetM) (k : Nat) (e : EvM) {j : Nat} (hj : j < C.length) : rowC C k e (j + 1) = rowC C k e j ++ [putE e k (sampleM (C.getD j noM)).1] := by
 unfold rowC
 rw [take_get C j noM hj, List.map_append]; rfl
theorem rowE_all (C : Nat → List SetM) (k : Nat) : rowE (C k) k (mixE C k) (mixE C k).length = mixE C (k + 1) := by
 unfold rowE
 rw [List.take_length]; rfl
def curV (C : List SetM) (e : EvM) (k j : Nat) : ValM := match j with
 | 0 => e.at k
 | j + 1 => (sampleM (C.getD j noM)).1
theorem putE_cur0 (C : List SetM) (e : EvM) {k : Nat} (hk : k < 4) : putE e k (curV C e k 0) = e := by
 rcases lt4 hk with rfl | rfl | rfl | rfl <;> rfl
def cellsD (bs : List BoxM) : D := .agg [.sl none ((attrM bs 0).map setC), .sl none ((attrM bs 1).map setC), .sl none ((attrM bs 2).map setC), .sl none ((attrM bs 3).map setC)]
structure MixOK (bs : List BoxM) : Prop where
 ok : ∀ b ∈ bs, OKB b
 n : bs.length ≤ 100
 few : ∀ b ∈ bs, FewB 40 b
 c : cntC (attrM bs) 4 ≤ 5000
theorem MixOK.len {bs : List BoxM} (h : MixOK bs) {k : Nat} (hk : k ≤ 4) : (mixE (attrM bs) k).length ≤ 5000 := by
 rw [← cnt_len (attr_pos bs) h.c k hk]
 have := cnt_le (attr_pos bs) h.c (4 - k) (by omega)
 rwa [show 4 - (4 - k) = k by omega] at this
theorem MixOK.prod {bs : List BoxM} (h : MixOK bs) {k : Nat} (hk : k < 4) : (mixE (attrM bs) k).length * (attrM bs k).length ≤ 5000 := by
 rw [← mix_len]; exact h.len (by omega)
theorem MixOK.cells {bs : List BoxM} (h : MixOK bs) {k : Nat} (hk : k < 4) : (attrM bs k).length ≤ 100000 := (attr_len9 h.n h.few hk).1
def stV9 (bs : List BoxM) : Nat → St
 | 0 => ⟨[(0, .sl none (bs.map boxC)), (3, .sl (some (11, 40, 12)) [evC zE9]), (4, .val (.int .i64 0))], [], [((11, 40, 12), true)]⟩
 | k + 1 => ⟨[(0, .sl none (bs.map boxC)), (3, .sl (some (6, 40, 12)) ((mixE (attrM bs) (k + 1)).map evC)), (4, .val (.int .i64 (z4 (k + 1))))], [], [((6, 40, 12), true)]⟩
def stA90 (bs : List BoxM) (i : Nat) : St := ⟨[(0, .sl none (bs.map boxC)), (3, .sl none ((mixE (attrM bs) 0).map evC)), (4, .val (.int .i64 0)), (5, .sl none ((attrM bs 0).map setC)), (6, .sl (some (6, 40, 12)) ((rowE (attrM bs 0) 0 (mixE (attrM bs) 0) i).map evC)), (7, .val (.int .i64 i))], [], [((6, 40, 12), true)]⟩
def stB90 (bs : List BoxM) (i j : Nat) : St := ⟨[(0, .sl none (bs.map boxC)), (3, .sl none ((mixE (attrM bs) 0).map evC)), (4, .val (.int .i64 0)), (5, .sl none ((attrM bs 0).map setC)), (6, .sl (some (6, 40, 12)) ((rowE (attrM bs 0) 0 (mixE (attrM bs) 0) i ++ rowC (attrM bs 0) 0 ((mixE (attrM bs) 0).getD i zE9) j).map evC)), (7, .val (.int .i64 i)), (8, .val (.int .i64 j))], [], [((6, 40, 12), true)]⟩
def stA91 (bs : List BoxM) (i : Nat) : St := ⟨[(0, .sl none (bs.map boxC)), (3, .sl none ((mixE (attrM bs) 1).map evC)), (4, .val (.int .i64 1)), (5, .sl none ((attrM bs 1).map setC)), (6, .sl (some (6, 40, 12)) ((rowE (attrM bs 1) 1 (mixE (attrM bs) 1) i).map evC)), (7, .val (.int .i64 i))], [], [((6, 40, 12), true)]⟩
def stB91 (bs : List BoxM) (i j : Nat) : St := ⟨[(0, .sl none (bs.map boxC)), (3, .sl none ((mixE (attrM bs) 1).map evC)), (4, .val (.int .i64 1)), (5, .sl none ((attrM bs 1).map setC)), (6, .sl (some (6, 40, 12)) ((rowE (attrM bs 1) 1 (mixE (attrM bs) 1) i ++ rowC (attrM bs 1) 1 ((mixE (attrM bs) 1).getD i zE9) j).map evC)), (7, .val (.int .i64 i)), (8, .val (.int .i64 j))], [], [((6, 40, 12), true)]⟩
def stA92 (bs : List BoxM) (i : Nat) : St := ⟨[(0, .sl none (bs.map boxC)), (3, .sl none ((mixE (attrM bs) 2).map evC)), (4, .val (.int .i64 2)), (5, .sl none ((attrM bs 2).map setC)), (6, .sl (some (6, 40, 12)) ((rowE (attrM bs 2) 2 (mixE (attrM bs) 2) i).map evC)), (7, .val (.int .i64 i))], [], [((6, 40, 12), true)]⟩
def stB92 (bs : List BoxM) (i j : Nat) : St := ⟨[(0, .sl none (bs.map boxC)), (3, .sl none ((mixE (attrM bs) 2).map evC)), (4, .val (.int .i64 2)), (5, .sl none ((attrM bs 2).map setC)), (6, .sl (some (6, 40, 12)) ((rowE (attrM bs 2) 2 (mixE (attrM bs) 2) i ++ rowC (attrM bs 2) 2 ((mixE (attrM bs) 2).getD i zE9) j).map evC)), (7, .val (.int .i64 i)), (8, .val (.int .i64 j))], [], [((6, 40, 12), true)]⟩
def stA93 (bs : List BoxM) (i : Nat) : St := ⟨[(0, .sl none (bs.map boxC)), (3, .sl none ((mixE (attrM bs) 3).map evC)), (4, .val (.int .i64 3)), (5, .sl none ((attrM bs 3).map setC)), (6, .sl (some (6, 40, 12)) ((rowE (attrM bs 3) 3 (mixE (attrM bs) 3) i).map evC)), (7, .val (.int .i64 i))], [], [((6, 40, 12), true)]⟩
def stB93 (bs : List BoxM) (i j : Nat) : St := ⟨[(0, .sl none (bs.map boxC)), (3, .sl none ((mixE (attrM bs) 3).map evC)), (4, .val (.int .i64 3)), (5, .sl none ((attrM bs 3).map setC)), (6, .sl (some (6, 40, 12)) ((rowE (attrM bs 3) 3 (mixE (attrM bs) 3) i ++ rowC (attrM bs 3) 3 ((mixE (attrM bs) 3).getD i zE9) j).map evC)), (7, .val (.int .i64 i)), (8, .val (.int .i64 j))], [], [((6, 40, 12), true)]⟩
theorem le20 {a b : Nat} (h : a * b ≤ 5000) : IntKind.i64.wrap ((a : Int) * (b : Int)) = ((a * b : Nat) : Int) := by
 have h3 : ((a * b : Nat) : Int) = (a : Int) * (b : Int) := Int.natCast_mul _ _
 rw [← h3, wrap64 (by omega) (by omega)]
set_option maxHeartbeats 16000000 in
theorem kEvents9 (bs : List BoxM) (h : MixOK bs) : PureAt Tryz.prog 32 [.sl none (bs.map boxC)] (· = .sl none ((mixE (attrM bs) 4).map evC)) := by
 have hb : ∀ b ∈ bs, BndB b := fun b hb' i hi => (h.ok b hb' i hi).inb
 have hl4 := h.len (k := 4) (by omega)
 refine pure_of r32 (by kernel_rfl) ?_
 unfold m32
 simp only [go_sem, Nat.reduceEqDiff, Nat.reduceAdd, Nat.reduceLeDiff, List.length_map, z4, at4, BoxM.at, EvM.at, fillB, Int.reduceLT, Int.reduceLE, Int.reduceToNat, Int.toNat_zero, Int.le_refl, Int.reduceAdd, decide_true, decide_false, wr1, wr2, wr3, wr4, c0, c1, c2, c3, c4, Nat.reduceMul, Nat.reduceLT, Nat.lt_irrefl, true_and, and_self, ↓reduceIte]
 refine loop_N 4 (fun _ => True) (stV9 bs) trivial (by rfl) ?_
 rintro k hk -
 have hk5 : k = 0 ∨ k = 1 ∨ k = 2 ∨ k = 3 ∨ k = 4 := by omega
 rcases hk5 with rfl | rfl | rfl | rfl | rfl
 ·have pa := kAttr90 bs h.n h.few hb
  have hL := h.len (k := 0) (by omega)
  have hP := h.prod (k := 0) (by omega)
  have hC := h.cells (k := 0) (by omega)
  have hfin := rowE_all (attrM bs) 0
  simp only [stV9]
  simp only [go_sem, Nat.reduceEqDiff, Nat.reduceAdd, Nat.reduceLeDiff, List.length_map, z4, at4, BoxM.at, EvM.at, fillB, Int.reduceLT, Int.reduceLE, Int.reduceToNat, Int.toNat_zero, Int.le_refl, Int.reduceAdd, decide_true, decide_false, wr1, wr2, wr3, wr4, c0, c1, c2, c3, c4, Nat.reduceMul, Nat.reduceLT, Nat.lt_irrefl, true_and, and_self, ↓reduceIte]
  rw [show (St.fz _ [3]) = some _ from rfl]
  simp only [go_sem, Nat.reduceEqDiff, Nat.reduceAdd, Nat.reduceLeDiff, List.length_map, z4, at4, BoxM.at, EvM.at, fillB, Int.reduceLT, Int.reduceLE, Int.reduceToNat, Int.toNat_zero, Int.le_refl, Int.reduceAdd, decide_true, decide_false, wr1, wr2, wr3, wr4, c0, c1, c2, c3, c4, Nat.reduceMul, Nat.reduceLT, Nat.lt_irrefl, true_and, and_self, ↓reduceIte]
  refine callP_eq rfl rfl pa ?_
  simp only [go_sem, Nat.reduceEqDiff, Nat.reduceAdd, Nat.reduceLeDiff, List.length_map, z4, at4, BoxM.at, EvM.at, fillB, Int.reduceLT, Int.reduceLE, Int.reduceToNat, Int.toNat_zero, Int.le_refl, Int.reduceAdd, decide_true, decide_false, wr1, wr2, wr3, wr4, c0, c1, c2, c3, c4, Nat.reduceMul, Nat.reduceLT, Nat.lt_irrefl, true_and, and_self, ↓reduceIte]
  refine loop_N (mixE (attrM bs) 0).length (fun _ => True) (stA90 bs) trivial (by rfl) ?_
  rintro i hi -
  simp only [stA90]
  have hrl := rowE_len (attrM bs 0) 0 (mixE (attrM bs) 0) hi
  have hw := le20 hP
  have h20 : decide (((((mixE (attrM bs) 0).length * (attrM bs 0).length : Nat)) : Int) ≤ 20000) = true := by simp; omega
  by_cases hi' : i < (mixE (attrM bs) 0).length
  ·have hlt : decide ((i : Int) < ((mixE (attrM bs) 0).length : Int)) = true := by simp; exact hi'
   have hup := up64 (show i < 1000000 by omega)
   have ge := get_evC hi'
   have hnx := rowE_next (attrM bs 0) 0 (mixE (attrM bs) 0) hi'
   have him : i * (attrM bs 0).length + (attrM bs 0).length ≤ 5000 := by
    have : (i + 1) * (attrM bs 0).length ≤ (mixE (attrM bs) 0).length * (attrM bs 0).length := Nat.mul_le_mul_right _ hi'
    rw [Nat.succ_mul] at this; omega
   simp only [hlt, hw, h20, go_sem, Nat.reduceEqDiff, Nat.reduceAdd, Nat.reduceLeDiff, List.length_map, z4, at4, BoxM.at, EvM.at, fillB, Int.reduceLT, Int.reduceLE, Int.reduceToNat, Int.toNat_zero, Int.le_refl, Int.reduceAdd, decide_true, decide_false, wr1, wr2, wr3, wr4, c0, c1, c2, c3, c4, Nat.reduceMul, Nat.reduceLT, Nat.lt_irrefl, true_and, and_self, ↓reduceIte]
   refine loop_N (attrM bs 0).length (fun _ => True) (stB90 bs i) trivial (by simp only [stB90, rowC, List.take_zero, List.map_nil, List.append_nil]; rfl) ?_
   rintro q hq -
   simp only [stB90]
   have hcl := rowC_len (attrM bs 0) 0 ((mixE (attrM bs) 0).getD i zE9) hq
   simp only [go_sem, Nat.reduceEqDiff, Nat.reduceAdd, Nat.reduceLeDiff, List.length_map, z4, at4, BoxM.at, EvM.at, fillB, Int.reduceLT, Int.reduceLE, Int.reduceToNat, Int.toNat_zero, Int.le_refl, Int.reduceAdd, decide_true, decide_false, wr1, wr2, wr3, wr4, c0, c1, c2, c3, c4, Nat.reduceMul, Nat.reduceLT, Nat.lt_irrefl, true_and, and_self, ↓reduceIte]
   refine condE_split (fun hd => ?_) (fun hd => ?_)
   ·have hq' : q < (attrM bs 0).length := by simpa using hd
    have hupk := up64 (show q < 1000000 by omega)
    have gc := get_setC hq'
    have hm := attr_cell h.ok h.n h.few (i := 0) (by omega) (setD_mem hq')
    have ps := kSample9 _ (by omega : ((attrM bs 0).getD q noM).ints.length ≤ 100000) (by omega)
    have hcn := rowC_next (attrM bs 0) 0 ((mixE (attrM bs) 0).getD i zE9) hq'
    generalize hc0 : (attrM bs 0).getD q noM = c at *
    generalize hev : (mixE (attrM bs) 0).getD i zE9 = ev at *
    generalize hR : rowE (attrM bs 0) 0 (mixE (attrM bs) 0) i = R at *
    generalize hR2 : rowC (attrM bs 0) 0 ev q = R2 at *
    simp only [nn0, Int.toNat_natCast, ge, evC, go_sem, Nat.reduceEqDiff, Nat.reduceAdd, Nat.reduceLeDiff, List.length_map, z4, at4, BoxM.at, EvM.at, fillB, Int.reduceLT, Int.reduceLE, Int.reduceToNat, Int.toNat_zero, Int.le_refl, Int.reduceAdd, decide_true, decide_false, wr1, wr2, wr3, wr4, c0, c1, c2, c3, c4, Nat.reduceMul, Nat.reduceLT, Nat.lt_irrefl, true_and, and_self, ↓reduceIte]
    unfold setC at ps
    simp only [nn0, Int.toNat_natCast, gc, setC, go_sem, Nat.reduceEqDiff, Nat.reduceAdd, Nat.reduceLeDiff, List.length_map, z4, at4, BoxM.at, EvM.at, fillB, Int.reduceLT, Int.reduceLE, Int.reduceToNat, Int.toNat_zero, Int.le_refl, Int.reduceAdd, decide_true, decide_false, wr1, wr2, wr3, wr4, c0, c1, c2, c3, c4, Nat.reduceMul, Nat.reduceLT, Nat.lt_irrefl, true_and, and_self, ↓reduceIte]
    refine callP_eq rfl rfl ps ?_
    simp only [valC, go_sem, Nat.reduceEqDiff, Nat.reduceAdd, Nat.reduceLeDiff, List.length_map, z4, at4, BoxM.at, EvM.at, fillB, Int.reduceLT, Int.reduceLE, Int.reduceToNat, Int.toNat_zero, Int.le_refl, Int.reduceAdd, decide_true, decide_false, wr1, wr2, wr3, wr4, c0, c1, c2, c3, c4, Nat.reduceMul, Nat.reduceLT, Nat.lt_irrefl, true_and, and_self, ↓reduceIte]
    refine ⟨evC_len _, by rintro y rfl; rfl, by rw [List.length_append]; omega, by rw [List.length_append]; omega, ?_⟩
    simp only [hupk, go_sem, Nat.reduceEqDiff, Nat.reduceAdd, Nat.reduceLeDiff, List.length_map, z4, at4, BoxM.at, EvM.at, fillB, Int.reduceLT, Int.reduceLE, Int.reduceToNat, Int.toNat_zero, Int.le_refl, Int.reduceAdd, decide_true, decide_false, wr1, wr2, wr3, wr4, c0, c1, c2, c3, c4, Nat.reduceMul, Nat.reduceLT, Nat.lt_irrefl, true_and, and_self, ↓reduceIte]
    refine invN_next hq' trivial ?_
    simp only [stB90, hev, hR, hcn]
    simp only [List.map_append, List.map_cons, List.map_nil, evC, putE, List.append_assoc, go_sem, Nat.reduceEqDiff, Nat.reduceAdd, Nat.reduceLeDiff, List.length_map, z4, at4, BoxM.at, EvM.at, fillB, Int.reduceLT, Int.reduceLE, Int.reduceToNat, Int.toNat_zero, Int.le_refl, Int.reduceAdd, decide_true, decide_false, wr1, wr2, wr3, wr4, c0, c1, c2, c3, c4, Nat.reduceMul, Nat.reduceLT, Nat.lt_irrefl, true_and, and_self, ↓reduceIte]
   ·have : q = (attrM bs 0).length := by simp at hd; omega
    subst this
    rw [← hnx]
    simp only [hup, go_sem, Nat.reduceEqDiff, Nat.reduceAdd, Nat.reduceLeDiff, List.length_map, z4, at4, BoxM.at, EvM.at, fillB, Int.reduceLT, Int.reduceLE, Int.reduceToNat, Int.toNat_zero, Int.le_refl, Int.reduceAdd, decide_true, decide_false, wr1, wr2, wr3, wr4, c0, c1, c2, c3, c4, Nat.reduceMul, Nat.reduceLT, Nat.lt_irrefl, true_and, and_self, ↓reduceIte]
    refine invN_next hi' trivial ?_
    rfl
  ·have : i = (mixE (attrM bs) 0).length := by omega
   subst this
   have hlt : decide (((mixE (attrM bs) 0).length : Int) < ((mixE (attrM bs) 0).length : Int)) = false := by simp
   rw [hfin]
   simp only [hlt, go_sem, Nat.reduceEqDiff, Nat.reduceAdd, Nat.reduceLeDiff, List.length_map, z4, at4, BoxM.at, EvM.at, fillB, Int.reduceLT, Int.reduceLE, Int.reduceToNat, Int.toNat_zero, Int.le_refl, Int.reduceAdd, decide_true, decide_false, wr1, wr2, wr3, wr4, c0, c1, c2, c3, c4, Nat.reduceMul, Nat.reduceLT, Nat.lt_irrefl, true_and, and_self, ↓reduceIte]
   refine invN_next (show 0 < 4 by omega) trivial ?_
   rfl
 ·have pa := kAttr91 bs h.n h.few hb
  have hL := h.len (k := 1) (by omega)
  have hP := h.prod (k := 1) (by omega)
  have hC := h.cells (k := 1) (by omega)
  have hfin := rowE_all (attrM bs) 1
  simp only [stV9]
  simp only [go_sem, Nat.reduceEqDiff, Nat.reduceAdd, Nat.reduceLeDiff, List.length_map, z4, at4, BoxM.at, EvM.at, fillB, Int.reduceLT, Int.reduceLE, Int.reduceToNat, Int.toNat_zero, Int.le_refl, Int.reduceAdd, decide_true, decide_false, wr1, wr2, wr3, wr4, c0, c1, c2, c3, c4, Nat.reduceMul, Nat.reduceLT, Nat.lt_irrefl, true_and, and_self, ↓reduceIte]
  rw [show (St.fz _ [3]) = some _ from rfl]
  simp only [go_sem, Nat.reduceEqDiff, Nat.reduceAdd, Nat.reduceLeDiff, List.length_map, z4, at4, BoxM.at, EvM.at, fillB, Int.reduceLT, Int.reduceLE, Int.reduceToNat, Int.toNat_zero, Int.le_refl, Int.reduceAdd, decide_true, decide_false, wr1, wr2, wr3, wr4, c0, c1, c2, c3, c4, Nat.reduceMul, Nat.reduceLT, Nat.lt_irrefl, true_and, and_self, ↓reduceIte]
  refine callP_eq rfl rfl pa ?_
  simp only [go_sem, Nat.reduceEqDiff, Nat.reduceAdd, Nat.reduceLeDiff, List.length_map, z4, at4, BoxM.at, EvM.at, fillB, Int.reduceLT, Int.reduceLE, Int.reduceToNat, Int.toNat_zero, Int.le_refl, Int.reduceAdd, decide_true, decide_false, wr1, wr2, wr3, wr4, c0, c1, c2, c3, c4, Nat.reduceMul, Nat.reduceLT, Nat.lt_irrefl, true_and, and_self, ↓reduceIte]
  refine loop_N (mixE (attrM bs) 1).length (fun _ => True) (stA91 bs) trivial (by rfl) ?_
  rintro i hi -
  simp only [stA91]
  have hrl := rowE_len (attrM bs 1) 1 (mixE (attrM bs) 1) hi
  have hw := le20 hP
  have h20 : decide (((((mixE (attrM bs) 1).length * (attrM bs 1).length : Nat)) : Int) ≤ 20000) = true := by simp; omega
  by_cases hi' : i < (mixE (attrM bs) 1).length
  ·have hlt : decide ((i : Int) < ((mixE (attrM bs) 1).length : Int)) = true := by simp; exact hi'
   have hup := up64 (show i < 1000000 by omega)
   have ge := get_evC hi'
   have hnx := rowE_next (attrM bs 1) 1 (mixE (attrM bs) 1) hi'
   have him : i * (attrM bs 1).length + (attrM bs 1).length ≤ 5000 := by
    have : (i + 1) * (attrM bs 1).length ≤ (mixE (attrM bs) 1).length * (attrM bs 1).length := Nat.mul_le_mul_right _ hi'
    rw [Nat.succ_mul] at this; omega
   simp only [hlt, hw, h20, go_sem, Nat.reduceEqDiff, Nat.reduceAdd, Nat.reduceLeDiff, List.length_map, z4, at4, BoxM.at, EvM.at, fillB, Int.reduceLT, Int.reduceLE, Int.reduceToNat, Int.toNat_zero, Int.le_refl, Int.reduceAdd, decide_true, decide_false, wr1, wr2, wr3, wr4, c0, c1, c2, c3, c4, Nat.reduceMul, Nat.reduceLT, Nat.lt_irrefl, true_and, and_self, ↓reduceIte]
   refine loop_N (attrM bs 1).length (fun _ => True) (stB91 bs i) trivial (by simp only [stB91, rowC, List.take_zero, List.map_nil, List.append_nil]; rfl) ?_
   rintro q hq -
   simp only [stB91]
   have hcl := rowC_len (attrM bs 1) 1 ((mixE (attrM bs) 1).getD i zE9) hq
   simp only [go_sem, Nat.reduceEqDiff, Nat.reduceAdd, Nat.reduceLeDiff, List.length_map, z4, at4, BoxM.at, EvM.at, fillB, Int.reduceLT, Int.reduceLE, Int.reduceToNat, Int.toNat_zero, Int.le_refl, Int.reduceAdd, decide_true, decide_false, wr1, wr2, wr3, wr4, c0, c1, c2, c3, c4, Nat.reduceMul, Nat.reduceLT, Nat.lt_irrefl, true_and, and_self, ↓reduceIte]
   refine condE_split (fun hd => ?_) (fun hd => ?_)
   ·have hq' : q < (attrM bs 1).length := by simpa using hd
    have hupk := up64 (show q < 1000000 by omega)
    have gc := get_setC hq'
    have hm := attr_cell h.ok h.n h.few (i := 1) (by omega) (setD_mem hq')
    have ps := kSample9 _ (by omega : ((attrM bs 1).getD q noM).ints.length ≤ 100000) (by omega)
    have hcn := rowC_next (attrM bs 1) 1 ((mixE (attrM bs) 1).getD i zE9) hq'
    generalize hc0 : (attrM bs 1).getD q noM = c at *
    generalize hev : (mixE (attrM bs) 1).getD i zE9 = ev at *
    generalize hR : rowE (attrM bs 1) 1 (mixE (attrM bs) 1) i = R at *
    generalize hR2 : rowC (attrM bs 1) 1 ev q = R2 at *
    simp only [nn0, Int.toNat_natCast, ge, evC, go_sem, Nat.reduceEqDiff, Nat.reduceAdd, Nat.reduceLeDiff, List.length_map, z4, at4, BoxM.at, EvM.at, fillB, Int.reduceLT, Int.reduceLE, Int.reduceToNat, Int.toNat_zero, Int.le_refl, Int.reduceAdd, decide_true, decide_false, wr1, wr2, wr3, wr4, c0, c1, c2, c3, c4, Nat.reduceMul, Nat.reduceLT, Nat.lt_irrefl, true_and, and_self, ↓reduceIte]
    unfold setC at ps
    simp only [nn0, Int.toNat_natCast, gc, setC, go_sem, Nat.reduceEqDiff, Nat.reduceAdd, Nat.reduceLeDiff, List.length_map, z4, at4, BoxM.at, EvM.at, fillB, Int.reduceLT, Int.reduceLE, Int.reduceToNat, Int.toNat_zero, Int.le_refl, Int.reduceAdd, decide_true, decide_false, wr1, wr2, wr3, wr4, c0, c1, c2, c3, c4, Nat.reduceMul, Nat.reduceLT, Nat.lt_irrefl, true_and, and_self, ↓reduceIte]
    refine callP_eq rfl rfl ps ?_
    simp only [valC, go_sem, Nat.reduceEqDiff, Nat.reduceAdd, Nat.reduceLeDiff, List.length_map, z4, at4, BoxM.at, EvM.at, fillB, Int.reduceLT, Int.reduceLE, Int.reduceToNat, Int.toNat_zero, Int.le_refl, Int.reduceAdd, decide_true, decide_false, wr1, wr2, wr3, wr4, c0, c1, c2, c3, c4, Nat.reduceMul, Nat.reduceLT, Nat.lt_irrefl, true_and, and_self, ↓reduceIte]
    refine ⟨evC_len _, by rintro y rfl; rfl, by rw [List.length_append]; omega, by rw [List.length_append]; omega, ?_⟩
    simp only [hupk, go_sem, Nat.reduceEqDiff, Nat.reduceAdd, Nat.reduceLeDiff, List.length_map, z4, at4, BoxM.at, EvM.at, fillB, Int.reduceLT, Int.reduceLE, Int.reduceToNat, Int.toNat_zero, Int.le_refl, Int.reduceAdd, decide_true, decide_false, wr1, wr2, wr3, wr4, c0, c1, c2, c3, c4, Nat.reduceMul, Nat.reduceLT, Nat.lt_irrefl, true_and, and_self, ↓reduceIte]
    refine invN_next hq' trivial ?_
    simp only [stB91, hev, hR, hcn]
    simp only [List.map_append, List.map_cons, List.map_nil, evC, putE, List.append_assoc, go_sem, Nat.reduceEqDiff, Nat.reduceAdd, Nat.reduceLeDiff, List.length_map, z4, at4, BoxM.at, EvM.at, fillB, Int.reduceLT, Int.reduceLE, Int.reduceToNat, Int.toNat_zero, Int.le_refl, Int.reduceAdd, decide_true, decide_false, wr1, wr2, wr3, wr4, c0, c1, c2, c3, c4, Nat.reduceMul, Nat.reduceLT, Nat.lt_irrefl, true_and, and_self, ↓reduceIte]
   ·have : q = (attrM bs 1).length := by simp at hd; omega
    subst this
    rw [← hnx]
    simp only [hup, go_sem, Nat.reduceEqDiff, Nat.reduceAdd, Nat.reduceLeDiff, List.length_map, z4, at4, BoxM.at, EvM.at, fillB, Int.reduceLT, Int.reduceLE, Int.reduceToNat, Int.toNat_zero, Int.le_refl, Int.reduceAdd, decide_true, decide_false, wr1, wr2, wr3, wr4, c0, c1, c2, c3, c4, Nat.reduceMul, Nat.reduceLT, Nat.lt_irrefl, true_and, and_self, ↓reduceIte]
    refine invN_next hi' trivial ?_
    rfl
  ·have : i = (mixE (attrM bs) 1).length := by omega
   subst this
   have hlt : decide (((mixE (attrM bs) 1).length : Int) < ((mixE (attrM bs) 1).length : Int)) = false := by simp
   rw [hfin]
   simp only [hlt, go_sem, Nat.reduceEqDiff, Nat.reduceAdd, Nat.reduceLeDiff, List.length_map, z4, at4, BoxM.at, EvM.at, fillB, Int.reduceLT, Int.reduceLE, Int.reduceToNat, Int.toNat_zero, Int.le_refl, Int.reduceAdd, decide_true, decide_false, wr1, wr2, wr3, wr4, c0, c1, c2, c3, c4, Nat.reduceMul, Nat.reduceLT, Nat.lt_irrefl, true_and, and_self, ↓reduceIte]
   refine invN_next (show 1 < 4 by omega) trivial ?_
   rfl
 ·have pa := kAttr92 bs h.n h.few hb
  have hL := h.len (k := 2) (by omega)
  have hP := h.prod (k := 2) (by omega)
  have hC := h.cells (k := 2) (by omega)
  have hfin := rowE_all (attrM bs) 2
  simp only [stV9]
  simp only [go_sem, Nat.reduceEqDiff, Nat.reduceAdd, Nat.reduceLeDiff, List.length_map, z4, at4, BoxM.at, EvM.at, fillB, Int.reduceLT, Int.reduceLE, Int.reduceToNat, Int.toNat_zero, Int.le_refl, Int.reduceAdd, decide_true, decide_false, wr1, wr2, wr3, wr4, c0, c1, c2, c3, c4, Nat.reduceMul, Nat.reduceLT, Nat.lt_irrefl, true_and, and_self, ↓reduceIte]
  rw [show (St.fz _ [3]) = some _ from rfl]
  simp only [go_sem, Nat.reduceEqDiff, Nat.reduceAdd, Nat.reduceLeDiff, List.length_map, z4, at4, BoxM.at, EvM.at, fillB, Int.reduceLT, Int.reduceLE, Int.reduceToNat, Int.toNat_zero, Int.le_refl, Int.reduceAdd, decide_true, decide_false, wr1, wr2, wr3, wr4, c0, c1, c2, c3, c4, Nat.reduceMul, Nat.reduceLT, Nat.lt_irrefl, true_and, and_self, ↓reduceIte]
  refine callP_eq rfl rfl pa ?_
  simp only [go_sem, Nat.reduceEqDiff, Nat.reduceAdd, Nat.reduceLeDiff, List.length_map, z4, at4, BoxM.at, EvM.at, fillB, Int.reduceLT, Int.reduceLE, Int.reduceToNat, Int.toNat_zero, Int.le_refl, Int.reduceAdd, decide_true, decide_false, wr1, wr2, wr3, wr4, c0, c1, c2, c3, c4, Nat.reduceMul, Nat.reduceLT, Nat.lt_irrefl, true_and, and_self, ↓reduceIte]
  refine loop_N (mixE (attrM bs) 2).length (fun _ => True) (stA92 bs) trivial (by rfl) ?_
  rintro i hi -
  simp only [stA92]
  have hrl := rowE_len (attrM bs 2) 2 (mixE (attrM bs) 2) hi
  have hw := le20 hP
  have h20 : decide (((((mixE (attrM bs) 2).length * (attrM bs 2).length : Nat)) : Int) ≤ 20000) = true := by simp; omega
  by_cases hi' : i < (mixE (attrM bs) 2).length
  ·have hlt : decide ((i : Int) < ((mixE (attrM bs) 2).length : Int)) = true := by simp; exact hi'
   have hup := up64 (show i < 1000000 by omega)
   have ge := get_evC hi'
   have hnx := rowE_next (attrM bs 2) 2 (mixE (attrM bs) 2) hi'
   have him : i * (attrM bs 2).length + (attrM bs 2).length ≤ 5000 := by
    have : (i + 1) * (attrM bs 2).length ≤ (mixE (attrM bs) 2).length * (attrM bs 2).length := Nat.mul_le_mul_right _ hi'
    rw [Nat.succ_mul] at this; omega
   simp only [hlt, hw, h20, go_sem, Nat.reduceEqDiff, Nat.reduceAdd, Nat.reduceLeDiff, List.length_map, z4, at4, BoxM.at, EvM.at, fillB, Int.reduceLT, Int.reduceLE, Int.reduceToNat, Int.toNat_zero, Int.le_refl, Int.reduceAdd, decide_true, decide_false, wr1, wr2, wr3, wr4, c0, c1, c2, c3, c4, Nat.reduceMul, Nat.reduceLT, Nat.lt_irrefl, true_and, and_self, ↓reduceIte]
   refine loop_N (attrM bs 2).length (fun _ => True) (stB92 bs i) trivial (by simp only [stB92, rowC, List.take_zero, List.map_nil, List.append_nil]; rfl) ?_
   rintro q hq -
   simp only [stB92]
   have hcl := rowC_len (attrM bs 2) 2 ((mixE (attrM bs) 2).getD i zE9) hq
   simp only [go_sem, Nat.reduceEqDiff, Nat.reduceAdd, Nat.reduceLeDiff, List.length_map, z4, at4, BoxM.at, EvM.at, fillB, Int.reduceLT, Int.reduceLE, Int.reduceToNat, Int.toNat_zero, Int.le_refl, Int.reduceAdd, decide_true, decide_false, wr1, wr2, wr3, wr4, c0, c1, c2, c3, c4, Nat.reduceMul, Nat.reduceLT, Nat.lt_irrefl, true_and, and_self, ↓reduceIte]
   refine condE_split (fun hd => ?_) (fun hd => ?_)
   ·have hq' : q < (attrM bs 2).length := by simpa using hd
    have hupk := up64 (show q < 1000000 by omega)
    have gc := get_setC hq'
    have hm := attr_cell h.ok h.n h.few (i := 2) (by omega) (setD_mem hq')
    have ps := kSample9 _ (by omega : ((attrM bs 2).getD q noM).ints.length ≤ 100000) (by omega)
    have hcn := rowC_next (attrM bs 2) 2 ((mixE (attrM bs) 2).getD i zE9) hq'
    generalize hc0 : (attrM bs 2).getD q noM = c at *
    generalize hev : (mixE (attrM bs) 2).getD i zE9 = ev at *
    generalize hR : rowE (attrM bs 2) 2 (mixE (attrM bs) 2) i = R at *
    generalize hR2 : rowC (attrM bs 2) 2 ev q = R2 at *
    simp only [nn0, Int.toNat_natCast, ge, evC, go_sem, Nat.reduceEqDiff, Nat.reduceAdd, Nat.reduceLeDiff, List.length_map, z4, at4, BoxM.at, EvM.at, fillB, Int.reduceLT, Int.reduceLE, Int.reduceToNat, Int.toNat_zero, Int.le_refl, Int.reduceAdd, decide_true, decide_false, wr1, wr2, wr3, wr4, c0, c1, c2, c3, c4, Nat.reduceMul, Nat.reduceLT, Nat.lt_irrefl, true_and, and_self, ↓reduceIte]
    unfold setC at ps
    simp only [nn0, Int.toNat_natCast, gc, setC, go_sem, Nat.reduceEqDiff, Nat.reduceAdd, Nat.reduceLeDiff, List.length_map, z4, at4, BoxM.at, EvM.at, fillB, Int.reduceLT, Int.reduceLE, Int.reduceToNat, Int.toNat_zero, Int.le_refl, Int.reduceAdd, decide_true, decide_false, wr1, wr2, wr3, wr4, c0, c1, c2, c3, c4, Nat.reduceMul, Nat.reduceLT, Nat.lt_irrefl, true_and, and_self, ↓reduceIte]
    refine callP_eq rfl rfl ps ?_
    simp only [valC, go_sem, Nat.reduceEqDiff, Nat.reduceAdd, Nat.reduceLeDiff, List.length_map, z4, at4, BoxM.at, EvM.at, fillB, Int.reduceLT, Int.reduceLE, Int.reduceToNat, Int.toNat_zero, Int.le_refl, Int.reduceAdd, decide_true, decide_false, wr1, wr2, wr3, wr4, c0, c1, c2, c3, c4, Nat.reduceMul, Nat.reduceLT, Nat.lt_irrefl, true_and, and_self, ↓reduceIte]
    refine ⟨evC_len _, by rintro y rfl; rfl, by rw [List.length_append]; omega, by rw [List.length_append]; omega, ?_⟩
    simp only [hupk, go_sem, Nat.reduceEqDiff, Nat.reduceAdd, Nat.reduceLeDiff, List.length_map, z4, at4, BoxM.at, EvM.at, fillB, Int.reduceLT, Int.reduceLE, Int.reduceToNat, Int.toNat_zero, Int.le_refl, Int.reduceAdd, decide_true, decide_false, wr1, wr2, wr3, wr4, c0, c1, c2, c3, c4, Nat.reduceMul, Nat.reduceLT, Nat.lt_irrefl, true_and, and_self, ↓reduceIte]
    refine invN_next hq' trivial ?_
    simp only [stB92, hev, hR, hcn]
    simp only [List.map_append, List.map_cons, List.map_nil, evC, putE, List.append_assoc, go_sem, Nat.reduceEqDiff, Nat.reduceAdd, Nat.reduceLeDiff, List.length_map, z4, at4, BoxM.at, EvM.at, fillB, Int.reduceLT, Int.reduceLE, Int.reduceToNat, Int.toNat_zero, Int.le_refl, Int.reduceAdd, decide_true, decide_false, wr1, wr2, wr3, wr4, c0, c1, c2, c3, c4, Nat.reduceMul, Nat.reduceLT, Nat.lt_irrefl, true_and, and_self, ↓reduceIte]
   ·have : q = (attrM bs 2).length := by simp at hd; omega
    subst this
    rw [← hnx]
    simp only [hup, go_sem, Nat.reduceEqDiff, Nat.reduceAdd, Nat.reduceLeDiff, List.length_map, z4, at4, BoxM.at, EvM.at, fillB, Int.reduceLT, Int.reduceLE, Int.reduceToNat, Int.toNat_zero, Int.le_refl, Int.reduceAdd, decide_true, decide_false, wr1, wr2, wr3, wr4, c0, c1, c2, c3, c4, Nat.reduceMul, Nat.reduceLT, Nat.lt_irrefl, true_and, and_self, ↓reduceIte]
    refine invN_next hi' trivial ?_
    rfl
  ·have : i = (mixE (attrM bs) 2).length := by omega
   subst this
   have hlt : decide (((mixE (attrM bs) 2).length : Int) < ((mixE (attrM bs) 2).length : Int)) = false := by simp
   rw [hfin]
   simp only [hlt, go_sem, Nat.reduceEqDiff, Nat.reduceAdd, Nat.reduceLeDiff, List.length_map, z4, at4, BoxM.at, EvM.at, fillB, Int.reduceLT, Int.reduceLE, Int.reduceToNat, Int.toNat_zero, Int.le_refl, Int.reduceAdd, decide_true, decide_false, wr1, wr2, wr3, wr4, c0, c1, c2, c3, c4, Nat.reduceMul, Nat.reduceLT, Nat.lt_irrefl, true_and, and_self, ↓reduceIte]
   refine invN_next (show 2 < 4 by omega) trivial ?_
   rfl
 ·have pa := kAttr93 bs h.n h.few hb
  have hL := h.len (k := 3) (by omega)
  have hP := h.prod (k := 3) (by omega)
  have hC := h.cells (k := 3) (by omega)
  have hfin := rowE_all (attrM bs) 3
  simp only [stV9]
  simp only [go_sem, Nat.reduceEqDiff, Nat.reduceAdd, Nat.reduceLeDiff, List.length_map, z4, at4, BoxM.at, EvM.at, fillB, Int.reduceLT, Int.reduceLE, Int.reduceToNat, Int.toNat_zero, Int.le_refl, Int.reduceAdd, decide_true, decide_false, wr1, wr2, wr3, wr4, c0, c1, c2, c3, c4, Nat.reduceMul, Nat.reduceLT, Nat.lt_irrefl, true_and, and_self, ↓reduceIte]
  rw [show (St.fz _ [3]) = some _ from rfl]
  simp only [go_sem, Nat.reduceEqDiff, Nat.reduceAdd, Nat.reduceLeDiff, List.length_map, z4, at4, BoxM.at, EvM.at, fillB, Int.reduceLT, Int.reduceLE, Int.reduceToNat, Int.toNat_zero, Int.le_refl, Int.reduceAdd, decide_true, decide_false, wr1, wr2, wr3, wr4, c0, c1, c2, c3, c4, Nat.reduceMul, Nat.reduceLT, Nat.lt_irrefl, true_and, and_self, ↓reduceIte]
  refine callP_eq rfl rfl pa ?_
  simp only [go_sem, Nat.reduceEqDiff, Nat.reduceAdd, Nat.reduceLeDiff, List.length_map, z4, at4, BoxM.at, EvM.at, fillB, Int.reduceLT, Int.reduceLE, Int.reduceToNat, Int.toNat_zero, Int.le_refl, Int.reduceAdd, decide_true, decide_false, wr1, wr2, wr3, wr4, c0, c1, c2, c3, c4, Nat.reduceMul, Nat.reduceLT, Nat.lt_irrefl, true_and, and_self, ↓reduceIte]
  refine loop_N (mixE (attrM bs) 3).length (fun _ => True) (stA93 bs) trivial (by rfl) ?_
  rintro i hi -
  simp only [stA93]
  have hrl := rowE_len (attrM bs 3) 3 (mixE (attrM bs) 3) hi
  have hw := le20 hP
  have h20 : decide (((((mixE (attrM bs) 3).length * (attrM bs 3).length : Nat)) : Int) ≤ 20000) = true := by simp; omega
  by_cases hi' : i < (mixE (attrM bs) 3).length
  ·have hlt : decide ((i : Int) < ((mixE (attrM bs) 3).length : Int)) = true := by simp; exact hi'
   have hup := up64 (show i < 1000000 by omega)
   have ge := get_evC hi'
   have hnx := rowE_next (attrM bs 3) 3 (mixE (attrM bs) 3) hi'
   have him : i * (attrM bs 3).length + (attrM bs 3).length ≤ 5000 := by
    have : (i + 1) * (attrM bs 3).length ≤ (mixE (attrM bs) 3).length * (attrM bs 3).length := Nat.mul_le_mul_right _ hi'
    rw [Nat.succ_mul] at this; omega
   simp only [hlt, hw, h20, go_sem, Nat.reduceEqDiff, Nat.reduceAdd, Nat.reduceLeDiff, List.length_map, z4, at4, BoxM.at, EvM.at, fillB, Int.reduceLT, Int.reduceLE, Int.reduceToNat, Int.toNat_zero, Int.le_refl, Int.reduceAdd, decide_true, decide_false, wr1, wr2, wr3, wr4, c0, c1, c2, c3, c4, Nat.reduceMul, Nat.reduceLT, Nat.lt_irrefl, true_and, and_self, ↓reduceIte]
   refine loop_N (attrM bs 3).length (fun _ => True) (stB93 bs i) trivial (by simp only [stB93, rowC, List.take_zero, List.map_nil, List.append_nil]; rfl) ?_
   rintro q hq -
   simp only [stB93]
   have hcl := rowC_len (attrM bs 3) 3 ((mixE (attrM bs) 3).getD i zE9) hq
   simp only [go_sem, Nat.reduceEqDiff, Nat.reduceAdd, Nat.reduceLeDiff, List.length_map, z4, at4, BoxM.at, EvM.at, fillB, Int.reduceLT, Int.reduceLE, Int.reduceToNat, Int.toNat_zero, Int.le_refl, Int.reduceAdd, decide_true, decide_false, wr1, wr2, wr3, wr4, c0, c1, c2, c3, c4, Nat.reduceMul, Nat.reduceLT, Nat.lt_irrefl, true_and, and_self, ↓reduceIte]
   refine condE_split (fun hd => ?_) (fun hd => ?_)
   ·have hq' : q < (attrM bs 3).length := by simpa using hd
    have hupk := up64 (show q < 1000000 by omega)
    have gc := get_setC hq'
    have hm := attr_cell h.ok h.n h.few (i := 3) (by omega) (setD_mem hq')
    have ps := kSample9 _ (by omega : ((attrM bs 3).getD q noM).ints.length ≤ 100000) (by omega)
    have hcn := rowC_next (attrM bs 3) 3 ((mixE (attrM bs) 3).getD i zE9) hq'
    generalize hc0 : (attrM bs 3).getD q noM = c at *
    generalize hev : (mixE (attrM bs) 3).getD i zE9 = ev at *
    generalize hR : rowE (attrM bs 3) 3 (mixE (attrM bs) 3) i = R at *
    generalize hR2 : rowC (attrM bs 3) 3 ev q = R2 at *
    simp only [nn0, Int.toNat_natCast, ge, evC, go_sem, Nat.reduceEqDiff, Nat.reduceAdd, Nat.reduceLeDiff, List.length_map, z4, at4, BoxM.at, EvM.at, fillB, Int.reduceLT, Int.reduceLE, Int.reduceToNat, Int.toNat_zero, Int.le_refl, Int.reduceAdd, decide_true, decide_false, wr1, wr2, wr3, wr4, c0, c1, c2, c3, c4, Nat.reduceMul, Nat.reduceLT, Nat.lt_irrefl, true_and, and_self, ↓reduceIte]
    unfold setC at ps
    simp only [nn0, Int.toNat_natCast, gc, setC, go_sem, Nat.reduceEqDiff, Nat.reduceAdd, Nat.reduceLeDiff, List.length_map, z4, at4, BoxM.at, EvM.at, fillB, Int.reduceLT, Int.reduceLE, Int.reduceToNat, Int.toNat_zero, Int.le_refl, Int.reduceAdd, decide_true, decide_false, wr1, wr2, wr3, wr4, c0, c1, c2, c3, c4, Nat.reduceMul, Nat.reduceLT, Nat.lt_irrefl, true_and, and_self, ↓reduceIte]
    refine callP_eq rfl rfl ps ?_
    simp only [valC, go_sem, Nat.reduceEqDiff, Nat.reduceAdd, Nat.reduceLeDiff, List.length_map, z4, at4, BoxM.at, EvM.at, fillB, Int.reduceLT, Int.reduceLE, Int.reduceToNat, Int.toNat_zero, Int.le_refl, Int.reduceAdd, decide_true, decide_false, wr1, wr2, wr3, wr4, c0, c1, c2, c3, c4, Nat.reduceMul, Nat.reduceLT, Nat.lt_irrefl, true_and, and_self, ↓reduceIte]
    refine ⟨evC_len _, by rintro y rfl; rfl, by rw [List.length_append]; omega, by rw [List.length_append]; omega, ?_⟩
    simp only [hupk, go_sem, Nat.reduceEqDiff, Nat.reduceAdd, Nat.reduceLeDiff, List.length_map, z4, at4, BoxM.at, EvM.at, fillB, Int.reduceLT, Int.reduceLE, Int.reduceToNat, Int.toNat_zero, Int.le_refl, Int.reduceAdd, decide_true, decide_false, wr1, wr2, wr3, wr4, c0, c1, c2, c3, c4, Nat.reduceMul, Nat.reduceLT, Nat.lt_irrefl, true_and, and_self, ↓reduceIte]
    refine invN_next hq' trivial ?_
    simp only [stB93, hev, hR, hcn]
    simp only [List.map_append, List.map_cons, List.map_nil, evC, putE, List.append_assoc, go_sem, Nat.reduceEqDiff, Nat.reduceAdd, Nat.reduceLeDiff, List.length_map, z4, at4, BoxM.at, EvM.at, fillB, Int.reduceLT, Int.reduceLE, Int.reduceToNat, Int.toNat_zero, Int.le_refl, Int.reduceAdd, decide_true, decide_false, wr1, wr2, wr3, wr4, c0, c1, c2, c3, c4, Nat.reduceMul, Nat.reduceLT, Nat.lt_irrefl, true_and, and_self, ↓reduceIte]
   ·have : q = (attrM bs 3).length := by simp at hd; omega
    subst this
    rw [← hnx]
    simp only [hup, go_sem, Nat.reduceEqDiff, Nat.reduceAdd, Nat.reduceLeDiff, List.length_map, z4, at4, BoxM.at, EvM.at, fillB, Int.reduceLT, Int.reduceLE, Int.reduceToNat, Int.toNat_zero, Int.le_refl, Int.reduceAdd, decide_true, decide_false, wr1, wr2, wr3, wr4, c0, c1, c2, c3, c4, Nat.reduceMul, Nat.reduceLT, Nat.lt_irrefl, true_and, and_self, ↓reduceIte]
    refine invN_next hi' trivial ?_
    rfl
  ·have : i = (mixE (attrM bs) 3).length := by omega
   subst this
   have hlt : decide (((mixE (attrM bs) 3).length : Int) < ((mixE (attrM bs) 3).length : Int)) = false := by simp
   rw [hfin]
   simp only [hlt, go_sem, Nat.reduceEqDiff, Nat.reduceAdd, Nat.reduceLeDiff, List.length_map, z4, at4, BoxM.at, EvM.at, fillB, Int.reduceLT, Int.reduceLE, Int.reduceToNat, Int.toNat_zero, Int.le_refl, Int.reduceAdd, decide_true, decide_false, wr1, wr2, wr3, wr4, c0, c1, c2, c3, c4, Nat.reduceMul, Nat.reduceLT, Nat.lt_irrefl, true_and, and_self, ↓reduceIte]
   refine invN_next (show 3 < 4 by omega) trivial ?_
   rfl
 ·simp only [stV9]
  have h5 : decide (((mixE (attrM bs) 4).length : Int) > 5000) = false := by simp; omega
  simp only [h5, go_sem, Nat.reduceEqDiff, Nat.reduceAdd, Nat.reduceLeDiff, List.length_map, z4, at4, BoxM.at, EvM.at, fillB, Int.reduceLT, Int.reduceLE, Int.reduceToNat, Int.toNat_zero, Int.le_refl, Int.reduceAdd, decide_true, decide_false, wr1, wr2, wr3, wr4, c0, c1, c2, c3, c4, Nat.reduceMul, Nat.reduceLT, Nat.lt_irrefl, true_and, and_self, ↓reduceIte]
end Go.Proofs

namespace Go.Proofs
open Go.Vm
set_option linter.unusedSimpArgs false
theorem GridOK.mix {fs : List (List BoxM)} (h : GridOK fs) (h4 : cntC (attrM fs.flatten) 4 ≤ 5000) : MixOK fs.flatten := by
 obtain ⟨h1, h2, h3⟩ := h.all
 exact ⟨h1, by omega, h2, h4⟩
def stP (fs : List (List BoxM)) : Nat → St
 | 0 => ⟨[(3, .sl (some (15, 40, 12)) [evC zE9]), (20, cellsD fs.flatten), (21, .val (.int .i64 0))], [(1000000, gridL fs)], [((15, 40, 12), true)]⟩
 | k + 1 => ⟨[(3, .sl (some (6, 40, 12)) ((mixE (attrM fs.flatten) (k + 1)).map evC)), (20, cellsD fs.flatten), (21, .val (.int .i64 (z4 (k + 1))))], [(1000000, gridL fs)], [((6, 40, 12), true)]⟩
def stPA0 (fs : List (List BoxM)) (i : Nat) : St := ⟨[(4, .val (.int .i64 0)), (5, .sl none ((attrM fs.flatten 0).map setC)), (6, .sl (some (6, 40, 12)) ((rowE (attrM fs.flatten 0) 0 (mixE (attrM fs.flatten) 0) i).map evC)), (20, cellsD fs.flatten), (21, .val (.int .i64 0)), (25, .sl none ((mixE (attrM fs.flatten) 0).map evC)), (26, .val (.int .i64 (mixE (attrM fs.flatten) 0).length)), (27, .val (.int .i64 i))], [(1000000, gridL fs)], [((6, 40, 12), true)]⟩
def stPB0 (fs : List (List BoxM)) (e : EvM) (i j : Nat) : St := ⟨[(4, .val (.int .i64 0)), (5, .sl none ((attrM fs.flatten 0).map setC)), (6, .sl (some (6, 40, 12)) ((rowE (attrM fs.flatten 0) 0 (mixE (attrM fs.flatten) 0) i ++ rowC (attrM fs.flatten 0) 0 e j).map evC)), (8, .ptr 8 0), (20, cellsD fs.flatten), (21, .val (.int .i64 0)), (25, .sl none ((mixE (attrM fs.flatten) 0).map evC)), (26, .val (.int .i64 (mixE (attrM fs.flatten) 0).length)), (27, .val (.int .i64 i)), (31, .sl none ((attrM fs.flatten 0).map setC)), (32, .val (.int .i64 (attrM fs.flatten 0).length)), (33, .val (.int .i64 j))], [(8, evC (putE e 0 (curV (attrM fs.flatten 0) e 0 j))), (1000000, gridL fs)], [((6, 40, 12), true)]⟩
def stPA1 (fs : List (List BoxM)) (i : Nat) : St := ⟨[(4, .val (.int .i64 1)), (5, .sl none ((attrM fs.flatten 1).map setC)), (6, .sl (some (6, 40, 12)) ((rowE (attrM fs.flatten 1) 1 (mixE (attrM fs.flatten) 1) i).map evC)), (20, cellsD fs.flatten), (21, .val (.int .i64 1)), (25, .sl none ((mixE (attrM fs.flatten) 1).map evC)), (26, .val (.int .i64 (mixE (attrM fs.flatten) 1).length)), (27, .val (.int .i64 i))], [(1000000, gridL fs)], [((6, 40, 12), true)]⟩
def stPB1 (fs : List (List BoxM)) (e : EvM) (i j : Nat) : St := ⟨[(4, .val (.int .i64 1)), (5, .sl none ((attrM fs.flatten 1).map setC)), (6, .sl (some (6, 40, 12)) ((rowE (attrM fs.flatten 1) 1 (mixE (attrM fs.flatten) 1) i ++ rowC (attrM fs.flatten 1) 1 e j).map evC)), (8, .ptr 8 0), (20, cellsD fs.flatten), (21, .val (.int .i64 1)), (25, .sl none ((mixE (attrM fs.flatten) 1).map evC)), (26, .val (.int .i64 (mixE (attrM fs.flatten) 1).length)), (27, .val (.int .i64 i)), (31, .sl none ((attrM fs.flatten 1).map setC)), (32, .val (.int .i64 (attrM fs.flatten 1).length)), (33, .val (.int .i64 j))], [(8, evC (putE e 1 (curV (attrM fs.flatten 1) e 1 j))), (1000000, gridL fs)], [((6, 40, 12), true)]⟩
def stPA2 (fs : List (List BoxM)) (i : Nat) : St := ⟨[(4, .val (.int .i64 2)), (5, .sl none ((attrM fs.flatten 2).map setC)), (6, .sl (some (6, 40, 12)) ((rowE (attrM fs.flatten 2) 2 (mixE (attrM fs.flatten) 2) i).map evC)), (20, cellsD fs.flatten), (21, .val (.int .i64 2)), (25, .sl none ((mixE (attrM fs.flatten) 2).map evC)), (26, .val (.int .i64 (mixE (attrM fs.flatten) 2).length)), (27, .val (.int .i64 i))], [(1000000, gridL fs)], [((6, 40, 12), true)]⟩
def stPB2 (fs : List (List BoxM)) (e : EvM) (i j : Nat) : St := ⟨[(4, .val (.int .i64 2)), (5, .sl none ((attrM fs.flatten 2).map setC)), (6, .sl (some (6, 40, 12)) ((rowE (attrM fs.flatten 2) 2 (mixE (attrM fs.flatten) 2) i ++ rowC (attrM fs.flatten 2) 2 e j).map evC)), (8, .ptr 8 0), (20, cellsD fs.flatten), (21, .val (.int .i64 2)), (25, .sl none ((mixE (attrM fs.flatten) 2).map evC)), (26, .val (.int .i64 (mixE (attrM fs.flatten) 2).length)), (27, .val (.int .i64 i)), (31, .sl none ((attrM fs.flatten 2).map setC)), (32, .val (.int .i64 (attrM fs.flatten 2).length)), (33, .val (.int .i64 j))], [(8, evC (putE e 2 (curV (attrM fs.flatten 2) e 2 j))), (1000000, gridL fs)], [((6, 40, 12), true)]⟩
def stPA3 (fs : List (List BoxM)) (i : Nat) : St := ⟨[(4, .val (.int .i64 3)), (5, .sl none ((attrM fs.flatten 3).map setC)), (6, .sl (some (6, 40, 12)) ((rowE (attrM fs.flatten 3) 3 (mixE (attrM fs.flatten) 3) i).map evC)), (20, cellsD fs.flatten), (21, .val (.int .i64 3)), (25, .sl none ((mixE (attrM fs.flatten) 3).map evC)), (26, .val (.int .i64 (mixE (attrM fs.flatten) 3).length)), (27, .val (.int .i64 i))], [(1000000, gridL fs)], [((6, 40, 12), true)]⟩
def stPB3 (fs : List (List BoxM)) (e : EvM) (i j : Nat) : St := ⟨[(4, .val (.int .i64 3)), (5, .sl none ((attrM fs.flatten 3).map setC)), (6, .sl (some (6, 40, 12)) ((rowE (attrM fs.flatten 3) 3 (mixE (attrM fs.flatten) 3) i ++ rowC (attrM fs.flatten 3) 3 e j).map evC)), (8, .ptr 8 0), (20, cellsD fs.flatten), (21, .val (.int .i64 3)), (25, .sl none ((mixE (attrM fs.flatten) 3).map evC)), (26, .val (.int .i64 (mixE (attrM fs.flatten) 3).length)), (27, .val (.int .i64 i)), (31, .sl none ((attrM fs.flatten 3).map setC)), (32, .val (.int .i64 (attrM fs.flatten 3).length)), (33, .val (.int .i64 j))], [(8, evC (putE e 3 (curV (attrM fs.flatten 3) e 3 j))), (1000000, gridL fs)], [((6, 40, 12), true)]⟩
set_option maxHeartbeats 16000000 in
theorem kcEvents (fs : List (List BoxM)) (h : GridOK fs) (h4 : cntC (attrM fs.flatten) 4 ≤ 5000) :
    ObjAt Tryz.prog 31 ⟨[(0, .ptr 1000000 0)], [(1000000, gridF fs)], []⟩ 1 (fun r hp tg => r = .sl none ((mixE (attrM fs.flatten) 4).map evC) ∧ hp = [(1000000, gridL fs)] ∧ tg = []) := by
 have hm := h.mix h4
 have h5 : decide (((cntC (attrM fs.flatten) 4 : Nat) : Int) > 5000) = false := by simp; omega
 refine obj_of [1000000] [] r31 (by kernel_rfl) ?_
 unfold m31
 simp only [go_sem, Nat.reduceEqDiff, Nat.reduceAdd, Nat.reduceLeDiff, List.length_map, z4, at4, BoxM.at, EvM.at, fillB, Int.reduceLT, Int.reduceLE, Int.reduceToNat, Int.toNat_zero, Int.le_refl, Int.reduceAdd, decide_true, decide_false, wr1, wr2, wr3, wr4, c0, c1, c2, c3, c4, Nat.reduceMul, Nat.reduceLT, Nat.lt_irrefl, true_and, and_self, ↓reduceIte]
 refine callO_eq rfl rfl rfl rfl rfl (kCountF fs h) ?_
 simp only [h5, go_sem, Nat.reduceEqDiff, Nat.reduceAdd, Nat.reduceLeDiff, List.length_map, z4, at4, BoxM.at, EvM.at, fillB, Int.reduceLT, Int.reduceLE, Int.reduceToNat, Int.toNat_zero, Int.le_refl, Int.reduceAdd, decide_true, decide_false, wr1, wr2, wr3, wr4, c0, c1, c2, c3, c4, Nat.reduceMul, Nat.reduceLT, Nat.lt_irrefl, true_and, and_self, ↓reduceIte]
 refine callO_eq rfl rfl rfl rfl rfl (kLaidL fs h) ?_
 simp only [gridL, gridB, go_sem, Nat.reduceEqDiff, Nat.reduceAdd, Nat.reduceLeDiff, List.length_map, z4, at4, BoxM.at, EvM.at, fillB, Int.reduceLT, Int.reduceLE, Int.reduceToNat, Int.toNat_zero, Int.le_refl, Int.reduceAdd, decide_true, decide_false, wr1, wr2, wr3, wr4, c0, c1, c2, c3, c4, Nat.reduceMul, Nat.reduceLT, Nat.lt_irrefl, true_and, and_self, ↓reduceIte]
 refine loop_N 4 (fun _ => True) (stP fs) trivial (by rfl) ?_
 rintro k hk -
 have hk5 : k = 0 ∨ k = 1 ∨ k = 2 ∨ k = 3 ∨ k = 4 := by omega
 rcases hk5 with rfl | rfl | rfl | rfl | rfl
 ·have hL := hm.len (k := 0) (by omega)
  have hP := hm.prod (k := 0) (by omega)
  have hC := hm.cells (k := 0) (by omega)
  have hfin := rowE_all (attrM fs.flatten) 0
  simp only [stP]
  simp only [go_sem, Nat.reduceEqDiff, Nat.reduceAdd, Nat.reduceLeDiff, List.length_map, z4, at4, BoxM.at, EvM.at, fillB, Int.reduceLT, Int.reduceLE, Int.reduceToNat, Int.toNat_zero, Int.le_refl, Int.reduceAdd, decide_true, decide_false, wr1, wr2, wr3, wr4, c0, c1, c2, c3, c4, Nat.reduceMul, Nat.reduceLT, Nat.lt_irrefl, true_and, and_self, ↓reduceIte]
  rw [show (St.fz _ [3]) = some _ from rfl]
  simp only [cellsD, go_sem, Nat.reduceEqDiff, Nat.reduceAdd, Nat.reduceLeDiff, List.length_map, z4, at4, BoxM.at, EvM.at, fillB, Int.reduceLT, Int.reduceLE, Int.reduceToNat, Int.toNat_zero, Int.le_refl, Int.reduceAdd, decide_true, decide_false, wr1, wr2, wr3, wr4, c0, c1, c2, c3, c4, Nat.reduceMul, Nat.reduceLT, Nat.lt_irrefl, true_and, and_self, ↓reduceIte]
  refine loop_N (mixE (attrM fs.flatten) 0).length (fun _ => True) (stPA0 fs) trivial (by rfl) ?_
  rintro i hi -
  simp only [stPA0]
  have hrl := rowE_len (attrM fs.flatten 0) 0 (mixE (attrM fs.flatten) 0) hi
  simp only [go_sem, Nat.reduceEqDiff, Nat.reduceAdd, Nat.reduceLeDiff, List.length_map, z4, at4, BoxM.at, EvM.at, fillB, Int.reduceLT, Int.reduceLE, Int.reduceToNat, Int.toNat_zero, Int.le_refl, Int.reduceAdd, decide_true, decide_false, wr1, wr2, wr3, wr4, c0, c1, c2, c3, c4, Nat.reduceMul, Nat.reduceLT, Nat.lt_irrefl, true_and, and_self, ↓reduceIte]
  refine condE_split (fun hc => ?_) (fun hc => ?_)
  ·have hi' : i < (mixE (attrM fs.flatten) 0).length := by simpa using hc
   have hup := up64 (show i < 1000000 by omega)
   have ge := get_evC hi'
   have hnx := rowE_next (attrM fs.flatten 0) 0 (mixE (attrM fs.flatten) 0) hi'
   have him : i * (attrM fs.flatten 0).length + (attrM fs.flatten 0).length ≤ 5000 := by
    have : (i + 1) * (attrM fs.flatten 0).length ≤ (mixE (attrM fs.flatten) 0).length * (attrM fs.flatten 0).length := Nat.mul_le_mul_right _ hi'
    rw [Nat.succ_mul] at this; omega
   generalize hev : (mixE (attrM fs.flatten) 0).getD i zE9 = ev at *
   simp only [nn0, Int.toNat_natCast, ge, evC, go_sem, Nat.reduceEqDiff, Nat.reduceAdd, Nat.reduceLeDiff, List.length_map, z4, at4, BoxM.at, EvM.at, fillB, Int.reduceLT, Int.reduceLE, Int.reduceToNat, Int.toNat_zero, Int.le_refl, Int.reduceAdd, decide_true, decide_false, wr1, wr2, wr3, wr4, c0, c1, c2, c3, c4, Nat.reduceMul, Nat.reduceLT, Nat.lt_irrefl, true_and, and_self, ↓reduceIte]
   refine loop_N (attrM fs.flatten 0).length (fun _ => True) (stPB0 fs ev i) trivial (by simp only [stPB0, rowC, List.take_zero, List.map_nil, List.append_nil, putE_cur0 _ _ (show 0 < 4 by omega)]; rfl) ?_
   rintro q hq -
   simp only [stPB0]
   have hcl := rowC_len (attrM fs.flatten 0) 0 ev hq
   simp only [go_sem, Nat.reduceEqDiff, Nat.reduceAdd, Nat.reduceLeDiff, List.length_map, z4, at4, BoxM.at, EvM.at, fillB, Int.reduceLT, Int.reduceLE, Int.reduceToNat, Int.toNat_zero, Int.le_refl, Int.reduceAdd, decide_true, decide_false, wr1, wr2, wr3, wr4, c0, c1, c2, c3, c4, Nat.reduceMul, Nat.reduceLT, Nat.lt_irrefl, true_and, and_self, ↓reduceIte]
   refine condE_split (fun hd => ?_) (fun hd => ?_)
   ·have hq' : q < (attrM fs.flatten 0).length := by simpa using hd
    have hupk := up64 (show q < 1000000 by omega)
    have gc := get_setC hq'
    obtain ⟨m1, m2, m3⟩ := attr_cell hm.ok hm.n hm.few (i := 0) (by omega) (setD_mem hq')
    have ps := kSample _ (by omega : ((attrM fs.flatten 0).getD q noM).ints.length ≤ 100000) (by omega) m1
    have hcn := rowC_next (attrM fs.flatten 0) 0 ev hq'
    have hcur : curV (attrM fs.flatten 0) ev 0 (q + 1) = (sampleM ((attrM fs.flatten 0).getD q noM)).1 := rfl
    generalize hc0 : (attrM fs.flatten 0).getD q noM = c at *
    generalize curV (attrM fs.flatten 0) ev 0 q = cv at *
    generalize hR : rowE (attrM fs.flatten 0) 0 (mixE (attrM fs.flatten) 0) i = R at *
    generalize hR2 : rowC (attrM fs.flatten 0) 0 ev q = R2 at *
    unfold setC at ps
    simp only [nn0, Int.toNat_natCast, gc, setC, go_sem, Nat.reduceEqDiff, Nat.reduceAdd, Nat.reduceLeDiff, List.length_map, z4, at4, BoxM.at, EvM.at, fillB, Int.reduceLT, Int.reduceLE, Int.reduceToNat, Int.toNat_zero, Int.le_refl, Int.reduceAdd, decide_true, decide_false, wr1, wr2, wr3, wr4, c0, c1, c2, c3, c4, Nat.reduceMul, Nat.reduceLT, Nat.lt_irrefl, true_and, and_self, ↓reduceIte]
    refine callP_eq rfl rfl ps ?_
    simp only [valC, evC, putE, go_sem, Nat.reduceEqDiff, Nat.reduceAdd, Nat.reduceLeDiff, List.length_map, z4, at4, BoxM.at, EvM.at, fillB, Int.reduceLT, Int.reduceLE, Int.reduceToNat, Int.toNat_zero, Int.le_refl, Int.reduceAdd, decide_true, decide_false, wr1, wr2, wr3, wr4, c0, c1, c2, c3, c4, Nat.reduceMul, Nat.reduceLT, Nat.lt_irrefl, true_and, and_self, ↓reduceIte]
    refine ⟨evC_len _, by rintro y rfl; rfl, by rw [List.length_append]; omega, by rw [List.length_append]; omega, ?_⟩
    simp only [hupk, go_sem, Nat.reduceEqDiff, Nat.reduceAdd, Nat.reduceLeDiff, List.length_map, z4, at4, BoxM.at, EvM.at, fillB, Int.reduceLT, Int.reduceLE, Int.reduceToNat, Int.toNat_zero, Int.le_refl, Int.reduceAdd, decide_true, decide_false, wr1, wr2, wr3, wr4, c0, c1, c2, c3, c4, Nat.reduceMul, Nat.reduceLT, Nat.lt_irrefl, true_and, and_self, ↓reduceIte]
    refine invN_next hq' trivial ?_
    simp only [stPB0, hR, hcn, hcur]
    simp only [List.map_append, List.map_cons, List.map_nil, evC, putE, List.append_assoc, go_sem, Nat.reduceEqDiff, Nat.reduceAdd, Nat.reduceLeDiff, List.length_map, z4, at4, BoxM.at, EvM.at, fillB, Int.reduceLT, Int.reduceLE, Int.reduceToNat, Int.toNat_zero, Int.le_refl, Int.reduceAdd, decide_true, decide_false, wr1, wr2, wr3, wr4, c0, c1, c2, c3, c4, Nat.reduceMul, Nat.reduceLT, Nat.lt_irrefl, true_and, and_self, ↓reduceIte]
    rfl
   ·have : q = (attrM fs.flatten 0).length := by simp at hd; omega
    subst this
    rw [← hnx]
    simp only [hup, go_sem, Nat.reduceEqDiff, Nat.reduceAdd, Nat.reduceLeDiff, List.length_map, z4, at4, BoxM.at, EvM.at, fillB, Int.reduceLT, Int.reduceLE, Int.reduceToNat, Int.toNat_zero, Int.le_refl, Int.reduceAdd, decide_true, decide_false, wr1, wr2, wr3, wr4, c0, c1, c2, c3, c4, Nat.reduceMul, Nat.reduceLT, Nat.lt_irrefl, true_and, and_self, ↓reduceIte]
    refine invN_next hi' trivial ?_
    rfl
  ·have : i = (mixE (attrM fs.flatten) 0).length := by simp at hc; omega
   subst this
   rw [hfin]
   simp only [go_sem, Nat.reduceEqDiff, Nat.reduceAdd, Nat.reduceLeDiff, List.length_map, z4, at4, BoxM.at, EvM.at, fillB, Int.reduceLT, Int.reduceLE, Int.reduceToNat, Int.toNat_zero, Int.le_refl, Int.reduceAdd, decide_true, decide_false, wr1, wr2, wr3, wr4, c0, c1, c2, c3, c4, Nat.reduceMul, Nat.reduceLT, Nat.lt_irrefl, true_and, and_self, ↓reduceIte]
   refine invN_next (show 0 < 4 by omega) trivial ?_
   rfl
 ·have hL := hm.len (k := 1) (by omega)
  have hP := hm.prod (k := 1) (by omega)
  have hC := hm.cells (k := 1) (by omega)
  have hfin := rowE_all (attrM fs.flatten) 1
  simp only [stP]
  simp only [go_sem, Nat.reduceEqDiff, Nat.reduceAdd, Nat.reduceLeDiff, List.length_map, z4, at4, BoxM.at, EvM.at, fillB, Int.reduceLT, Int.reduceLE, Int.reduceToNat, Int.toNat_zero, Int.le_refl, Int.reduceAdd, decide_true, decide_false, wr1, wr2, wr3, wr4, c0, c1, c2, c3, c4, Nat.reduceMul, Nat.reduceLT, Nat.lt_irrefl, true_and, and_self, ↓reduceIte]
  rw [show (St.fz _ [3]) = some _ from rfl]
  simp only [cellsD, go_sem, Nat.reduceEqDiff, Nat.reduceAdd, Nat.reduceLeDiff, List.length_map, z4, at4, BoxM.at, EvM.at, fillB, Int.reduceLT, Int.reduceLE, Int.reduceToNat, Int.toNat_zero, Int.le_refl, Int.reduceAdd, decide_true, decide_false, wr1, wr2, wr3, wr4, c0, c1, c2, c3, c4, Nat.reduceMul, Nat.reduceLT, Nat.lt_irrefl, true_and, and_self, ↓reduceIte]
  refine loop_N (mixE (attrM fs.flatten) 1).length (fun _ => True) (stPA1 fs) trivial (by rfl) ?_
  rintro i hi -
  simp only [stPA1]
  have hrl := rowE_len (attrM fs.flatten 1) 1 (mixE (attrM fs.flatten) 1) hi
  simp only [go_sem, Nat.reduceEqDiff, Nat.reduceAdd, Nat.reduceLeDiff, List.length_map, z4, at4, BoxM.at, EvM.at, fillB, Int.reduceLT, Int.reduceLE, Int.reduceToNat, Int.toNat_zero, Int.le_refl, Int.reduceAdd, decide_true, decide_false, wr1, wr2, wr3, wr4, c0, c1, c2, c3, c4, Nat.reduceMul, Nat.reduceLT, Nat.lt_irrefl, true_and, and_self, ↓reduceIte]
  refine condE_split (fun hc => ?_) (fun hc => ?_)
  ·have hi' : i < (mixE (attrM fs.flatten) 1).length := by simpa using hc
   have hup := up64 (show i < 1000000 by omega)
   have ge := get_evC hi'
   have hnx := rowE_next (attrM fs.flatten 1) 1 (mixE (attrM fs.flatten) 1) hi'
   have him : i * (attrM fs.flatten 1).length + (attrM fs.flatten 1).length ≤ 5000 := by
    have : (i + 1) * (attrM fs.flatten 1).length ≤ (mixE (attrM fs.flatten) 1).length * (attrM fs.flatten 1).length := Nat.mul_le_mul_right _ hi'
    rw [Nat.succ_mul] at this; omega
   generalize hev : (mixE (attrM fs.flatten) 1).getD i zE9 = ev at *
   simp only [nn0, Int.toNat_natCast, ge, evC, go_sem, Nat.reduceEqDiff, Nat.reduceAdd, Nat.reduceLeDiff, List.length_map, z4, at4, BoxM.at, EvM.at, fillB, Int.reduceLT, Int.reduceLE, Int.reduceToNat, Int.toNat_zero, Int.le_refl, Int.reduceAdd, decide_true, decide_false, wr1, wr2, wr3, wr4, c0, c1, c2, c3, c4, Nat.reduceMul, Nat.reduceLT, Nat.lt_irrefl, true_and, and_self, ↓reduceIte]
   refine loop_N (attrM fs.flatten 1).length (fun _ => True) (stPB1 fs ev i) trivial (by simp only [stPB1, rowC, List.take_zero, List.map_nil, List.append_nil, putE_cur0 _ _ (show 1 < 4 by omega)]; rfl) ?_
   rintro q hq -
   simp only [stPB1]
   have hcl := rowC_len (attrM fs.flatten 1) 1 ev hq
   simp only [go_sem, Nat.reduceEqDiff, Nat.reduceAdd, Nat.reduceLeDiff, List.length_map, z4, at4, BoxM.at, EvM.at, fillB, Int.reduceLT, Int.reduceLE, Int.reduceToNat, Int.toNat_zero, Int.le_refl, Int.reduceAdd, decide_true, decide_false, wr1, wr2, wr3, wr4, c0, c1, c2, c3, c4, Nat.reduceMul, Nat.reduceLT, Nat.lt_irrefl, true_and, and_self, ↓reduceIte]
   refine condE_split (fun hd => ?_) (fun hd => ?_)
   ·have hq' : q < (attrM fs.flatten 1).length := by simpa using hd
    have hupk := up64 (show q < 1000000 by omega)
    have gc := get_setC hq'
    obtain ⟨m1, m2, m3⟩ := attr_cell hm.ok hm.n hm.few (i := 1) (by omega) (setD_mem hq')
    have ps := kSample _ (by omega : ((attrM fs.flatten 1).getD q noM).ints.length ≤ 100000) (by omega) m1
    have hcn := rowC_next (attrM fs.flatten 1) 1 ev hq'
    have hcur : curV (attrM fs.flatten 1) ev 1 (q + 1) = (sampleM ((attrM fs.flatten 1).getD q noM)).1 := rfl
    generalize hc0 : (attrM fs.flatten 1).getD q noM = c at *
    generalize curV (attrM fs.flatten 1) ev 1 q = cv at *
    generalize hR : rowE (attrM fs.flatten 1) 1 (mixE (attrM fs.flatten) 1) i = R at *
    generalize hR2 : rowC (attrM fs.flatten 1) 1 ev q = R2 at *
    unfold setC at ps
    simp only [nn0, Int.toNat_natCast, gc, setC, go_sem, Nat.reduceEqDiff, Nat.reduceAdd, Nat.reduceLeDiff, List.length_map, z4, at4, BoxM.at, EvM.at, fillB, Int.reduceLT, Int.reduceLE, Int.reduceToNat, Int.toNat_zero, Int.le_refl, Int.reduceAdd, decide_true, decide_false, wr1, wr2, wr3, wr4, c0, c1, c2, c3, c4, Nat.reduceMul, Nat.reduceLT, Nat.lt_irrefl, true_and, and_self, ↓reduceIte]
    refine callP_eq rfl rfl ps ?_
    simp only [valC, evC, putE, go_sem, Nat.reduceEqDiff, Nat.reduceAdd, Nat.reduceLeDiff, List.length_map, z4, at4, BoxM.at, EvM.at, fillB, Int.reduceLT, Int.reduceLE, Int.reduceToNat, Int.toNat_zero, Int.le_refl, Int.reduceAdd, decide_true, decide_false, wr1, wr2, wr3, wr4, c0, c1, c2, c3, c4, Nat.reduceMul, Nat.reduceLT, Nat.lt_irrefl, true_and, and_self, ↓reduceIte]
    refine ⟨evC_len _, by rintro y rfl; rfl, by rw [List.length_append]; omega, by rw [List.length_append]; omega, ?_⟩
    simp only [hupk, go_sem, Nat.reduceEqDiff, Nat.reduceAdd, Nat.reduceLeDiff, List.length_map, z4, at4, BoxM.at, EvM.at, fillB, Int.reduceLT, Int.reduceLE, Int.reduceToNat, Int.toNat_zero, Int.le_refl, Int.reduceAdd, decide_true, decide_false, wr1, wr2, wr3, wr4, c0, c1, c2, c3, c4, Nat.reduceMul, Nat.reduceLT, Nat.lt_irrefl, true_and, and_self, ↓reduceIte]
    refine invN_next hq' trivial ?_
    simp only [stPB1, hR, hcn, hcur]
    simp only [List.map_append, List.map_cons, List.map_nil, evC, putE, List.append_assoc, go_sem, Nat.reduceEqDiff, Nat.reduceAdd, Nat.reduceLeDiff, List.length_map, z4, at4, BoxM.at, EvM.at, fillB, Int.reduceLT, Int.reduceLE, Int.reduceToNat, Int.toNat_zero, Int.le_refl, Int.reduceAdd, decide_true, decide_false, wr1, wr2, wr3, wr4, c0, c1, c2, c3, c4, Nat.reduceMul, Nat.reduceLT, Nat.lt_irrefl, true_and, and_self, ↓reduceIte]
    rfl
   ·have : q = (attrM fs.flatten 1).length := by simp at hd; omega
    subst this
    rw [← hnx]
    simp only [hup, go_sem, Nat.reduceEqDiff, Nat.reduceAdd, Nat.reduceLeDiff, List.length_map, z4, at4, BoxM.at, EvM.at, fillB, Int.reduceLT, Int.reduceLE, Int.reduceToNat, Int.toNat_zero, Int.le_refl, Int.reduceAdd, decide_true, decide_false, wr1, wr2, wr3, wr4, c0, c1, c2, c3, c4, Nat.reduceMul, Nat.reduceLT, Nat.lt_irrefl, true_and, and_self, ↓reduceIte]
    refine invN_next hi' trivial ?_
    rfl
  ·have : i = (mixE (attrM fs.flatten) 1).length := by simp at hc; omega
   subst this
   rw [hfin]
   simp only [go_sem, Nat.reduceEqDiff, Nat.reduceAdd, Nat.reduceLeDiff, List.length_map, z4, at4, BoxM.at, EvM.at, fillB, Int.reduceLT, Int.reduceLE, Int.reduceToNat, Int.toNat_zero, Int.le_refl, Int.reduceAdd, decide_true, decide_false, wr1, wr2, wr3, wr4, c0, c1, c2, c3, c4, Nat.reduceMul, Nat.reduceLT, Nat.lt_irrefl, true_and, and_self, ↓reduceIte]
   refine invN_next (show 1 < 4 by omega) trivial ?_
   rfl
 ·have hL := hm.len (k := 2) (by omega)
  have hP := hm.prod (k := 2) (by omega)
  have hC := hm.cells (k := 2) (by omega)
  have hfin := rowE_all (attrM fs.flatten) 2
  simp only [stP]
  simp only [go_sem, Nat.reduceEqDiff, Nat.reduceAdd, Nat.reduceLeDiff, List.length_map, z4, at4, BoxM.at, EvM.at, fillB, Int.reduceLT, Int.reduceLE, Int.reduceToNat, Int.toNat_zero, Int.le_refl, Int.reduceAdd, decide_true, decide_false, wr1, wr2, wr3, wr4, c0, c1, c2, c3, c4, Nat.reduceMul, Nat.reduceLT, Nat.lt_irrefl, true_and, and_self, ↓reduceIte]
  rw [show (St.fz _ [3]) = some _ from rfl]
  simp only [cellsD, go_sem, Nat.reduceEqDiff, Nat.reduceAdd, Nat.reduceLeDiff, List.length_map, z4, at4, BoxM.at, EvM.at, fillB, Int.reduceLT, Int.reduceLE, Int.reduceToNat, Int.toNat_zero, Int.le_refl, Int.reduceAdd, decide_true, decide_false, wr1, wr2, wr3, wr4, c0, c1, c2, c3, c4, Nat.reduceMul, Nat.reduceLT, Nat.lt_irrefl, true_and, and_self, ↓reduceIte]
  refine loop_N (mixE (attrM fs.flatten) 2).length (fun _ => True) (stPA2 fs) trivial (by rfl) ?_
  rintro i hi -
  simp only [stPA2]
  have hrl := rowE_len (attrM fs.flatten 2) 2 (mixE (attrM fs.flatten) 2) hi
  simp only [go_sem, Nat.reduceEqDiff, Nat.reduceAdd, Nat.reduceLeDiff, List.length_map, z4, at4, BoxM.at, EvM.at, fillB, Int.reduceLT, Int.reduceLE, Int.reduceToNat, Int.toNat_zero, Int.le_refl, Int.reduceAdd, decide_true, decide_false, wr1, wr2, wr3, wr4, c0, c1, c2, c3, c4, Nat.reduceMul, Nat.reduceLT, Nat.lt_irrefl, true_and, and_self, ↓reduceIte]
  refine condE_split (fun hc => ?_) (fun hc => ?_)
  ·have hi' : i < (mixE (attrM fs.flatten) 2).length := by simpa using hc
   have hup := up64 (show i < 1000000 by omega)
   have ge := get_evC hi'
   have hnx := rowE_next (attrM fs.flatten 2) 2 (mixE (attrM fs.flatten) 2) hi'
   have him : i * (attrM fs.flatten 2).length + (attrM fs.flatten 2).length ≤ 5000 := by
    have : (i + 1) * (attrM fs.flatten 2).length ≤ (mixE (attrM fs.flatten) 2).length * (attrM fs.flatten 2).length := Nat.mul_le_mul_right _ hi'
    rw [Nat.succ_mul] at this; omega
   generalize hev : (mixE (attrM fs.flatten) 2).getD i zE9 = ev at *
   simp only [nn0, Int.toNat_natCast, ge, evC, go_sem, Nat.reduceEqDiff, Nat.reduceAdd, Nat.reduceLeDiff, List.length_map, z4, at4, BoxM.at, EvM.at, fillB, Int.reduceLT, Int.reduceLE, Int.reduceToNat, Int.toNat_zero, Int.le_refl, Int.reduceAdd, decide_true, decide_false, wr1, wr2, wr3, wr4, c0, c1, c2, c3, c4, Nat.reduceMul, Nat.reduceLT, Nat.lt_irrefl, true_and, and_self, ↓reduceIte]
   refine loop_N (attrM fs.flatten 2).length (fun _ => True) (stPB2 fs ev i) trivial (by simp only [stPB2, rowC, List.take_zero, List.map_nil, List.append_nil, putE_cur0 _ _ (show 2 < 4 by omega)]; rfl) ?_
   rintro q hq -
   simp only [stPB2]
   have hcl := rowC_len (attrM fs.flatten 2) 2 ev hq
   simp only [go_sem, Nat.reduceEqDiff, Nat.reduceAdd, Nat.reduceLeDiff, List.length_map, z4, at4, BoxM.at, EvM.at, fillB, Int.reduceLT, Int.reduceLE, Int.reduceToNat, Int.toNat_zero, Int.le_refl, Int.reduceAdd, decide_true, decide_false, wr1, wr2, wr3, wr4, c0, c1, c2, c3, c4, Nat.reduceMul, Nat.reduceLT, Nat.lt_irrefl, true_and, and_self, ↓reduceIte]
   refine condE_split (fun hd => ?_) (fun hd => ?_)
   ·have hq' : q < (attrM fs.flatten 2).length := by simpa using hd
    have hupk := up64 (show q < 1000000 by omega)
    have gc := get_setC hq'
    obtain ⟨m1, m2, m3⟩ := attr_cell hm.ok hm.n hm.few (i := 2) (by omega) (setD_mem hq')
    have ps := kSample _ (by omega : ((attrM fs.flatten 2).getD q noM).ints.length ≤ 100000) (by omega) m1
    have hcn := rowC_next (attrM fs.flatten 2) 2 ev hq'
    have hcur : curV (attrM fs.flatten 2) ev 2 (q + 1) = (sampleM ((attrM fs.flatten 2).getD q noM)).1 := rfl
    generalize hc0 : (attrM fs.flatten 2).getD q noM = c at *
    generalize curV (attrM fs.flatten 2) ev 2 q = cv at *
    generalize hR : rowE (attrM fs.flatten 2) 2 (mixE (attrM fs.flatten) 2) i = R at *
    generalize hR2 : rowC (attrM fs.flatten 2) 2 ev q = R2 at *
    unfold setC at ps
    simp only [nn0, Int.toNat_natCast, gc, setC, go_sem, Nat.reduceEqDiff, Nat.reduceAdd, Nat.reduceLeDiff, List.length_map, z4, at4, BoxM.at, EvM.at, fillB, Int.reduceLT, Int.reduceLE, Int.reduceToNat, Int.toNat_zero, Int.le_refl, Int.reduceAdd, decide_true, decide_false, wr1, wr2, wr3, wr4, c0, c1, c2, c3, c4, Nat.reduceMul, Nat.reduceLT, Nat.lt_irrefl, true_and, and_self, ↓reduceIte]
    refine callP_eq rfl rfl ps ?_
    simp only [valC, evC, putE, go_sem, Nat.reduceEqDiff, Nat.reduceAdd, Nat.reduceLeDiff, List.length_map, z4, at4, BoxM.at, EvM.at, fillB, Int.reduceLT, Int.reduceLE, Int.reduceToNat, Int.toNat_zero, Int.le_refl, Int.reduceAdd, decide_true, decide_false, wr1, wr2, wr3, wr4, c0, c1, c2, c3, c4, Nat.reduceMul, Nat.reduceLT, Nat.lt_irrefl, true_and, and_self, ↓reduceIte]
    refine ⟨evC_len _, by rintro y rfl; rfl, by rw [List.length_append]; omega, by rw [List.length_append]; omega, ?_⟩
    simp only [hupk, go_sem, Nat.reduceEqDiff, Nat.reduceAdd, Nat.reduceLeDiff, List.length_map, z4, at4, BoxM.at, EvM.at, fillB, Int.reduceLT, Int.reduceLE, Int.reduceToNat, Int.toNat_zero, Int.le_refl, Int.reduceAdd, decide_true, decide_false, wr1, wr2, wr3, wr4, c0, c1, c2, c3, c4, Nat.reduceMul, Nat.reduceLT, Nat.lt_irrefl, true_and, and_self, ↓reduceIte]
    refine invN_next hq' trivial ?_
    simp only [stPB2, hR, hcn, hcur]
    simp only [List.map_append, List.map_cons, List.map_nil, evC, putE, List.append_assoc, go_sem, Nat.reduceEqDiff, Nat.reduceAdd, Nat.reduceLeDiff, List.length_map, z4, at4, BoxM.at, EvM.at, fillB, Int.reduceLT, Int.reduceLE, Int.reduceToNat, Int.toNat_zero, Int.le_refl, Int.reduceAdd, decide_true, decide_false, wr1, wr2, wr3, wr4, c0, c1, c2, c3, c4, Nat.reduceMul, Nat.reduceLT, Nat.lt_irrefl, true_and, and_self, ↓reduceIte]
    rfl
   ·have : q = (attrM fs.flatten 2).length := by simp at hd; omega
    subst this
    rw [← hnx]
    simp only [hup, go_sem, Nat.reduceEqDiff, Nat.reduceAdd, Nat.reduceLeDiff, List.length_map, z4, at4, BoxM.at, EvM.at, fillB, Int.reduceLT, Int.reduceLE, Int.reduceToNat, Int.toNat_zero, Int.le_refl, Int.reduceAdd, decide_true, decide_false, wr1, wr2, wr3, wr4, c0, c1, c2, c3, c4, Nat.reduceMul, Nat.reduceLT, Nat.lt_irrefl, true_and, and_self, ↓reduceIte]
    refine invN_next hi' trivial ?_
    rfl
  ·have : i = (mixE (attrM fs.flatten) 2).length := by simp at hc; omega
   subst this
   rw [hfin]
   simp only [go_sem, Nat.reduceEqDiff, Nat.reduceAdd, Nat.reduceLeDiff, List.length_map, z4, at4, BoxM.at, EvM.at, fillB, Int.reduceLT, Int.reduceLE, Int.reduceToNat, Int.toNat_zero, Int.le_refl, Int.reduceAdd, decide_true, decide_false, wr1, wr2, wr3, wr4, c0, c1, c2, c3, c4, Nat.reduceMul, Nat.reduceLT, Nat.lt_irrefl, true_and, and_self, ↓reduceIte]
   refine invN_next (show 2 < 4 by omega) trivial ?_
   rfl
 ·have hL := hm.len (k := 3) (by omega)
  have hP := hm.prod (k := 3) (by omega)
  have hC := hm.cells (k := 3) (by omega)
  have hfin := rowE_all (attrM fs.flatten) 3
  simp only [stP]
  simp only [go_sem, Nat.reduceEqDiff, Nat.reduceAdd, Nat.reduceLeDiff, List.length_map, z4, at4, BoxM.at, EvM.at, fillB, Int.reduceLT, Int.reduceLE, Int.reduceToNat, Int.toNat_zero, Int.le_refl, Int.reduceAdd, decide_true, decide_false, wr1, wr2, wr3, wr4, c0, c1, c2, c3, c4, Nat.reduceMul, Nat.reduceLT, Nat.lt_irrefl, true_and, and_self, ↓reduceIte]
  rw [show (St.fz _ [3]) = some _ from rfl]
  simp only [cellsD, go_sem, Nat.reduceEqDiff, Nat.reduceAdd, Nat.reduceLeDiff, List.length_map, z4, at4, BoxM.at, EvM.at, fillB, Int.reduceLT, Int.reduceLE, Int.reduceToNat, Int.toNat_zero, Int.le_refl, Int.reduceAdd, decide_true, decide_false, wr1, wr2, wr3, wr4, c0, c1, c2, c3, c4, Nat.reduceMul, Nat.reduceLT, Nat.lt_irrefl, true_and, and_self, ↓reduceIte]
  refine loop_N (mixE (attrM fs.flatten) 3).length (fun _ => True) (stPA3 fs) trivial (by rfl) ?_
  rintro i hi -
  simp only [stPA3]
  have hrl := rowE_len (attrM fs.flatten 3) 3 (mixE (attrM fs.flatten) 3) hi
  simp only [go_sem, Nat.reduceEqDiff, Nat.reduceAdd, Nat.reduceLeDiff, List.length_map, z4, at4, BoxM.at, EvM.at, fillB, Int.reduceLT, Int.reduceLE, Int.reduceToNat, Int.toNat_zero, Int.le_refl, Int.reduceAdd, decide_true, decide_false, wr1, wr2, wr3, wr4, c0, c1, c2, c3, c4, Nat.reduceMul, Nat.reduceLT, Nat.lt_irrefl, true_and, and_self, ↓reduceIte]
  refine condE_split (fun hc => ?_) (fun hc => ?_)
  ·have hi' : i < (mixE (attrM fs.flatten) 3).length := by simpa using hc
   have hup := up64 (show i < 1000000 by omega)
   have ge := get_evC hi'
   have hnx := rowE_next (attrM fs.flatten 3) 3 (mixE (attrM fs.flatten) 3) hi'
   have him : i * (attrM fs.flatten 3).length + (attrM fs.flatten 3).length ≤ 5000 := by
    have : (i + 1) * (attrM fs.flatten 3).length ≤ (mixE (attrM fs.flatten) 3).length * (attrM fs.flatten 3).length := Nat.mul_le_mul_right _ hi'
    rw [Nat.succ_mul] at this; omega
   generalize hev : (mixE (attrM fs.flatten) 3).getD i zE9 = ev at *
   simp only [nn0, Int.toNat_natCast, ge, evC, go_sem, Nat.reduceEqDiff, Nat.reduceAdd, Nat.reduceLeDiff, List.length_map, z4, at4, BoxM.at, EvM.at, fillB, Int.reduceLT, Int.reduceLE, Int.reduceToNat, Int.toNat_zero, Int.le_refl, Int.reduceAdd, decide_true, decide_false, wr1, wr2, wr3, wr4, c0, c1, c2, c3, c4, Nat.reduceMul, Nat.reduceLT, Nat.lt_irrefl, true_and, and_self, ↓reduceIte]
   refine loop_N (attrM fs.flatten 3).length (fun _ => True) (stPB3 fs ev i) trivial (by simp only [stPB3, rowC, List.take_zero, List.map_nil, List.append_nil, putE_cur0 _ _ (show 3 < 4 by omega)]; rfl) ?_
   rintro q hq -
   simp only [stPB3]
   have hcl := rowC_len (attrM fs.flatten 3) 3 ev hq
   simp only [go_sem, Nat.reduceEqDiff, Nat.reduceAdd, Nat.reduceLeDiff, List.length_map, z4, at4, BoxM.at, EvM.at, fillB, Int.reduceLT, Int.reduceLE, Int.reduceToNat, Int.toNat_zero, Int.le_refl, Int.reduceAdd, decide_true, decide_false, wr1, wr2, wr3, wr4, c0, c1, c2, c3, c4, Nat.reduceMul, Nat.reduceLT, Nat.lt_irrefl, true_and, and_self, ↓reduceIte]
   refine condE_split (fun hd => ?_) (fun hd => ?_)
   ·have hq' : q < (attrM fs.flatten 3).length := by simpa using hd
    have hupk := up64 (show q < 1000000 by omega)
    have gc := get_setC hq'
    obtain ⟨m1, m2, m3⟩ := attr_cell hm.ok hm.n hm.few (i := 3) (by omega) (setD_mem hq')
    have ps := kSample _ (by omega : ((attrM fs.flatten 3).getD q noM).ints.length ≤ 100000) (by omega) m1
    have hcn := rowC_next (attrM fs.flatten 3) 3 ev hq'
    have hcur : curV (attrM fs.flatten 3) ev 3 (q + 1) = (sampleM ((attrM fs.flatten 3).getD q noM)).1 := rfl
    generalize hc0 : (attrM fs.flatten 3).getD q noM = c at *
    generalize curV (attrM fs.flatten 3) ev 3 q = cv at *
    generalize hR : rowE (attrM fs.flatten 3) 3 (mixE (attrM fs.flatten) 3) i = R at *
    generalize hR2 : rowC (attrM fs.flatten 3) 3 ev q = R2 at *
    unfold setC at ps
    simp only [nn0, Int.toNat_natCast, gc, setC, go_sem, Nat.reduceEqDiff, Nat.reduceAdd, Nat.reduceLeDiff, List.length_map, z4, at4, BoxM.at, EvM.at, fillB, Int.reduceLT, Int.reduceLE, Int.reduceToNat, Int.toNat_zero, Int.le_refl, Int.reduceAdd, decide_true, decide_false, wr1, wr2, wr3, wr4, c0, c1, c2, c3, c4, Nat.reduceMul, Nat.reduceLT, Nat.lt_irrefl, true_and, and_self, ↓reduceIte]
    refine callP_eq rfl rfl ps ?_
    simp only [valC, evC, putE, go_sem, Nat.reduceEqDiff, Nat.reduceAdd, Nat.reduceLeDiff, List.length_map, z4, at4, BoxM.at, EvM.at, fillB, Int.reduceLT, Int.reduceLE, Int.reduceToNat, Int.toNat_zero, Int.le_refl, Int.reduceAdd, decide_true, decide_false, wr1, wr2, wr3, wr4, c0, c1, c2, c3, c4, Nat.reduceMul, Nat.reduceLT, Nat.lt_irrefl, true_and, and_self, ↓reduceIte]
    refine ⟨evC_len _, by rintro y rfl; rfl, by rw [List.length_append]; omega, by rw [List.length_append]; omega, ?_⟩
    simp only [hupk, go_sem, Nat.reduceEqDiff, Nat.reduceAdd, Nat.reduceLeDiff, List.length_map, z4, at4, BoxM.at, EvM.at, fillB, Int.reduceLT, Int.reduceLE, Int.reduceToNat, Int.toNat_zero, Int.le_refl, Int.reduceAdd, decide_true, decide_false, wr1, wr2, wr3, wr4, c0, c1, c2, c3, c4, Nat.reduceMul, Nat.reduceLT, Nat.lt_irrefl, true_and, and_self, ↓reduceIte]
    refine invN_next hq' trivial ?_
    simp only [stPB3, hR, hcn, hcur]
    simp only [List.map_append, List.map_cons, List.map_nil, evC, putE, List.append_assoc, go_sem, Nat.reduceEqDiff, Nat.reduceAdd, Nat.reduceLeDiff, List.length_map, z4, at4, BoxM.at, EvM.at, fillB, Int.reduceLT, Int.reduceLE, Int.reduceToNat, Int.toNat_zero, Int.le_refl, Int.reduceAdd, decide_true, decide_false, wr1, wr2, wr3, wr4, c0, c1, c2, c3, c4, Nat.reduceMul, Nat.reduceLT, Nat.lt_irrefl, true_and, and_self, ↓reduceIte]
    rfl
   ·have : q = (attrM fs.flatten 3).length := by simp at hd; omega
    subst this
    rw [← hnx]
    simp only [hup, go_sem, Nat.reduceEqDiff, Nat.reduceAdd, Nat.reduceLeDiff, List.length_map, z4, at4, BoxM.at, EvM.at, fillB, Int.reduceLT, Int.reduceLE, Int.reduceToNat, Int.toNat_zero, Int.le_refl, Int.reduceAdd, decide_true, decide_false, wr1, wr2, wr3, wr4, c0, c1, c2, c3, c4, Nat.reduceMul, Nat.reduceLT, Nat.lt_irrefl, true_and, and_self, ↓reduceIte]
    refine invN_next hi' trivial ?_
    rfl
  ·have : i = (mixE (attrM fs.flatten) 3).length := by simp at hc; omega
   subst this
   rw [hfin]
   simp only [go_sem, Nat.reduceEqDiff, Nat.reduceAdd, Nat.reduceLeDiff, List.length_map, z4, at4, BoxM.at, EvM.at, fillB, Int.reduceLT, Int.reduceLE, Int.reduceToNat, Int.toNat_zero, Int.le_refl, Int.reduceAdd, decide_true, decide_false, wr1, wr2, wr3, wr4, c0, c1, c2, c3, c4, Nat.reduceMul, Nat.reduceLT, Nat.lt_irrefl, true_and, and_self, ↓reduceIte]
   refine invN_next (show 3 < 4 by omega) trivial ?_
   rfl
 ·simp only [stP]
  simp only [go_sem, Nat.reduceEqDiff, Nat.reduceAdd, Nat.reduceLeDiff, List.length_map, z4, at4, BoxM.at, EvM.at, fillB, Int.reduceLT, Int.reduceLE, Int.reduceToNat, Int.toNat_zero, Int.le_refl, Int.reduceAdd, decide_true, decide_false, wr1, wr2, wr3, wr4, c0, c1, c2, c3, c4, Nat.reduceMul, Nat.reduceLT, Nat.lt_irrefl, true_and, and_self, ↓reduceIte]
  rw [show (St.fz _ [2]) = some _ from rfl]
  simp only [finO, go_sem, Nat.reduceEqDiff, Nat.reduceAdd, Nat.reduceLeDiff, List.length_map, z4, at4, BoxM.at, EvM.at, fillB, Int.reduceLT, Int.reduceLE, Int.reduceToNat, Int.toNat_zero, Int.le_refl, Int.reduceAdd, decide_true, decide_false, wr1, wr2, wr3, wr4, c0, c1, c2, c3, c4, Nat.reduceMul, Nat.reduceLT, Nat.lt_irrefl, true_and, and_self, ↓reduceIte]
  rfl
end Go.Proofs
