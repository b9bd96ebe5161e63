/- A part of the proof; what is proved stands in the last text. -/
import Derived.Test.YtcclggbngikppaaGreatDoorCE
import Derived.Test.YtcclggbngikppaaGreatDoorCC
set_option linter.unusedVariables false
set_option maxRecDepth 2000
namespace Go.Proofs
open Go.Vm
set_option linter.unusedSimpArgs false
def rOf (l : List SetM) : List SetM := l.filter rightM
theorem rOf_snoc (l : List SetM) (s : SetM) : rOf (l ++ [s]) = if rightM s = true then rOf l ++ [s] else rOf l := by
 unfold rOf
 rw [List.filter_append]
 by_cases h : rightM s = true
 ·rw [if_pos h, List.filter_cons_of_pos h]; rfl
 ·rw [if_neg h, List.filter_cons_of_neg h]; simp
theorem rgs_snoc (r : List SetM) (s : SetM) : rgsOf (r ++ [s]) = rgsOf r ++ s.ints := by unfold rgsOf; rw [List.flatMap_append]; simp
theorem strs_snoc (r : List SetM) (s : SetM) : strsOf (r ++ [s]) = strsOf r ++ s.strs := by unfold strsOf; rw [List.flatMap_append]; simp
theorem hiF_app (lo : Int) (a b : List Rg) : hiF lo (a ++ b) = b.foldl (stepH lo) (hiF lo a) := by unfold hiF; rw [List.foldl_append]
theorem take_get {α : Type} (l : List α) (i : Nat) (d : α) (h : i < l.length) : l.take (i + 1) = l.take i ++ [l.getD i d] := by
 rw [List.take_succ_eq_append_getElem h]; simp [h]
theorem min_if (a b : Int) : (if b < a then b else a) = min a b := by omega
theorem rOf_ok {l : List SetM} (hb : ∀ s ∈ l, Bnd s) : AllOK (rOf l) := fun s hs => by
 obtain ⟨h1, h2⟩ := List.mem_filter.1 hs
 exact Few1.ok (hb s h1) h2
theorem cut1_next (r : List SetM) {j : Nat} (hj : j < (endsM r).length) : cut1 r (j + 1) = cut1 r j ++ [cellN (loAt (endsM r) j) ((endsM r).getD j 0)] := by
 unfold cut1
 rw [cellsI_take _ hj, List.cons_append]
theorem lessR (x y : ByteArray) : Op.bytesLess x.toList y.toList = lessB x y := by
 rw [bytesLess_lt, ByteArray.toList_eq, ByteArray.toList_eq]; rfl
theorem gtR (u x : ByteArray) : (!(lessB u x || u.toList == x.toList)) = lessB x u := by
 rcases ltB_total u x with h | h | h
 ·rw [lessB_iff.2 h]
  cases hh : lessB x u
  ·rfl
  ·exact absurd (ltB_trans h (lessB_iff.1 hh)) (ltB_irrefl _)
 ·subst h
  cases hh : lessB u u
  ·simp
  ·exact absurd (lessB_iff.1 hh) (ltB_irrefl _)
 ·rw [lessB_iff.2 h]
  cases hh : lessB u x
  ·simp only [Bool.false_or, Bool.not_eq_true', beq_eq_false_iff_ne, ne_eq]
   intro e
   have : u = x := bl_inj (by rw [ByteArray.toList_eq, ByteArray.toList_eq] at e; exact e)
   subst this
   exact ltB_irrefl _ h
  ·exact absurd (ltB_trans h (lessB_iff.1 hh)) (ltB_irrefl _)
theorem q0 : (((0 : Nat) : Int) == 0) = true := rfl
set_option maxHeartbeats 16000000 in
theorem kCut9 (l : List SetM) (hb : ∀ s ∈ l, Bnd s) (hl : l.length ≤ 100) (hs : ∀ s ∈ l, s.ints.length ≤ 400 ∧ s.strs.length ≤ 400) : PureAt Tryz.prog 27 [.sl none (l.map setC)] (· = .sl none ((cutR (rOf l)).map setC)) := by
 have hok := rOf_ok hb
 have hrl : (rOf l).length ≤ 100 := Nat.le_trans (List.length_filter_le _ _) hl
 have hrs : ∀ s ∈ rOf l, s.ints.length ≤ 400 ∧ s.strs.length ≤ 400 := fun s h => hs s (List.mem_filter.1 h).1
 have hE : (endsM (rOf l)).length ≤ 100000 := by
  have := ends_len (rOf l)
  have h3 := rgsOf_len (r := rOf l) (k := 400) (fun s m => (hrs s m).1)
  omega
 have hN : (namesM (rOf l)).length ≤ 100000 := by
  have := names_len (rOf l)
  have h3 := strsOf_len (r := rOf l) (k := 400) (fun s m => (hrs s m).2)
  omega
 refine pure_of r27 (by kernel_rfl) ?_
 unfold m27
 simp only [go_sem, Nat.reduceEqDiff, Nat.reduceAdd, Nat.reduceLeDiff, List.length_map]
 have hE0 : 0 < (endsM (rOf l)).length := List.length_pos_of_mem (maxI_mem _)
 refine loop_N (endsM (rOf l)).length (fun j => j < (endsM (rOf l)).length) (fun j => ⟨[(0, .sl none (l.map setC)), (3, .sl (some (16, 31, 4)) ((cut1 (rOf l) j).map setC)), (4, .sl (some (4, 9, 1)) []), (5, .val (.int .i64 (loAt (endsM (rOf l)) j)))], [], [((4, 9, 1), true), ((16, 31, 4), true)]⟩) hE0 (by simp only [cut1, loAt, absS, List.take_zero, cellsI, setC, List.map_cons, List.map_nil, if_true, go_sem, Nat.reduceEqDiff, Nat.reduceAdd, Nat.reduceLeDiff, List.length_map]; rfl) ?_
 rintro j - hj
 obtain ⟨lo1, lo2, lo3⟩ := loAt_in hok hj
 have hat := hi_at hok hj
 have hlast := last_max hok hj
 have hcl := cut1_len (rOf l) (Nat.le_of_lt hj)
 have hnx := cut1_next (rOf l) hj
 have hlo1 : loAt (endsM (rOf l)) (j + 1) = (endsM (rOf l)).getD j 0 + 1 := by unfold loAt; rw [if_neg (by omega)]; rfl
 generalize loAt (endsM (rOf l)) j = lo at *
 simp only [go_sem, Nat.reduceEqDiff, Nat.reduceAdd, Nat.reduceLeDiff, List.length_map]
 refine loop_N l.length (fun _ => True) (fun i => ⟨[(0, .sl none (l.map setC)), (3, .sl (some (16, 31, 4)) ((cut1 (rOf l) j).map setC)), (4, .sl (some (4, 9, 1)) []), (5, .val (.int .i64 lo)), (6, .val (.int .i64 (hiF lo (rgsOf (rOf (l.take i)))))), (7, .val (.int .i64 i))], [], [((4, 9, 1), true), ((16, 31, 4), true)]⟩) trivial (by simp only [go_sem, Nat.reduceEqDiff, Nat.reduceAdd, Nat.reduceLeDiff, List.length_map]; rfl) ?_
 rintro i hi -
 simp only [go_sem, Nat.reduceEqDiff, Nat.reduceAdd, Nat.reduceLeDiff, List.length_map]
 refine condE_split (fun hc => ?_) (fun hc => ?_)
 ·have hi' : i < l.length := by simpa using hc
  have hup := up64 (show i < 1000000 by omega)
  have g1 := get_setC hi'
  have hm := setD_mem hi'
  have hsi := (hs _ hm).1
  have hbi := hb _ hm
  have pr := krefRight3 (l.getD i noM) (by have := (hs _ hm).1; omega) (by have := (hs _ hm).2; omega)
  have hti := take_get l i noM hi'
  have hro := rOf_snoc (l.take i) (l.getD i noM)
  rw [← hti] at hro
  generalize l.getD i noM = s at *
  unfold setC at pr
  simp only [nn0, Int.toNat_natCast, g1, setC, go_sem, Nat.reduceEqDiff, Nat.reduceAdd, Nat.reduceLeDiff, List.length_map]
  refine callP_eq rfl rfl pr ?_
  simp only [go_sem, Nat.reduceEqDiff, Nat.reduceAdd, Nat.reduceLeDiff, List.length_map]
  refine condE_split (fun hr => ?_) (fun hr => ?_)
  ·have hr' : ¬ rightM s = true := by simpa using hr
   rw [if_neg hr'] at hro
   simp only [hup, go_sem, Nat.reduceEqDiff, Nat.reduceAdd, Nat.reduceLeDiff, List.length_map]
   refine invN_next hi' trivial ?_
   simp only [hro, go_sem, Nat.reduceEqDiff, Nat.reduceAdd, Nat.reduceLeDiff, List.length_map]
  ·have hr' : rightM s = true := by simpa using hr
   rw [if_pos hr'] at hro
   simp only [go_sem, Nat.reduceEqDiff, Nat.reduceAdd, Nat.reduceLeDiff, List.length_map]
   refine loop_N s.ints.length (fun _ => True) (fun k => ⟨[(0, .sl none (l.map setC)), (3, .sl (some (16, 31, 4)) ((cut1 (rOf l) j).map setC)), (4, .sl (some (4, 9, 1)) []), (5, .val (.int .i64 lo)), (6, .val (.int .i64 ((s.ints.take k).foldl (stepH lo) (hiF lo (rgsOf (rOf (l.take i))))))), (7, .val (.int .i64 i)), (8, .val (.int .i64 k))], [], [((4, 9, 1), true), ((16, 31, 4), true)]⟩) trivial (by simp only [go_sem, Nat.reduceEqDiff, Nat.reduceAdd, Nat.reduceLeDiff, List.length_map]; rfl) ?_
   rintro k hk -
   simp only [nn0, Int.toNat_natCast, g1, setC, go_sem, Nat.reduceEqDiff, Nat.reduceAdd, Nat.reduceLeDiff, List.length_map]
   refine condE_split (fun hd => ?_) (fun hd => ?_)
   ·have hk' : k < s.ints.length := by simpa using hd
    have hupk := up64 (show k < 1000000 by omega)
    have g2 := get_encR hk'
    have hgm : s.ints.getD k (0, 0) ∈ s.ints := by simp [hk']
    have hgb := hbi _ hgm
    have htk := take_get s.ints k (0, 0) hk'
    generalize s.ints.getD k (0, 0) = g at *
    obtain ⟨ga, gb⟩ := g
    have hst : (s.ints.take (k + 1)).foldl (stepH lo) (hiF lo (rgsOf (rOf (l.take i)))) = stepH lo ((s.ints.take k).foldl (stepH lo) (hiF lo (rgsOf (rOf (l.take i))))) (ga, gb) := by rw [htk, List.foldl_append]; rfl
    generalize (s.ints.take k).foldl (stepH lo) (hiF lo (rgsOf (rOf (l.take i)))) = hh at *
    have hga := hgb.1
    simp only [nn0, Int.toNat_natCast, g1, setC, g2, encR, go_sem, Nat.reduceEqDiff, Nat.reduceAdd, Nat.reduceLeDiff, List.length_map]
    refine condE_split (fun h1 => ?_) (fun h1 => ?_)
    ·have h1' : ga > lo := by simpa using h1
     have wr : IntKind.i64.wrap (ga - 1) = ga - 1 := wrap64 (by unfold minI at lo1; omega) (by have := hga.2; simp only at this; omega)
     simp only [wr, min_if, go_sem, Nat.reduceEqDiff, Nat.reduceAdd, Nat.reduceLeDiff, List.length_map]
     refine condE_split (fun h2 => ?_) (fun h2 => ?_)
     ·have h2' : gb ≥ lo := by simpa using h2
      rw [show stepH lo hh (ga, gb) = min (min hh (ga - 1)) gb by unfold stepH; simp only [if_pos h1', if_pos h2']] at hst
      simp only [hupk, min_if, go_sem, Nat.reduceEqDiff, Nat.reduceAdd, Nat.reduceLeDiff, List.length_map]
      refine invN_next hk' trivial ?_
      simp only [hst, go_sem, Nat.reduceEqDiff, Nat.reduceAdd, Nat.reduceLeDiff, List.length_map]
     ·have h2' : ¬ gb ≥ lo := by simpa using h2
      rw [show stepH lo hh (ga, gb) = min hh (ga - 1) by unfold stepH; simp only [if_pos h1', if_neg h2']] at hst
      simp only [hupk, min_if, go_sem, Nat.reduceEqDiff, Nat.reduceAdd, Nat.reduceLeDiff, List.length_map]
      refine invN_next hk' trivial ?_
      simp only [hst, go_sem, Nat.reduceEqDiff, Nat.reduceAdd, Nat.reduceLeDiff, List.length_map]
    ·have h1' : ¬ ga > lo := by simpa using h1
     simp only [go_sem, Nat.reduceEqDiff, Nat.reduceAdd, Nat.reduceLeDiff, List.length_map]
     refine condE_split (fun h2 => ?_) (fun h2 => ?_)
     ·have h2' : gb ≥ lo := by simpa using h2
      rw [show stepH lo hh (ga, gb) = min hh gb by unfold stepH; simp only [if_neg h1', if_pos h2']] at hst
      simp only [hupk, min_if, go_sem, Nat.reduceEqDiff, Nat.reduceAdd, Nat.reduceLeDiff, List.length_map]
      refine invN_next hk' trivial ?_
      simp only [hst, go_sem, Nat.reduceEqDiff, Nat.reduceAdd, Nat.reduceLeDiff, List.length_map]
     ·have h2' : ¬ gb ≥ lo := by simpa using h2
      rw [show stepH lo hh (ga, gb) = hh by unfold stepH; simp only [if_neg h1', if_neg h2']] at hst
      simp only [hupk, min_if, go_sem, Nat.reduceEqDiff, Nat.reduceAdd, Nat.reduceLeDiff, List.length_map]
      refine invN_next hk' trivial ?_
      simp only [hst, go_sem, Nat.reduceEqDiff, Nat.reduceAdd, Nat.reduceLeDiff, List.length_map]
   ·have : k = s.ints.length := by simp at hd; omega
    subst this
    rw [List.take_length]
    simp only [hup, go_sem, Nat.reduceEqDiff, Nat.reduceAdd, Nat.reduceLeDiff, List.length_map]
    refine invN_next hi' trivial ?_
    simp only [hro, rgs_snoc, hiF_app, go_sem, Nat.reduceEqDiff, Nat.reduceAdd, Nat.reduceLeDiff, List.length_map]
 ·have : i = l.length := by simp at hc; omega
  subst this
  rw [List.take_length]
  simp only [go_sem, Nat.reduceEqDiff, Nat.reduceAdd, Nat.reduceLeDiff, List.length_map]
  refine ⟨setC_len _, by rintro y rfl; rfl, by omega, by omega, ?_⟩
  rw [hat]
  refine condE_split (fun hd => ?_) (fun hd => ?_)
  ·have hd' : j + 1 = (endsM (rOf l)).length := hlast.1 (by have := hd; simp only [beq_iff_eq] at this; exact this)
   have h20 : (cut1 (rOf l) j).map setC ++ [[.val (.bool false), .sl none [[.val (.int .i64 lo), .val (.int .i64 ((endsM (rOf l)).getD j 0))]], .val (.bool false), .sl none []]] = (cut2 (rOf l) 0).map setC := by
    have e1 : cut1 (rOf l) (j + 1) = cut2 (rOf l) 0 := by rw [hd']; unfold cut1 cut2; rw [List.take_length, List.take_zero]; simp
    rw [← e1, hnx, List.map_append]; rfl
   simp only [h20, go_sem, Nat.reduceEqDiff, Nat.reduceAdd, Nat.reduceLeDiff, List.length_map]
   refine loop_N (namesM (rOf l)).length (fun _ => True) (fun j => ⟨[(0, .sl none (l.map setC)), (3, .sl (some (16, 31, 4)) ((cut2 (rOf l) j).map setC)), (4, .sl (some (4, 9, 1)) (((namesM (rOf l)).take j).map encSt))], [], [((4, 9, 1), true), ((16, 31, 4), true)]⟩) trivial (by simp only [List.take_zero, List.map_nil, go_sem, Nat.reduceEqDiff, Nat.reduceAdd, Nat.reduceLeDiff, List.length_map]; rfl) ?_
   rintro q hq -
   have hbest := best_at (rOf l) q hq
   have hcl2 := cut2_len (rOf l) hq
   have hLl : ((namesM (rOf l)).take q).length = q := by rw [List.length_take]; omega
   simp only [go_sem, Nat.reduceEqDiff, Nat.reduceAdd, Nat.reduceLeDiff, List.length_map]
   refine loop_N l.length (fun _ => True) (fun i => ⟨[(0, .sl none (l.map setC)), (3, .sl (some (16, 31, 4)) ((cut2 (rOf l) q).map setC)), (4, .sl (some (4, 9, 1)) (((namesM (rOf l)).take q).map encSt)), (10, .val (.string ((bestN ((namesM (rOf l)).take q) (strsOf (rOf (l.take i)))).getD ⟨#[]⟩))), (11, .val (.bool (bestN ((namesM (rOf l)).take q) (strsOf (rOf (l.take i)))).isSome)), (12, .val (.int .i64 i))], [], [((4, 9, 1), true), ((16, 31, 4), true)]⟩) trivial (by simp only [go_sem, Nat.reduceEqDiff, Nat.reduceAdd, Nat.reduceLeDiff, List.length_map]; rfl) ?_
   rintro i hi -
   simp only [go_sem, Nat.reduceEqDiff, Nat.reduceAdd, Nat.reduceLeDiff, List.length_map]
   refine condE_split (fun hc => ?_) (fun hc => ?_)
   ·have hi' : i < l.length := by simpa using hc
    have hup := up64 (show i < 1000000 by omega)
    have g1 := get_setC hi'
    have hm := setD_mem hi'
    have hsi := (hs _ hm).2
    have pr := krefRight3 (l.getD i noM) (by have := (hs _ hm).1; omega) (by have := (hs _ hm).2; omega)
    have hti := take_get l i noM hi'
    have hro := rOf_snoc (l.take i) (l.getD i noM)
    rw [← hti] at hro
    generalize l.getD i noM = s at *
    unfold setC at pr
    simp only [nn0, Int.toNat_natCast, g1, setC, go_sem, Nat.reduceEqDiff, Nat.reduceAdd, Nat.reduceLeDiff, List.length_map]
    refine callP_eq rfl rfl pr ?_
    simp only [go_sem, Nat.reduceEqDiff, Nat.reduceAdd, Nat.reduceLeDiff, List.length_map]
    refine condE_split (fun hr => ?_) (fun hr => ?_)
    ·have hr' : ¬ rightM s = true := by simpa using hr
     rw [if_neg hr'] at hro
     simp only [hup, go_sem, Nat.reduceEqDiff, Nat.reduceAdd, Nat.reduceLeDiff, List.length_map]
     refine invN_next hi' trivial ?_
     simp only [hro, go_sem, Nat.reduceEqDiff, Nat.reduceAdd, Nat.reduceLeDiff, List.length_map]
    ·have hr' : rightM s = true := by simpa using hr
     rw [if_pos hr'] at hro
     simp only [go_sem, Nat.reduceEqDiff, Nat.reduceAdd, Nat.reduceLeDiff, List.length_map]
     refine loop_N s.strs.length (fun _ => True) (fun k => ⟨[(0, .sl none (l.map setC)), (3, .sl (some (16, 31, 4)) ((cut2 (rOf l) q).map setC)), (4, .sl (some (4, 9, 1)) (((namesM (rOf l)).take q).map encSt)), (10, .val (.string (((s.strs.take k).foldl (stepN ((namesM (rOf l)).take q)) (bestN ((namesM (rOf l)).take q) (strsOf (rOf (l.take i))))).getD ⟨#[]⟩))), (11, .val (.bool ((s.strs.take k).foldl (stepN ((namesM (rOf l)).take q)) (bestN ((namesM (rOf l)).take q) (strsOf (rOf (l.take i))))).isSome)), (12, .val (.int .i64 i)), (13, .val (.int .i64 k))], [], [((4, 9, 1), true), ((16, 31, 4), true)]⟩) trivial (by simp only [go_sem, Nat.reduceEqDiff, Nat.reduceAdd, Nat.reduceLeDiff, List.length_map]; rfl) ?_
     rintro k hk -
     simp only [nn0, Int.toNat_natCast, g1, setC, go_sem, Nat.reduceEqDiff, Nat.reduceAdd, Nat.reduceLeDiff, List.length_map]
     refine condE_split (fun hd => ?_) (fun hd => ?_)
     ·have hk' : k < s.strs.length := by simpa using hd
      have hupk := up64 (show k < 1000000 by omega)
      have g2 := get_encSt hk'
      have htk := take_get s.strs k ⟨#[]⟩ hk'
      generalize s.strs.getD k ⟨#[]⟩ = u at *
      have hst : (s.strs.take (k + 1)).foldl (stepN ((namesM (rOf l)).take q)) (bestN ((namesM (rOf l)).take q) (strsOf (rOf (l.take i)))) = stepN ((namesM (rOf l)).take q) ((s.strs.take k).foldl (stepN ((namesM (rOf l)).take q)) (bestN ((namesM (rOf l)).take q) (strsOf (rOf (l.take i))))) u := by rw [htk, List.foldl_append]; rfl
      generalize (s.strs.take k).foldl (stepN ((namesM (rOf l)).take q)) (bestN ((namesM (rOf l)).take q) (strsOf (rOf (l.take i)))) = ob at *
      generalize (namesM (rOf l)).take q = L at *
      cases hL : L.getLast? with
      | none =>
       have : L = [] := List.getLast?_eq_none_iff.1 hL
       subst this
       cases ob with
       | none =>
        simp only [nn0, Int.toNat_natCast, g1, setC, g2, lessR, gtR, List.length_nil, q0, List.map_nil, Option.isSome_none, go_sem, Nat.reduceEqDiff, Nat.reduceAdd, Nat.reduceLeDiff, List.length_map]
        have hs2 : stepN [] none u = some u := by simp [stepN, pastB, undB, hL]
        rw [hs2] at hst
        simp only [hupk, go_sem, Nat.reduceEqDiff, Nat.reduceAdd, Nat.reduceLeDiff, List.length_map]
        refine invN_next hk' trivial ?_
        simp only [hst, Option.getD_some, Option.isSome_some, Option.getD_none, Option.isSome_none, go_sem, Nat.reduceEqDiff, Nat.reduceAdd, Nat.reduceLeDiff, List.length_map]
       | some b =>
        simp only [nn0, Int.toNat_natCast, g1, setC, g2, lessR, gtR, List.length_nil, q0, List.map_nil, Option.isSome_some, Option.getD_some, go_sem, Nat.reduceEqDiff, Nat.reduceAdd, Nat.reduceLeDiff, List.length_map]
        refine condE_split (fun hub => ?_) (fun hub => ?_)
        ·skip
         have hs2 : stepN [] (some b) u = some u := by simp [stepN, pastB, undB, hL, hub]
         rw [hs2] at hst
         simp only [hupk, go_sem, Nat.reduceEqDiff, Nat.reduceAdd, Nat.reduceLeDiff, List.length_map]
         refine invN_next hk' trivial ?_
         simp only [hst, Option.getD_some, Option.isSome_some, Option.getD_none, Option.isSome_none, go_sem, Nat.reduceEqDiff, Nat.reduceAdd, Nat.reduceLeDiff, List.length_map]
        ·skip
         have hs2 : stepN [] (some b) u = some b := by simp [stepN, pastB, undB, hL, hub]
         rw [hs2] at hst
         simp only [hupk, go_sem, Nat.reduceEqDiff, Nat.reduceAdd, Nat.reduceLeDiff, List.length_map]
         refine invN_next hk' trivial ?_
         simp only [hst, Option.getD_some, Option.isSome_some, Option.getD_none, Option.isSome_none, go_sem, Nat.reduceEqDiff, Nat.reduceAdd, Nat.reduceLeDiff, List.length_map]
      | some x =>
       have hx := hL
       rw [List.getLast?_eq_getElem?] at hx
       have hlt : L.length - 1 < L.length := (List.getElem?_eq_some_iff.1 hx).1
       have e0 : ((L.length : Int) == 0) = false := by simp; intro h; rw [h] at hlt; simp at hlt
       have ew : IntKind.i64.wrap ((L.length : Int) - 1) = ((L.length - 1 : Nat) : Int) := by rw [wrap64 (by omega) (by omega)]; omega
       have gL : (L.map encSt)[L.length - 1]? = some [.val (.string x)] := by rw [List.getElem?_map, hx]; rfl
       cases ob with
       | none =>
        simp only [nn0, Int.toNat_natCast, g1, setC, g2, lessR, gtR, e0, ew, gL, Option.isSome_none, go_sem, Nat.reduceEqDiff, Nat.reduceAdd, Nat.reduceLeDiff, List.length_map]
        cases hxu : lessB x u
        ·simp only [go_sem, Nat.reduceEqDiff, Nat.reduceAdd, Nat.reduceLeDiff, List.length_map]
         have hs2 : stepN L none u = none := by simp [stepN, pastB, undB, hL, hxu]
         rw [hs2] at hst
         simp only [hupk, go_sem, Nat.reduceEqDiff, Nat.reduceAdd, Nat.reduceLeDiff, List.length_map]
         refine invN_next hk' trivial ?_
         simp only [hst, Option.getD_some, Option.isSome_some, Option.getD_none, Option.isSome_none, go_sem, Nat.reduceEqDiff, Nat.reduceAdd, Nat.reduceLeDiff, List.length_map]
        ·simp only [go_sem, Nat.reduceEqDiff, Nat.reduceAdd, Nat.reduceLeDiff, List.length_map]
         have hs2 : stepN L none u = some u := by simp [stepN, pastB, undB, hL, hxu]
         rw [hs2] at hst
         simp only [hupk, go_sem, Nat.reduceEqDiff, Nat.reduceAdd, Nat.reduceLeDiff, List.length_map]
         refine invN_next hk' trivial ?_
         simp only [hst, Option.getD_some, Option.isSome_some, Option.getD_none, Option.isSome_none, go_sem, Nat.reduceEqDiff, Nat.reduceAdd, Nat.reduceLeDiff, List.length_map]
       | some b =>
        simp only [nn0, Int.toNat_natCast, g1, setC, g2, lessR, gtR, e0, ew, gL, Option.isSome_some, Option.getD_some, go_sem, Nat.reduceEqDiff, Nat.reduceAdd, Nat.reduceLeDiff, List.length_map]
        cases hxu : lessB x u
        ·simp only [go_sem, Nat.reduceEqDiff, Nat.reduceAdd, Nat.reduceLeDiff, List.length_map]
         have hs2 : stepN L (some b) u = some b := by simp [stepN, pastB, undB, hL, hxu]
         rw [hs2] at hst
         simp only [hupk, go_sem, Nat.reduceEqDiff, Nat.reduceAdd, Nat.reduceLeDiff, List.length_map]
         refine invN_next hk' trivial ?_
         simp only [hst, Option.getD_some, Option.isSome_some, Option.getD_none, Option.isSome_none, go_sem, Nat.reduceEqDiff, Nat.reduceAdd, Nat.reduceLeDiff, List.length_map]
        ·simp only [lessR, go_sem, Nat.reduceEqDiff, Nat.reduceAdd, Nat.reduceLeDiff, List.length_map]
         refine condE_split (fun hub => ?_) (fun hub => ?_)
         ·skip
          have hs2 : stepN L (some b) u = some u := by simp [stepN, pastB, undB, hL, hxu, hub]
          rw [hs2] at hst
          simp only [hupk, go_sem, Nat.reduceEqDiff, Nat.reduceAdd, Nat.reduceLeDiff, List.length_map]
          refine invN_next hk' trivial ?_
          simp only [hst, Option.getD_some, Option.isSome_some, Option.getD_none, Option.isSome_none, go_sem, Nat.reduceEqDiff, Nat.reduceAdd, Nat.reduceLeDiff, List.length_map]
         ·skip
          have hs2 : stepN L (some b) u = some b := by simp [stepN, pastB, undB, hL, hxu, hub]
          rw [hs2] at hst
          simp only [hupk, go_sem, Nat.reduceEqDiff, Nat.reduceAdd, Nat.reduceLeDiff, List.length_map]
          refine invN_next hk' trivial ?_
          simp only [hst, Option.getD_some, Option.isSome_some, Option.getD_none, Option.isSome_none, go_sem, Nat.reduceEqDiff, Nat.reduceAdd, Nat.reduceLeDiff, List.length_map]
     ·have : k = s.strs.length := by simp at hd; omega
      subst this
      rw [List.take_length]
      simp only [hup, go_sem, Nat.reduceEqDiff, Nat.reduceAdd, Nat.reduceLeDiff, List.length_map]
      refine invN_next hi' trivial ?_
      simp only [hro, strs_snoc, bestN, List.foldl_append, go_sem, Nat.reduceEqDiff, Nat.reduceAdd, Nat.reduceLeDiff, List.length_map]
   ·have : i = l.length := by simp at hc; omega
    subst this
    rw [List.take_length]
    rw [hbest]
    rcases Nat.lt_or_ge q (namesM (rOf l)).length with hqN | hqN
    ·have hu := List.getElem?_eq_getElem hqN
     have htq : (namesM (rOf l)).take (q + 1) = (namesM (rOf l)).take q ++ [(namesM (rOf l))[q]] := List.take_succ_eq_append_getElem hqN
     have hnx2 : cut2 (rOf l) (q + 1) = cut2 (rOf l) q ++ [cellS ((namesM (rOf l))[q])] := by
      unfold cut2
      rw [htq, List.map_append, List.cons_append, List.append_assoc]; rfl
     rw [hu]
     generalize (namesM (rOf l))[q] = u at *
     simp only [Option.isSome_some, Option.getD_some, go_sem, Nat.reduceEqDiff, Nat.reduceAdd, Nat.reduceLeDiff, List.length_map]
     refine ⟨hone_s _, by rintro y rfl; rfl, by omega, by omega, ?_⟩
     refine ⟨setC_len _, by rintro y rfl; rfl, by omega, by omega, ?_⟩
     refine invN_next hqN trivial ?_
     simp only [hnx2, htq, cellS, setC, List.map_append, List.map_cons, List.map_nil, encSt, go_sem, Nat.reduceEqDiff, Nat.reduceAdd, Nat.reduceLeDiff, List.length_map]
     rfl
    ·have : q = (namesM (rOf l)).length := by omega
     subst this
     have hfin : cut2 (rOf l) (namesM (rOf l)).length ++ [⟨false, [], true, namesM (rOf l)⟩] = cutR (rOf l) := by
      unfold cut2 cutR
      rw [List.take_length, List.cons_append, List.append_assoc]; rfl
     rw [List.getElem?_eq_none (Nat.le_refl _), List.take_length]
     simp only [Option.isSome_none, Option.getD_none, go_sem, Nat.reduceEqDiff, Nat.reduceAdd, Nat.reduceLeDiff, List.length_map]
     refine ⟨setC_len _, by rintro y rfl; rfl, by omega, by omega, ?_⟩
     rw [← hfin]
     simp only [setC, List.map_append, List.map_cons, List.map_nil, go_sem, Nat.reduceEqDiff, Nat.reduceAdd, Nat.reduceLeDiff, List.length_map]
  ·have hd' : ¬ j + 1 = (endsM (rOf l)).length := fun h => by
     have := hlast.2 h
     rw [this] at hd
     cases hd
   have hne : ¬ (endsM (rOf l)).getD j 0 = maxI := fun h => hd' (hlast.1 h)
   have hin := ends_in hok _ (getD_in hj)
   have hwr : IntKind.i64.wrap ((endsM (rOf l)).getD j 0 + 1) = (endsM (rOf l)).getD j 0 + 1 := by
    unfold minI maxI at hin; unfold maxI at hne
    exact wrap64 (by omega) (by omega)
   simp only [hwr, go_sem, Nat.reduceEqDiff, Nat.reduceAdd, Nat.reduceLeDiff, List.length_map]
   refine invN_next hj (show j + 1 < (endsM (rOf l)).length by omega) ?_
   simp only [hnx, hlo1, cellN, setC, List.map_append, List.map_cons, List.map_nil, encR, go_sem, Nat.reduceEqDiff, Nat.reduceAdd, Nat.reduceLeDiff, List.length_map]
   rfl
end Go.Proofs

namespace Go.Proofs
open Go.Vm
set_option linter.unusedSimpArgs false
theorem same_self (s : SetM) : sameM s s = true := by simp [sameM]
theorem kSameAll9 (l : List SetM) (hl : l.length ≤ 1000000) (hs : ∀ s ∈ l, s.ints.length ≤ 1000000 ∧ s.strs.length ≤ 1000000) : PureAt Tryz.prog 23 [.sl none (l.map setC), .sl none (l.map setC)] (· = .val (.bool true)) := by
 refine pure_of r23 (by kernel_rfl) ?_
 unfold m23
 have e0 : ((l.length : Int) != (l.length : Int)) = false := by simp
 simp only [e0, go_sem, Nat.reduceEqDiff, Nat.reduceAdd, Nat.reduceLeDiff, List.length_map]
 refine loop_N l.length (fun _ => True) (fun i => ⟨[(0, .sl none (l.map setC)), (1, .sl none (l.map setC)), (5, .val (.int .i64 i))], [], []⟩) trivial (by simp only [go_sem, Nat.reduceEqDiff, Nat.reduceAdd, Nat.reduceLeDiff, List.length_map]; rfl) ?_
 rintro i hi -
 simp only [go_sem, Nat.reduceEqDiff, Nat.reduceAdd, Nat.reduceLeDiff, List.length_map]
 refine condE_split (fun hc => ?_) (fun hc => ?_)
 ·have hi' : i < l.length := by simpa using hc
  have hup := up64 (show i < 1000000 by omega)
  have g1 := get_setC hi'
  have hm := setD_mem hi'
  have pr := krefSame3 _ (l.getD i noM) (hs _ hm).1 (hs _ hm).2
  rw [same_self] at pr
  generalize l.getD i noM = s at *
  unfold setC at pr
  simp only [nn0, Int.toNat_natCast, g1, setC, go_sem, Nat.reduceEqDiff, Nat.reduceAdd, Nat.reduceLeDiff, List.length_map]
  refine callQ_by _ rfl rfl pr ?_
  simp only [hup, go_sem, Nat.reduceEqDiff, Nat.reduceAdd, Nat.reduceLeDiff, List.length_map]
  refine invN_next hi' trivial ?_
  simp only [go_sem, Nat.reduceEqDiff, Nat.reduceAdd, Nat.reduceLeDiff, List.length_map]
 ·simp only [go_sem, Nat.reduceEqDiff, Nat.reduceAdd, Nat.reduceLeDiff, List.length_map]
end Go.Proofs
