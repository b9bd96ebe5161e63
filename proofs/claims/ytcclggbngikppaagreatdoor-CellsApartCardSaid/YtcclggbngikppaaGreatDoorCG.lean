/- A part of the proof; what is proved stands in the last text. -/
import Derived.Test.YtcclggbngikppaaGreatDoorCF
import Derived.Test.YtcclggbngikppaaGreatDoorMD
import Derived.Test.YtcclggbngikppaaGreatDoorCE
set_option linter.unusedVariables false
set_option maxRecDepth 2000
namespace Go.Proofs
open Go.Vm
set_option linter.unusedSimpArgs false
def kN (l : List SetM) (j : Nat) : Nat := (rOf (l.take j)).length
def delE (l : List SetM) : Nat → List SetM
 | 0 => l
 | j + 1 => if rightM (l.getD j noM) = true then (delE l j).set (kN l j) (l.getD j noM) else delE l j
theorem delE_len (l : List SetM) : ∀ j, (delE l j).length = l.length
 | 0 => rfl
 | j + 1 => by
  rw [delE]
  split
  ·rw [List.length_set]; exact delE_len l j
  ·exact delE_len l j
theorem rOf_take {l : List SetM} {j : Nat} (hj : j < l.length) : rOf (l.take (j + 1)) = if rightM (l.getD j noM) = true then rOf (l.take j) ++ [l.getD j noM] else rOf (l.take j) := by
 rw [List.take_succ_eq_append_getElem hj, rOf_snoc]
 simp [hj]
theorem kN_next {l : List SetM} {j : Nat} (hj : j < l.length) : kN l (j + 1) = if rightM (l.getD j noM) = true then kN l j + 1 else kN l j := by
 unfold kN
 rw [rOf_take hj]
 split <;> simp
theorem kN_le (l : List SetM) (j : Nat) : kN l j ≤ j := by
 unfold kN rOf
 exact Nat.le_trans (List.length_filter_le _ _) (by rw [List.length_take]; omega)
theorem delE_spec (l : List SetM) : ∀ j, j ≤ l.length → (delE l j).take (kN l j) = rOf (l.take j) ∧ (delE l j).drop j = l.drop j
 | 0, _ => by simp [delE, kN, rOf]
 | j + 1, h => by
  have hj : j < l.length := h
  obtain ⟨h1, h2⟩ := delE_spec l j (by omega)
  have hk := kN_le l j
  have hlen := delE_len l j
  have hd : (delE l j).drop (j + 1) = l.drop (j + 1) := by
   have := congrArg (List.drop 1) h2
   simpa [List.drop_drop] using this
  rw [kN_next hj, rOf_take hj, delE]
  split
  ·refine ⟨?_, ?_⟩
   ·rw [← h1, List.take_succ_eq_append_getElem (by rw [List.length_set]; omega), List.take_set, List.set_eq_of_length_le (by rw [List.length_take]; omega)]
    simp
   ·rw [← hd, List.drop_set]
    simp [show kN l j < j + 1 by omega]
  ·exact ⟨h1, hd⟩
theorem delE_get {l : List SetM} {j : Nat} (hj : j < l.length) : (delE l j).getD j noM = l.getD j noM := by
 have h := (delE_spec l j (by omega)).2
 have := congrArg (fun m => m[0]?) h
 simp only [List.getElem?_drop, Nat.add_zero] at this
 simp [List.getD, this]
theorem delE_ahead {l : List SetM} : ∀ j, j ≤ l.length → (∀ i, i < j → rightM (l.getD i noM) = true) → delE l j = l ∧ kN l j = j
 | 0, _, _ => ⟨rfl, rfl⟩
 | j + 1, h, hr => by
  obtain ⟨h1, h2⟩ := delE_ahead j (by omega) fun i hi => hr i (by omega)
  have hj : j < l.length := h
  have hj2 := hr j (by omega)
  refine ⟨?_, ?_⟩
  ·rw [delE, if_pos hj2, h1, h2]
   apply List.ext_getElem
   ·simp
   ·intro n n1 n2
    rw [List.getElem_set]
    split
    ·rename_i he; subst he; simp [hj]
    ·rfl
  ·rw [kN_next hj, if_pos hj2, h2]
theorem idx_first (p : SetM → Bool) (l : List SetM) : (idxOf p l = -1 ∧ ∀ s ∈ l, p s = false) ∨ ∃ n, n < l.length ∧ idxOf p l = ((n : Nat) : Int) ∧ p (l.getD n noM) = true ∧ ∀ i, i < n → p (l.getD i noM) = false := by
 unfold idxOf
 by_cases h : l.any p = true
 ·rw [if_pos h]
  obtain ⟨x, hx, hp⟩ := List.any_eq_true.1 h
  have hl : l.findIdx p < l.length := List.findIdx_lt_length_of_exists ⟨x, hx, hp⟩
  refine .inr ⟨_, hl, rfl, ?_, fun i hi => ?_⟩
  ·have := List.findIdx_getElem (w := hl)
   simpa [hl] using this
  ·have := List.not_of_lt_findIdx hi
   simpa [show i < l.length by omega] using this
 ·rw [if_neg h]
  refine .inl ⟨rfl, fun s hs => ?_⟩
  cases hp : p s
  ·rfl
  ·exact absurd (List.any_eq_true.2 ⟨s, hs, hp⟩) h
theorem rOf_all {l : List SetM} (h : ∀ s ∈ l, rightM s = true) : rOf l = l := List.filter_eq_self.2 h
theorem kCloneSetF (es : List (List D)) (h2 : ∀ e ∈ es, e.length = 4) (hl : es.length ≤ 1000000) : FreshAt Tryz.prog 40 [.sl none es] 31 4 (· = es) := by
 refine fresh_of r40 (by kernel_rfl) ?_
 unfold m40
 simp only [go_sem, Nat.reduceEqDiff, Nat.reduceAdd, Nat.reduceLeDiff, List.length_map]
 intro b hb
 refine condE_split (fun h => ?_) (fun h => ?_)
 ·simp only [go_sem, Nat.reduceEqDiff, Nat.reduceAdd, Nat.reduceLeDiff, List.length_map]
  simp_all
 ·simp only [List.length_append, List.nil_append, go_sem, Nat.reduceEqDiff, Nat.reduceAdd, Nat.reduceLeDiff, List.length_map]
  simp only [Nat.zero_add]
  refine ⟨h2, by omega, by omega⟩
theorem mod_setC {f : List D → List D} {s : SetM} (E : List SetM) (k : Nat) (h : ∀ x, f (setC x) = setC s) : (E.map setC).modify k f = (E.set k s).map setC := by
 apply List.ext_getElem?
 intro i
 rw [List.getElem?_modify, List.getElem?_map, List.getElem?_map, List.getElem?_set]
 by_cases hk : k = i
 ·subst hk
  by_cases hl : k < E.length
  ·simp [hl, h]
  ·simp [hl]
 ·simp [hk]
def stD (l : List SetM) (j : Nat) : St := ⟨[(0, .sl (some (999999, 31, 4)) ((delE l j).map setC)), (1, .fn 41 [] []), (5, .val (.int .i64 (kN l j))), (6, .val (.int .i64 j))], [], [((999999, 31, 4), true)]⟩
set_option maxHeartbeats 4000000 in
theorem kDeleteK (l : List SetM) (hl : l.length ≤ 1000000) (hs : ∀ s ∈ l, s.ints.length ≤ 100000 ∧ s.strs.length ≤ 100000) (hb : ∀ s ∈ l, Bnd s) :
    TakeAt Tryz.prog 39 31 4 (l.map setC) [.fn 41 [] []] (fun _ r => r = .sl none ((rOf l).map setC)) := by
 have hi := kIndexFuncSet 41 [] rfl rfl l hl (fun s => !rightM s) (fun s h => kCutF s (hs s h).1 (hs s h).2 (hb s h))
 refine take_of r39d (by kernel_rfl) ?_
 unfold m39d
 simp only [S1, go_sem, Nat.reduceEqDiff, Nat.reduceAdd, Nat.reduceLeDiff, List.length_map]
 refine callL_eq (fs := [.sl none (l.map setC), .fn 41 [] []]) (by simp only [go_sem, Nat.reduceEqDiff, Nat.reduceAdd, Nat.reduceLeDiff, List.length_map]) (by simp only [liveAll, go_sem, Nat.reduceEqDiff, Nat.reduceAdd, Nat.reduceLeDiff, List.length_map]) rfl hi ?_
 rcases idx_first (fun s => !rightM s) l with ⟨hx, hall⟩ | ⟨n, hn, hx, hpn, hbef⟩
 ·rw [hx]
  have hro : rOf l = l := rOf_all fun s hs' => by simpa using hall s hs'
  simp only [beq_self_eq_true, List.length_map, hro, go_sem, Nat.reduceEqDiff, Nat.reduceAdd, Nat.reduceLeDiff, List.length_map]
  exact fun _ h => h
 ·rw [hx]
  obtain ⟨d1, d2⟩ := delE_ahead (l := l) n (by omega) fun i hi => by simpa using hbef i hi
  have hbn : rightM (l.getD n noM) = false := by simpa using hpn
  have d3 : delE l (n + 1) = l := by rw [delE, hbn, d1]; try rfl
  have d4 : kN l (n + 1) = n := by rw [kN_next hn, hbn]; simpa using d2
  have hup := up64 (show n < 1000000 by omega)
  have hne : (((n : Nat) : Int) == -1) = false := by simp
  simp only [hne, hup, go_sem, Nat.reduceEqDiff, Nat.reduceAdd, Nat.reduceLeDiff, List.length_map]
  refine loop_N (l.length - (n + 1)) (fun _ => True) (fun d => stD l (n + 1 + d)) trivial (by simp only [stD, Nat.add_zero, d3, d4]; simp only [go_sem, Nat.reduceEqDiff, Nat.reduceAdd, Nat.reduceLeDiff, List.length_map]; try rfl) ?_
  rintro d hd -
  generalize hj : n + 1 + d = j
  simp only [stD]
  simp only [go_sem, Nat.reduceEqDiff, Nat.reduceAdd, Nat.reduceLeDiff, List.length_map]
  refine condE_split (fun h => ?_) (fun h => ?_)
  ·have hj' : j < l.length := by simpa [delE_len] using h
   have hd' : d < l.length - (n + 1) := by omega
   have g1 := get_setC (l := delE l j) (by rw [delE_len]; exact hj')
   rw [delE_get hj'] at g1
   have hsj := hs _ (setD_mem hj')
   have hbj := hb _ (setD_mem hj')
   have hkj := kN_le l j
   have hkn := kN_next hj'
   have hnx : delE l (j + 1) = if rightM (l.getD j noM) = true then (delE l j).set (kN l j) (l.getD j noM) else delE l j := rfl
   have hln := delE_len l j
   have jup := up64 (show j < 1000000 by omega)
   have kup := up64 (show kN l j < 1000000 by omega)
   have hst : n + 1 + (d + 1) = j + 1 := by omega
   have pf := kCutF (l.getD j noM) hsj.1 hsj.2 hbj
   generalize hsg : l.getD j noM = s at *
   generalize hE : delE l j = E at *
   generalize hK : kN l j = k at *
   have g2 := get_setC (l := E) (i := k) (by omega)
   generalize E.getD k noM = s' at *
   unfold setC at pf
   simp only [nn0, Int.toNat_natCast, g1, setC, go_sem, Nat.reduceEqDiff, Nat.reduceAdd, Nat.reduceLeDiff, List.length_map]
   refine callP_eq rfl rfl pf ?_
   simp only [go_sem, Nat.reduceEqDiff, Nat.reduceAdd, Nat.reduceLeDiff, List.length_map]
   cases hr : rightM s
   ·simp only [jup, Bool.not_false, Bool.not_true, go_sem, Nat.reduceEqDiff, Nat.reduceAdd, Nat.reduceLeDiff, List.length_map]
    refine invN_next hd' trivial ?_
    rw [hst]
    simp only [stD, hnx, hkn, hr]
    simp only [go_sem, Nat.reduceEqDiff, Nat.reduceAdd, Nat.reduceLeDiff, List.length_map]
   ·simp only [nn0, Int.toNat_natCast, g2, setC, go_sem, Nat.reduceEqDiff, Nat.reduceAdd, Nat.reduceLeDiff, List.length_map]
    rw [mod_setC (s := s) E k (fun x => rfl)]
    simp only [jup, kup, go_sem, Nat.reduceEqDiff, Nat.reduceAdd, Nat.reduceLeDiff, List.length_map]
    refine invN_next hd' trivial ?_
    rw [hst]
    simp only [stD, hnx, hkn, hr, if_true]
    simp only [go_sem, Nat.reduceEqDiff, Nat.reduceAdd, Nat.reduceLeDiff, List.length_map]
  ·have : j = l.length := by simp [delE_len] at h; omega
   subst this
   obtain ⟨q1, q2⟩ := delE_spec l l.length (Nat.le_refl _)
   rw [List.take_length] at q1
   have hkl := kN_le l l.length
   have hln := delE_len l l.length
   generalize delE l l.length = E at *
   generalize kN l l.length = k at *
   simp only [Nat.zero_add, Nat.le_refl, if_true, hln, if_pos (show 0 ≤ (k : Int) ∧ (k : Int) ≤ (l.length : Int) by omega), Int.toNat_natCast, go_sem, Nat.reduceEqDiff, Nat.reduceAdd, Nat.reduceLeDiff, List.length_map]
   refine ⟨by omega, ?_⟩
   rw [show k + (l.length - k) = l.length by omega, List.drop_eq_nil_of_le (by rw [List.length_map]; omega), List.append_nil]
   have hl2 : ∀ z : List D, (List.take k (List.map setC E) ++ List.replicate (l.length - k) z).length = l.length := fun z => by
    rw [List.length_append, List.length_take, List.length_map, List.length_replicate]; omega
   have htk : ∀ z : List D, List.take k (List.take k (List.map setC E) ++ List.replicate (l.length - k) z) = (rOf l).map setC := fun z => by
    rw [List.take_append_of_le_length (by rw [List.length_take, List.length_map]; omega), List.take_take, Nat.min_self, ← List.map_take, q1]
   rw [if_pos (by rw [hl2]; omega)]
   simp only [Nat.sub_zero, go_sem, Nat.reduceEqDiff, Nat.reduceAdd, Nat.reduceLeDiff, List.length_map]
   exact ⟨hl2 _, fun _ h => h, by rw [htk]⟩
set_option maxHeartbeats 8000000 in
theorem kCutA (l : List SetM) (hb : ∀ s ∈ l, Bnd s) (hl : l.length ≤ 100) (hs : ∀ s ∈ l, s.ints.length ≤ 400 ∧ s.strs.length ≤ 400) : PureAt Tryz.prog 12 [.sl none (l.map setC)] (· = .sl none ((cutR (rOf l)).map setC)) := by
 have h := rOf_ok hb
 have hrl : (rOf l).length ≤ 100 := Nat.le_trans (List.length_filter_le _ _) hl
 have hrs : ∀ s ∈ rOf l, s.ints.length ≤ 400 ∧ s.strs.length ≤ 400 := fun s h => hs s (List.mem_filter.1 h).1
 have p1 := kCloneSetF (l.map setC) (setC_len l) (by rw [List.length_map]; omega)
 have p2 := kDeleteK l (by omega) (fun s m => ⟨by have := (hs s m).1; omega, by have := (hs s m).2; omega⟩) hb
 generalize rOf l = r at *
 have hE : (endsM r).length ≤ 100000 := by
  have := ends_len r
  have h3 := rgsOf_len (r := r) (k := 400) (fun s m => (hrs s m).1)
  have : 400 * r.length ≤ 400 * 100 := Nat.mul_le_mul_left _ hrl
  omega
 have hN : (namesM r).length ≤ 100000 := by
  have := names_len r
  have h3 := strsOf_len (r := r) (k := 400) (fun s m => (hrs s m).2)
  have : 400 * r.length ≤ 400 * 100 := Nat.mul_le_mul_left _ hrl
  omega
 have p3 := kcEnds r (by omega) (fun s m => (hrs s m).1) (fun s m => (h s m).inb)
 have p4 := kcNames r (by omega) (fun s m => (hrs s m).2)
 refine pure_of r12d (by kernel_rfl) ?_
 unfold m12d
 simp only [go_sem, Nat.reduceEqDiff, Nat.reduceAdd, Nat.reduceLeDiff, List.length_map]
 refine callF_by rfl rfl p1 ?_
 rintro es rfl
 simp only [go_sem, Nat.reduceEqDiff, Nat.reduceAdd, Nat.reduceLeDiff, List.length_map]
 refine callK_by rfl rfl rfl p2 ?_
 rintro es' r' rfl
 simp only [go_sem, Nat.reduceEqDiff, Nat.reduceAdd, Nat.reduceLeDiff, List.length_map]
 refine callP_eq rfl rfl p3 ?_
 simp only [go_sem, Nat.reduceEqDiff, Nat.reduceAdd, Nat.reduceLeDiff, List.length_map]
 refine loop_N (endsM r).length (fun _ => True) (stC1 r) trivial (by simp only [stC1, cut1, loW, absS, List.take_zero, cellsI, setC, List.map_cons, List.map_nil, if_true, go_sem, Nat.reduceEqDiff, Nat.reduceAdd, Nat.reduceLeDiff, List.length_map]; rfl) ?_
 rintro j hj -
 have hcl := cut1_len r hj
 simp only [stC1]
 simp only [go_sem, Nat.reduceEqDiff, Nat.reduceAdd, Nat.reduceLeDiff, List.length_map]
 refine condE_split (fun hc => ?_) (fun hc => ?_)
 ·have hj' : j < (endsM r).length := by simpa using hc
  have hup := up64 (show j < 1000000 by omega)
  have g1 := get_ints hj'
  have hlo := loW_at h hj'
  have hnx : cut1 r (j + 1) = cut1 r j ++ [cellN (loAt (endsM r) j) ((endsM r).getD j 0)] := by
   unfold cut1
   rw [cellsI_take _ hj', List.cons_append]
  have hlw : loW (endsM r) (j + 1) = IntKind.i64.wrap ((endsM r).getD j 0 + 1) := by unfold loW; rw [if_neg (by omega)]; rfl
  have hsl := setC_len (cut1 r j)
  simp only [nn0, Int.toNat_natCast, g1, hlo, go_sem, Nat.reduceEqDiff, Nat.reduceAdd, Nat.reduceLeDiff, List.length_map]
  refine ⟨hsl, by rintro y rfl; rfl, by omega, by omega, ?_⟩
  simp only [hup, go_sem, Nat.reduceEqDiff, Nat.reduceAdd, Nat.reduceLeDiff, List.length_map]
  refine invN_next hj' trivial ?_
  simp only [stC1, intsC, hnx, hlw, cellN, setC, List.map_append, List.map_cons, List.map_nil, encR, go_sem, Nat.reduceEqDiff, Nat.reduceAdd, Nat.reduceLeDiff, List.length_map]
  rfl
 ·have : j = (endsM r).length := by simp at hc; omega
  subst this
  have h20 : cut1 r (endsM r).length = cut2 r 0 := by unfold cut1 cut2; rw [List.take_length, List.take_zero]; simp
  rw [h20]
  simp only [go_sem, Nat.reduceEqDiff, Nat.reduceAdd, Nat.reduceLeDiff, List.length_map]
  refine callP_eq rfl rfl p4 ?_
  simp only [go_sem, Nat.reduceEqDiff, Nat.reduceAdd, Nat.reduceLeDiff, List.length_map]
  refine loop_N (namesM r).length (fun _ => True) (stC2 r) trivial (by simp only [stC2, go_sem, Nat.reduceEqDiff, Nat.reduceAdd, Nat.reduceLeDiff, List.length_map]; rfl) ?_
  rintro k hk -
  have hcl2 := cut2_len r hk
  have hsl := setC_len (cut2 r k)
  simp only [stC2]
  simp only [go_sem, Nat.reduceEqDiff, Nat.reduceAdd, Nat.reduceLeDiff, List.length_map]
  refine condE_split (fun hc => ?_) (fun hc => ?_)
  ·have hk' : k < (namesM r).length := by simpa using hc
   have hup := up64 (show k < 1000000 by omega)
   have g1 := get_encSt hk'
   have hnx : cut2 r (k + 1) = cut2 r k ++ [cellS ((namesM r).getD k ⟨#[]⟩)] := by
    unfold cut2
    rw [List.take_succ_eq_append_getElem hk', List.map_append, List.cons_append, List.append_assoc]
    simp [hk']
   simp only [nn0, Int.toNat_natCast, g1, go_sem, Nat.reduceEqDiff, Nat.reduceAdd, Nat.reduceLeDiff, List.length_map]
   refine ⟨hsl, by rintro y rfl; rfl, by omega, by omega, ?_⟩
   simp only [hup, go_sem, Nat.reduceEqDiff, Nat.reduceAdd, Nat.reduceLeDiff, List.length_map]
   refine invN_next hk' trivial ?_
   simp only [stC2, hnx, cellS, setC, List.map_append, List.map_cons, List.map_nil, encSt, go_sem, Nat.reduceEqDiff, Nat.reduceAdd, Nat.reduceLeDiff, List.length_map]
   rfl
  ·have : k = (namesM r).length := by simp at hc; omega
   subst this
   have hfin : cut2 r (namesM r).length ++ [⟨false, [], true, namesM r⟩] = cutR r := by
    unfold cut2 cutR
    rw [List.take_length, List.cons_append, List.append_assoc]; rfl
   simp only [go_sem, Nat.reduceEqDiff, Nat.reduceAdd, Nat.reduceLeDiff, List.length_map]
   refine ⟨hsl, by rintro y rfl; rfl, by omega, by omega, ?_⟩
   rw [← hfin]
   simp only [setC, List.map_append, List.map_cons, List.map_nil, go_sem, Nat.reduceEqDiff, Nat.reduceAdd, Nat.reduceLeDiff, List.length_map]
end Go.Proofs

namespace Go.Proofs
open Go.Vm
set_option linter.unusedSimpArgs false
theorem rOf_mem {l : List SetM} {s : SetM} (h : s ∈ rOf l) : s ∈ l ∧ rightM s = true := List.mem_filter.1 h
theorem cut_sz {r : List SetM} {N : Nat} (h : AllOK r) (hl : r.length ≤ N) (hs : ∀ s ∈ r, s.ints.length ≤ 40 ∧ s.strs.length ≤ 40) {x : SetM} (hx : x ∈ cutR r) : x.ints.length ≤ 1 ∧ x.strs.length ≤ 1 + 40 * N := by
 have hn : (namesM r).length ≤ 40 * N := by
  have h1 := names_len r
  have h2 := strsOf_len (r := r) (k := 40) (fun s m => (hs s m).2)
  have : 40 * r.length ≤ 40 * N := Nat.mul_le_mul_left _ hl
  omega
 rcases cut_mem h hx with rfl | ⟨a, b, rfl, -⟩ | ⟨t, -, rfl⟩ | rfl
 ·simp
 ·simp [cellN]
 ·simp [cellS]
 ·simp; omega
theorem cut_length {r : List SetM} {N : Nat} (hl : r.length ≤ N) (hs : ∀ s ∈ r, s.ints.length ≤ 40 ∧ s.strs.length ≤ 40) : (cutR r).length ≤ 3 + 120 * N := by
 have h1 := names_len r
 have h2 := strsOf_len (r := r) (k := 40) (fun s m => (hs s m).2)
 have h3 := ends_len r
 have h4 := rgsOf_len (r := r) (k := 40) (fun s m => (hs s m).1)
 have : 40 * r.length ≤ 40 * N := Nat.mul_le_mul_left _ hl
 rw [cut_len]; omega
theorem few_up {l : List SetM} (h : ∀ s ∈ l, s.ints.length ≤ 40 ∧ s.strs.length ≤ 40) : ∀ s ∈ l, s.ints.length ≤ 400 ∧ s.strs.length ≤ 400 := fun s m => ⟨by have := (h s m).1; omega, by have := (h s m).2; omega⟩
def cntO (r : List SetM) (v : ValM) (i : Nat) : Nat := ((cutR r).take i).countP (fun c => hasM c v)
theorem cntO_next {r : List SetM} {v : ValM} {i : Nat} (h : i < (cutR r).length) : cntO r v (i + 1) = if hasM ((cutR r).getD i noM) v = true then cntO r v i + 1 else cntO r v i := by
 unfold cntO
 rw [take_get _ i noM h, List.countP_append, List.countP_singleton]
 split <;> simp
theorem cntO_le {r : List SetM} (h : AllOK r) {v : ValM} (hv : InRange v.n) {i : Nat} : cntO r v i ≤ 1 := by
 have := cut_one h hv
 have h2 : cntO r v i ≤ (cutR r).countP (fun c => hasM c v) := List.Sublist.countP_le (List.take_sublist _ _)
 split at this <;> omega
def latO (r : List SetM) (v : ValM) (i : Nat) : Int := lastI (fun c => hasM c v) ((cutR r).take i)
theorem latO_next {r : List SetM} {v : ValM} {i : Nat} (h : i < (cutR r).length) : latO r v (i + 1) = if hasM ((cutR r).getD i noM) v = true then (i : Int) else latO r v i := by
 unfold latO
 rw [take_get _ i noM h, lastI_snoc, List.length_take, Nat.min_eq_left (by omega)]
def stO1 (r : List SetM) (v : ValM) (i : Nat) : St := ⟨[(3, .ptr 3 0), (5, .sl none ((cutR r).map setC)), (6, .val (.int .i64 (cntO r v i))), (7, .val (.int .i64 (latO r v i))), (38, .sl none ((cutR r).map setC)), (39, .val (.int .i64 (cutR r).length)), (40, .val (.int .i64 i))], [(3, valC v)], []⟩
theorem z01 : ((0 : Int) == 1) = false := rfl
theorem z11 : ((1 : Int) == 1) = true := rfl
theorem zle : decide ((0 : Int) ≤ 1) = true := rfl
theorem ole : decide ((1 : Int) ≤ 1) = true := rfl
theorem one1 : (((1 : Nat) : Int) == 1) = true := rfl
theorem one0 : decide (((1 : Nat) : Int) ≤ 1) = true := rfl
theorem zer1 : (((0 : Nat) : Int) == 1) = false := rfl
theorem zer0 : decide (((0 : Nat) : Int) ≤ 1) = true := rfl
theorem ntt : (!(true == true)) = false := rfl
set_option maxHeartbeats 8000000 in
theorem kCellsOne (l : List SetM) (v : ValM) (hb : ∀ s ∈ l, Bnd s) (_ : l.length ≤ maxLen) (hv : InRange v.n) : PureAt Tryz.prog 3 [.sl none (l.map setC), .agg (valC v)] (· = .val (.bool true)) := by
 refine pure_of r3 (by kernel_rfl) ?_
 unfold m3
 simp only [valC, go_sem, Nat.reduceEqDiff, Nat.reduceAdd, Nat.reduceLeDiff, List.length_map, z4, at4, BoxM.at, EvM.at, fillB, Int.reduceLT, Int.reduceLE, Int.reduceToNat, Int.toNat_zero, Int.le_refl, Int.reduceAdd, decide_true, decide_false, wr1, wr2, wr3, wr4, c0, c1, c2, c3, c4, Nat.reduceMul, Nat.reduceLT, Nat.lt_irrefl, true_and, and_self, ↓reduceIte]
 refine callP_eq rfl rfl kawake09 ?_
 by_cases h1 : l.length ≤ 12
 rotate_left
 ·have d1 : decide ((l.length : Int) > 12) = true := by simp; omega
  simp only [d1, go_sem, Nat.reduceEqDiff, Nat.reduceAdd, Nat.reduceLeDiff, List.length_map, z4, at4, BoxM.at, EvM.at, fillB, Int.reduceLT, Int.reduceLE, Int.reduceToNat, Int.toNat_zero, Int.le_refl, Int.reduceAdd, decide_true, decide_false, wr1, wr2, wr3, wr4, c0, c1, c2, c3, c4, Nat.reduceMul, Nat.reduceLT, Nat.lt_irrefl, true_and, and_self, ↓reduceIte]
  refine callP_eq rfl rfl kawake09 ?_
  simp only [go_sem, Nat.reduceEqDiff, Nat.reduceAdd, Nat.reduceLeDiff, List.length_map, z4, at4, BoxM.at, EvM.at, fillB, Int.reduceLT, Int.reduceLE, Int.reduceToNat, Int.toNat_zero, Int.le_refl, Int.reduceAdd, decide_true, decide_false, wr1, wr2, wr3, wr4, c0, c1, c2, c3, c4, Nat.reduceMul, Nat.reduceLT, Nat.lt_irrefl, true_and, and_self, ↓reduceIte]
 have d1 : decide ((l.length : Int) > 12) = false := by simp; omega
 simp only [d1, go_sem, Nat.reduceEqDiff, Nat.reduceAdd, Nat.reduceLeDiff, List.length_map, z4, at4, BoxM.at, EvM.at, fillB, Int.reduceLT, Int.reduceLE, Int.reduceToNat, Int.toNat_zero, Int.le_refl, Int.reduceAdd, decide_true, decide_false, wr1, wr2, wr3, wr4, c0, c1, c2, c3, c4, Nat.reduceMul, Nat.reduceLT, Nat.lt_irrefl, true_and, and_self, ↓reduceIte]
 refine callP_by rfl rfl (krefFew3 l (by omega)) ?_
 rintro d ⟨bf, rfl, hf⟩
 cases bf
 ·simp only [go_sem, Nat.reduceEqDiff, Nat.reduceAdd, Nat.reduceLeDiff, List.length_map, z4, at4, BoxM.at, EvM.at, fillB, Int.reduceLT, Int.reduceLE, Int.reduceToNat, Int.toNat_zero, Int.le_refl, Int.reduceAdd, decide_true, decide_false, wr1, wr2, wr3, wr4, c0, c1, c2, c3, c4, Nat.reduceMul, Nat.reduceLT, Nat.lt_irrefl, true_and, and_self, ↓reduceIte]
  refine callP_eq rfl rfl kawake09 ?_
  simp only [go_sem, Nat.reduceEqDiff, Nat.reduceAdd, Nat.reduceLeDiff, List.length_map, z4, at4, BoxM.at, EvM.at, fillB, Int.reduceLT, Int.reduceLE, Int.reduceToNat, Int.toNat_zero, Int.le_refl, Int.reduceAdd, decide_true, decide_false, wr1, wr2, wr3, wr4, c0, c1, c2, c3, c4, Nat.reduceMul, Nat.reduceLT, Nat.lt_irrefl, true_and, and_self, ↓reduceIte]
 by_cases h2 : v.s.size ≤ 100
 rotate_left
 ·have d2 : decide ((v.s.size : Int) > 100) = true := by simp; omega
  simp only [d2, go_sem, Nat.reduceEqDiff, Nat.reduceAdd, Nat.reduceLeDiff, List.length_map, z4, at4, BoxM.at, EvM.at, fillB, Int.reduceLT, Int.reduceLE, Int.reduceToNat, Int.toNat_zero, Int.le_refl, Int.reduceAdd, decide_true, decide_false, wr1, wr2, wr3, wr4, c0, c1, c2, c3, c4, Nat.reduceMul, Nat.reduceLT, Nat.lt_irrefl, true_and, and_self, ↓reduceIte]
  refine callP_eq rfl rfl kawake09 ?_
  simp only [go_sem, Nat.reduceEqDiff, Nat.reduceAdd, Nat.reduceLeDiff, List.length_map, z4, at4, BoxM.at, EvM.at, fillB, Int.reduceLT, Int.reduceLE, Int.reduceToNat, Int.toNat_zero, Int.le_refl, Int.reduceAdd, decide_true, decide_false, wr1, wr2, wr3, wr4, c0, c1, c2, c3, c4, Nat.reduceMul, Nat.reduceLT, Nat.lt_irrefl, true_and, and_self, ↓reduceIte]
 have d2 : decide ((v.s.size : Int) > 100) = false := by simp; omega
 have hf := hf rfl
 have hok := rOf_ok hb
 have hrl : (rOf l).length ≤ 12 := Nat.le_trans (List.length_filter_le _ _) h1
 have hrs : ∀ s ∈ rOf l, s.ints.length ≤ 40 ∧ s.strs.length ≤ 40 := fun s h => hf s (rOf_mem h).1
 have pc := kCutA l hb (by omega) (few_up hf)
 have hcl := cut_length hrl hrs
 have hcs := fun x (hx : x ∈ cutR (rOf l)) => cut_sz hok hrl hrs hx
 have hone := cut_one hok hv
 have hlast := last_idx (fun c => hasM c v) (cutR (rOf l)) (by rw [hone]; split <;> omega)
 have pw := kWhich (cutR (rOf l)) (by omega) (fun s h => ⟨by have := (hcs s h).1; omega, by have := (hcs s h).2; omega⟩) v
 rw [← hlast] at pw
 generalize rOf l = r at *
 simp only [d2, go_sem, Nat.reduceEqDiff, Nat.reduceAdd, Nat.reduceLeDiff, List.length_map, z4, at4, BoxM.at, EvM.at, fillB, Int.reduceLT, Int.reduceLE, Int.reduceToNat, Int.toNat_zero, Int.le_refl, Int.reduceAdd, decide_true, decide_false, wr1, wr2, wr3, wr4, c0, c1, c2, c3, c4, Nat.reduceMul, Nat.reduceLT, Nat.lt_irrefl, true_and, and_self, ↓reduceIte]
 refine ⟨setC_len l, by omega, by omega, ?_⟩
 refine callP_eq rfl rfl pc ?_
 simp only [go_sem, Nat.reduceEqDiff, Nat.reduceAdd, Nat.reduceLeDiff, List.length_map, z4, at4, BoxM.at, EvM.at, fillB, Int.reduceLT, Int.reduceLE, Int.reduceToNat, Int.toNat_zero, Int.le_refl, Int.reduceAdd, decide_true, decide_false, wr1, wr2, wr3, wr4, c0, c1, c2, c3, c4, Nat.reduceMul, Nat.reduceLT, Nat.lt_irrefl, true_and, and_self, ↓reduceIte]
 refine loop_N (cutR r).length (fun _ => True) (stO1 r v) trivial (by simp only [stO1, cntO, latO, lastI, List.take_zero, valC, go_sem, Nat.reduceEqDiff, Nat.reduceAdd, Nat.reduceLeDiff, List.length_map]; rfl) ?_
 rintro i hi -
 simp only [stO1]
 simp only [go_sem, Nat.reduceEqDiff, Nat.reduceAdd, Nat.reduceLeDiff, List.length_map, z4, at4, BoxM.at, EvM.at, fillB, Int.reduceLT, Int.reduceLE, Int.reduceToNat, Int.toNat_zero, Int.le_refl, Int.reduceAdd, decide_true, decide_false, wr1, wr2, wr3, wr4, c0, c1, c2, c3, c4, Nat.reduceMul, Nat.reduceLT, Nat.lt_irrefl, true_and, and_self, ↓reduceIte]
 refine condE_split (fun hc => ?_) (fun hc => ?_)
 ·have hi' : i < (cutR r).length := by simpa using hc
  have iup := up64 (show i < 1000000 by omega)
  have g1 := get_setC hi'
  have hm := setD_mem hi'
  have hx := hcs _ hm
  have hxo := cut_ok hok hm
  have hsm := sample_has hxo (by omega) (cut_full hok hm)
  have ps := kSample _ (by omega : ((cutR r).getD i noM).ints.length ≤ 100000) (by omega) hxo.inb
  have ps9 := kSample9 _ (by omega : ((cutR r).getD i noM).ints.length ≤ 100000) (by omega)
  have ph := krefHas3 _ (by omega : ((cutR r).getD i noM).ints.length ≤ 1000000) (by omega)
  have hcn := cntO_next (v := v) hi'
  have hln := latO_next (v := v) hi'
  have hc1 := cntO_le (i := i) hok hv
  have nup := up64 (show cntO r v i < 1000000 by omega)
  generalize (cutR r).getD i noM = x at *
  generalize cntO r v i = n at *
  generalize latO r v i = at' at *
  have pv := ph v
  have pq := ph (sampleM x).1
  rw [hsm.2.1] at pq
  rw [hsm.1] at ps ps9
  generalize (sampleM x).1 = q at *
  obtain ⟨qk, qn, qs⟩ := q
  have e1 : (qk == qk && (qn == qn && qs.toList == qs.toList)) = true := by simp
  unfold setC valC at pv pq ps ps9
  simp only [nn0, Int.toNat_natCast, g1, setC, valC, go_sem, Nat.reduceEqDiff, Nat.reduceAdd, Nat.reduceLeDiff, List.length_map, z4, at4, BoxM.at, EvM.at, fillB, Int.reduceLT, Int.reduceLE, Int.reduceToNat, Int.toNat_zero, Int.le_refl, Int.reduceAdd, decide_true, decide_false, wr1, wr2, wr3, wr4, c0, c1, c2, c3, c4, Nat.reduceMul, Nat.reduceLT, Nat.lt_irrefl, true_and, and_self, ↓reduceIte]
  refine callP_eq rfl rfl pv ?_
  cases hh : hasM x v
  ·rw [hh] at hcn hln
   simp only [go_sem, Nat.reduceEqDiff, Nat.reduceAdd, Nat.reduceLeDiff, List.length_map, z4, at4, BoxM.at, EvM.at, fillB, Int.reduceLT, Int.reduceLE, Int.reduceToNat, Int.toNat_zero, Int.le_refl, Int.reduceAdd, decide_true, decide_false, wr1, wr2, wr3, wr4, c0, c1, c2, c3, c4, Nat.reduceMul, Nat.reduceLT, Nat.lt_irrefl, true_and, and_self, ↓reduceIte]
   refine callP_eq rfl rfl ps ?_
   simp only [go_sem, Nat.reduceEqDiff, Nat.reduceAdd, Nat.reduceLeDiff, List.length_map, z4, at4, BoxM.at, EvM.at, fillB, Int.reduceLT, Int.reduceLE, Int.reduceToNat, Int.toNat_zero, Int.le_refl, Int.reduceAdd, decide_true, decide_false, wr1, wr2, wr3, wr4, c0, c1, c2, c3, c4, Nat.reduceMul, Nat.reduceLT, Nat.lt_irrefl, true_and, and_self, ↓reduceIte]
   refine callP_eq rfl rfl ps9 ?_
   simp only [e1, ntt, go_sem, Nat.reduceEqDiff, Nat.reduceAdd, Nat.reduceLeDiff, List.length_map, z4, at4, BoxM.at, EvM.at, fillB, Int.reduceLT, Int.reduceLE, Int.reduceToNat, Int.toNat_zero, Int.le_refl, Int.reduceAdd, decide_true, decide_false, wr1, wr2, wr3, wr4, c0, c1, c2, c3, c4, Nat.reduceMul, Nat.reduceLT, Nat.lt_irrefl, true_and, and_self, ↓reduceIte]
   refine callP_eq rfl rfl pq ?_
   simp only [iup, go_sem, Nat.reduceEqDiff, Nat.reduceAdd, Nat.reduceLeDiff, List.length_map, z4, at4, BoxM.at, EvM.at, fillB, Int.reduceLT, Int.reduceLE, Int.reduceToNat, Int.toNat_zero, Int.le_refl, Int.reduceAdd, decide_true, decide_false, wr1, wr2, wr3, wr4, c0, c1, c2, c3, c4, Nat.reduceMul, Nat.reduceLT, Nat.lt_irrefl, true_and, and_self, ↓reduceIte]
   refine invN_next hi' trivial ?_
   simp only [stO1, hcn, hln]
   simp only [valC, go_sem, Nat.reduceEqDiff, Nat.reduceAdd, Nat.reduceLeDiff, List.length_map, z4, at4, BoxM.at, EvM.at, fillB, Int.reduceLT, Int.reduceLE, Int.reduceToNat, Int.toNat_zero, Int.le_refl, Int.reduceAdd, decide_true, decide_false, wr1, wr2, wr3, wr4, c0, c1, c2, c3, c4, Nat.reduceMul, Nat.reduceLT, Nat.lt_irrefl, true_and, and_self, ↓reduceIte]
  ·rw [hh] at hcn hln
   simp only [nup, go_sem, Nat.reduceEqDiff, Nat.reduceAdd, Nat.reduceLeDiff, List.length_map, z4, at4, BoxM.at, EvM.at, fillB, Int.reduceLT, Int.reduceLE, Int.reduceToNat, Int.toNat_zero, Int.le_refl, Int.reduceAdd, decide_true, decide_false, wr1, wr2, wr3, wr4, c0, c1, c2, c3, c4, Nat.reduceMul, Nat.reduceLT, Nat.lt_irrefl, true_and, and_self, ↓reduceIte]
   refine callP_eq rfl rfl ps ?_
   simp only [go_sem, Nat.reduceEqDiff, Nat.reduceAdd, Nat.reduceLeDiff, List.length_map, z4, at4, BoxM.at, EvM.at, fillB, Int.reduceLT, Int.reduceLE, Int.reduceToNat, Int.toNat_zero, Int.le_refl, Int.reduceAdd, decide_true, decide_false, wr1, wr2, wr3, wr4, c0, c1, c2, c3, c4, Nat.reduceMul, Nat.reduceLT, Nat.lt_irrefl, true_and, and_self, ↓reduceIte]
   refine callP_eq rfl rfl ps9 ?_
   simp only [e1, ntt, go_sem, Nat.reduceEqDiff, Nat.reduceAdd, Nat.reduceLeDiff, List.length_map, z4, at4, BoxM.at, EvM.at, fillB, Int.reduceLT, Int.reduceLE, Int.reduceToNat, Int.toNat_zero, Int.le_refl, Int.reduceAdd, decide_true, decide_false, wr1, wr2, wr3, wr4, c0, c1, c2, c3, c4, Nat.reduceMul, Nat.reduceLT, Nat.lt_irrefl, true_and, and_self, ↓reduceIte]
   refine callP_eq rfl rfl pq ?_
   simp only [iup, go_sem, Nat.reduceEqDiff, Nat.reduceAdd, Nat.reduceLeDiff, List.length_map, z4, at4, BoxM.at, EvM.at, fillB, Int.reduceLT, Int.reduceLE, Int.reduceToNat, Int.toNat_zero, Int.le_refl, Int.reduceAdd, decide_true, decide_false, wr1, wr2, wr3, wr4, c0, c1, c2, c3, c4, Nat.reduceMul, Nat.reduceLT, Nat.lt_irrefl, true_and, and_self, ↓reduceIte]
   refine invN_next hi' trivial ?_
   simp only [stO1, hcn, hln, if_true]
   simp only [valC, go_sem, Nat.reduceEqDiff, Nat.reduceAdd, Nat.reduceLeDiff, List.length_map, z4, at4, BoxM.at, EvM.at, fillB, Int.reduceLT, Int.reduceLE, Int.reduceToNat, Int.toNat_zero, Int.le_refl, Int.reduceAdd, decide_true, decide_false, wr1, wr2, wr3, wr4, c0, c1, c2, c3, c4, Nat.reduceMul, Nat.reduceLT, Nat.lt_irrefl, true_and, and_self, ↓reduceIte]
 ·have : i = (cutR r).length := by simp at hc; omega
  subst this
  have hcf : cntO r v (cutR r).length = if rightV v = true then 1 else 0 := by unfold cntO; rw [List.take_length]; exact hone
  have hlf : latO r v (cutR r).length = lastI (fun c => hasM c v) (cutR r) := by unfold latO; rw [List.take_length]
  rw [hcf, hlf]
  generalize lastI (fun c => hasM c v) (cutR r) = k at *
  clear hcf hlf hone hlast
  obtain ⟨kd, n, s⟩ := v
  unfold valC at pw
  have hR : rightV ⟨kd, n, s⟩ = (((kd == 0) && (n == 0) && (s.toList == (ByteArray.mk #[]).toList)) || ((kd == 1) && (s.toList == (ByteArray.mk #[]).toList)) || ((kd == 2) && (n == 0) && decide ((s.size : Int) ≤ 8))) := by
   rw [emptyBytes]
   unfold rightV
   simp only
   by_cases k0 : kd = 0
   ·subst k0; simp
   ·by_cases k1 : kd = 1
    ·subst k1; simp
    ·by_cases k2 : kd = 2
     ·subst k2; simp
     ·simp [k0, k1, k2]
  rw [hR]
  clear hR
  simp only [valC, go_sem, Nat.reduceEqDiff, Nat.reduceAdd, Nat.reduceLeDiff, List.length_map, z4, at4, BoxM.at, EvM.at, fillB, Int.reduceLT, Int.reduceLE, Int.reduceToNat, Int.toNat_zero, Int.le_refl, Int.reduceAdd, decide_true, decide_false, wr1, wr2, wr3, wr4, c0, c1, c2, c3, c4, Nat.reduceMul, Nat.reduceLT, Nat.lt_irrefl, true_and, and_self, ↓reduceIte]
  generalize dq0 : (kd == 0) = q0
  generalize dq1 : (kd == 1) = q1
  generalize dq2 : (kd == 2) = q2
  generalize dqn : (n == 0) = qn
  generalize dqs : (s.toList == (ByteArray.mk #[]).toList) = qs
  generalize dq8 : decide ((s.size : Int) ≤ 8) = q8
  cases q0 <;> cases q1 <;> cases q2 <;> cases qn <;> cases qs <;> cases q8
  all_goals
   simp only [Bool.and_true, Bool.and_false, Bool.true_and, Bool.false_and, Bool.or_true, Bool.or_false, Bool.true_or, Bool.false_or, reduceIte, Bool.false_eq_true, one1, one0, zer1, zer0, z01, z11, zle, ole, beq_self_eq_true, dq0, dq1, dq2, dqn, dqs, dq8, go_sem, Nat.reduceEqDiff, Nat.reduceAdd, Nat.reduceLeDiff, List.length_map, z4, at4, BoxM.at, EvM.at, fillB, Int.reduceLT, Int.reduceLE, Int.reduceToNat, Int.toNat_zero, Int.le_refl, Int.reduceAdd, decide_true, decide_false, wr1, wr2, wr3, wr4, c0, c1, c2, c3, c4, Nat.reduceMul, Nat.reduceLT, Nat.lt_irrefl, true_and, and_self, ↓reduceIte]
   refine callP_eq rfl rfl pw ?_
   simp only [beq_self_eq_true, go_sem, Nat.reduceEqDiff, Nat.reduceAdd, Nat.reduceLeDiff, List.length_map, z4, at4, BoxM.at, EvM.at, fillB, Int.reduceLT, Int.reduceLE, Int.reduceToNat, Int.toNat_zero, Int.le_refl, Int.reduceAdd, decide_true, decide_false, wr1, wr2, wr3, wr4, c0, c1, c2, c3, c4, Nat.reduceMul, Nat.reduceLT, Nat.lt_irrefl, true_and, and_self, ↓reduceIte]
end Go.Proofs
