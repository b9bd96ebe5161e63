/- A part of the proof; what is proved stands in the last text. -/
import Derived.Test.YtcclggbngikppaaGreatDoorT220
import Derived.Test.YtcclggbngikppaaGreatDoorMD
set_option linter.unusedVariables false
set_option maxRecDepth 2000
namespace Go.Proofs
open Go.Vm
set_option linter.unusedSimpArgs false
theorem get_setC {l : List SetM} {i : Nat} (h : i < l.length) : (l.map setC)[i]? = some (setC (l.getD i noM)) := by
 rw [List.getElem?_map, List.getElem?_eq_getElem h]; simp [h]
theorem setD_mem {l : List SetM} {i : Nat} (h : i < l.length) : l.getD i noM ∈ l := by simp [h]
theorem get_encR {l : List Rg} {i : Nat} (h : i < l.length) : (l.map encR)[i]? = some (encR (l.getD i (0, 0))) := by
 rw [List.getElem?_map, List.getElem?_eq_getElem h]; simp [h]
def endsTo (l : List SetM) (i : Nat) : List Int := maxI :: (l.take i).flatMap fun s => s.ints.flatMap ends1
def stE (l : List SetM) (out : List Int) (i : Nat) : St := ⟨[(0, .sl none (l.map setC)), (3, .sl (some (7, 3, 1)) (intsC out)), (9, .val (.int .i64 l.length)), (10, .val (.int .i64 i))], [], [((7, 3, 1), true)]⟩
def stE2 (l : List SetM) (rs : List Rg) (out : List Int) (i k : Nat) : St := ⟨[(0, .sl none (l.map setC)), (3, .sl (some (7, 3, 1)) (intsC out)), (9, .val (.int .i64 l.length)), (10, .val (.int .i64 i)), (17, .sl none (rs.map encR)), (18, .val (.int .i64 rs.length)), (19, .val (.int .i64 k))], [], [((7, 3, 1), true)]⟩
set_option maxHeartbeats 4000000 in
theorem kcEnds (l : List SetM) (hl : l.length ≤ 1000) (hs : ∀ s ∈ l, s.ints.length ≤ 400) (hb : ∀ s ∈ l, ∀ r ∈ s.ints, InB r) : PureAt Tryz.prog 43 [.sl none (l.map setC)] (· = .sl none (intsC (endsM l))) := by
 refine pure_of r43 (by kernel_rfl) ?_
 unfold m43
 simp only [go_sem, Nat.reduceEqDiff, Nat.reduceAdd, Nat.reduceLeDiff, List.length_map]
 refine loop_N l.length (fun _ => True) (fun i => stE l (endsTo l i) i) trivial (by simp only [stE, endsTo, maxI, go_sem, Nat.reduceEqDiff, Nat.reduceAdd, Nat.reduceLeDiff, List.length_map]; rfl) ?_
 rintro i hil -
 simp only [stE]
 simp only [go_sem, Nat.reduceEqDiff, Nat.reduceAdd, Nat.reduceLeDiff, List.length_map]
 refine condE_split (fun h => ?_) (fun h => ?_)
 ·have hi' : i < l.length := by simpa using h
  have hup := up64 (show i < 1000000 by omega)
  have g1 := get_setC hi'
  have hm := setD_mem hi'
  have hto : endsTo l (i + 1) = endsTo l i ++ (l.getD i noM).ints.flatMap ends1 := by
   unfold endsTo
   rw [List.take_succ_eq_append_getElem hi', List.flatMap_append]
   simp [hi']
  have hlen : (endsTo l i).length ≤ 1 + 800 * i := by
   have : ∀ m : List SetM, (∀ s ∈ m, s.ints.length ≤ 400) → (m.flatMap fun s => s.ints.flatMap ends1).length ≤ 800 * m.length := fun m => by
    induction m with
    | nil => simp
    | cons a m ih =>
     intro h
     have h1 := ih (fun s hs => h s (by simp [hs]))
     have h2 := ends1_len a.ints
     have h3 := h a (by simp)
     rw [List.flatMap_cons, List.length_append, List.length_cons]; omega
   have := this (l.take i) (fun s hs' => hs s (List.mem_of_mem_take hs'))
   unfold endsTo
   rw [List.length_cons]
   rw [List.length_take] at this
   omega
  have hsi := hs _ hm
  have hbi := hb _ hm
  simp only [nn0, Int.toNat_natCast, g1, setC, go_sem, Nat.reduceEqDiff, Nat.reduceAdd, Nat.reduceLeDiff, List.length_map]
  generalize hs0 : l.getD i noM = s at *
  generalize endsTo l i = out at *
  refine loop_N s.ints.length (fun _ => True) (fun k => stE2 l s.ints (out ++ (s.ints.take k).flatMap ends1) i k) trivial (by simp only [stE2, List.take_zero, List.flatMap_nil, List.append_nil, go_sem, Nat.reduceEqDiff, Nat.reduceAdd, Nat.reduceLeDiff, List.length_map]; rfl) ?_
  rintro k hkl -
  simp only [stE2]
  simp only [go_sem, Nat.reduceEqDiff, Nat.reduceAdd, Nat.reduceLeDiff, List.length_map]
  refine condE_split (fun h => ?_) (fun h => ?_)
  ·have hk' : k < s.ints.length := by simpa using h
   have kup := up64 (show k < 1000000 by omega)
   have g2 := get_encR hk'
   have hm2 : s.ints.getD k (0, 0) ∈ s.ints := by simp [hk']
   have hlen2 : (out ++ (s.ints.take k).flatMap ends1).length ≤ 1 + 800 * i + 2 * k := by
    have := ends1_len (s.ints.take k)
    rw [List.length_take] at this
    rw [List.length_append]; omega
   have hnx : out ++ (s.ints.take (k + 1)).flatMap ends1 = out ++ (s.ints.take k).flatMap ends1 ++ ends1 (s.ints.getD k (0, 0)) := by
    rw [List.take_succ_eq_append_getElem hk', List.flatMap_append]
    simp [hk']
   have hbk := hbi _ hm2
   simp only [nn0, Int.toNat_natCast, g2, encR, go_sem, Nat.reduceEqDiff, Nat.reduceAdd, Nat.reduceLeDiff, List.length_map]
   generalize s.ints.getD k (0, 0) = r at *
   generalize out ++ (s.ints.take k).flatMap ends1 = out' at *
   obtain ⟨lo, up⟩ := r
   simp only [InB] at hbk
   have hone : ∀ (L : List Int), ∀ e ∈ intsC L, e.length = 1 := fun L e he => by obtain ⟨n, -, rfl⟩ := List.mem_map.1 he; rfl
   refine ⟨hone _, by rintro y rfl; rfl, by omega, by omega, ?_⟩
   refine condE_split (fun h2 => ?_) (fun h2 => ?_)
   ·have h2 : lo > -9223372036854775808 := by simpa using h2
    have hw1 : IntKind.i64.wrap (lo - 1) = lo - 1 := wrap64 (by omega) (by omega)
    have he : ends1 (lo, up) = [up, lo - 1] := by simp [ends1, minI, h2]
    have hone' : ∀ e ∈ intsC out' ++ [[D.val (.int .i64 up)]], e.length = 1 := fun e he => by
     rcases List.mem_append.1 he with he | he
     ·exact hone _ e he
     ·have : e = [D.val (.int .i64 up)] := by simpa using he
      rw [this]; rfl
    simp only [hw1, go_sem, Nat.reduceEqDiff, Nat.reduceAdd, Nat.reduceLeDiff, List.length_map]
    refine ⟨hone', by rintro y rfl; rfl, by simp; omega, by simp; omega, ?_⟩
    simp only [kup, go_sem, Nat.reduceEqDiff, Nat.reduceAdd, Nat.reduceLeDiff, List.length_map]
    refine invN_next hk' trivial ?_
    simp only [stE2, hnx, he, intsC, List.map_append, List.map_cons, List.map_nil, List.append_assoc, List.cons_append, List.nil_append, go_sem, Nat.reduceEqDiff, Nat.reduceAdd, Nat.reduceLeDiff, List.length_map]
   ·have h2 : ¬ lo > -9223372036854775808 := by simpa using h2
    have he : ends1 (lo, up) = [up] := by simp [ends1, minI]; omega
    simp only [kup, go_sem, Nat.reduceEqDiff, Nat.reduceAdd, Nat.reduceLeDiff, List.length_map]
    refine invN_next hk' trivial ?_
    simp only [stE2, hnx, he, intsC, List.map_append, List.map_cons, List.map_nil, go_sem, Nat.reduceEqDiff, Nat.reduceAdd, Nat.reduceLeDiff, List.length_map]
  ·have : k = s.ints.length := by simp at h; omega
   subst this
   simp only [hup, go_sem, Nat.reduceEqDiff, Nat.reduceAdd, Nat.reduceLeDiff, List.length_map]
   refine invN_next hi' trivial ?_
   simp only [stE, hto, List.take_length, go_sem, Nat.reduceEqDiff, Nat.reduceAdd, Nat.reduceLeDiff, List.length_map]
 ·have : i = l.length := by simp at h; omega
  subst this
  have hen : endsTo l l.length = endsL l := by unfold endsTo endsL; rw [List.take_length]
  have hlen : (endsL l).length ≤ 1000000 := by
   have := ends1_len (rgsOf l)
   have h3 := rgsOf_len (r := l) (k := 400) hs
   have h2 : (endsL l).length = 1 + ((rgsOf l).flatMap ends1).length := by
    unfold endsL rgsOf
    rw [List.length_cons, List.flatMap_assoc]; omega
   have : 400 * l.length ≤ 400 * 1000 := Nat.mul_le_mul_left _ hl
   omega
  rw [hen]
  simp only [go_sem, Nat.reduceEqDiff, Nat.reduceAdd, Nat.reduceLeDiff, List.length_map]
  refine callT_by rfl rfl rfl (kSortI (endsL l) hlen) ?_
  rintro es' r ⟨rfl, rfl⟩
  simp only [go_sem, Nat.reduceEqDiff, Nat.reduceAdd, Nat.reduceLeDiff, List.length_map]
  refine callK_by rfl rfl rfl (kCompactI (sortI (endsL l)) (by rw [sortI_len]; exact hlen)) ?_
  rintro es' r rfl
  simp only [go_sem, Nat.reduceEqDiff, Nat.reduceAdd, Nat.reduceLeDiff, List.length_map]
  rfl
end Go.Proofs

namespace Go.Proofs
open Go.Vm
set_option linter.unusedSimpArgs false
theorem hone_s : ∀ (L : List ByteArray), ∀ e ∈ L.map encSt, e.length = 1 := fun L e he => by obtain ⟨n, -, rfl⟩ := List.mem_map.1 he; rfl
set_option maxHeartbeats 2000000 in
theorem kcNames (l : List SetM) (hl : l.length ≤ 1000) (hs : ∀ s ∈ l, s.strs.length ≤ 400) : PureAt Tryz.prog 44 [.sl none (l.map setC)] (· = .sl none ((namesM l).map encSt)) := by
 refine pure_of r44 (by kernel_rfl) ?_
 unfold m44
 simp only [go_sem, Nat.reduceEqDiff, Nat.reduceAdd, Nat.reduceLeDiff, List.length_map]
 refine loop_N l.length (fun _ => True) (fun i => ⟨[(0, .sl none (l.map setC)), (2, .sl (some (2, 9, 1)) ((strsOf (l.take i)).map encSt)), (5, .val (.int .i64 l.length)), (6, .val (.int .i64 i))], [], [((2, 9, 1), true)]⟩) trivial (by simp only [List.take_zero, strsOf, List.flatMap_nil, List.map_nil, go_sem, Nat.reduceEqDiff, Nat.reduceAdd, Nat.reduceLeDiff, List.length_map]; rfl) ?_
 rintro i hil -
 have hlen : (strsOf (l.take i)).length ≤ 400 * i := by
  have := strsOf_len (r := l.take i) (k := 400) (fun s h => hs s (List.mem_of_mem_take h))
  rw [List.length_take] at this
  exact Nat.le_trans this (Nat.mul_le_mul_left _ (by omega))
 simp only [go_sem, Nat.reduceEqDiff, Nat.reduceAdd, Nat.reduceLeDiff, List.length_map]
 refine condE_split (fun h => ?_) (fun h => ?_)
 ·have hi' : i < l.length := by simpa using h
  have hup := up64 (show i < 1000000 by omega)
  have g1 := get_setC hi'
  have hm := setD_mem hi'
  have hsi := hs _ hm
  have hnx : strsOf (l.take (i + 1)) = strsOf (l.take i) ++ (l.getD i noM).strs := by
   unfold strsOf
   rw [List.take_succ_eq_append_getElem hi', List.flatMap_append]
   simp [hi']
  simp only [nn0, Int.toNat_natCast, g1, setC, go_sem, Nat.reduceEqDiff, Nat.reduceAdd, Nat.reduceLeDiff, List.length_map]
  generalize l.getD i noM = s at *
  refine ⟨hone_s _, hone_s _, by omega, by omega, ?_⟩
  simp only [hup, go_sem, Nat.reduceEqDiff, Nat.reduceAdd, Nat.reduceLeDiff, List.length_map]
  refine invN_next hi' trivial ?_
  simp only [hnx, List.map_append, go_sem, Nat.reduceEqDiff, Nat.reduceAdd, Nat.reduceLeDiff, List.length_map]
 ·have : i = l.length := by simp at h; omega
  subst this
  rw [List.take_length] at hlen ⊢
  simp only [go_sem, Nat.reduceEqDiff, Nat.reduceAdd, Nat.reduceLeDiff, List.length_map]
  refine callT_by rfl rfl rfl (kSortS (strsOf l) (by omega)) ?_
  rintro es' r ⟨rfl, rfl⟩
  simp only [go_sem, Nat.reduceEqDiff, Nat.reduceAdd, Nat.reduceLeDiff, List.length_map]
  refine callK_by rfl rfl rfl (kCompactS (sortS (strsOf l)) (by rw [sortS_len]; omega)) ?_
  rintro es' r rfl
  simp only [go_sem, Nat.reduceEqDiff, Nat.reduceAdd, Nat.reduceLeDiff, List.length_map]
  rfl
theorem setC_len (l : List SetM) : ∀ e ∈ l.map setC, e.length = 4 := fun e he => by obtain ⟨n, -, rfl⟩ := List.mem_map.1 he; rfl
theorem kCloneSet (es : List (List D)) (h2 : ∀ e ∈ es, e.length = 4) (hl : es.length ≤ 1000000) : PureAt Tryz.prog 40 [.sl none es] (· = .sl none es) := by
 refine pure_of r40 (by kernel_rfl) ?_
 unfold m40
 simp only [go_sem, Nat.reduceEqDiff, Nat.reduceAdd, Nat.reduceLeDiff, List.length_map]
 intro b hb
 refine condE_split (fun h => ?_) (fun h => ?_)
 ·simp only [go_sem, Nat.reduceEqDiff, Nat.reduceAdd, Nat.reduceLeDiff, List.length_map]
  simp_all
 ·simp only [List.length_append, List.nil_append, go_sem, Nat.reduceEqDiff, Nat.reduceAdd, Nat.reduceLeDiff, List.length_map]
  simp only [Nat.zero_add]
  refine ⟨h2, by omega, by omega⟩
theorem kIndexFuncSet (f : FuncId) (caps : List D) (hz : frzL caps = some caps) (ht : tagsL caps = []) (xs : List SetM) (hx : xs.length ≤ 1000000) (p : SetM → Bool) (hf : ∀ s, s ∈ xs → PureAt Tryz.prog f (.agg (setC s) :: caps) (· = .val (.bool (p s)))) :
    PureAt Tryz.prog 52 [.sl none (xs.map setC), .fn f [] caps] (· = .val (.int .i64 (idxOf p xs))) := by
 refine pure_of r52 (by kernel_rfl) ?_
 unfold m52
 simp only [go_sem, Nat.reduceEqDiff, Nat.reduceAdd, Nat.reduceLeDiff, List.length_map]
 refine loop_N xs.length (fun i => ∀ j, j < i → p (xs.getD j noM) = false) (fun i => ⟨[(0, .sl none (xs.map setC)), (1, .fn f [] caps), (7, .val (.int .i64 xs.length)), (8, .val (.int .i64 i))], [], []⟩) (fun j hj => by omega) (by simp only [go_sem, Nat.reduceEqDiff, Nat.reduceAdd, Nat.reduceLeDiff, List.length_map]; rfl) ?_
 intro i hil hp
 simp only [go_sem, Nat.reduceEqDiff, Nat.reduceAdd, Nat.reduceLeDiff, List.length_map]
 refine condE_split (fun h => ?_) (fun h => ?_)
 ·have hi' : i < xs.length := by simpa using h
  have hup : IntKind.i64.wrap ((i : Int) + 1) = ((i + 1 : Nat) : Int) := by rw [wrap64 (by omega) (by omega)]; rfl
  have g1 := get_setC hi'
  simp only [nn0, Int.toNat_natCast, g1, setC, go_sem, Nat.reduceEqDiff, Nat.reduceAdd, Nat.reduceLeDiff, List.length_map]
  refine callP_eq (d := .val (.bool (p (xs.getD i noM)))) (fs := .agg (setC (xs.getD i noM)) :: caps) (by simp only [hz, setC, go_sem, Nat.reduceEqDiff, Nat.reduceAdd, Nat.reduceLeDiff, List.length_map]) (by simp only [liveAll, ht, setC, go_sem, Nat.reduceEqDiff, Nat.reduceAdd, Nat.reduceLeDiff, List.length_map]) (hf _ (setD_mem hi')) ?_
  simp only [ht, List.append_nil, go_sem, Nat.reduceEqDiff, Nat.reduceAdd, Nat.reduceLeDiff, List.length_map]
  refine condE_split (fun h2 => ?_) (fun h2 => ?_)
  ·simp only [go_sem, Nat.reduceEqDiff, Nat.reduceAdd, Nat.reduceLeDiff, List.length_map]
   congr 3
   have ha : xs.any p = true := List.any_eq_true.2 ⟨_, setD_mem hi', h2⟩
   rw [idxOf, if_pos ha]
   have := (List.findIdx_eq hi').2 ⟨by have := h2; simpa [hi'] using this, fun j hj => by have := hp j hj; simpa [show j < xs.length by omega] using this⟩
   rw [this]
  ·simp only [hup, go_sem, Nat.reduceEqDiff, Nat.reduceAdd, Nat.reduceLeDiff, List.length_map]
   exact invN_next hi' (nextP hp h2) (by simp only [go_sem, Nat.reduceEqDiff, Nat.reduceAdd, Nat.reduceLeDiff, List.length_map])
 ·have hil' : i = xs.length := by simp at h; omega
  subst hil'
  simp only [go_sem, Nat.reduceEqDiff, Nat.reduceAdd, Nat.reduceLeDiff, List.length_map]
  have ha : ¬ xs.any p = true := by
   intro ha
   obtain ⟨x, hx, hpx⟩ := List.any_eq_true.1 ha
   obtain ⟨j, hj, rfl⟩ := List.getElem_of_mem hx
   have := hp j hj
   simp [hj] at this
   rw [this] at hpx; cases hpx
  rw [idxOf, if_neg ha]
theorem kCutF (s : SetM) (hi : s.ints.length ≤ 100000) (hs : s.strs.length ≤ 100000) (hb : Bnd s) : PureAt Tryz.prog 41 [.agg (setC s)] (· = .val (.bool (!rightM s))) := by
 refine pure_of r41 (by kernel_rfl) ?_
 unfold m41
 simp only [setC, go_sem, Nat.reduceEqDiff, Nat.reduceAdd, Nat.reduceLeDiff, List.length_map]
 have p := ksetRight s hi hs hb
 unfold setC at p
 refine callP_eq rfl rfl p ?_
 simp only [go_sem, Nat.reduceEqDiff, Nat.reduceAdd, Nat.reduceLeDiff, List.length_map]
theorem kDeleteSet (l : List SetM) (hl : l.length ≤ 1000000) (hs : ∀ s ∈ l, s.ints.length ≤ 100000 ∧ s.strs.length ≤ 100000) (hb : ∀ s ∈ l, Bnd s) (hr : ∀ s ∈ l, rightM s = true) :
    PureAt Tryz.prog 39 [.sl none (l.map setC), .fn 41 [] []] (· = .sl none (l.map setC)) := by
 have hi := kIndexFuncSet 41 [] rfl rfl l hl (fun s => !rightM s) (fun s h => kCutF s (hs s h).1 (hs s h).2 (hb s h))
 have hx : idxOf (fun s => !rightM s) l = -1 := by
  have ha : ¬ l.any (fun s => !rightM s) = true := fun ha => by
   obtain ⟨x, hx, hpx⟩ := List.any_eq_true.1 ha
   rw [hr x hx] at hpx; cases hpx
  rw [idxOf, if_neg ha]
 rw [hx] at hi
 refine pure_of r39 (by kernel_rfl) ?_
 unfold m39
 simp only [go_sem, Nat.reduceEqDiff, Nat.reduceAdd, Nat.reduceLeDiff, List.length_map]
 refine callP_eq rfl rfl hi ?_
 simp only [beq_self_eq_true, go_sem, Nat.reduceEqDiff, Nat.reduceAdd, Nat.reduceLeDiff, List.length_map]
end Go.Proofs

namespace Go.Proofs
open Go.Vm
set_option linter.unusedSimpArgs false
def loW (E : List Int) (j : Nat) : Int := if j = 0 then minI else IntKind.i64.wrap (E.getD (j - 1) 0 + 1)
theorem loW_at {r : List SetM} (h : AllOK r) {j : Nat} (hj : j < (endsM r).length) : loW (endsM r) j = loAt (endsM r) j := by
 unfold loW loAt
 split
 ·rfl
 ·have e1 := incr_get (endsM_incr r) (i := j - 1) (j := j) (by omega) hj
  have e2 := ends_in h _ (getD_in hj)
  have e3 := ends_in h _ (getD_in (E := endsM r) (j := j - 1) (by omega))
  unfold maxI at e2
  unfold minI at e3
  exact wrap64 (by omega) (by omega)
def absS : SetM := ⟨true, [], false, []⟩
def cut1 (r : List SetM) (j : Nat) : List SetM := absS :: cellsI minI ((endsM r).take j)
def cut2 (r : List SetM) (k : Nat) : List SetM := absS :: (cellsI minI (endsM r) ++ ((namesM r).take k).map cellS)
def stC1 (r : List SetM) (j : Nat) : St := ⟨[(0, .sl none (r.map setC)), (3, .sl (some (14, 31, 4)) ((cut1 r j).map setC)), (4, .val (.int .i64 (loW (endsM r) j))), (16, .sl none (intsC (endsM r))), (17, .val (.int .i64 (endsM r).length)), (18, .val (.int .i64 j))], [], [((14, 31, 4), true)]⟩
def stC2 (r : List SetM) (k : Nat) : St := ⟨[(3, .sl (some (14, 31, 4)) ((cut2 r k).map setC)), (7, .sl none ((namesM r).map encSt)), (35, .sl none ((namesM r).map encSt)), (36, .val (.int .i64 (namesM r).length)), (37, .val (.int .i64 k))], [], [((14, 31, 4), true)]⟩
theorem get_encSt {l : List ByteArray} {i : Nat} (h : i < l.length) : (l.map encSt)[i]? = some [.val (.string (l.getD i ⟨#[]⟩))] := by
 rw [List.getElem?_map, List.getElem?_eq_getElem h]; simp [h, encSt]
theorem get_ints {l : List Int} {i : Nat} (h : i < l.length) : (intsC l)[i]? = some [.val (.int .i64 (l.getD i 0))] := by
 unfold intsC
 rw [List.getElem?_map, List.getElem?_eq_getElem h]; simp [h]
theorem cut1_len (r : List SetM) {j : Nat} (hj : j ≤ (endsM r).length) : (cut1 r j).length = j + 1 := by
 unfold cut1
 rw [List.length_cons, cellsI_len, List.length_take]; omega
theorem cut2_len (r : List SetM) {k : Nat} (hk : k ≤ (namesM r).length) : (cut2 r k).length = (endsM r).length + k + 1 := by
 unfold cut2
 simp [cellsI_len]; omega
set_option maxHeartbeats 8000000 in
theorem kCut (r : List SetM) (h : AllOK r) (hl : r.length ≤ 100) (hs : ∀ s ∈ r, s.ints.length ≤ 400 ∧ s.strs.length ≤ 400) : PureAt Tryz.prog 12 [.sl none (r.map setC)] (· = .sl none ((cutR r).map setC)) := by
 have hE : (endsM r).length ≤ 100000 := by
  have := ends_len r
  have h3 := rgsOf_len (r := r) (k := 400) (fun s m => (hs s m).1)
  have : 400 * r.length ≤ 400 * 100 := Nat.mul_le_mul_left _ hl
  omega
 have hN : (namesM r).length ≤ 100000 := by
  have := names_len r
  have h3 := strsOf_len (r := r) (k := 400) (fun s m => (hs s m).2)
  have : 400 * r.length ≤ 400 * 100 := Nat.mul_le_mul_left _ hl
  omega
 have p1 := kCloneSet (r.map setC) (setC_len r) (by rw [List.length_map]; omega)
 have p2 := kDeleteSet r (by omega) (fun s m => ⟨by have := (hs s m).1; omega, by have := (hs s m).2; omega⟩) (fun s m => (h s m).inb) (fun s m => (h s m).right)
 have p3 := kcEnds r (by omega) (fun s m => (hs s m).1) (fun s m => (h s m).inb)
 have p4 := kcNames r (by omega) (fun s m => (hs s m).2)
 refine pure_of r12 (by kernel_rfl) ?_
 unfold m12
 simp only [go_sem, Nat.reduceEqDiff, Nat.reduceAdd, Nat.reduceLeDiff, List.length_map]
 refine callP_eq rfl rfl p1 ?_
 simp only [go_sem, Nat.reduceEqDiff, Nat.reduceAdd, Nat.reduceLeDiff, List.length_map]
 refine callP_eq rfl rfl p2 ?_
 simp only [go_sem, Nat.reduceEqDiff, Nat.reduceAdd, Nat.reduceLeDiff, List.length_map]
 refine callP_eq rfl rfl p3 ?_
 simp only [go_sem, Nat.reduceEqDiff, Nat.reduceAdd, Nat.reduceLeDiff, List.length_map]
 refine loop_N (endsM r).length (fun _ => True) (stC1 r) trivial (by simp only [stC1, cut1, loW, absS, List.take_zero, cellsI, setC, List.map_cons, List.map_nil, if_true, go_sem, Nat.reduceEqDiff, Nat.reduceAdd, Nat.reduceLeDiff, List.length_map]; rfl) ?_
 rintro j hj -
 have hcl := cut1_len r hj
 simp only [stC1]
 simp only [go_sem, Nat.reduceEqDiff, Nat.reduceAdd, Nat.reduceLeDiff, List.length_map]
 refine condE_split (fun hc => ?_) (fun hc => ?_)
 ·have hj' : j < (endsM r).length := by simpa using hc
  have hup := up64 (show j < 1000000 by omega)
  have g1 := get_ints hj'
  have hlo := loW_at h hj'
  have hnx : cut1 r (j + 1) = cut1 r j ++ [cellN (loAt (endsM r) j) ((endsM r).getD j 0)] := by
   unfold cut1
   rw [cellsI_take _ hj', List.cons_append]
  have hlw : loW (endsM r) (j + 1) = IntKind.i64.wrap ((endsM r).getD j 0 + 1) := by unfold loW; rw [if_neg (by omega)]; rfl
  have hsl := setC_len (cut1 r j)
  simp only [nn0, Int.toNat_natCast, g1, hlo, go_sem, Nat.reduceEqDiff, Nat.reduceAdd, Nat.reduceLeDiff, List.length_map]
  refine ⟨hsl, by rintro y rfl; rfl, by omega, by omega, ?_⟩
  simp only [hup, go_sem, Nat.reduceEqDiff, Nat.reduceAdd, Nat.reduceLeDiff, List.length_map]
  refine invN_next hj' trivial ?_
  simp only [stC1, intsC, hnx, hlw, cellN, setC, List.map_append, List.map_cons, List.map_nil, encR, go_sem, Nat.reduceEqDiff, Nat.reduceAdd, Nat.reduceLeDiff, List.length_map]
  rfl
 ·have : j = (endsM r).length := by simp at hc; omega
  subst this
  have h20 : cut1 r (endsM r).length = cut2 r 0 := by unfold cut1 cut2; rw [List.take_length, List.take_zero]; simp
  rw [h20]
  simp only [go_sem, Nat.reduceEqDiff, Nat.reduceAdd, Nat.reduceLeDiff, List.length_map]
  refine callP_eq rfl rfl p4 ?_
  simp only [go_sem, Nat.reduceEqDiff, Nat.reduceAdd, Nat.reduceLeDiff, List.length_map]
  refine loop_N (namesM r).length (fun _ => True) (stC2 r) trivial (by simp only [stC2, go_sem, Nat.reduceEqDiff, Nat.reduceAdd, Nat.reduceLeDiff, List.length_map]; rfl) ?_
  rintro k hk -
  have hcl2 := cut2_len r hk
  have hsl := setC_len (cut2 r k)
  simp only [stC2]
  simp only [go_sem, Nat.reduceEqDiff, Nat.reduceAdd, Nat.reduceLeDiff, List.length_map]
  refine condE_split (fun hc => ?_) (fun hc => ?_)
  ·have hk' : k < (namesM r).length := by simpa using hc
   have hup := up64 (show k < 1000000 by omega)
   have g1 := get_encSt hk'
   have hnx : cut2 r (k + 1) = cut2 r k ++ [cellS ((namesM r).getD k ⟨#[]⟩)] := by
    unfold cut2
    rw [List.take_succ_eq_append_getElem hk', List.map_append, List.cons_append, List.append_assoc]
    simp [hk']
   simp only [nn0, Int.toNat_natCast, g1, go_sem, Nat.reduceEqDiff, Nat.reduceAdd, Nat.reduceLeDiff, List.length_map]
   refine ⟨hsl, by rintro y rfl; rfl, by omega, by omega, ?_⟩
   simp only [hup, go_sem, Nat.reduceEqDiff, Nat.reduceAdd, Nat.reduceLeDiff, List.length_map]
   refine invN_next hk' trivial ?_
   simp only [stC2, hnx, cellS, setC, List.map_append, List.map_cons, List.map_nil, encSt, go_sem, Nat.reduceEqDiff, Nat.reduceAdd, Nat.reduceLeDiff, List.length_map]
   rfl
  ·have : k = (namesM r).length := by simp at hc; omega
   subst this
   have hfin : cut2 r (namesM r).length ++ [⟨false, [], true, namesM r⟩] = cutR r := by
    unfold cut2 cutR
    rw [List.take_length, List.cons_append, List.append_assoc]; rfl
   simp only [go_sem, Nat.reduceEqDiff, Nat.reduceAdd, Nat.reduceLeDiff, List.length_map]
   refine ⟨hsl, by rintro y rfl; rfl, by omega, by omega, ?_⟩
   rw [← hfin]
   simp only [setC, List.map_append, List.map_cons, List.map_nil, go_sem, Nat.reduceEqDiff, Nat.reduceAdd, Nat.reduceLeDiff, List.length_map]
end Go.Proofs
