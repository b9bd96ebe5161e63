/- A part of the proof; what is proved stands in the last text. -/
import Derived.Test.YtipppgiimemloaaGreatNA
set_option linter.unusedVariables false
set_option maxRecDepth 2000

namespace Go.Proofs
open Go.Vm
set_option linter.unusedSimpArgs false

def anB (a b : SetM) (is : List Rg) (ss : List ByteArray) : List D := [.val (.bool (a.absent && b.absent)), .sl (some (5, 114, 2)) (is.map encR), .val (.bool (a.co && b.co)), .sl (some (5, 9, 1)) (ss.map encSt)]
def setD (s : SetM) : List D := [.val (.bool s.absent), .sl none (s.ints.map encR), .val (.bool s.co), .sl none (s.strs.map encSt)]
theorem filterMap_next {α β : Type} (f : α → Option β) {l : List α} {k : Nat} (h : k < l.length) : (l.take (k + 1)).filterMap f = (l.take k).filterMap f ++ (f l[k]).toList := by
  rw [List.take_succ_eq_append_getElem h, List.filterMap_append]
  simp only [List.filterMap_cons, List.filterMap_nil]
  cases f l[k] <;> rfl
theorem intI_next {a : List Rg} (b : List Rg) {i : Nat} (h : i < a.length) : intI (a.take (i + 1)) b = intI (a.take i) b ++ b.filterMap (interR a[i]) := by
  rw [intI, List.take_succ_eq_append_getElem h, List.flatMap_append]; simp [intI]
set_option maxHeartbeats 8000000 in
theorem kand6' (a b : SetM) (ha : a.ints.length ≤ 450) (hs : a.strs.length ≤ 450) (hb : b.ints.length ≤ 450) (ht : b.strs.length ≤ 450) : PureAt Tryz.prog 133 [.agg (setC a), .agg (setC b)] (· = .agg (setC (and6M a b))) := by
  have fil : ∀ i, (intI (a.ints.take i) b.ints).length ≤ 450 * 450 := fun i => Nat.le_trans (intI_len _ _) (Nat.mul_le_mul (by rw [List.length_take]; omega) hb)
  refine pure_of r133 (by kernel_rfl) ?_
  unfold m133
  simp only [setC, go_sem, Nat.reduceEqDiff, Nat.reduceAdd, decide_false, true_and, ↓reduceIte]
  cases hA : a.absent <;> cases hC : a.co
  · simp only [go_sem, Nat.reduceEqDiff, Nat.reduceAdd, Nat.reduceLeDiff, decide_false, Nat.reduceLT, true_and, and_self, ↓reduceIte]
    refine loop_N a.ints.length (fun _ => True) (fun i => ⟨[(2, .ptr 2 0), (3, .ptr 3 0), (4, .ptr 4 0), (5, .ptr 5 0), (6, .val (.int .i64 i))],
      [(2, setD a), (3, setD b), (4, [.val (.bool false), .sl none [], .val (.bool false), .sl none []]), (5, anB a b (intI (a.ints.take i) b.ints) [])], [((5, 114, 2), true), ((5, 9, 1), true)]⟩) trivial (by simp only [setD, anB, hA, hC, go_sem, Nat.reduceEqDiff]; rfl) ?_
    rintro i hi -
    have hil := fil i
    have ci : decide ((i : Int) < (a.ints.length : Int)) = decide (i < a.ints.length) := by rw [decide_eq_decide]; omega
    simp only [setD, ci, go_sem, Nat.reduceEqDiff, Nat.reduceAdd, List.length_map, true_and, and_self, ↓reduceIte]
    cases d1 : decide (i < a.ints.length)
    · have hie : i = a.ints.length := by have := of_decide_eq_false d1; omega
      subst hie
      rw [List.take_length] at hil ⊢
      simp only [go_sem, Nat.reduceEqDiff, Nat.reduceAdd, true_and, and_self, ↓reduceIte]
      refine callP_eq rfl rfl (kmerge6 a.strs b.strs (by omega) (by omega)) ?_
      simp only [go_sem, Nat.reduceEqDiff, true_and, and_self, ↓reduceIte]
      refine loop_N (mrg a.strs b.strs).length (fun _ => True) (fun i => ⟨[(2, .ptr 2 0), (3, .ptr 3 0), (4, .ptr 4 0), (5, .ptr 5 0), (10, .sl none ((mrg a.strs b.strs).map encSt)), (11, .val (.int .i64 i))],
        [(2, setD a), (3, setD b), (4, [.val (.bool false), .sl none [], .val (.bool false), .sl none []]), (5, anB a b (intI a.ints b.ints) (((mrg a.strs b.strs).take i).filter fun t => (innB a t && innB b t) != (a.co && b.co)))], [((5, 114, 2), true), ((5, 9, 1), true)]⟩) trivial (by simp only [setD, go_sem, Nat.reduceEqDiff]; rfl) ?_
      rintro i hi -
      have ml := mrg_len a.strs b.strs
      have fl : ((((mrg a.strs b.strs).take i).filter fun t => (innB a t && innB b t) != (a.co && b.co))).length ≤ 1000 := Nat.le_trans (List.length_filter_le _ _) (by rw [List.length_take]; omega)
      have ck : decide ((i : Int) < ((mrg a.strs b.strs).length : Int)) = decide (i < (mrg a.strs b.strs).length) := by rw [decide_eq_decide]; omega
      simp only [setD, ck, go_sem, Nat.reduceEqDiff, List.length_map, true_and, and_self, ↓reduceIte]
      cases d2 : decide (i < (mrg a.strs b.strs).length)
      · have hie : i = (mrg a.strs b.strs).length := by have := of_decide_eq_false d2; omega
        subst hie
        rw [List.take_length]
        simp only [anB, go_sem, Nat.reduceEqDiff, Nat.reduceAdd, Nat.reduceLeDiff, true_and, and_self, ↓reduceIte]
        rfl
      · have hi2 := of_decide_eq_true d2
        have hg := get_St hi2
        have hnx : ∀ (hh : i < (mrg a.strs b.strs).length), (((mrg a.strs b.strs).take (i + 1)).filter fun t => (innB a t && innB b t) != (a.co && b.co)) = (((mrg a.strs b.strs).take i).filter fun t => (innB a t && innB b t) != (a.co && b.co)) ++ (if ((innB a (mrg a.strs b.strs)[i] && innB b (mrg a.strs b.strs)[i]) != (a.co && b.co)) = true then [(mrg a.strs b.strs)[i]] else []) := fun hh => by
          rw [List.take_succ_eq_append_getElem hh, List.filter_append, List.filter_cons, List.filter_nil]
        have hnx := hnx hi2
        have w1 : IntKind.i64.wrap ((i : Int) + 1) = ((i + 1 : Nat) : Int) := by rw [wrap64 (by omega) (by omega)]; omega
        generalize (mrg a.strs b.strs)[i] = t at *
        have p1 := kInStrs a.strs (by omega) t
        have p2 := kInStrs b.strs (by omega) t
        simp only [nn0, Int.toNat_natCast, hg, go_sem, Nat.reduceEqDiff, Nat.reduceAdd, true_and, and_self, ↓reduceIte]
        refine callQ_by _ rfl rfl p1 ?_
        have q1 : (((a.strs.any fun x => decide (t = x)) == a.co) != true) = innB a t := by unfold innB; cases (a.strs.any fun x => decide (t = x)) <;> cases a.co <;> rfl
        have q2 : (((b.strs.any fun x => decide (t = x)) == b.co) != true) = innB b t := by unfold innB; cases (b.strs.any fun x => decide (t = x)) <;> cases b.co <;> rfl
        have q3 : ∀ z : Bool, ((z == (a.co && b.co)) != true) = (z != (a.co && b.co)) := fun z => by cases z <;> cases (a.co && b.co) <;> rfl
        have hco : anB a b (intI a.ints b.ints) (((mrg a.strs b.strs).take i).filter fun t => (innB a t && innB b t) != (a.co && b.co)) = [.val (.bool (a.absent && b.absent)), .sl (some (5, 114, 2)) ((intI a.ints b.ints).map encR), .val (.bool (a.co && b.co)), .sl (some (5, 9, 1)) ((((mrg a.strs b.strs).take i).filter fun t => (innB a t && innB b t) != (a.co && b.co)).map encSt)] := rfl
        generalize (((mrg a.strs b.strs).take i).filter fun t => (innB a t && innB b t) != (a.co && b.co)) = fo at *
        rw [hco]
        simp only [q1, go_sem, Nat.reduceEqDiff, Nat.reduceAdd, ↓reduceIte]
        cases i1 : innB a t
        · rw [i1, Bool.false_and] at hnx
          simp only [q3, go_sem, Nat.reduceEqDiff, Nat.reduceAdd, true_and, and_self, ↓reduceIte]
          generalize hz : (_ != (a.co && b.co)) = z at hnx ⊢
          cases z
          · rw [if_neg (by simp), List.append_nil] at hnx
            simp only [w1, go_sem, Nat.reduceEqDiff, true_and, and_self, ↓reduceIte]
            refine invN_next hi2 trivial ?_
            simp only [hnx, anB, go_sem, Nat.reduceEqDiff, true_and, and_self, ↓reduceIte]
          · rw [if_pos rfl] at hnx
            simp only [nn0, Int.toNat_natCast, hg, go_sem, Nat.reduceEqDiff, Nat.reduceAdd, Nat.reduceLeDiff, List.length_map, decide_true, decide_false, true_and, and_self, ↓reduceIte]
            refine ⟨encSts_len _, (by rintro _ rfl; rfl), (by omega), (by omega), ?_⟩
            simp only [w1, go_sem]
            refine invN_next hi2 trivial ?_
            simp only [hnx, anB, List.map_append, List.map_cons, List.map_nil, encSt, go_sem, Nat.reduceEqDiff, true_and, and_self, ↓reduceIte]
        · rw [i1, Bool.true_and] at hnx
          simp only [nn0, Int.toNat_natCast, hg, go_sem, Nat.reduceEqDiff, Nat.reduceAdd, ↓reduceIte]
          refine callQ_by _ rfl rfl p2 ?_
          simp only [q2, q3, go_sem, Nat.reduceEqDiff, Nat.reduceAdd, true_and, and_self, ↓reduceIte]
          generalize hz : (_ != (a.co && b.co)) = z at hnx ⊢
          cases z
          · rw [if_neg (by simp), List.append_nil] at hnx
            simp only [w1, go_sem, Nat.reduceEqDiff, true_and, and_self, ↓reduceIte]
            refine invN_next hi2 trivial ?_
            simp only [hnx, anB, go_sem, Nat.reduceEqDiff, true_and, and_self, ↓reduceIte]
          · rw [if_pos rfl] at hnx
            simp only [nn0, Int.toNat_natCast, hg, go_sem, Nat.reduceEqDiff, Nat.reduceAdd, Nat.reduceLeDiff, List.length_map, decide_true, decide_false, true_and, and_self, ↓reduceIte]
            refine ⟨encSts_len _, (by rintro _ rfl; rfl), (by omega), (by omega), ?_⟩
            simp only [w1, go_sem]
            refine invN_next hi2 trivial ?_
            simp only [hnx, anB, List.map_append, List.map_cons, List.map_nil, encSt, go_sem, Nat.reduceEqDiff, true_and, and_self, ↓reduceIte]
    · have hi1 := of_decide_eq_true d1
      have hgi : (a.ints.map encR)[i]? = some (encR a.ints[i]) := by rw [List.getElem?_map, List.getElem?_eq_getElem hi1]; rfl
      have hnx := intI_next b.ints hi1
      generalize hx : a.ints[i] = x at *
      simp only [go_sem, Nat.reduceEqDiff, true_and, and_self, ↓reduceIte]
      refine loop_N b.ints.length (fun _ => True) (fun k => ⟨[(2, .ptr 2 0), (3, .ptr 3 0), (4, .ptr 4 0), (5, .ptr 5 0), (6, .val (.int .i64 i)), (7, .val (.int .i64 k))],
        [(2, setD a), (3, setD b), (4, [.val (.bool false), .sl none [], .val (.bool false), .sl none []]), (5, anB a b (intI (a.ints.take i) b.ints ++ (b.ints.take k).filterMap (interR x)) [])], [((5, 114, 2), true), ((5, 9, 1), true)]⟩) trivial (by simp only [setD, go_sem, Nat.reduceEqDiff]; simp) ?_
      rintro k hk -
      have hkl : ((b.ints.take k).filterMap (interR x)).length ≤ 450 := Nat.le_trans (List.length_filterMap_le _ _) (by rw [List.length_take]; omega)
      have ck : decide ((k : Int) < (b.ints.length : Int)) = decide (k < b.ints.length) := by rw [decide_eq_decide]; omega
      simp only [setD, ck, go_sem, Nat.reduceEqDiff, Nat.reduceAdd, List.length_map, true_and, and_self, ↓reduceIte]
      cases d2 : decide (k < b.ints.length)
      · have hke : k = b.ints.length := by have := of_decide_eq_false d2; omega
        subst hke
        rw [List.take_length]
        have w1 : IntKind.i64.wrap ((i : Int) + 1) = ((i + 1 : Nat) : Int) := by rw [wrap64 (by omega) (by omega)]; omega
        simp only [w1, go_sem, Nat.reduceEqDiff, true_and, and_self, ↓reduceIte]
        refine invN_next hi1 trivial ?_
        simp only [hnx, go_sem, Nat.reduceEqDiff, true_and, and_self, ↓reduceIte]
      · have hk1 := of_decide_eq_true d2
        have hgk : (b.ints.map encR)[k]? = some (encR b.ints[k]) := by rw [List.getElem?_map, List.getElem?_eq_getElem hk1]; rfl
        have hnk := filterMap_next (interR x) hk1
        generalize b.ints[k] = y at *
        simp only [nn0, Int.toNat_natCast, hgi, hgk, encR, go_sem, Nat.reduceEqDiff, Nat.reduceAdd, true_and, and_self, ↓reduceIte]
        have hiR : interR x y = if decide ((if y.1 > x.1 then y.1 else x.1) ≤ (if y.2 < x.2 then y.2 else x.2)) = true then some ((if y.1 > x.1 then y.1 else x.1), (if y.2 < x.2 then y.2 else x.2)) else none := by unfold interR; simp only [decide_eq_true_eq]
        have w1 : IntKind.i64.wrap ((k : Int) + 1) = ((k + 1 : Nat) : Int) := by rw [wrap64 (by omega) (by omega)]; omega
        generalize (if y.1 > x.1 then y.1 else x.1) = lo at *
        generalize (if y.2 < x.2 then y.2 else x.2) = hi2 at *
        cases d3 : decide (lo ≤ hi2)
        · rw [d3] at hiR
          rw [if_neg (by simp)] at hiR
          rw [hiR] at hnk
          simp only [w1, go_sem, Nat.reduceEqDiff, true_and, and_self, ↓reduceIte]
          refine invN_next hk1 trivial ?_
          simp only [hnk, Option.toList_none, List.append_nil, go_sem, Nat.reduceEqDiff, true_and, and_self, ↓reduceIte]
        · rw [d3] at hiR
          rw [if_pos rfl] at hiR
          rw [hiR] at hnk
          simp only [anB, go_sem, Nat.reduceEqDiff, Nat.reduceAdd, Nat.reduceLeDiff, List.length_map, decide_true, decide_false, true_and, and_self, ↓reduceIte]
          refine ⟨encRs_len _, (by rintro _ rfl; rfl), (by simp; omega), (by simp; omega), ?_⟩
          simp only [w1, go_sem]
          refine invN_next hk1 trivial ?_
          simp only [hnk, Option.toList_some, List.map_append, List.map_cons, List.map_nil, encR, List.append_assoc, go_sem, Nat.reduceEqDiff, true_and, and_self, ↓reduceIte]
  · simp only [go_sem, Nat.reduceEqDiff, Nat.reduceAdd, Nat.reduceLeDiff, decide_false, Nat.reduceLT, true_and, and_self, ↓reduceIte]
    refine loop_N a.ints.length (fun _ => True) (fun i => ⟨[(2, .ptr 2 0), (3, .ptr 3 0), (4, .ptr 4 0), (5, .ptr 5 0), (6, .val (.int .i64 i))],
      [(2, setD a), (3, setD b), (4, [.val (.bool false), .sl none [], .val (.bool false), .sl none []]), (5, anB a b (intI (a.ints.take i) b.ints) [])], [((5, 114, 2), true), ((5, 9, 1), true)]⟩) trivial (by simp only [setD, anB, hA, hC, go_sem, Nat.reduceEqDiff]; rfl) ?_
    rintro i hi -
    have hil := fil i
    have ci : decide ((i : Int) < (a.ints.length : Int)) = decide (i < a.ints.length) := by rw [decide_eq_decide]; omega
    simp only [setD, ci, go_sem, Nat.reduceEqDiff, Nat.reduceAdd, List.length_map, true_and, and_self, ↓reduceIte]
    cases d1 : decide (i < a.ints.length)
    · have hie : i = a.ints.length := by have := of_decide_eq_false d1; omega
      subst hie
      rw [List.take_length] at hil ⊢
      simp only [go_sem, Nat.reduceEqDiff, Nat.reduceAdd, true_and, and_self, ↓reduceIte]
      refine callP_eq rfl rfl (kmerge6 a.strs b.strs (by omega) (by omega)) ?_
      simp only [go_sem, Nat.reduceEqDiff, true_and, and_self, ↓reduceIte]
      refine loop_N (mrg a.strs b.strs).length (fun _ => True) (fun i => ⟨[(2, .ptr 2 0), (3, .ptr 3 0), (4, .ptr 4 0), (5, .ptr 5 0), (10, .sl none ((mrg a.strs b.strs).map encSt)), (11, .val (.int .i64 i))],
        [(2, setD a), (3, setD b), (4, [.val (.bool false), .sl none [], .val (.bool false), .sl none []]), (5, anB a b (intI a.ints b.ints) (((mrg a.strs b.strs).take i).filter fun t => (innB a t && innB b t) != (a.co && b.co)))], [((5, 114, 2), true), ((5, 9, 1), true)]⟩) trivial (by simp only [setD, go_sem, Nat.reduceEqDiff]; rfl) ?_
      rintro i hi -
      have ml := mrg_len a.strs b.strs
      have fl : ((((mrg a.strs b.strs).take i).filter fun t => (innB a t && innB b t) != (a.co && b.co))).length ≤ 1000 := Nat.le_trans (List.length_filter_le _ _) (by rw [List.length_take]; omega)
      have ck : decide ((i : Int) < ((mrg a.strs b.strs).length : Int)) = decide (i < (mrg a.strs b.strs).length) := by rw [decide_eq_decide]; omega
      simp only [setD, ck, go_sem, Nat.reduceEqDiff, List.length_map, true_and, and_self, ↓reduceIte]
      cases d2 : decide (i < (mrg a.strs b.strs).length)
      · have hie : i = (mrg a.strs b.strs).length := by have := of_decide_eq_false d2; omega
        subst hie
        rw [List.take_length]
        simp only [anB, go_sem, Nat.reduceEqDiff, Nat.reduceAdd, Nat.reduceLeDiff, true_and, and_self, ↓reduceIte]
        rfl
      · have hi2 := of_decide_eq_true d2
        have hg := get_St hi2
        have hnx : ∀ (hh : i < (mrg a.strs b.strs).length), (((mrg a.strs b.strs).take (i + 1)).filter fun t => (innB a t && innB b t) != (a.co && b.co)) = (((mrg a.strs b.strs).take i).filter fun t => (innB a t && innB b t) != (a.co && b.co)) ++ (if ((innB a (mrg a.strs b.strs)[i] && innB b (mrg a.strs b.strs)[i]) != (a.co && b.co)) = true then [(mrg a.strs b.strs)[i]] else []) := fun hh => by
          rw [List.take_succ_eq_append_getElem hh, List.filter_append, List.filter_cons, List.filter_nil]
        have hnx := hnx hi2
        have w1 : IntKind.i64.wrap ((i : Int) + 1) = ((i + 1 : Nat) : Int) := by rw [wrap64 (by omega) (by omega)]; omega
        generalize (mrg a.strs b.strs)[i] = t at *
        have p1 := kInStrs a.strs (by omega) t
        have p2 := kInStrs b.strs (by omega) t
        simp only [nn0, Int.toNat_natCast, hg, go_sem, Nat.reduceEqDiff, Nat.reduceAdd, true_and, and_self, ↓reduceIte]
        refine callQ_by _ rfl rfl p1 ?_
        have q1 : (((a.strs.any fun x => decide (t = x)) == a.co) != true) = innB a t := by unfold innB; cases (a.strs.any fun x => decide (t = x)) <;> cases a.co <;> rfl
        have q2 : (((b.strs.any fun x => decide (t = x)) == b.co) != true) = innB b t := by unfold innB; cases (b.strs.any fun x => decide (t = x)) <;> cases b.co <;> rfl
        have q3 : ∀ z : Bool, ((z == (a.co && b.co)) != true) = (z != (a.co && b.co)) := fun z => by cases z <;> cases (a.co && b.co) <;> rfl
        have hco : anB a b (intI a.ints b.ints) (((mrg a.strs b.strs).take i).filter fun t => (innB a t && innB b t) != (a.co && b.co)) = [.val (.bool (a.absent && b.absent)), .sl (some (5, 114, 2)) ((intI a.ints b.ints).map encR), .val (.bool (a.co && b.co)), .sl (some (5, 9, 1)) ((((mrg a.strs b.strs).take i).filter fun t => (innB a t && innB b t) != (a.co && b.co)).map encSt)] := rfl
        generalize (((mrg a.strs b.strs).take i).filter fun t => (innB a t && innB b t) != (a.co && b.co)) = fo at *
        rw [hco]
        simp only [q1, go_sem, Nat.reduceEqDiff, Nat.reduceAdd, ↓reduceIte]
        cases i1 : innB a t
        · rw [i1, Bool.false_and] at hnx
          simp only [q3, go_sem, Nat.reduceEqDiff, Nat.reduceAdd, true_and, and_self, ↓reduceIte]
          generalize hz : (_ != (a.co && b.co)) = z at hnx ⊢
          cases z
          · rw [if_neg (by simp), List.append_nil] at hnx
            simp only [w1, go_sem, Nat.reduceEqDiff, true_and, and_self, ↓reduceIte]
            refine invN_next hi2 trivial ?_
            simp only [hnx, anB, go_sem, Nat.reduceEqDiff, true_and, and_self, ↓reduceIte]
          · rw [if_pos rfl] at hnx
            simp only [nn0, Int.toNat_natCast, hg, go_sem, Nat.reduceEqDiff, Nat.reduceAdd, Nat.reduceLeDiff, List.length_map, decide_true, decide_false, true_and, and_self, ↓reduceIte]
            refine ⟨encSts_len _, (by rintro _ rfl; rfl), (by omega), (by omega), ?_⟩
            simp only [w1, go_sem]
            refine invN_next hi2 trivial ?_
            simp only [hnx, anB, List.map_append, List.map_cons, List.map_nil, encSt, go_sem, Nat.reduceEqDiff, true_and, and_self, ↓reduceIte]
        · rw [i1, Bool.true_and] at hnx
          simp only [nn0, Int.toNat_natCast, hg, go_sem, Nat.reduceEqDiff, Nat.reduceAdd, ↓reduceIte]
          refine callQ_by _ rfl rfl p2 ?_
          simp only [q2, q3, go_sem, Nat.reduceEqDiff, Nat.reduceAdd, true_and, and_self, ↓reduceIte]
          generalize hz : (_ != (a.co && b.co)) = z at hnx ⊢
          cases z
          · rw [if_neg (by simp), List.append_nil] at hnx
            simp only [w1, go_sem, Nat.reduceEqDiff, true_and, and_self, ↓reduceIte]
            refine invN_next hi2 trivial ?_
            simp only [hnx, anB, go_sem, Nat.reduceEqDiff, true_and, and_self, ↓reduceIte]
          · rw [if_pos rfl] at hnx
            simp only [nn0, Int.toNat_natCast, hg, go_sem, Nat.reduceEqDiff, Nat.reduceAdd, Nat.reduceLeDiff, List.length_map, decide_true, decide_false, true_and, and_self, ↓reduceIte]
            refine ⟨encSts_len _, (by rintro _ rfl; rfl), (by omega), (by omega), ?_⟩
            simp only [w1, go_sem]
            refine invN_next hi2 trivial ?_
            simp only [hnx, anB, List.map_append, List.map_cons, List.map_nil, encSt, go_sem, Nat.reduceEqDiff, true_and, and_self, ↓reduceIte]
    · have hi1 := of_decide_eq_true d1
      have hgi : (a.ints.map encR)[i]? = some (encR a.ints[i]) := by rw [List.getElem?_map, List.getElem?_eq_getElem hi1]; rfl
      have hnx := intI_next b.ints hi1
      generalize hx : a.ints[i] = x at *
      simp only [go_sem, Nat.reduceEqDiff, true_and, and_self, ↓reduceIte]
      refine loop_N b.ints.length (fun _ => True) (fun k => ⟨[(2, .ptr 2 0), (3, .ptr 3 0), (4, .ptr 4 0), (5, .ptr 5 0), (6, .val (.int .i64 i)), (7, .val (.int .i64 k))],
        [(2, setD a), (3, setD b), (4, [.val (.bool false), .sl none [], .val (.bool false), .sl none []]), (5, anB a b (intI (a.ints.take i) b.ints ++ (b.ints.take k).filterMap (interR x)) [])], [((5, 114, 2), true), ((5, 9, 1), true)]⟩) trivial (by simp only [setD, go_sem, Nat.reduceEqDiff]; simp) ?_
      rintro k hk -
      have hkl : ((b.ints.take k).filterMap (interR x)).length ≤ 450 := Nat.le_trans (List.length_filterMap_le _ _) (by rw [List.length_take]; omega)
      have ck : decide ((k : Int) < (b.ints.length : Int)) = decide (k < b.ints.length) := by rw [decide_eq_decide]; omega
      simp only [setD, ck, go_sem, Nat.reduceEqDiff, Nat.reduceAdd, List.length_map, true_and, and_self, ↓reduceIte]
      cases d2 : decide (k < b.ints.length)
      · have hke : k = b.ints.length := by have := of_decide_eq_false d2; omega
        subst hke
        rw [List.take_length]
        have w1 : IntKind.i64.wrap ((i : Int) + 1) = ((i + 1 : Nat) : Int) := by rw [wrap64 (by omega) (by omega)]; omega
        simp only [w1, go_sem, Nat.reduceEqDiff, true_and, and_self, ↓reduceIte]
        refine invN_next hi1 trivial ?_
        simp only [hnx, go_sem, Nat.reduceEqDiff, true_and, and_self, ↓reduceIte]
      · have hk1 := of_decide_eq_true d2
        have hgk : (b.ints.map encR)[k]? = some (encR b.ints[k]) := by rw [List.getElem?_map, List.getElem?_eq_getElem hk1]; rfl
        have hnk := filterMap_next (interR x) hk1
        generalize b.ints[k] = y at *
        simp only [nn0, Int.toNat_natCast, hgi, hgk, encR, go_sem, Nat.reduceEqDiff, Nat.reduceAdd, true_and, and_self, ↓reduceIte]
        have hiR : interR x y = if decide ((if y.1 > x.1 then y.1 else x.1) ≤ (if y.2 < x.2 then y.2 else x.2)) = true then some ((if y.1 > x.1 then y.1 else x.1), (if y.2 < x.2 then y.2 else x.2)) else none := by unfold interR; simp only [decide_eq_true_eq]
        have w1 : IntKind.i64.wrap ((k : Int) + 1) = ((k + 1 : Nat) : Int) := by rw [wrap64 (by omega) (by omega)]; omega
        generalize (if y.1 > x.1 then y.1 else x.1) = lo at *
        generalize (if y.2 < x.2 then y.2 else x.2) = hi2 at *
        cases d3 : decide (lo ≤ hi2)
        · rw [d3] at hiR
          rw [if_neg (by simp)] at hiR
          rw [hiR] at hnk
          simp only [w1, go_sem, Nat.reduceEqDiff, true_and, and_self, ↓reduceIte]
          refine invN_next hk1 trivial ?_
          simp only [hnk, Option.toList_none, List.append_nil, go_sem, Nat.reduceEqDiff, true_and, and_self, ↓reduceIte]
        · rw [d3] at hiR
          rw [if_pos rfl] at hiR
          rw [hiR] at hnk
          simp only [anB, go_sem, Nat.reduceEqDiff, Nat.reduceAdd, Nat.reduceLeDiff, List.length_map, decide_true, decide_false, true_and, and_self, ↓reduceIte]
          refine ⟨encRs_len _, (by rintro _ rfl; rfl), (by simp; omega), (by simp; omega), ?_⟩
          simp only [w1, go_sem]
          refine invN_next hk1 trivial ?_
          simp only [hnk, Option.toList_some, List.map_append, List.map_cons, List.map_nil, encR, List.append_assoc, go_sem, Nat.reduceEqDiff, true_and, and_self, ↓reduceIte]
  · simp only [go_sem, Nat.reduceEqDiff, Nat.reduceAdd, Nat.reduceLeDiff, decide_false, Nat.reduceLT, true_and, and_self, ↓reduceIte]
    refine loop_N a.ints.length (fun _ => True) (fun i => ⟨[(2, .ptr 2 0), (3, .ptr 3 0), (4, .ptr 4 0), (5, .ptr 5 0), (6, .val (.int .i64 i))],
      [(2, setD a), (3, setD b), (4, [.val (.bool false), .sl none [], .val (.bool false), .sl none []]), (5, anB a b (intI (a.ints.take i) b.ints) [])], [((5, 114, 2), true), ((5, 9, 1), true)]⟩) trivial (by simp only [setD, anB, hA, hC, go_sem, Nat.reduceEqDiff]; rfl) ?_
    rintro i hi -
    have hil := fil i
    have ci : decide ((i : Int) < (a.ints.length : Int)) = decide (i < a.ints.length) := by rw [decide_eq_decide]; omega
    simp only [setD, ci, go_sem, Nat.reduceEqDiff, Nat.reduceAdd, List.length_map, true_and, and_self, ↓reduceIte]
    cases d1 : decide (i < a.ints.length)
    · have hie : i = a.ints.length := by have := of_decide_eq_false d1; omega
      subst hie
      rw [List.take_length] at hil ⊢
      simp only [go_sem, Nat.reduceEqDiff, Nat.reduceAdd, true_and, and_self, ↓reduceIte]
      refine callP_eq rfl rfl (kmerge6 a.strs b.strs (by omega) (by omega)) ?_
      simp only [go_sem, Nat.reduceEqDiff, true_and, and_self, ↓reduceIte]
      refine loop_N (mrg a.strs b.strs).length (fun _ => True) (fun i => ⟨[(2, .ptr 2 0), (3, .ptr 3 0), (4, .ptr 4 0), (5, .ptr 5 0), (10, .sl none ((mrg a.strs b.strs).map encSt)), (11, .val (.int .i64 i))],
        [(2, setD a), (3, setD b), (4, [.val (.bool false), .sl none [], .val (.bool false), .sl none []]), (5, anB a b (intI a.ints b.ints) (((mrg a.strs b.strs).take i).filter fun t => (innB a t && innB b t) != (a.co && b.co)))], [((5, 114, 2), true), ((5, 9, 1), true)]⟩) trivial (by simp only [setD, go_sem, Nat.reduceEqDiff]; rfl) ?_
      rintro i hi -
      have ml := mrg_len a.strs b.strs
      have fl : ((((mrg a.strs b.strs).take i).filter fun t => (innB a t && innB b t) != (a.co && b.co))).length ≤ 1000 := Nat.le_trans (List.length_filter_le _ _) (by rw [List.length_take]; omega)
      have ck : decide ((i : Int) < ((mrg a.strs b.strs).length : Int)) = decide (i < (mrg a.strs b.strs).length) := by rw [decide_eq_decide]; omega
      simp only [setD, ck, go_sem, Nat.reduceEqDiff, List.length_map, true_and, and_self, ↓reduceIte]
      cases d2 : decide (i < (mrg a.strs b.strs).length)
      · have hie : i = (mrg a.strs b.strs).length := by have := of_decide_eq_false d2; omega
        subst hie
        rw [List.take_length]
        simp only [anB, go_sem, Nat.reduceEqDiff, Nat.reduceAdd, Nat.reduceLeDiff, true_and, and_self, ↓reduceIte]
        rfl
      · have hi2 := of_decide_eq_true d2
        have hg := get_St hi2
        have hnx : ∀ (hh : i < (mrg a.strs b.strs).length), (((mrg a.strs b.strs).take (i + 1)).filter fun t => (innB a t && innB b t) != (a.co && b.co)) = (((mrg a.strs b.strs).take i).filter fun t => (innB a t && innB b t) != (a.co && b.co)) ++ (if ((innB a (mrg a.strs b.strs)[i] && innB b (mrg a.strs b.strs)[i]) != (a.co && b.co)) = true then [(mrg a.strs b.strs)[i]] else []) := fun hh => by
          rw [List.take_succ_eq_append_getElem hh, List.filter_append, List.filter_cons, List.filter_nil]
        have hnx := hnx hi2
        have w1 : IntKind.i64.wrap ((i : Int) + 1) = ((i + 1 : Nat) : Int) := by rw [wrap64 (by omega) (by omega)]; omega
        generalize (mrg a.strs b.strs)[i] = t at *
        have p1 := kInStrs a.strs (by omega) t
        have p2 := kInStrs b.strs (by omega) t
        simp only [nn0, Int.toNat_natCast, hg, go_sem, Nat.reduceEqDiff, Nat.reduceAdd, true_and, and_self, ↓reduceIte]
        refine callQ_by _ rfl rfl p1 ?_
        have q1 : (((a.strs.any fun x => decide (t = x)) == a.co) != true) = innB a t := by unfold innB; cases (a.strs.any fun x => decide (t = x)) <;> cases a.co <;> rfl
        have q2 : (((b.strs.any fun x => decide (t = x)) == b.co) != true) = innB b t := by unfold innB; cases (b.strs.any fun x => decide (t = x)) <;> cases b.co <;> rfl
        have q3 : ∀ z : Bool, ((z == (a.co && b.co)) != true) = (z != (a.co && b.co)) := fun z => by cases z <;> cases (a.co && b.co) <;> rfl
        have hco : anB a b (intI a.ints b.ints) (((mrg a.strs b.strs).take i).filter fun t => (innB a t && innB b t) != (a.co && b.co)) = [.val (.bool (a.absent && b.absent)), .sl (some (5, 114, 2)) ((intI a.ints b.ints).map encR), .val (.bool (a.co && b.co)), .sl (some (5, 9, 1)) ((((mrg a.strs b.strs).take i).filter fun t => (innB a t && innB b t) != (a.co && b.co)).map encSt)] := rfl
        generalize (((mrg a.strs b.strs).take i).filter fun t => (innB a t && innB b t) != (a.co && b.co)) = fo at *
        rw [hco]
        simp only [q1, go_sem, Nat.reduceEqDiff, Nat.reduceAdd, ↓reduceIte]
        cases i1 : innB a t
        · rw [i1, Bool.false_and] at hnx
          simp only [q3, go_sem, Nat.reduceEqDiff, Nat.reduceAdd, true_and, and_self, ↓reduceIte]
          generalize hz : (_ != (a.co && b.co)) = z at hnx ⊢
          cases z
          · rw [if_neg (by simp), List.append_nil] at hnx
            simp only [w1, go_sem, Nat.reduceEqDiff, true_and, and_self, ↓reduceIte]
            refine invN_next hi2 trivial ?_
            simp only [hnx, anB, go_sem, Nat.reduceEqDiff, true_and, and_self, ↓reduceIte]
          · rw [if_pos rfl] at hnx
            simp only [nn0, Int.toNat_natCast, hg, go_sem, Nat.reduceEqDiff, Nat.reduceAdd, Nat.reduceLeDiff, List.length_map, decide_true, decide_false, true_and, and_self, ↓reduceIte]
            refine ⟨encSts_len _, (by rintro _ rfl; rfl), (by omega), (by omega), ?_⟩
            simp only [w1, go_sem]
            refine invN_next hi2 trivial ?_
            simp only [hnx, anB, List.map_append, List.map_cons, List.map_nil, encSt, go_sem, Nat.reduceEqDiff, true_and, and_self, ↓reduceIte]
        · rw [i1, Bool.true_and] at hnx
          simp only [nn0, Int.toNat_natCast, hg, go_sem, Nat.reduceEqDiff, Nat.reduceAdd, ↓reduceIte]
          refine callQ_by _ rfl rfl p2 ?_
          simp only [q2, q3, go_sem, Nat.reduceEqDiff, Nat.reduceAdd, true_and, and_self, ↓reduceIte]
          generalize hz : (_ != (a.co && b.co)) = z at hnx ⊢
          cases z
          · rw [if_neg (by simp), List.append_nil] at hnx
            simp only [w1, go_sem, Nat.reduceEqDiff, true_and, and_self, ↓reduceIte]
            refine invN_next hi2 trivial ?_
            simp only [hnx, anB, go_sem, Nat.reduceEqDiff, true_and, and_self, ↓reduceIte]
          · rw [if_pos rfl] at hnx
            simp only [nn0, Int.toNat_natCast, hg, go_sem, Nat.reduceEqDiff, Nat.reduceAdd, Nat.reduceLeDiff, List.length_map, decide_true, decide_false, true_and, and_self, ↓reduceIte]
            refine ⟨encSts_len _, (by rintro _ rfl; rfl), (by omega), (by omega), ?_⟩
            simp only [w1, go_sem]
            refine invN_next hi2 trivial ?_
            simp only [hnx, anB, List.map_append, List.map_cons, List.map_nil, encSt, go_sem, Nat.reduceEqDiff, true_and, and_self, ↓reduceIte]
    · have hi1 := of_decide_eq_true d1
      have hgi : (a.ints.map encR)[i]? = some (encR a.ints[i]) := by rw [List.getElem?_map, List.getElem?_eq_getElem hi1]; rfl
      have hnx := intI_next b.ints hi1
      generalize hx : a.ints[i] = x at *
      simp only [go_sem, Nat.reduceEqDiff, true_and, and_self, ↓reduceIte]
      refine loop_N b.ints.length (fun _ => True) (fun k => ⟨[(2, .ptr 2 0), (3, .ptr 3 0), (4, .ptr 4 0), (5, .ptr 5 0), (6, .val (.int .i64 i)), (7, .val (.int .i64 k))],
        [(2, setD a), (3, setD b), (4, [.val (.bool false), .sl none [], .val (.bool false), .sl none []]), (5, anB a b (intI (a.ints.take i) b.ints ++ (b.ints.take k).filterMap (interR x)) [])], [((5, 114, 2), true), ((5, 9, 1), true)]⟩) trivial (by simp only [setD, go_sem, Nat.reduceEqDiff]; simp) ?_
      rintro k hk -
      have hkl : ((b.ints.take k).filterMap (interR x)).length ≤ 450 := Nat.le_trans (List.length_filterMap_le _ _) (by rw [List.length_take]; omega)
      have ck : decide ((k : Int) < (b.ints.length : Int)) = decide (k < b.ints.length) := by rw [decide_eq_decide]; omega
      simp only [setD, ck, go_sem, Nat.reduceEqDiff, Nat.reduceAdd, List.length_map, true_and, and_self, ↓reduceIte]
      cases d2 : decide (k < b.ints.length)
      · have hke : k = b.ints.length := by have := of_decide_eq_false d2; omega
        subst hke
        rw [List.take_length]
        have w1 : IntKind.i64.wrap ((i : Int) + 1) = ((i + 1 : Nat) : Int) := by rw [wrap64 (by omega) (by omega)]; omega
        simp only [w1, go_sem, Nat.reduceEqDiff, true_and, and_self, ↓reduceIte]
        refine invN_next hi1 trivial ?_
        simp only [hnx, go_sem, Nat.reduceEqDiff, true_and, and_self, ↓reduceIte]
      · have hk1 := of_decide_eq_true d2
        have hgk : (b.ints.map encR)[k]? = some (encR b.ints[k]) := by rw [List.getElem?_map, List.getElem?_eq_getElem hk1]; rfl
        have hnk := filterMap_next (interR x) hk1
        generalize b.ints[k] = y at *
        simp only [nn0, Int.toNat_natCast, hgi, hgk, encR, go_sem, Nat.reduceEqDiff, Nat.reduceAdd, true_and, and_self, ↓reduceIte]
        have hiR : interR x y = if decide ((if y.1 > x.1 then y.1 else x.1) ≤ (if y.2 < x.2 then y.2 else x.2)) = true then some ((if y.1 > x.1 then y.1 else x.1), (if y.2 < x.2 then y.2 else x.2)) else none := by unfold interR; simp only [decide_eq_true_eq]
        have w1 : IntKind.i64.wrap ((k : Int) + 1) = ((k + 1 : Nat) : Int) := by rw [wrap64 (by omega) (by omega)]; omega
        generalize (if y.1 > x.1 then y.1 else x.1) = lo at *
        generalize (if y.2 < x.2 then y.2 else x.2) = hi2 at *
        cases d3 : decide (lo ≤ hi2)
        · rw [d3] at hiR
          rw [if_neg (by simp)] at hiR
          rw [hiR] at hnk
          simp only [w1, go_sem, Nat.reduceEqDiff, true_and, and_self, ↓reduceIte]
          refine invN_next hk1 trivial ?_
          simp only [hnk, Option.toList_none, List.append_nil, go_sem, Nat.reduceEqDiff, true_and, and_self, ↓reduceIte]
        · rw [d3] at hiR
          rw [if_pos rfl] at hiR
          rw [hiR] at hnk
          simp only [anB, go_sem, Nat.reduceEqDiff, Nat.reduceAdd, Nat.reduceLeDiff, List.length_map, decide_true, decide_false, true_and, and_self, ↓reduceIte]
          refine ⟨encRs_len _, (by rintro _ rfl; rfl), (by simp; omega), (by simp; omega), ?_⟩
          simp only [w1, go_sem]
          refine invN_next hk1 trivial ?_
          simp only [hnk, Option.toList_some, List.map_append, List.map_cons, List.map_nil, encR, List.append_assoc, go_sem, Nat.reduceEqDiff, true_and, and_self, ↓reduceIte]
  · simp only [go_sem, Nat.reduceEqDiff, Nat.reduceAdd, Nat.reduceLeDiff, decide_false, Nat.reduceLT, true_and, and_self, ↓reduceIte]
    refine loop_N a.ints.length (fun _ => True) (fun i => ⟨[(2, .ptr 2 0), (3, .ptr 3 0), (4, .ptr 4 0), (5, .ptr 5 0), (6, .val (.int .i64 i))],
      [(2, setD a), (3, setD b), (4, [.val (.bool false), .sl none [], .val (.bool false), .sl none []]), (5, anB a b (intI (a.ints.take i) b.ints) [])], [((5, 114, 2), true), ((5, 9, 1), true)]⟩) trivial (by simp only [setD, anB, hA, hC, go_sem, Nat.reduceEqDiff]; rfl) ?_
    rintro i hi -
    have hil := fil i
    have ci : decide ((i : Int) < (a.ints.length : Int)) = decide (i < a.ints.length) := by rw [decide_eq_decide]; omega
    simp only [setD, ci, go_sem, Nat.reduceEqDiff, Nat.reduceAdd, List.length_map, true_and, and_self, ↓reduceIte]
    cases d1 : decide (i < a.ints.length)
    · have hie : i = a.ints.length := by have := of_decide_eq_false d1; omega
      subst hie
      rw [List.take_length] at hil ⊢
      simp only [go_sem, Nat.reduceEqDiff, Nat.reduceAdd, true_and, and_self, ↓reduceIte]
      refine callP_eq rfl rfl (kmerge6 a.strs b.strs (by omega) (by omega)) ?_
      simp only [go_sem, Nat.reduceEqDiff, true_and, and_self, ↓reduceIte]
      refine loop_N (mrg a.strs b.strs).length (fun _ => True) (fun i => ⟨[(2, .ptr 2 0), (3, .ptr 3 0), (4, .ptr 4 0), (5, .ptr 5 0), (10, .sl none ((mrg a.strs b.strs).map encSt)), (11, .val (.int .i64 i))],
        [(2, setD a), (3, setD b), (4, [.val (.bool false), .sl none [], .val (.bool false), .sl none []]), (5, anB a b (intI a.ints b.ints) (((mrg a.strs b.strs).take i).filter fun t => (innB a t && innB b t) != (a.co && b.co)))], [((5, 114, 2), true), ((5, 9, 1), true)]⟩) trivial (by simp only [setD, go_sem, Nat.reduceEqDiff]; rfl) ?_
      rintro i hi -
      have ml := mrg_len a.strs b.strs
      have fl : ((((mrg a.strs b.strs).take i).filter fun t => (innB a t && innB b t) != (a.co && b.co))).length ≤ 1000 := Nat.le_trans (List.length_filter_le _ _) (by rw [List.length_take]; omega)
      have ck : decide ((i : Int) < ((mrg a.strs b.strs).length : Int)) = decide (i < (mrg a.strs b.strs).length) := by rw [decide_eq_decide]; omega
      simp only [setD, ck, go_sem, Nat.reduceEqDiff, List.length_map, true_and, and_self, ↓reduceIte]
      cases d2 : decide (i < (mrg a.strs b.strs).length)
      · have hie : i = (mrg a.strs b.strs).length := by have := of_decide_eq_false d2; omega
        subst hie
        rw [List.take_length]
        simp only [anB, go_sem, Nat.reduceEqDiff, Nat.reduceAdd, Nat.reduceLeDiff, true_and, and_self, ↓reduceIte]
        rfl
      · have hi2 := of_decide_eq_true d2
        have hg := get_St hi2
        have hnx : ∀ (hh : i < (mrg a.strs b.strs).length), (((mrg a.strs b.strs).take (i + 1)).filter fun t => (innB a t && innB b t) != (a.co && b.co)) = (((mrg a.strs b.strs).take i).filter fun t => (innB a t && innB b t) != (a.co && b.co)) ++ (if ((innB a (mrg a.strs b.strs)[i] && innB b (mrg a.strs b.strs)[i]) != (a.co && b.co)) = true then [(mrg a.strs b.strs)[i]] else []) := fun hh => by
          rw [List.take_succ_eq_append_getElem hh, List.filter_append, List.filter_cons, List.filter_nil]
        have hnx := hnx hi2
        have w1 : IntKind.i64.wrap ((i : Int) + 1) = ((i + 1 : Nat) : Int) := by rw [wrap64 (by omega) (by omega)]; omega
        generalize (mrg a.strs b.strs)[i] = t at *
        have p1 := kInStrs a.strs (by omega) t
        have p2 := kInStrs b.strs (by omega) t
        simp only [nn0, Int.toNat_natCast, hg, go_sem, Nat.reduceEqDiff, Nat.reduceAdd, true_and, and_self, ↓reduceIte]
        refine callQ_by _ rfl rfl p1 ?_
        have q1 : (((a.strs.any fun x => decide (t = x)) == a.co) != true) = innB a t := by unfold innB; cases (a.strs.any fun x => decide (t = x)) <;> cases a.co <;> rfl
        have q2 : (((b.strs.any fun x => decide (t = x)) == b.co) != true) = innB b t := by unfold innB; cases (b.strs.any fun x => decide (t = x)) <;> cases b.co <;> rfl
        have q3 : ∀ z : Bool, ((z == (a.co && b.co)) != true) = (z != (a.co && b.co)) := fun z => by cases z <;> cases (a.co && b.co) <;> rfl
        have hco : anB a b (intI a.ints b.ints) (((mrg a.strs b.strs).take i).filter fun t => (innB a t && innB b t) != (a.co && b.co)) = [.val (.bool (a.absent && b.absent)), .sl (some (5, 114, 2)) ((intI a.ints b.ints).map encR), .val (.bool (a.co && b.co)), .sl (some (5, 9, 1)) ((((mrg a.strs b.strs).take i).filter fun t => (innB a t && innB b t) != (a.co && b.co)).map encSt)] := rfl
        generalize (((mrg a.strs b.strs).take i).filter fun t => (innB a t && innB b t) != (a.co && b.co)) = fo at *
        rw [hco]
        simp only [q1, go_sem, Nat.reduceEqDiff, Nat.reduceAdd, ↓reduceIte]
        cases i1 : innB a t
        · rw [i1, Bool.false_and] at hnx
          simp only [q3, go_sem, Nat.reduceEqDiff, Nat.reduceAdd, true_and, and_self, ↓reduceIte]
          generalize hz : (_ != (a.co && b.co)) = z at hnx ⊢
          cases z
          · rw [if_neg (by simp), List.append_nil] at hnx
            simp only [w1, go_sem, Nat.reduceEqDiff, true_and, and_self, ↓reduceIte]
            refine invN_next hi2 trivial ?_
            simp only [hnx, anB, go_sem, Nat.reduceEqDiff, true_and, and_self, ↓reduceIte]
          · rw [if_pos rfl] at hnx
            simp only [nn0, Int.toNat_natCast, hg, go_sem, Nat.reduceEqDiff, Nat.reduceAdd, Nat.reduceLeDiff, List.length_map, decide_true, decide_false, true_and, and_self, ↓reduceIte]
            refine ⟨encSts_len _, (by rintro _ rfl; rfl), (by omega), (by omega), ?_⟩
            simp only [w1, go_sem]
            refine invN_next hi2 trivial ?_
            simp only [hnx, anB, List.map_append, List.map_cons, List.map_nil, encSt, go_sem, Nat.reduceEqDiff, true_and, and_self, ↓reduceIte]
        · rw [i1, Bool.true_and] at hnx
          simp only [nn0, Int.toNat_natCast, hg, go_sem, Nat.reduceEqDiff, Nat.reduceAdd, ↓reduceIte]
          refine callQ_by _ rfl rfl p2 ?_
          simp only [q2, q3, go_sem, Nat.reduceEqDiff, Nat.reduceAdd, true_and, and_self, ↓reduceIte]
          generalize hz : (_ != (a.co && b.co)) = z at hnx ⊢
          cases z
          · rw [if_neg (by simp), List.append_nil] at hnx
            simp only [w1, go_sem, Nat.reduceEqDiff, true_and, and_self, ↓reduceIte]
            refine invN_next hi2 trivial ?_
            simp only [hnx, anB, go_sem, Nat.reduceEqDiff, true_and, and_self, ↓reduceIte]
          · rw [if_pos rfl] at hnx
            simp only [nn0, Int.toNat_natCast, hg, go_sem, Nat.reduceEqDiff, Nat.reduceAdd, Nat.reduceLeDiff, List.length_map, decide_true, decide_false, true_and, and_self, ↓reduceIte]
            refine ⟨encSts_len _, (by rintro _ rfl; rfl), (by omega), (by omega), ?_⟩
            simp only [w1, go_sem]
            refine invN_next hi2 trivial ?_
            simp only [hnx, anB, List.map_append, List.map_cons, List.map_nil, encSt, go_sem, Nat.reduceEqDiff, true_and, and_self, ↓reduceIte]
    · have hi1 := of_decide_eq_true d1
      have hgi : (a.ints.map encR)[i]? = some (encR a.ints[i]) := by rw [List.getElem?_map, List.getElem?_eq_getElem hi1]; rfl
      have hnx := intI_next b.ints hi1
      generalize hx : a.ints[i] = x at *
      simp only [go_sem, Nat.reduceEqDiff, true_and, and_self, ↓reduceIte]
      refine loop_N b.ints.length (fun _ => True) (fun k => ⟨[(2, .ptr 2 0), (3, .ptr 3 0), (4, .ptr 4 0), (5, .ptr 5 0), (6, .val (.int .i64 i)), (7, .val (.int .i64 k))],
        [(2, setD a), (3, setD b), (4, [.val (.bool false), .sl none [], .val (.bool false), .sl none []]), (5, anB a b (intI (a.ints.take i) b.ints ++ (b.ints.take k).filterMap (interR x)) [])], [((5, 114, 2), true), ((5, 9, 1), true)]⟩) trivial (by simp only [setD, go_sem, Nat.reduceEqDiff]; simp) ?_
      rintro k hk -
      have hkl : ((b.ints.take k).filterMap (interR x)).length ≤ 450 := Nat.le_trans (List.length_filterMap_le _ _) (by rw [List.length_take]; omega)
      have ck : decide ((k : Int) < (b.ints.length : Int)) = decide (k < b.ints.length) := by rw [decide_eq_decide]; omega
      simp only [setD, ck, go_sem, Nat.reduceEqDiff, Nat.reduceAdd, List.length_map, true_and, and_self, ↓reduceIte]
      cases d2 : decide (k < b.ints.length)
      · have hke : k = b.ints.length := by have := of_decide_eq_false d2; omega
        subst hke
        rw [List.take_length]
        have w1 : IntKind.i64.wrap ((i : Int) + 1) = ((i + 1 : Nat) : Int) := by rw [wrap64 (by omega) (by omega)]; omega
        simp only [w1, go_sem, Nat.reduceEqDiff, true_and, and_self, ↓reduceIte]
        refine invN_next hi1 trivial ?_
        simp only [hnx, go_sem, Nat.reduceEqDiff, true_and, and_self, ↓reduceIte]
      · have hk1 := of_decide_eq_true d2
        have hgk : (b.ints.map encR)[k]? = some (encR b.ints[k]) := by rw [List.getElem?_map, List.getElem?_eq_getElem hk1]; rfl
        have hnk := filterMap_next (interR x) hk1
        generalize b.ints[k] = y at *
        simp only [nn0, Int.toNat_natCast, hgi, hgk, encR, go_sem, Nat.reduceEqDiff, Nat.reduceAdd, true_and, and_self, ↓reduceIte]
        have hiR : interR x y = if decide ((if y.1 > x.1 then y.1 else x.1) ≤ (if y.2 < x.2 then y.2 else x.2)) = true then some ((if y.1 > x.1 then y.1 else x.1), (if y.2 < x.2 then y.2 else x.2)) else none := by unfold interR; simp only [decide_eq_true_eq]
        have w1 : IntKind.i64.wrap ((k : Int) + 1) = ((k + 1 : Nat) : Int) := by rw [wrap64 (by omega) (by omega)]; omega
        generalize (if y.1 > x.1 then y.1 else x.1) = lo at *
        generalize (if y.2 < x.2 then y.2 else x.2) = hi2 at *
        cases d3 : decide (lo ≤ hi2)
        · rw [d3] at hiR
          rw [if_neg (by simp)] at hiR
          rw [hiR] at hnk
          simp only [w1, go_sem, Nat.reduceEqDiff, true_and, and_self, ↓reduceIte]
          refine invN_next hk1 trivial ?_
          simp only [hnk, Option.toList_none, List.append_nil, go_sem, Nat.reduceEqDiff, true_and, and_self, ↓reduceIte]
        · rw [d3] at hiR
          rw [if_pos rfl] at hiR
          rw [hiR] at hnk
          simp only [anB, go_sem, Nat.reduceEqDiff, Nat.reduceAdd, Nat.reduceLeDiff, List.length_map, decide_true, decide_false, true_and, and_self, ↓reduceIte]
          refine ⟨encRs_len _, (by rintro _ rfl; rfl), (by simp; omega), (by simp; omega), ?_⟩
          simp only [w1, go_sem]
          refine invN_next hk1 trivial ?_
          simp only [hnk, Option.toList_some, List.map_append, List.map_cons, List.map_nil, encR, List.append_assoc, go_sem, Nat.reduceEqDiff, true_and, and_self, ↓reduceIte]
theorem kand6 (a b : SetM) (oa : OK a) (ob : OK b) (ha : a.ints.length ≤ 450) (hs : a.strs.length ≤ 450) (hb : b.ints.length ≤ 450) (ht : b.strs.length ≤ 450) : PureAt Tryz.prog 133 [.agg (setC a), .agg (setC b)] (· = .agg (setC (andM normR a b))) := by
  rw [← and6_and oa ob hs ht]
  exact kand6' a b ha hs hb ht
end Go.Proofs



namespace Go.Proofs
open Go.Vm
set_option linter.unusedSimpArgs false

def mixB (a b : BoxM) (k : Nat) : BoxM := ⟨if 0 < k then andM normR a.s0 b.s0 else a.s0, if 1 < k then andM normR a.s1 b.s1 else a.s1, if 2 < k then andM normR a.s2 b.s2 else a.s2, if 3 < k then andM normR a.s3 b.s3 else a.s3⟩
theorem kall6 : PureAt Tryz.prog 93 [] (· = .agg (boxC allB)) := by
  refine pure_of r93 (by kernel_rfl) ?_
  unfold m93
  simp only [go_sem, Nat.reduceEqDiff, Nat.reduceAdd, Nat.reduceLeDiff, decide_false, true_and, and_self, ↓reduceIte]
  rfl
set_option maxHeartbeats 4000000 in
theorem kAnd6 (a b : BoxM) (oa : OKB a) (ob : OKB b) (fa : FewB 450 a) (fb : FewB 450 b) : PureAt Tryz.prog 95 [.agg (boxC a), .agg (boxC b)] (· = .agg (boxC (andB a b))) := by
  refine pure_of r95 (by kernel_rfl) ?_
  unfold m95
  simp only [go_sem, Nat.reduceEqDiff, Nat.reduceAdd, decide_false, true_and, ↓reduceIte]
  refine loop_N 4 (fun _ => True) (fun k => ⟨[(2, .ptr 2 0), (3, .ptr 3 0), (4, .ptr 4 0), (5, .val (.int .i64 (z4 k)))], [(2, boxC (mixB a b k)), (3, boxC b), (4, boxC ⟨noM, noM, noM, noM⟩)], []⟩) trivial (by simp only [go_sem, Nat.reduceEqDiff]; rfl) ?_
  rintro k hk -
  have hk5 : k = 0 ∨ k = 1 ∨ k = 2 ∨ k = 3 ∨ k = 4 := by omega
  rcases hk5 with rfl | rfl | rfl | rfl | rfl
  · have p := kand6 (a.at 0) (b.at 0) (oa 0 (by omega)) (ob 0 (by omega)) (fa 0 (by omega)).1 (fa 0 (by omega)).2 (fb 0 (by omega)).1 (fb 0 (by omega)).2
    simp only [boxC, mixB, go_sem, Nat.reduceEqDiff, Nat.reduceAdd, Nat.reduceLeDiff, z4, Int.reduceLT, Int.toNat_zero, Int.le_refl, decide_true, c4, Nat.reduceMul, Nat.reduceLT, Nat.lt_irrefl, and_self, ↓reduceIte]
    refine callQ_by _ rfl rfl p ?_
    simp only [setC, go_sem, Nat.reduceEqDiff, Nat.reduceAdd, Nat.reduceLeDiff, at4, BoxM.at, Int.reduceLT, Int.toNat_zero, Int.le_refl, Int.reduceAdd, wr1, c4, Nat.reduceMul, true_and, and_self, ↓reduceIte]
    refine invN_next (by omega) trivial ?_
    simp only [go_sem, Nat.reduceEqDiff, Nat.reduceAdd, Nat.reduceLT, Nat.lt_irrefl, ↓reduceIte]
  · have p := kand6 (a.at 1) (b.at 1) (oa 1 (by omega)) (ob 1 (by omega)) (fa 1 (by omega)).1 (fa 1 (by omega)).2 (fb 1 (by omega)).1 (fb 1 (by omega)).2
    simp only [boxC, mixB, go_sem, Nat.reduceEqDiff, Nat.reduceAdd, Nat.reduceLeDiff, z4, Int.reduceLT, Int.reduceLE, Int.reduceToNat, decide_true, c4, Nat.reduceMul, Nat.reduceLT, Nat.lt_irrefl, and_self, ↓reduceIte]
    refine callQ_by _ rfl rfl p ?_
    simp only [setC, go_sem, Nat.reduceEqDiff, Nat.reduceAdd, Nat.reduceLeDiff, at4, BoxM.at, Int.reduceLT, Int.reduceLE, Int.reduceToNat, Int.reduceAdd, wr2, c4, Nat.reduceMul, true_and, and_self, ↓reduceIte]
    refine invN_next (by omega) trivial ?_
    simp only [go_sem, Nat.reduceEqDiff, Nat.reduceAdd, Nat.reduceLT, Nat.lt_irrefl, ↓reduceIte]
  · have p := kand6 (a.at 2) (b.at 2) (oa 2 (by omega)) (ob 2 (by omega)) (fa 2 (by omega)).1 (fa 2 (by omega)).2 (fb 2 (by omega)).1 (fb 2 (by omega)).2
    simp only [boxC, mixB, go_sem, Nat.reduceEqDiff, Nat.reduceAdd, Nat.reduceLeDiff, z4, Int.reduceLT, Int.reduceLE, Int.reduceToNat, decide_true, c4, Nat.reduceMul, Nat.reduceLT, Nat.lt_irrefl, and_self, ↓reduceIte]
    refine callQ_by _ rfl rfl p ?_
    simp only [setC, go_sem, Nat.reduceEqDiff, Nat.reduceAdd, Nat.reduceLeDiff, at4, BoxM.at, Int.reduceLT, Int.reduceLE, Int.reduceToNat, Int.reduceAdd, wr3, c4, Nat.reduceMul, true_and, and_self, ↓reduceIte]
    refine invN_next (by omega) trivial ?_
    simp only [go_sem, Nat.reduceEqDiff, Nat.reduceAdd, Nat.reduceLT, Nat.lt_irrefl, ↓reduceIte]
  · have p := kand6 (a.at 3) (b.at 3) (oa 3 (by omega)) (ob 3 (by omega)) (fa 3 (by omega)).1 (fa 3 (by omega)).2 (fb 3 (by omega)).1 (fb 3 (by omega)).2
    simp only [boxC, mixB, go_sem, Nat.reduceEqDiff, Nat.reduceAdd, Nat.reduceLeDiff, z4, Int.reduceLT, Int.reduceLE, Int.reduceToNat, decide_true, c4, Nat.reduceMul, Nat.reduceLT, Nat.lt_irrefl, and_self, ↓reduceIte]
    refine callQ_by _ rfl rfl p ?_
    simp only [setC, go_sem, Nat.reduceEqDiff, Nat.reduceAdd, Nat.reduceLeDiff, at4, BoxM.at, Int.reduceLT, Int.reduceLE, Int.reduceToNat, Int.reduceAdd, wr4, c4, Nat.reduceMul, true_and, and_self, ↓reduceIte]
    refine invN_next (by omega) trivial ?_
    simp only [go_sem, Nat.reduceEqDiff, Nat.reduceAdd, Nat.reduceLT, ↓reduceIte]
  · simp only [boxC, mixB, andB, go_sem, Nat.reduceEqDiff, Nat.reduceAdd, Nat.reduceLeDiff, z4, Int.reduceLT, decide_false, Nat.reduceLT, and_self, ↓reduceIte]
end Go.Proofs



namespace Go.Proofs
open Go.Vm
set_option linter.unusedSimpArgs false

def tdy (pre : List BoxM) : List BoxM → List BoxM
  | [] => []
  | x :: suf => (if (!emptyB x && !(pre.any fun k => hidesM x k true) && !(suf.any fun k => hidesM x k false)) = true then [x] else []) ++ tdy (pre ++ [x]) suf
theorem getD_app (pre suf : List BoxM) (x : BoxM) : (pre ++ x :: suf).getD pre.length allB = x := by
  simp [List.getD_eq_getElem?_getD]
theorem getD_pre {pre : List BoxM} (suf : List BoxM) (x : BoxM) {k : Nat} (h : k < pre.length) : (pre ++ x :: suf).getD k allB = pre[k] := by
  rw [List.getD_eq_getElem?_getD, List.getElem?_append_left h, List.getElem?_eq_getElem h]; rfl
theorem getD_suf (pre : List BoxM) {suf : List BoxM} (x : BoxM) {k : Nat} (h : k < suf.length) : (pre ++ x :: suf).getD (pre.length + 1 + k) allB = suf[k] := by
  rw [List.getD_eq_getElem?_getD, List.getElem?_append_right (by omega), show pre.length + 1 + k - pre.length = k + 1 by omega, List.getElem?_cons_succ, List.getElem?_eq_getElem h]; rfl
theorem need_any (pre suf : List BoxM) (x : BoxM) : needM (pre ++ x :: suf) pre.length (pre ++ x :: suf).length = ((pre.any fun k => hidesM x k true) || suf.any fun k => hidesM x k false) := by
  rw [Bool.eq_iff_iff, Bool.or_eq_true]
  unfold needM
  simp only [List.any_eq_true, List.mem_range]
  constructor
  · rintro ⟨k, hk, h⟩
    unfold needl at h
    rw [getD_app] at h
    simp only [Bool.and_eq_true, decide_eq_true_eq] at h
    obtain ⟨h1, h2⟩ := h
    rcases Nat.lt_or_gt_of_ne h1 with h3 | h3
    · left
      refine ⟨pre[k], List.getElem_mem h3, ?_⟩
      rw [getD_pre suf x h3, decide_eq_true (by omega)] at h2
      exact h2
    · right
      obtain ⟨m, rfl⟩ : ∃ m, k = pre.length + 1 + m := ⟨k - pre.length - 1, by omega⟩
      have h4 : m < suf.length := by simp at hk; omega
      refine ⟨suf[m], List.getElem_mem h4, ?_⟩
      rw [getD_suf pre x h4, decide_eq_false (by omega)] at h2
      exact h2
  · rintro (⟨y, hy, h⟩ | ⟨y, hy, h⟩)
    · obtain ⟨k, hk, rfl⟩ := List.getElem_of_mem hy
      refine ⟨k, by simp; omega, ?_⟩
      unfold needl
      rw [getD_app, getD_pre suf x hk, decide_eq_true (show ((k : Int) < (pre.length : Int)) by omega), h, decide_eq_true (by omega)]
      rfl
    · obtain ⟨k, hk, rfl⟩ := List.getElem_of_mem hy
      refine ⟨pre.length + 1 + k, by simp; omega, ?_⟩
      unfold needl
      rw [getD_app, getD_suf pre x hk, decide_eq_false (show ¬ (((pre.length + 1 + k : Nat) : Int) < (pre.length : Int)) by omega), h, decide_eq_true (by omega)]
      rfl
theorem tdy_go (l : List BoxM) : ∀ (pre suf : List BoxM), l = pre ++ suf → ((List.range' pre.length suf.length).filter (keepM l)).map (l.getD · allB) = tdy pre suf
  | pre, [], _ => rfl
  | pre, x :: suf, h => by
    have ih := tdy_go l (pre ++ [x]) suf (by rw [h]; simp)
    rw [List.length_append] at ih
    simp only [List.length_cons, List.length_nil, Nat.zero_add] at ih
    rw [List.length_cons, List.range'_succ, List.filter_cons, tdy, ← ih]
    have hk : keepM l pre.length = (!emptyB x && !(pre.any fun k => hidesM x k true) && !(suf.any fun k => hidesM x k false)) := by
      unfold keepM
      rw [h, getD_app, need_any, Bool.not_or, Bool.and_assoc]
    rw [hk]
    split
    · rw [List.map_cons, h, getD_app]; rfl
    · rfl
theorem tidy_tdy (l : List BoxM) : tidyM l = tdy [] l := by
  have := tdy_go l [] l rfl
  rw [← this]
  unfold tidyM tidyI
  rw [List.range_eq_range']
  rfl
theorem any_filter {α : Type} {p q : α → Bool} : ∀ {l : List α}, (∀ x ∈ l, q x = false → p x = false) → (l.filter q).any p = l.any p
  | [], _ => rfl
  | x :: l, h => by
    have ih := any_filter (p := p) (q := q) (l := l) (fun y hy => h y (by simp [hy]))
    rw [List.filter_cons]
    cases hq : q x
    · have := h x (by simp) hq
      simp [ih, this]
    · simp [ih]
theorem tdy_filter : ∀ (l pre : List BoxM), (∀ x ∈ l, ∀ k ∈ pre ++ l, emptyB x = false → emptyB k = true → ∀ b, hidesM x k b = false) →
    tdy (pre.filter fun x => !emptyB x) (l.filter fun x => !emptyB x) = tdy pre l
  | [], _, _ => rfl
  | x :: l, pre, h => by
    have ih := tdy_filter l (pre ++ [x]) (fun y hy k hk => h y (by simp [hy]) k (by simpa using hk))
    rw [List.filter_append] at ih
    rw [tdy, List.filter_cons]
    cases hx : emptyB x
    · simp only [Bool.not_false, if_true]
      rw [tdy, hx]
      have e1 : ([x].filter fun x => !emptyB x) = [x] := by simp [hx]
      rw [e1] at ih
      rw [Bool.not_false, ih, any_filter (fun k hk hq => h x (by simp) k (by simp [hk]) hx (by simpa using hq) true), any_filter (fun k hk hq => h x (by simp) k (by simp [hk]) hx (by simpa using hq) false)]
    · have e1 : ([x].filter fun x => !emptyB x) = [] := by simp [hx]
      rw [e1, List.append_nil] at ih
      simp only [Bool.not_true, Bool.false_and, Bool.false_eq_true, if_false, List.nil_append]
      exact ih
end Go.Proofs

