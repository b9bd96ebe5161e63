/- A part of the proof; what is proved stands in the last text. -/
import Derived.Test.YtijhiblfdidnpaaGreatFA
set_option linter.unusedVariables false
set_option maxRecDepth 2000
namespace Go.Proofs
open Go.Vm
set_option linter.unusedSimpArgs false
def okEnt (x : EntM) : Bool := cntM x.id && (rightF x.f && !((x.slack : Int) == 18446744073709551615))
def zFr : FrM := ⟨false, [], [], 0, 0, zE⟩
def mayX (f : FrM) : Bool := if f.pub then cntM f.id && (cntM f.client && (rightE f.e && (decide (f.adds.length = 0) && decide (f.rems.length = 0)))) else f.adds.all okEnt && (eqPub f zFr && f.rems.all cntM)
theorem kIndexFuncI (f : FuncId) (caps : List D) (hz : frzL caps = some caps) (ht : tagsL caps = []) (xs : List Int) (hx : xs.length ≤ 100000) (p : Int → Bool) (hf : ∀ r, r ∈ xs → PureAt Tryz.prog f (.val (.int .i64 r) :: caps) (· = .val (.bool (p r)))) :
    PureAt Tryz.prog 83 [.sl none (intsC xs), .fn f [] caps] (· = .val (.int .i64 (idxOf p xs))) := by
 refine pure_of r83 (by kernel_rfl) ?_
 unfold m83
 simp only [go_sem, Nat.reduceEqDiff, Nat.reduceAdd, List.length_map]
 refine loop_N xs.length (fun i => ∀ j, j < i → p (xs.getD j 0) = false) (fun i => ⟨[(0, .sl none (intsC xs)), (1, .fn f [] caps), (7, .val (.int .i64 xs.length)), (8, .val (.int .i64 i))], [], []⟩) (fun j hj => by omega) (by simp only [go_sem, Nat.reduceEqDiff]; rfl) ?_
 intro i hil hp
 simp only [go_sem, Nat.reduceEqDiff]
 refine condE_split (fun h => ?_) (fun h => ?_)
 ·have hi' : i < xs.length := by simpa using h
  have hup := up64 (show i < 1000000 by omega)
  have g1 := get_intC hi'
  simp only [nn0, Int.toNat_natCast, g1, go_sem, Nat.reduceEqDiff, Nat.reduceAdd]
  refine callP_eq (d := .val (.bool (p (xs.getD i 0)))) (fs := .val (.int .i64 (xs.getD i 0)) :: caps) (by simp only [hz, go_sem]) (by simp only [liveAll, ht, go_sem]) (hf _ (intD_mem hi')) ?_
  simp only [ht, List.append_nil, go_sem, Nat.reduceEqDiff]
  refine condE_split (fun h2 => ?_) (fun h2 => ?_)
  ·simp only [go_sem, Nat.reduceEqDiff]
   congr 3
   have ha : xs.any p = true := List.any_eq_true.2 ⟨_, intD_mem hi', h2⟩
   rw [idxOf, if_pos ha]
   have := (List.findIdx_eq hi').2 ⟨by have := h2; simpa [hi'] using this, fun j hj => by have := hp j hj; simpa [show j < xs.length by omega] using this⟩
   rw [this]
  ·simp only [hup, go_sem, Nat.reduceEqDiff]
   exact invN_next hi' (nextP hp h2) (by simp only [go_sem, Nat.reduceEqDiff])
 ·have hil' : i = xs.length := by simp at h; omega
  subst hil'
  simp only [go_sem]
  have ha : ¬ xs.any p = true := by
   intro ha
   obtain ⟨x, hx, hpx⟩ := List.any_eq_true.1 ha
   obtain ⟨j, hj, rfl⟩ := List.getElem_of_mem hx
   have := hp j hj
   simp [hj] at this
   rw [this] at hpx; cases hpx
  rw [idxOf, if_neg ha]
theorem kContainsFuncI (f : FuncId) (caps : List D) (hz : frzL caps = some caps) (ht : tagsL caps = []) (xs : List Int) (hx : xs.length ≤ 100000) (p : Int → Bool) (hf : ∀ r, r ∈ xs → PureAt Tryz.prog f (.val (.int .i64 r) :: caps) (· = .val (.bool (p r)))) :
    PureAt Tryz.prog 54 [.sl none (intsC xs), .fn f [] caps] (· = .val (.bool (xs.any p))) := by
 refine pure_of r54 (by kernel_rfl) ?_
 unfold m54
 simp only [go_sem, Nat.reduceEqDiff, Nat.reduceAdd]
 refine callP_eq (fs := [.sl none (intsC xs), .fn f [] caps]) (by simp only [hz, go_sem]) (by simp only [liveAll, ht, go_sem]) (kIndexFuncI f caps hz ht xs hx p hf) ?_
 simp only [ht, List.append_nil, idxOf_nonneg, go_sem, Nat.reduceEqDiff]
theorem kmayF (n : Int) : PureAt Tryz.prog 55 [.val (.int .i64 n)] (· = .val (.bool (!cntM n))) := by
 refine pure_of r55 (by kernel_rfl) ?_
 unfold m55
 simp only [go_sem, Nat.reduceEqDiff, Nat.reduceAdd]
 refine callP_eq rfl rfl (kfcount n) ?_
 simp only [go_sem, Nat.reduceEqDiff]
theorem all_bad {α : Type} {l : List α} {p : α → Bool} {x : α} (hx : x ∈ l) (h : p x = false) : l.all p = false := by
 rw [List.all_eq_false]; exact ⟨x, hx, by simp [h]⟩
theorem all_good {α : Type} {l : List α} {p : α → Bool} {d : α} (h : ∀ j, j < l.length → p (l.getD j d) = true) : l.all p = true := by
 rw [List.all_eq_true]; intro x hx
 obtain ⟨j, hj, rfl⟩ := List.getElem_of_mem hx
 have := h j hj
 simpa [hj] using this
set_option maxHeartbeats 4000000 in
theorem kmay (f : FrM) (hB : FrB f) : PureAt Tryz.prog 17 [.rp none (frC f) 0] (· = .val (.bool (mayX f))) := by
 have na := hB.na
 have nr := hB.nr
 refine pure_of r17 (by kernel_rfl) ?_
 unfold m17 mayX
 simp only [frC, go_sem, Nat.reduceEqDiff, Nat.reduceAdd]
 cases d0 : f.pub
 rotate_left
 ·simp only [if_true, go_sem, Nat.reduceEqDiff, Nat.reduceAdd]
  refine callQ_by _ rfl rfl (kfcount f.id) ?_
  simp only [go_sem, Nat.reduceEqDiff]
  cases d1 : cntM f.id
  ·simp only [Bool.false_and, go_sem, Nat.reduceEqDiff]
   done
  simp only [Bool.true_and, go_sem, Nat.reduceEqDiff, Nat.reduceAdd]
  refine callQ_by _ rfl rfl (kfcount f.client) ?_
  simp only [go_sem, Nat.reduceEqDiff]
  cases d2 : cntM f.client
  ·simp only [Bool.false_and, go_sem, Nat.reduceEqDiff]
   done
  simp only [Bool.true_and, go_sem, Nat.reduceEqDiff, Nat.reduceAdd, Nat.reduceLeDiff]
  have p3 := kvalEvent f.e
  unfold evC at p3
  refine callQ_by _ rfl rfl p3 ?_
  simp only [go_sem, Nat.reduceEqDiff]
  cases d3 : rightE f.e
  ·simp only [Bool.false_and, go_sem, Nat.reduceEqDiff]
   done
  have w1 : IntKind.i64.wrap ((f.adds.length : Int) + (f.rems.length : Int)) = ((f.adds.length + f.rems.length : Nat) : Int) := by rw [wrap64 (by omega) (by omega)]; omega
  have w2 : (((f.adds.length + f.rems.length : Nat) : Int) == 0) = (decide (f.adds.length = 0) && decide (f.rems.length = 0)) :=
   (int_eq (m := f.adds.length + f.rems.length) (n := 0)).trans (by
    rw [Bool.eq_iff_iff, Bool.and_eq_true, decide_eq_true_eq, decide_eq_true_eq, decide_eq_true_eq]; omega)
  simp only [Bool.true_and, w1, w2, beq_self_eq_true, go_sem, Nat.reduceEqDiff, Nat.reduceAdd, List.length_map]
  done
 simp only [Bool.false_eq_true, if_false, go_sem, Nat.reduceEqDiff, Nat.reduceAdd, List.length_map]
 refine loop_N f.adds.length (fun i => ∀ j, j < i → okEnt (f.adds.getD j zEnt) = true) (fun i => ⟨[(0, .rp none (frC f) 0), (51, .sl none (f.adds.map entC)), (52, .val (.int .i64 f.adds.length)), (53, .val (.int .i64 i))], [], []⟩) (fun j hj => by omega) (by simp only [frC, d0, go_sem, Nat.reduceEqDiff]; rfl) ?_
 intro i hil hp
 simp only [go_sem, Nat.reduceEqDiff]
 refine condE_split (fun h => ?_) (fun h => ?_)
 ·have hi' : i < f.adds.length := by simpa using h
  have hup := up64 (show i < 1000000 by omega)
  have g1 := get_entC hi'
  have hm := entD_mem hi'
  have nxt : okEnt (f.adds.getD i zEnt) = true → ∀ j, j < i + 1 → okEnt (f.adds.getD j zEnt) = true := fun hb => nextP hp hb
  simp only [nn0, Int.toNat_natCast, g1, entC, go_sem, Nat.reduceEqDiff, Nat.reduceAdd, Nat.reduceLeDiff]
  generalize f.adds.getD i zEnt = x at *
  have hfx := hB.fa x hm
  refine callP_eq rfl rfl (kfcount x.id) ?_
  cases d1 : cntM x.id
  ·simp only [Bool.not_false, go_sem, Nat.reduceEqDiff]
   rw [all_bad hm (by simp only [okEnt, d1, Bool.false_and]), Bool.false_and]
  simp only [Bool.not_true, go_sem, Nat.reduceEqDiff, Nat.reduceAdd]
  refine callP_eq rfl rfl (kdnfRight x.f hfx.1 hfx.2 (hB.ba x hm)) ?_
  cases d2 : rightF x.f
  ·simp only [Bool.not_false, go_sem, Nat.reduceEqDiff]
   rw [all_bad hm (by simp only [okEnt, d2, Bool.false_and, Bool.and_false]), Bool.false_and]
  cases d3 : (x.slack : Int) == 18446744073709551615
  ·simp only [d3, Bool.not_true, hup, go_sem, Nat.reduceEqDiff, Nat.reduceAdd]
   exact invN_next hi' (nxt (by simp only [okEnt, d1, d2, d3, Bool.not_false, Bool.and_self])) (by simp only [go_sem, Nat.reduceEqDiff])
  ·simp only [d3, Bool.not_true, go_sem, Nat.reduceEqDiff, Nat.reduceAdd]
   rw [all_bad hm (by simp only [okEnt, d3, Bool.not_true, Bool.and_false]), Bool.false_and]
 ·have hil' : i = f.adds.length := by simp at h; omega
  subst hil'
  rw [all_good (p := okEnt) hp]
  simp only [frC, Bool.true_and, go_sem, Nat.reduceEqDiff, Nat.reduceAdd, Nat.reduceLeDiff]
  have hq : eqPub f zFr = eqPub f zFr := rfl
  conv at hq => lhs; unfold eqPub eqEv; simp only [zFr, zE, zV]
  cases d2 : eqPub f zFr
  ·rw [d2] at hq
   simp only [hq, Bool.false_and, go_sem, Nat.reduceEqDiff]
   done
  rw [d2] at hq
  simp only [hq, Bool.true_and, go_sem, Nat.reduceEqDiff, Nat.reduceAdd]
  refine callP_eq rfl rfl (kContainsFuncI 55 [] rfl rfl f.rems (by omega) (fun n => !cntM n) (fun n _ => kmayF n)) ?_
  simp only [go_sem, Nat.reduceEqDiff]
  congr 2
  rw [Bool.eq_iff_iff]; simp
end Go.Proofs

namespace Go.Proofs
open Go.Vm
set_option linter.unusedSimpArgs false
set_option maxHeartbeats 4000000 in
theorem kMay15 (f : FrM) (hB : FrB f) : PureAt Tryz.prog 10 [.agg (frC f)] (· = .val (.bool (mayX f))) := by
 have na := hB.na
 have nr := hB.nr
 refine pure_of r10 (by kernel_rfl) ?_
 unfold m10 mayX
 simp only [frC, go_sem, Nat.reduceEqDiff, Nat.reduceAdd]
 cases d0 : f.pub
 rotate_left
 ·simp only [if_true, go_sem, Nat.reduceEqDiff, Nat.reduceAdd]
  refine callP_eq rfl rfl (kcount15 f.id) ?_
  simp only [go_sem, Nat.reduceEqDiff]
  cases d1 : cntM f.id
  ·simp only [Bool.false_and, go_sem, Nat.reduceEqDiff]
   done
  simp only [Bool.true_and, go_sem, Nat.reduceEqDiff, Nat.reduceAdd]
  refine callP_eq rfl rfl (kcount15 f.client) ?_
  simp only [go_sem, Nat.reduceEqDiff]
  cases d2 : cntM f.client
  ·simp only [Bool.false_and, go_sem, Nat.reduceEqDiff]
   done
  simp only [Bool.true_and, go_sem, Nat.reduceEqDiff, Nat.reduceAdd, Nat.reduceLeDiff]
  have p3 := kref1Event f.e
  unfold evC at p3
  refine callP_eq rfl rfl p3 ?_
  simp only [go_sem, Nat.reduceEqDiff]
  cases d3 : rightE f.e
  ·simp only [Bool.false_and, go_sem, Nat.reduceEqDiff]
   done
  have w1 : ((f.adds.length : Int) == 0) = decide (f.adds.length = 0) := int_eq (m := f.adds.length) (n := 0)
  have w2 : ((f.rems.length : Int) == 0) = decide (f.rems.length = 0) := int_eq (m := f.rems.length) (n := 0)
  simp only [Bool.true_and, w1, beq_self_eq_true, go_sem, Nat.reduceEqDiff, Nat.reduceAdd, List.length_map]
  cases d4 : decide (f.adds.length = 0)
  ·simp only [Bool.false_and, go_sem, Nat.reduceEqDiff]
   done
  simp only [Bool.true_and, w2, beq_self_eq_true, go_sem, Nat.reduceEqDiff, Nat.reduceAdd, List.length_map]
  done
 simp only [Bool.false_eq_true, if_false, go_sem, Nat.reduceEqDiff]
 refine loop_N f.adds.length (fun i => ∀ j, j < i → okEnt (f.adds.getD j zEnt) = true) (fun i => ⟨[(1, .ptr 1 0), (3, .val (.int .i64 i))], [(1, frC f)], []⟩) (fun j hj => by omega) (by simp only [frC, d0, go_sem, Nat.reduceEqDiff]; rfl) ?_
 intro i hil hp
 simp only [frC, go_sem, Nat.reduceEqDiff, Nat.reduceAdd, List.length_map]
 refine condE_split (fun h => ?_) (fun h => ?_)
 ·have hi' : i < f.adds.length := by simpa using h
  have hup := up64 (show i < 1000000 by omega)
  have g1 := get_entC hi'
  have hm := entD_mem hi'
  have nxt : okEnt (f.adds.getD i zEnt) = true → ∀ j, j < i + 1 → okEnt (f.adds.getD j zEnt) = true := fun hb => nextP hp hb
  simp only [nn0, Int.toNat_natCast, g1, entC, go_sem, Nat.reduceEqDiff, Nat.reduceAdd, Nat.reduceLeDiff]
  generalize f.adds.getD i zEnt = x at *
  have hfx := hB.fa x hm
  refine callP_eq rfl rfl (kcount15 x.id) ?_
  cases d1 : cntM x.id
  ·simp only [Bool.not_false, go_sem, Nat.reduceEqDiff]
   rw [all_bad hm (by simp only [okEnt, d1, Bool.false_and]), Bool.false_and]
  simp only [Bool.not_true, go_sem, Nat.reduceEqDiff, Nat.reduceAdd]
  refine callP_eq rfl rfl (kref6Right x.f hfx.1 (hfx.mono (by omega)).2 (hB.ba x hm)) ?_
  cases d2 : rightF x.f
  ·simp only [Bool.not_false, go_sem, Nat.reduceEqDiff]
   rw [all_bad hm (by simp only [okEnt, d2, Bool.false_and, Bool.and_false]), Bool.false_and]
  cases d3 : (x.slack : Int) == 18446744073709551615
  ·simp only [d3, Bool.not_true, hup, go_sem, Nat.reduceEqDiff, Nat.reduceAdd]
   exact invN_next hi' (nxt (by simp only [okEnt, d1, d2, d3, Bool.not_false, Bool.and_self])) (by simp only [go_sem, Nat.reduceEqDiff])
  ·simp only [d3, Bool.not_true, go_sem, Nat.reduceEqDiff, Nat.reduceAdd]
   rw [all_bad hm (by simp only [okEnt, d3, Bool.not_true, Bool.and_false]), Bool.false_and]
 ·have hil' : i = f.adds.length := by simp at h; omega
  subst hil'
  rw [all_good (p := okEnt) hp]
  simp only [Bool.true_and, go_sem, Nat.reduceEqDiff]
  refine loop_N f.rems.length (fun i => ∀ j, j < i → cntM (f.rems.getD j 0) = true) (fun i => ⟨[(1, .ptr 1 0), (5, .val (.int .i64 i))], [(1, frC f)], []⟩) (fun j hj => by omega) (by simp only [frC, d0, go_sem, Nat.reduceEqDiff]; rfl) ?_
  intro i hil hp
  simp only [frC, go_sem, Nat.reduceEqDiff, Nat.reduceAdd, List.length_map]
  refine condE_split (fun h => ?_) (fun h => ?_)
  ·have hi' : i < f.rems.length := by simpa using h
   have hup := up64 (show i < 1000000 by omega)
   have g1 := get_intC hi'
   have hm := intD_mem hi'
   simp only [nn0, Int.toNat_natCast, g1, go_sem, Nat.reduceEqDiff, Nat.reduceAdd]
   refine callP_eq rfl rfl (kcount15 _) ?_
   cases d1 : cntM (f.rems.getD i 0)
   ·simp only [Bool.not_false, go_sem, Nat.reduceEqDiff]
    rw [all_bad hm d1, Bool.and_false]
   simp only [Bool.not_true, hup, go_sem, Nat.reduceEqDiff]
   exact invN_next hi' (nextP hp d1) (by simp only [go_sem, Nat.reduceEqDiff])
  ·have hil' : i = f.rems.length := by simp at h; omega
   subst hil'
   rw [all_good (p := cntM) hp]
   simp only [Bool.and_true, go_sem, Nat.reduceEqDiff, Nat.reduceAdd, Nat.reduceLeDiff]
   have hq : eqPub f zFr = eqPub f zFr := rfl
   conv at hq => lhs; unfold eqPub eqEv; simp only [zFr, zE, zV]
   rw [hq]
end Go.Proofs

namespace Go.Proofs
open Go.Vm
set_option linter.unusedSimpArgs false
def numsB (l : List Int) : List UInt8 := l.flatMap fun n => encB n.toNat
set_option maxHeartbeats 2000000 in
theorem knums (b : Nat) (l : List UInt8) (ns : List Int) (hn : ns.length ≤ 100000) (hc : ∀ n ∈ ns, cntM n = true) (hl : l.length ≤ 1000000000) :
    HidAt Tryz.prog BH 19 (some (b, l)) [.val (.pointer (some ⟨b, 0, none⟩)), .sl none (intsC ns)] (fun r s' => r = .tup [] ∧ s' = some (b, l ++ numsB ns)) := by
 have len : ∀ i, ((ns.take i).flatMap fun n => encB n.toNat).length ≤ 11 * 100000 := fun i => Nat.le_trans (flat_len (k := 11) _ (fun x hx => by
  have := hc x (List.mem_of_mem_take hx)
  simp [cntM] at this
  have := (encB_len (n := x.toNat) (by omega)).1
  omega)) (Nat.mul_le_mul_left _ (by rw [List.length_take]; omega))
 refine hid_of r19 (by kernel_rfl) ?_
 unfold m19 numsB
 simp only [go_sem, Nat.reduceEqDiff, Nat.reduceAdd, List.length_map]
 refine loop_NH ns.length (fun _ => True) (fun i => ⟨[(0, .val (.pointer (some ⟨b, 0, none⟩))), (6, .sl none (intsC ns)), (7, .val (.int .i64 ns.length)), (8, .val (.int .i64 i))], [], []⟩) (fun i => some (b, l ++ (ns.take i).flatMap fun n => encB n.toNat)) trivial (by simp only [go_sem, Nat.reduceEqDiff]; rfl) (by simp) ?_
 rintro i hil -
 have hle := len i
 simp only [go_sem, Nat.reduceEqDiff]
 refine condE_split (fun h => ?_) (fun h => ?_)
 ·have hi' : i < ns.length := by simpa using h
  have hup := up64 (show i < 1000000 by omega)
  have g1 := get_intC hi'
  have hm := intD_mem hi'
  have hnx : ((ns.take (i + 1)).flatMap fun n => encB n.toNat) = ((ns.take i).flatMap fun n => encB n.toNat) ++ encB (ns.getD i 0).toNat := by
   rw [List.take_succ_eq_append_getElem hi', List.flatMap_append]; simp [hi']
  simp only [nn0, Int.toNat_natCast, g1, go_sem, Nat.reduceEqDiff, Nat.reduceAdd]
  have hcn := hc _ hm
  generalize ns.getD i 0 = n at *
  simp only [cntM, Bool.and_eq_true, decide_eq_true_eq] at hcn
  obtain ⟨m, rfl⟩ := Int.eq_ofNat_of_zero_le hcn.1
  have w : IntKind.u64.wrap (m : Int) = (m : Int) := wrap_u64 (by omega) (by omega)
  have q1 := (encB_len (n := m) (by omega)).1
  simp only [w, go_sem]
  refine callP_eq rfl rfl (kcUintS m (by omega)) ?_
  simp only [go_sem, Nat.reduceEqDiff]
  refine callH_eq rfl rfl rfl (kWS' b _ (encB m) (by omega) (by simp only [List.length_append]; omega)) ?_
  simp only [hup, go_sem, Nat.reduceEqDiff]
  refine invH_next hi' trivial (by simp only [go_sem, Nat.reduceEqDiff]) ?_
  rw [hnx]; simp
 ·have hil' : i = ns.length := by simp at h; omega
  subst hil'
  simp only [go_sem]
  simp
end Go.Proofs
