/- A part of the proof; what is proved stands in the last text. -/
import Derived.Test.YtaoppmjidjdgdaaGreatT334
set_option linter.unusedVariables false
set_option maxRecDepth 2000
namespace Go.Proofs
open Go.Vm
set_option linter.unusedSimpArgs false
structure OpM where
 kind : Int
 n : Int
 f : List BoxM
 e : EvM
def opC (x : OpM) : List D := .val (.int .i64 x.kind) :: .val (.int .i64 x.n) :: .sl none (x.f.map boxC) :: evC x.e
def op0 : OpM := ⟨0, 0, [], evZ⟩
theorem oget {l : List OpM} {i : Nat} (h : i < l.length) : l.getD i op0 = l[i] := by
 rw [List.getD_eq_getElem?_getD, List.getElem?_eq_getElem h]; rfl
theorem ogetm {l : List OpM} {i : Nat} (h : i < l.length) : l.getD i op0 ∈ l := by rw [oget h]; exact List.getElem_mem h
theorem get_opC {l : List OpM} {i : Nat} (h : i < l.length) : (l.map opC)[i]? = some (opC (l.getD i op0)) := by
 rw [List.getElem?_map, List.getElem?_eq_getElem h, oget h]; rfl
def OpIn (x : OpM) : Prop := (∀ b ∈ x.f, BndB b) ∧ x.f.length ≤ maxLen
def longS (l : List OpM) : Bool := !(l.all fun o => few6 o.f) || decide (l.length > 200)
set_option maxHeartbeats 2000000 in
theorem kLong (l : List OpM) (hl : l.length ≤ maxLen) (ho : ∀ x ∈ l, OpIn x) : PureAt Tryz.prog 6 [.sl none (l.map opC)] (· = .val (.bool (longS l))) := by
 refine pure_of r6 (by kernel_rfl) ?_
 unfold m6 longS
 simp only [go_sem, Nat.reduceEqDiff, Nat.reduceAdd, Nat.reduceLeDiff, List.length_map, Int.reduceLT, Int.reduceLE, Int.reduceToNat, Int.toNat_zero, Int.le_refl, Int.reduceAdd, decide_true, decide_false, Nat.reduceMul, Nat.reduceLT, Nat.lt_irrefl, true_and, and_self, ↓reduceIte]
 refine loop_N l.length (fun i => ∀ j, j < i → few6 (l.getD j op0).f = true) (fun i => ⟨[(0, .sl none (l.map opC)), (5, .sl none (l.map opC)), (6, .val (.int .i64 l.length)), (7, .val (.int .i64 i))], [], []⟩) (fun j hj => by omega) (by simp only [go_sem, Nat.reduceEqDiff, Nat.reduceAdd, Nat.reduceLeDiff, List.length_map, Int.reduceLT, Int.reduceLE, Int.reduceToNat, Int.toNat_zero, Int.le_refl, Int.reduceAdd, decide_true, decide_false, Nat.reduceMul, Nat.reduceLT, Nat.lt_irrefl, true_and, and_self, ↓reduceIte]; rfl) ?_
 intro i hil hp
 simp only [go_sem, Nat.reduceEqDiff, Nat.reduceAdd, Nat.reduceLeDiff, List.length_map, Int.reduceLT, Int.reduceLE, Int.reduceToNat, Int.toNat_zero, Int.le_refl, Int.reduceAdd, decide_true, decide_false, Nat.reduceMul, Nat.reduceLT, Nat.lt_irrefl, true_and, and_self, ↓reduceIte]
 refine condE_split (fun h => ?_) (fun h => ?_)
 ·have hi' : i < l.length := by simpa using h
  have hup : IntKind.i64.wrap ((i : Int) + 1) = ((i + 1 : Nat) : Int) := by
   have : maxLen = 9223372036854775807 := rfl
   rw [wrap64 (by omega) (by omega)]; rfl
  simp only [nn0, Int.toNat_natCast, get_opC hi', opC, evC, go_sem, Nat.reduceEqDiff, Nat.reduceAdd, Nat.reduceLeDiff, List.length_map, Int.reduceLT, Int.reduceLE, Int.reduceToNat, Int.toNat_zero, Int.le_refl, Int.reduceAdd, decide_true, decide_false, Nat.reduceMul, Nat.reduceLT, Nat.lt_irrefl, true_and, and_self, ↓reduceIte]
  refine callP_eq rfl rfl (kref6Few _ (ho _ (ogetm hi')).2) ?_
  simp only [go_sem, Nat.reduceEqDiff, Nat.reduceAdd, Nat.reduceLeDiff, List.length_map, Int.reduceLT, Int.reduceLE, Int.reduceToNat, Int.toNat_zero, Int.le_refl, Int.reduceAdd, decide_true, decide_false, Nat.reduceMul, Nat.reduceLT, Nat.lt_irrefl, true_and, and_self, ↓reduceIte]
  cases h2 : few6 (l.getD i op0).f
  ·simp only [go_sem, Nat.reduceEqDiff, Nat.reduceAdd, Nat.reduceLeDiff, List.length_map, Int.reduceLT, Int.reduceLE, Int.reduceToNat, Int.toNat_zero, Int.le_refl, Int.reduceAdd, decide_true, decide_false, Nat.reduceMul, Nat.reduceLT, Nat.lt_irrefl, true_and, and_self, ↓reduceIte]
   have : (l.all fun o => few6 o.f) = false := by
    rw [List.all_eq_false]; exact ⟨_, ogetm hi', by rw [h2]; simp⟩
   rw [this]; rfl
  ·simp only [hup, go_sem, Nat.reduceEqDiff, Nat.reduceAdd, Nat.reduceLeDiff, List.length_map, Int.reduceLT, Int.reduceLE, Int.reduceToNat, Int.toNat_zero, Int.le_refl, Int.reduceAdd, decide_true, decide_false, Nat.reduceMul, Nat.reduceLT, Nat.lt_irrefl, true_and, and_self, ↓reduceIte]
   exact invN_next hi' (nextP hp h2) (by simp only [go_sem, Nat.reduceEqDiff, Nat.reduceAdd, Nat.reduceLeDiff, List.length_map, Int.reduceLT, Int.reduceLE, Int.reduceToNat, Int.toNat_zero, Int.le_refl, Int.reduceAdd, decide_true, decide_false, Nat.reduceMul, Nat.reduceLT, Nat.lt_irrefl, true_and, and_self, ↓reduceIte])
 ·have hil' : i = l.length := by simp at h; omega
  subst hil'
  simp only [go_sem, Nat.reduceEqDiff, Nat.reduceAdd, Nat.reduceLeDiff, List.length_map, Int.reduceLT, Int.reduceLE, Int.reduceToNat, Int.toNat_zero, Int.le_refl, Int.reduceAdd, decide_true, decide_false, Nat.reduceMul, Nat.reduceLT, Nat.lt_irrefl, true_and, and_self, ↓reduceIte]
  have : (l.all fun o => few6 o.f) = true := by
   rw [List.all_eq_true]; intro x hx
   obtain ⟨j, hj, rfl⟩ := List.getElem_of_mem hx
   rw [← oget hj]; exact hp j hj
  rw [this]
  have e : decide ((l.length : Int) > 200) = decide (l.length > 200) := by rw [decide_eq_decide]; omega
  rw [e]; rfl
end Go.Proofs
