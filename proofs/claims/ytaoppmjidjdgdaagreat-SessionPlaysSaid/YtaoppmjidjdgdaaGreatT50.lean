/- A part of the proof; what is proved stands in the last text. -/
import Derived.Test.YtaoppmjidjdgdaaGreatTC
import Derived.Test.YtaoppmjidjdgdaaGreatMX
set_option linter.unusedVariables false
set_option maxRecDepth 2000
namespace Go.Proofs
open Go.Vm
set_option linter.unusedSimpArgs false
def at4 {α : Type} (a b c d : α) : Nat → α
 | 0 => a
 | 1 => b
 | 2 => c
 | _ => d
def z4 : Nat → Int
 | 0 => 0
 | 1 => 1
 | 2 => 2
 | 3 => 3
 | _ => 4
theorem c0 : ((0 : Nat) : Int) = 0 := rfl
theorem c1 : ((1 : Nat) : Int) = 1 := rfl
theorem c2 : ((2 : Nat) : Int) = 2 := rfl
theorem c3 : ((3 : Nat) : Int) = 3 := rfl
theorem c4 : ((4 : Nat) : Int) = 4 := rfl
theorem wr1 : IntKind.i64.wrap 1 = 1 := rfl
theorem wr2 : IntKind.i64.wrap 2 = 2 := rfl
theorem wr3 : IntKind.i64.wrap 3 = 3 := rfl
theorem wr4 : IntKind.i64.wrap 4 = 4 := rfl
structure BoxM where
 s0 : SetM
 s1 : SetM
 s2 : SetM
 s3 : SetM
structure EvM where
 v0 : ValM
 v1 : ValM
 v2 : ValM
 v3 : ValM
def BoxM.at (b : BoxM) : Nat → SetM := at4 b.s0 b.s1 b.s2 b.s3
def EvM.at (e : EvM) : Nat → ValM := at4 e.v0 e.v1 e.v2 e.v3
def boxC (b : BoxM) : List D := [
 .val (.bool b.s0.absent), .sl none (b.s0.ints.map encR), .val (.bool b.s0.co), .sl none (b.s0.strs.map encSt),
 .val (.bool b.s1.absent), .sl none (b.s1.ints.map encR), .val (.bool b.s1.co), .sl none (b.s1.strs.map encSt),
 .val (.bool b.s2.absent), .sl none (b.s2.ints.map encR), .val (.bool b.s2.co), .sl none (b.s2.strs.map encSt),
 .val (.bool b.s3.absent), .sl none (b.s3.ints.map encR), .val (.bool b.s3.co), .sl none (b.s3.strs.map encSt)]
def evC (e : EvM) : List D := [
 .val (.int .i64 e.v0.kind), .val (.int .i64 e.v0.n), .val (.string e.v0.s),
 .val (.int .i64 e.v1.kind), .val (.int .i64 e.v1.n), .val (.string e.v1.s),
 .val (.int .i64 e.v2.kind), .val (.int .i64 e.v2.n), .val (.string e.v2.s),
 .val (.int .i64 e.v3.kind), .val (.int .i64 e.v3.n), .val (.string e.v3.s)]
@[go_sem] theorem tags_boxC (s : BoxM) : tagsL (boxC s) = [] := rfl
@[go_sem] theorem tags_evC (s : EvM) : tagsL (evC s) = [] := rfl
@[go_sem] theorem av_boxC (p : Nat → Bool) (q : Tag → Bool) (s : BoxM) : D.avoids.avoidsL p q (boxC s) = true := rfl
@[go_sem] theorem av_evC (p : Nat → Bool) (q : Tag → Bool) (s : EvM) : D.avoids.avoidsL p q (evC s) = true := rfl
def fillB (f : Nat → SetM) (i : Nat) : BoxM := ⟨if 0 < i then f 0 else noM, if 1 < i then f 1 else noM, if 2 < i then f 2 else noM, if 3 < i then f 3 else noM⟩
theorem four {i : Nat} (h : i ≤ 4) : i = 0 ∨ i = 1 ∨ i = 2 ∨ i = 3 ∨ i = 4 := by omega
theorem next4 {p : Nat → Prop} {i : Nat} (h : ∀ j, j < i → p j) (hi : p i) : ∀ j, j < i + 1 → p j := fun j hj => by
 by_cases e : j = i
 ·subst e; exact hi
 ·exact h j (by omega)
def all4 (p : Nat → Bool) : Bool := p 0 && p 1 && p 2 && p 3
theorem all4_iff {p : Nat → Bool} : all4 p = true ↔ ∀ j, j < 4 → p j = true := by
 unfold all4
 simp only [Bool.and_eq_true]
 constructor
 ·rintro ⟨⟨⟨h0, h1⟩, h2⟩, h3⟩ j hj
  have : j = 0 ∨ j = 1 ∨ j = 2 ∨ j = 3 := by omega
  rcases this with rfl | rfl | rfl | rfl <;> assumption
 ·intro h; exact ⟨⟨⟨h 0 (by omega), h 1 (by omega)⟩, h 2 (by omega)⟩, h 3 (by omega)⟩
theorem all4_f {p : Nat → Bool} {i : Nat} (hi : i < 4) (h : p i = false) : all4 p = false := by
 cases ha : all4 p
 ·rfl
 ·rw [all4_iff.1 ha i hi] at h; cases h
def inv4 (p : Nat → Prop) (ts os : List Nat) (st : Nat → St) (S : St) (n : Nat) : Prop := ∃ i : Nat, i ≤ 4 ∧ n = 4 - i ∧ (∀ j, j < i → p j) ∧ S.trim ts os [] = st i
theorem inv4_next {p : Nat → Prop} {ts os : List Nat} {st : Nat → St} {S : St} (i : Nat) (hi : i < 4) (h : ∀ j, j < i → p j) (hp : p i) (hS : S.trim ts os [] = st (i + 1)) : ∃ k, k < 4 - i ∧ inv4 p ts os st S k :=
 ⟨4 - (i + 1), by omega, i + 1, by omega, rfl, next4 h hp, hS⟩
def allB : BoxM := ⟨allM, allM, allM, allM⟩
def stAll (i : Nat) : St := ⟨[(0, .ptr 0 0), (2, .val (.int .i64 (z4 i)))], [(0, boxC (fillB (fun _ => allM) i))], []⟩
theorem kboxAll : PureAt Tryz.prog 22 [] (· = .agg (boxC allB)) := by
 refine pure_of r22 (by kernel_rfl) ?_
 unfold m22
 simp only [go_sem, Nat.reduceEqDiff, Nat.reduceAdd, Nat.reduceLeDiff, List.length_map]
 refine ev_loop_by (inv4 (fun _ => True) [0, 2] [0] stAll) 4 ⟨0, by simp, by simp, by simp, by simp only [go_sem, Nat.reduceEqDiff, Nat.reduceAdd, Nat.reduceLeDiff, List.length_map, z4, at4, BoxM.at, EvM.at, fillB, Int.reduceLT, Int.reduceLE, Int.reduceToNat, Int.toNat_zero, Int.le_refl, Int.reduceAdd, decide_true, decide_false, wr1, wr2, wr3, wr4, c0, c1, c2, c3, c4, Nat.reduceMul, Nat.reduceLT, Nat.lt_irrefl, true_and, and_self, ↓reduceIte]; rfl⟩ ?_
 rintro n S ⟨i, hi, hn, hq, hS⟩
 rw [ev_trim, hS]
 subst hn
 clear hS S
 unfold stAll
 rcases four hi with rfl | rfl | rfl | rfl | rfl
 ·simp only [boxC, go_sem, Nat.reduceEqDiff, Nat.reduceAdd, Nat.reduceLeDiff, List.length_map, z4, at4, BoxM.at, EvM.at, fillB, Int.reduceLT, Int.reduceLE, Int.reduceToNat, Int.toNat_zero, Int.le_refl, Int.reduceAdd, decide_true, decide_false, wr1, wr2, wr3, wr4, c0, c1, c2, c3, c4, Nat.reduceMul, Nat.reduceLT, Nat.lt_irrefl, true_and, and_self, ↓reduceIte]
  refine callP_eq rfl rfl (kAll') ?_
  simp only [z4, go_sem, Nat.reduceEqDiff, Nat.reduceAdd, Nat.reduceLeDiff, List.length_map]
  simp only [setC, go_sem, Nat.reduceEqDiff, Nat.reduceAdd, Nat.reduceLeDiff, List.length_map, z4, at4, BoxM.at, EvM.at, fillB, Int.reduceLT, Int.reduceLE, Int.reduceToNat, Int.toNat_zero, Int.le_refl, Int.reduceAdd, decide_true, decide_false, wr1, wr2, wr3, wr4, c0, c1, c2, c3, c4, Nat.reduceMul, Nat.reduceLT, Nat.lt_irrefl, true_and, and_self, ↓reduceIte]
  refine inv4_next 0 (by omega) hq trivial ?_
  simp only [boxC, stAll, go_sem, Nat.reduceEqDiff, Nat.reduceAdd, Nat.reduceLeDiff, List.length_map, z4, at4, BoxM.at, EvM.at, fillB, Int.reduceLT, Int.reduceLE, Int.reduceToNat, Int.toNat_zero, Int.le_refl, Int.reduceAdd, decide_true, decide_false, wr1, wr2, wr3, wr4, c0, c1, c2, c3, c4, Nat.reduceMul, Nat.reduceLT, Nat.lt_irrefl, true_and, and_self, ↓reduceIte]
 ·simp only [boxC, go_sem, Nat.reduceEqDiff, Nat.reduceAdd, Nat.reduceLeDiff, List.length_map, z4, at4, BoxM.at, EvM.at, fillB, Int.reduceLT, Int.reduceLE, Int.reduceToNat, Int.toNat_zero, Int.le_refl, Int.reduceAdd, decide_true, decide_false, wr1, wr2, wr3, wr4, c0, c1, c2, c3, c4, Nat.reduceMul, Nat.reduceLT, Nat.lt_irrefl, true_and, and_self, ↓reduceIte]
  refine callP_eq rfl rfl (kAll') ?_
  simp only [z4, go_sem, Nat.reduceEqDiff, Nat.reduceAdd, Nat.reduceLeDiff, List.length_map]
  simp only [setC, go_sem, Nat.reduceEqDiff, Nat.reduceAdd, Nat.reduceLeDiff, List.length_map, z4, at4, BoxM.at, EvM.at, fillB, Int.reduceLT, Int.reduceLE, Int.reduceToNat, Int.toNat_zero, Int.le_refl, Int.reduceAdd, decide_true, decide_false, wr1, wr2, wr3, wr4, c0, c1, c2, c3, c4, Nat.reduceMul, Nat.reduceLT, Nat.lt_irrefl, true_and, and_self, ↓reduceIte]
  refine inv4_next 1 (by omega) hq trivial ?_
  simp only [boxC, stAll, go_sem, Nat.reduceEqDiff, Nat.reduceAdd, Nat.reduceLeDiff, List.length_map, z4, at4, BoxM.at, EvM.at, fillB, Int.reduceLT, Int.reduceLE, Int.reduceToNat, Int.toNat_zero, Int.le_refl, Int.reduceAdd, decide_true, decide_false, wr1, wr2, wr3, wr4, c0, c1, c2, c3, c4, Nat.reduceMul, Nat.reduceLT, Nat.lt_irrefl, true_and, and_self, ↓reduceIte]
 ·simp only [boxC, go_sem, Nat.reduceEqDiff, Nat.reduceAdd, Nat.reduceLeDiff, List.length_map, z4, at4, BoxM.at, EvM.at, fillB, Int.reduceLT, Int.reduceLE, Int.reduceToNat, Int.toNat_zero, Int.le_refl, Int.reduceAdd, decide_true, decide_false, wr1, wr2, wr3, wr4, c0, c1, c2, c3, c4, Nat.reduceMul, Nat.reduceLT, Nat.lt_irrefl, true_and, and_self, ↓reduceIte]
  refine callP_eq rfl rfl (kAll') ?_
  simp only [z4, go_sem, Nat.reduceEqDiff, Nat.reduceAdd, Nat.reduceLeDiff, List.length_map]
  simp only [setC, go_sem, Nat.reduceEqDiff, Nat.reduceAdd, Nat.reduceLeDiff, List.length_map, z4, at4, BoxM.at, EvM.at, fillB, Int.reduceLT, Int.reduceLE, Int.reduceToNat, Int.toNat_zero, Int.le_refl, Int.reduceAdd, decide_true, decide_false, wr1, wr2, wr3, wr4, c0, c1, c2, c3, c4, Nat.reduceMul, Nat.reduceLT, Nat.lt_irrefl, true_and, and_self, ↓reduceIte]
  refine inv4_next 2 (by omega) hq trivial ?_
  simp only [boxC, stAll, go_sem, Nat.reduceEqDiff, Nat.reduceAdd, Nat.reduceLeDiff, List.length_map, z4, at4, BoxM.at, EvM.at, fillB, Int.reduceLT, Int.reduceLE, Int.reduceToNat, Int.toNat_zero, Int.le_refl, Int.reduceAdd, decide_true, decide_false, wr1, wr2, wr3, wr4, c0, c1, c2, c3, c4, Nat.reduceMul, Nat.reduceLT, Nat.lt_irrefl, true_and, and_self, ↓reduceIte]
 ·simp only [boxC, go_sem, Nat.reduceEqDiff, Nat.reduceAdd, Nat.reduceLeDiff, List.length_map, z4, at4, BoxM.at, EvM.at, fillB, Int.reduceLT, Int.reduceLE, Int.reduceToNat, Int.toNat_zero, Int.le_refl, Int.reduceAdd, decide_true, decide_false, wr1, wr2, wr3, wr4, c0, c1, c2, c3, c4, Nat.reduceMul, Nat.reduceLT, Nat.lt_irrefl, true_and, and_self, ↓reduceIte]
  refine callP_eq rfl rfl (kAll') ?_
  simp only [z4, go_sem, Nat.reduceEqDiff, Nat.reduceAdd, Nat.reduceLeDiff, List.length_map]
  simp only [setC, go_sem, Nat.reduceEqDiff, Nat.reduceAdd, Nat.reduceLeDiff, List.length_map, z4, at4, BoxM.at, EvM.at, fillB, Int.reduceLT, Int.reduceLE, Int.reduceToNat, Int.toNat_zero, Int.le_refl, Int.reduceAdd, decide_true, decide_false, wr1, wr2, wr3, wr4, c0, c1, c2, c3, c4, Nat.reduceMul, Nat.reduceLT, Nat.lt_irrefl, true_and, and_self, ↓reduceIte]
  refine inv4_next 3 (by omega) hq trivial ?_
  simp only [boxC, stAll, go_sem, Nat.reduceEqDiff, Nat.reduceAdd, Nat.reduceLeDiff, List.length_map, z4, at4, BoxM.at, EvM.at, fillB, Int.reduceLT, Int.reduceLE, Int.reduceToNat, Int.toNat_zero, Int.le_refl, Int.reduceAdd, decide_true, decide_false, wr1, wr2, wr3, wr4, c0, c1, c2, c3, c4, Nat.reduceMul, Nat.reduceLT, Nat.lt_irrefl, true_and, and_self, ↓reduceIte]
 ·simp only [boxC, allB, go_sem, Nat.reduceEqDiff, Nat.reduceAdd, Nat.reduceLeDiff, List.length_map, z4, at4, BoxM.at, EvM.at, fillB, Int.reduceLT, Int.reduceLE, Int.reduceToNat, Int.toNat_zero, Int.le_refl, Int.reduceAdd, decide_true, decide_false, wr1, wr2, wr3, wr4, c0, c1, c2, c3, c4, Nat.reduceMul, Nat.reduceLT, Nat.lt_irrefl, true_and, and_self, ↓reduceIte]
def withB (b : BoxM) (n : Int) (s : SetM) : BoxM := ⟨if n = 0 then s else b.s0, if n = 1 then s else b.s1, if n = 2 then s else b.s2, if n = 3 then s else b.s3⟩
def FewB (k : Nat) (b : BoxM) : Prop := ∀ i, i < 4 → (b.at i).ints.length ≤ k ∧ (b.at i).strs.length ≤ k
def sameB (a b : BoxM) (i : Nat) : Bool := sameM (a.at i) (b.at i)
def boxSame (a b : BoxM) : Bool := all4 (sameB a b)
end Go.Proofs
