/- A part of the proof; what is proved stands in the last text. -/
import Derived.Test.YtipppgiimemloaaGreatTC
import Derived.Test.YtipppgiimemloaaGreatMX
set_option linter.unusedVariables false
set_option maxRecDepth 2000
namespace Go.Proofs
open Go.Vm
set_option linter.unusedSimpArgs false

def at4 {α : Type} (a b c d : α) : Nat → α
  | 0 => a
  | 1 => b
  | 2 => c
  | _ => d
def z4 : Nat → Int
  | 0 => 0
  | 1 => 1
  | 2 => 2
  | 3 => 3
  | _ => 4
theorem c0 : ((0 : Nat) : Int) = 0 := rfl
theorem c1 : ((1 : Nat) : Int) = 1 := rfl
theorem c2 : ((2 : Nat) : Int) = 2 := rfl
theorem c3 : ((3 : Nat) : Int) = 3 := rfl
theorem c4 : ((4 : Nat) : Int) = 4 := rfl
theorem wr1 : IntKind.i64.wrap 1 = 1 := rfl
theorem wr2 : IntKind.i64.wrap 2 = 2 := rfl
theorem wr3 : IntKind.i64.wrap 3 = 3 := rfl
theorem wr4 : IntKind.i64.wrap 4 = 4 := rfl
structure BoxM where
  s0 : SetM
  s1 : SetM
  s2 : SetM
  s3 : SetM
structure EvM where
  v0 : ValM
  v1 : ValM
  v2 : ValM
  v3 : ValM
def BoxM.at (b : BoxM) : Nat → SetM := at4 b.s0 b.s1 b.s2 b.s3
def EvM.at (e : EvM) : Nat → ValM := at4 e.v0 e.v1 e.v2 e.v3
def boxC (b : BoxM) : List D := [
  .val (.bool b.s0.absent), .sl none (b.s0.ints.map encR), .val (.bool b.s0.co), .sl none (b.s0.strs.map encSt),
  .val (.bool b.s1.absent), .sl none (b.s1.ints.map encR), .val (.bool b.s1.co), .sl none (b.s1.strs.map encSt),
  .val (.bool b.s2.absent), .sl none (b.s2.ints.map encR), .val (.bool b.s2.co), .sl none (b.s2.strs.map encSt),
  .val (.bool b.s3.absent), .sl none (b.s3.ints.map encR), .val (.bool b.s3.co), .sl none (b.s3.strs.map encSt)]
def evC (e : EvM) : List D := [
  .val (.int .i64 e.v0.kind), .val (.int .i64 e.v0.n), .val (.string e.v0.s),
  .val (.int .i64 e.v1.kind), .val (.int .i64 e.v1.n), .val (.string e.v1.s),
  .val (.int .i64 e.v2.kind), .val (.int .i64 e.v2.n), .val (.string e.v2.s),
  .val (.int .i64 e.v3.kind), .val (.int .i64 e.v3.n), .val (.string e.v3.s)]
@[go_sem] theorem tags_boxC (s : BoxM) : tagsL (boxC s) = [] := rfl
@[go_sem] theorem tags_evC (s : EvM) : tagsL (evC s) = [] := rfl
@[go_sem] theorem av_boxC (p : Nat → Bool) (q : Tag → Bool) (s : BoxM) : D.avoids.avoidsL p q (boxC s) = true := rfl
@[go_sem] theorem av_evC (p : Nat → Bool) (q : Tag → Bool) (s : EvM) : D.avoids.avoidsL p q (evC s) = true := rfl
def fillB (f : Nat → SetM) (i : Nat) : BoxM := ⟨if 0 < i then f 0 else noM, if 1 < i then f 1 else noM, if 2 < i then f 2 else noM, if 3 < i then f 3 else noM⟩
theorem four {i : Nat} (h : i ≤ 4) : i = 0 ∨ i = 1 ∨ i = 2 ∨ i = 3 ∨ i = 4 := by omega
theorem next4 {p : Nat → Prop} {i : Nat} (h : ∀ j, j < i → p j) (hi : p i) : ∀ j, j < i + 1 → p j := fun j hj => by
  by_cases e : j = i
  · subst e; exact hi
  · exact h j (by omega)
def all4 (p : Nat → Bool) : Bool := p 0 && p 1 && p 2 && p 3
theorem all4_iff {p : Nat → Bool} : all4 p = true ↔ ∀ j, j < 4 → p j = true := by
  unfold all4
  simp only [Bool.and_eq_true]
  constructor
  · rintro ⟨⟨⟨h0, h1⟩, h2⟩, h3⟩ j hj
    have : j = 0 ∨ j = 1 ∨ j = 2 ∨ j = 3 := by omega
    rcases this with rfl | rfl | rfl | rfl <;> assumption
  · intro h; exact ⟨⟨⟨h 0 (by omega), h 1 (by omega)⟩, h 2 (by omega)⟩, h 3 (by omega)⟩
theorem all4_f {p : Nat → Bool} {i : Nat} (hi : i < 4) (h : p i = false) : all4 p = false := by
  cases ha : all4 p
  · rfl
  · rw [all4_iff.1 ha i hi] at h; cases h
def inv4 (p : Nat → Prop) (ts os : List Nat) (st : Nat → St) (S : St) (n : Nat) : Prop := ∃ i : Nat, i ≤ 4 ∧ n = 4 - i ∧ (∀ j, j < i → p j) ∧ S.trim ts os [] = st i
theorem inv4_next {p : Nat → Prop} {ts os : List Nat} {st : Nat → St} {S : St} (i : Nat) (hi : i < 4) (h : ∀ j, j < i → p j) (hp : p i) (hS : S.trim ts os [] = st (i + 1)) : ∃ k, k < 4 - i ∧ inv4 p ts os st S k :=
  ⟨4 - (i + 1), by omega, i + 1, by omega, rfl, next4 h hp, hS⟩

def allB : BoxM := ⟨allM, allM, allM, allM⟩
def stAll (i : Nat) : St := ⟨[(0, .ptr 0 0), (2, .val (.int .i64 (z4 i)))], [(0, boxC (fillB (fun _ => allM) i))], []⟩
theorem kboxAll : PureAt Tryz.prog 86 [] (· = .agg (boxC allB)) := by
  refine pure_of r86 (by kernel_rfl) ?_
  unfold m86
  simp only [go_sem, Nat.reduceEqDiff]
  refine ev_loop_by (inv4 (fun _ => True) [0, 2] [0] stAll) 4 ⟨0, by simp, by simp, by simp, by simp only [go_sem, Nat.reduceEqDiff, ↓reduceIte]; rfl⟩ ?_
  rintro n S ⟨i, hi, hn, hq, hS⟩
  rw [ev_trim, hS]
  subst hn
  clear hS S
  unfold stAll
  rcases four hi with rfl | rfl | rfl | rfl | rfl
  · simp only [boxC, go_sem, Nat.reduceEqDiff, z4, fillB, Int.reduceLT, decide_true, Nat.reduceLT, Nat.lt_irrefl, ↓reduceIte]
    refine callP_eq rfl rfl (kAll') ?_
    simp only [go_sem, Nat.reduceEqDiff]
    simp only [setC, go_sem, Nat.reduceEqDiff, Nat.reduceAdd, Nat.reduceLeDiff, Int.reduceLT, Int.toNat_zero, Int.le_refl, Int.reduceAdd, wr1, c4, Nat.reduceMul, true_and, and_self, ↓reduceIte]
    refine inv4_next 0 (by omega) hq trivial ?_
    simp only [go_sem, Nat.reduceEqDiff, Nat.reduceAdd, Nat.reduceLT, Nat.lt_irrefl, ↓reduceIte]
  · simp only [boxC, go_sem, Nat.reduceEqDiff, z4, fillB, Int.reduceLT, decide_true, Nat.reduceLT, Nat.lt_irrefl, ↓reduceIte]
    refine callP_eq rfl rfl (kAll') ?_
    simp only [go_sem, Nat.reduceEqDiff]
    simp only [setC, go_sem, Nat.reduceEqDiff, Nat.reduceAdd, Nat.reduceLeDiff, Int.reduceLT, Int.reduceLE, Int.reduceToNat, Int.reduceAdd, wr2, c4, Nat.reduceMul, true_and, and_self, ↓reduceIte]
    refine inv4_next 1 (by omega) hq trivial ?_
    simp only [go_sem, Nat.reduceEqDiff, Nat.reduceAdd, Nat.reduceLT, Nat.lt_irrefl, ↓reduceIte]
  · simp only [boxC, go_sem, Nat.reduceEqDiff, z4, fillB, Int.reduceLT, decide_true, Nat.reduceLT, Nat.lt_irrefl, ↓reduceIte]
    refine callP_eq rfl rfl (kAll') ?_
    simp only [go_sem, Nat.reduceEqDiff]
    simp only [setC, go_sem, Nat.reduceEqDiff, Nat.reduceAdd, Nat.reduceLeDiff, Int.reduceLT, Int.reduceLE, Int.reduceToNat, Int.reduceAdd, wr3, c4, Nat.reduceMul, true_and, and_self, ↓reduceIte]
    refine inv4_next 2 (by omega) hq trivial ?_
    simp only [go_sem, Nat.reduceEqDiff, Nat.reduceAdd, Nat.reduceLT, Nat.lt_irrefl, ↓reduceIte]
  · simp only [boxC, go_sem, Nat.reduceEqDiff, z4, fillB, Int.reduceLT, decide_true, Nat.reduceLT, Nat.lt_irrefl, ↓reduceIte]
    refine callP_eq rfl rfl (kAll') ?_
    simp only [go_sem, Nat.reduceEqDiff]
    simp only [setC, go_sem, Nat.reduceEqDiff, Nat.reduceAdd, Nat.reduceLeDiff, Int.reduceLT, Int.reduceLE, Int.reduceToNat, Int.reduceAdd, wr4, c4, Nat.reduceMul, true_and, and_self, ↓reduceIte]
    refine inv4_next 3 (by omega) hq trivial ?_
    simp only [go_sem, Nat.reduceEqDiff, Nat.reduceAdd, Nat.reduceLT, ↓reduceIte]
  · simp only [boxC, allB, go_sem, Nat.reduceEqDiff, Nat.reduceAdd, Nat.reduceLeDiff, z4, fillB, Int.reduceLT, decide_false, Nat.reduceLT, and_self, ↓reduceIte]

theorem kWith (b : BoxM) (n : Int) (s : SetM) : PureAt Tryz.prog 124 [.agg (boxC b), .val (.int .i64 n), .agg (setC s)] (· = .agg (boxC ⟨if n = 0 then s else b.s0, if n = 1 then s else b.s1, if n = 2 then s else b.s2, if n = 3 then s else b.s3⟩)) := by
  refine pure_of r124 (by kernel_rfl) ?_
  unfold m124 boxC setC
  simp only [go_sem, Nat.reduceEqDiff, Nat.reduceAdd]
  first | refine condE_split (fun h1 => ?_) (fun h1 => ?_) | refine wantE_split (fun h1 => ?_) (fun h1 => ?_) | refine wantQ_split (fun h1 => ?_) (fun h1 => ?_)
  · have h1' : 0 ≤ n := by simpa using h1
    simp only [h1, go_sem, Nat.reduceEqDiff]
    refine condE_split (fun h2 => ?_) (fun h2 => ?_)
    · have h2 : n < 4 := by simpa using h2
      have : n = 0 ∨ n = 1 ∨ n = 2 ∨ n = 3 := by omega
      rcases this with rfl | rfl | rfl | rfl
      all_goals
        simp only [go_sem, Nat.reduceEqDiff, Nat.reduceAdd, Nat.reduceLeDiff, Int.reduceLT, Int.reduceLE, Int.reduceToNat, Int.toNat_zero, Int.le_refl, decide_true, c4, Nat.reduceMul, true_and, and_self, ↓reduceIte]
        simp
    · have h2 : ¬ n < 4 := by simpa using h2
      have e0 : ¬ n = 0 := by omega
      have e1 : ¬ n = 1 := by omega
      have e2 : ¬ n = 2 := by omega
      have e3 : ¬ n = 3 := by omega
      simp only [if_neg e0, if_neg e1, if_neg e2, if_neg e3, go_sem, Nat.reduceEqDiff, Nat.reduceAdd, Nat.reduceLeDiff]
  · have h1' : ¬ 0 ≤ n := by simpa using h1
    have e0 : ¬ n = 0 := by omega
    have e1 : ¬ n = 1 := by omega
    have e2 : ¬ n = 2 := by omega
    have e3 : ¬ n = 3 := by omega
    simp only [h1, if_neg e0, if_neg e1, if_neg e2, if_neg e3, go_sem, Nat.reduceEqDiff, Nat.reduceAdd, Nat.reduceLeDiff]

def withB (b : BoxM) (n : Int) (s : SetM) : BoxM := ⟨if n = 0 then s else b.s0, if n = 1 then s else b.s1, if n = 2 then s else b.s2, if n = 3 then s else b.s3⟩
theorem kAtom (n : Int) (s : SetM) : PureAt Tryz.prog 84 [.val (.int .i64 n), .agg (setC s)] (· = .agg (boxC (withB allB n s))) := by
  have p := kWith allB n s
  change PureAt _ _ _ (· = .agg (boxC (withB allB n s))) at p
  generalize withB allB n s = r at *
  refine pure_of r84 (by kernel_rfl) ?_
  unfold m84
  simp only [setC, go_sem, Nat.reduceEqDiff, Nat.reduceAdd]
  refine callQ_by _ rfl rfl (kboxAll) ?_
  simp only [go_sem, Nat.reduceEqDiff, Nat.reduceAdd, Nat.reduceLeDiff]
  refine callQ_by _ rfl rfl (p) ?_
  simp only [go_sem, Nat.reduceEqDiff]
  simp only [boxC, go_sem, Nat.reduceEqDiff, Nat.reduceAdd, Nat.reduceLeDiff]

def FewB (k : Nat) (b : BoxM) : Prop := ∀ i, i < 4 → (b.at i).ints.length ≤ k ∧ (b.at i).strs.length ≤ k
def sameB (a b : BoxM) (i : Nat) : Bool := sameM (a.at i) (b.at i)
def boxSame (a b : BoxM) : Bool := all4 (sameB a b)
def andB (a b : BoxM) : BoxM := ⟨andM normR a.s0 b.s0, andM normR a.s1 b.s1, andM normR a.s2 b.s2, andM normR a.s3 b.s3⟩
def stAnd (a b : BoxM) (i : Nat) : St := ⟨[(2, .ptr 2 0), (3, .ptr 3 0), (4, .ptr 4 0), (6, .val (.int .i64 (z4 i)))], [(2, boxC a), (3, boxC b), (4, boxC (fillB (fun j => andM normR (a.at j) (b.at j)) i))], []⟩
theorem kboxAnd (a b : BoxM) (ha : FewB 900 a) (hb : FewB 900 b) : PureAt Tryz.prog 129 [.agg (boxC a), .agg (boxC b)] (· = .agg (boxC (andB a b))) := by
  refine pure_of r129 (by kernel_rfl) ?_
  unfold m129
  simp only [boxC, go_sem, Nat.reduceEqDiff, Nat.reduceAdd]
  refine ev_loop_by (inv4 (fun _ => True) [2, 3, 4, 6] [2, 3, 4] (stAnd a b)) 4 ⟨0, by simp, by simp, by simp, by simp only [stAnd, boxC, go_sem, Nat.reduceEqDiff, z4, fillB, Nat.reduceLT, Nat.lt_irrefl, ↓reduceIte]; rfl⟩ ?_
  rintro n S ⟨i, hi, hn, hq, hS⟩
  rw [ev_trim, hS]
  subst hn
  clear hS S
  simp only [stAnd]
  rcases four hi with rfl | rfl | rfl | rfl | rfl
  · obtain ⟨k1, k2⟩ := ha 0 (by omega)
    obtain ⟨k3, k4⟩ := hb 0 (by omega)
    simp only [boxC, go_sem, Nat.reduceEqDiff, Nat.reduceAdd, Nat.reduceLeDiff, z4, fillB, Int.reduceLT, Int.toNat_zero, Int.le_refl, decide_true, c4, Nat.reduceMul, Nat.reduceLT, Nat.lt_irrefl, and_self, ↓reduceIte]
    refine callQ_by _ rfl rfl (kAnd _ _ k1 k3 k2 k4) ?_
    simp only [setC, go_sem, Nat.reduceEqDiff, Nat.reduceAdd, Nat.reduceLeDiff, Int.reduceLT, Int.toNat_zero, Int.le_refl, Int.reduceAdd, wr1, c4, Nat.reduceMul, true_and, and_self, ↓reduceIte]
    refine inv4_next 0 (by omega) hq trivial ?_
    rw [stAnd]
    simp only [boxC, go_sem, Nat.reduceEqDiff, Nat.reduceAdd, z4, at4, BoxM.at, fillB, Nat.reduceLT, Nat.lt_irrefl, ↓reduceIte]
  · obtain ⟨k1, k2⟩ := ha 1 (by omega)
    obtain ⟨k3, k4⟩ := hb 1 (by omega)
    simp only [boxC, go_sem, Nat.reduceEqDiff, Nat.reduceAdd, Nat.reduceLeDiff, z4, at4, BoxM.at, fillB, Int.reduceLT, Int.reduceLE, Int.reduceToNat, decide_true, c4, Nat.reduceMul, Nat.reduceLT, Nat.lt_irrefl, and_self, ↓reduceIte]
    refine callQ_by _ rfl rfl (kAnd _ _ k1 k3 k2 k4) ?_
    simp only [setC, go_sem, Nat.reduceEqDiff, Nat.reduceAdd, Nat.reduceLeDiff, Int.reduceLT, Int.reduceLE, Int.reduceToNat, Int.reduceAdd, wr2, c4, Nat.reduceMul, true_and, and_self, ↓reduceIte]
    refine inv4_next 1 (by omega) hq trivial ?_
    rw [stAnd]
    simp only [boxC, go_sem, Nat.reduceEqDiff, Nat.reduceAdd, z4, at4, BoxM.at, fillB, Nat.reduceLT, Nat.lt_irrefl, ↓reduceIte]
  · obtain ⟨k1, k2⟩ := ha 2 (by omega)
    obtain ⟨k3, k4⟩ := hb 2 (by omega)
    simp only [boxC, go_sem, Nat.reduceEqDiff, Nat.reduceAdd, Nat.reduceLeDiff, z4, at4, BoxM.at, fillB, Int.reduceLT, Int.reduceLE, Int.reduceToNat, decide_true, c4, Nat.reduceMul, Nat.reduceLT, Nat.lt_irrefl, and_self, ↓reduceIte]
    refine callQ_by _ rfl rfl (kAnd _ _ k1 k3 k2 k4) ?_
    simp only [setC, go_sem, Nat.reduceEqDiff, Nat.reduceAdd, Nat.reduceLeDiff, Int.reduceLT, Int.reduceLE, Int.reduceToNat, Int.reduceAdd, wr3, c4, Nat.reduceMul, true_and, and_self, ↓reduceIte]
    refine inv4_next 2 (by omega) hq trivial ?_
    rw [stAnd]
    simp only [boxC, go_sem, Nat.reduceEqDiff, Nat.reduceAdd, z4, at4, BoxM.at, fillB, Nat.reduceLT, Nat.lt_irrefl, ↓reduceIte]
  · obtain ⟨k1, k2⟩ := ha 3 (by omega)
    obtain ⟨k3, k4⟩ := hb 3 (by omega)
    simp only [boxC, go_sem, Nat.reduceEqDiff, Nat.reduceAdd, Nat.reduceLeDiff, z4, at4, BoxM.at, fillB, Int.reduceLT, Int.reduceLE, Int.reduceToNat, decide_true, c4, Nat.reduceMul, Nat.reduceLT, Nat.lt_irrefl, and_self, ↓reduceIte]
    refine callQ_by _ rfl rfl (kAnd _ _ k1 k3 k2 k4) ?_
    simp only [setC, go_sem, Nat.reduceEqDiff, Nat.reduceAdd, Nat.reduceLeDiff, Int.reduceLT, Int.reduceLE, Int.reduceToNat, Int.reduceAdd, wr4, c4, Nat.reduceMul, true_and, and_self, ↓reduceIte]
    refine inv4_next 3 (by omega) hq trivial ?_
    rw [stAnd]
    simp only [boxC, go_sem, Nat.reduceEqDiff, Nat.reduceAdd, z4, at4, BoxM.at, fillB, Nat.reduceLT, ↓reduceIte]
  · simp only [boxC, andB, go_sem, Nat.reduceEqDiff, Nat.reduceAdd, Nat.reduceLeDiff, z4, at4, BoxM.at, fillB, Int.reduceLT, decide_false, Nat.reduceLT, and_self, ↓reduceIte]
end Go.Proofs

