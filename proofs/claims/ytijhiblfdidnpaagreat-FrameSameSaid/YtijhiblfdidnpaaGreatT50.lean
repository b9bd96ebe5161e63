/- A part of the proof; what is proved stands in the last text. -/
import Derived.Test.YtijhiblfdidnpaaGreatTC
import Derived.Test.YtijhiblfdidnpaaGreatMX
set_option linter.unusedVariables false
set_option maxRecDepth 2000
namespace Go.Proofs
open Go.Vm
set_option linter.unusedSimpArgs false

def at4 {α : Type} (a b c d : α) : Nat → α
  | 0 => a
  | 1 => b
  | 2 => c
  | _ => d
def z4 : Nat → Int
  | 0 => 0
  | 1 => 1
  | 2 => 2
  | 3 => 3
  | _ => 4
theorem c0 : ((0 : Nat) : Int) = 0 := rfl
theorem c1 : ((1 : Nat) : Int) = 1 := rfl
theorem c2 : ((2 : Nat) : Int) = 2 := rfl
theorem c3 : ((3 : Nat) : Int) = 3 := rfl
theorem c4 : ((4 : Nat) : Int) = 4 := rfl
theorem wr1 : IntKind.i64.wrap 1 = 1 := rfl
theorem wr2 : IntKind.i64.wrap 2 = 2 := rfl
theorem wr3 : IntKind.i64.wrap 3 = 3 := rfl
theorem wr4 : IntKind.i64.wrap 4 = 4 := rfl
structure BoxM where
  s0 : SetM
  s1 : SetM
  s2 : SetM
  s3 : SetM
structure EvM where
  v0 : ValM
  v1 : ValM
  v2 : ValM
  v3 : ValM
def BoxM.at (b : BoxM) : Nat → SetM := at4 b.s0 b.s1 b.s2 b.s3
def EvM.at (e : EvM) : Nat → ValM := at4 e.v0 e.v1 e.v2 e.v3
def boxC (b : BoxM) : List D := [
  .val (.bool b.s0.absent), .sl none (b.s0.ints.map encR), .val (.bool b.s0.co), .sl none (b.s0.strs.map encSt),
  .val (.bool b.s1.absent), .sl none (b.s1.ints.map encR), .val (.bool b.s1.co), .sl none (b.s1.strs.map encSt),
  .val (.bool b.s2.absent), .sl none (b.s2.ints.map encR), .val (.bool b.s2.co), .sl none (b.s2.strs.map encSt),
  .val (.bool b.s3.absent), .sl none (b.s3.ints.map encR), .val (.bool b.s3.co), .sl none (b.s3.strs.map encSt)]
def evC (e : EvM) : List D := [
  .val (.int .i64 e.v0.kind), .val (.int .i64 e.v0.n), .val (.string e.v0.s),
  .val (.int .i64 e.v1.kind), .val (.int .i64 e.v1.n), .val (.string e.v1.s),
  .val (.int .i64 e.v2.kind), .val (.int .i64 e.v2.n), .val (.string e.v2.s),
  .val (.int .i64 e.v3.kind), .val (.int .i64 e.v3.n), .val (.string e.v3.s)]
@[go_sem] theorem tags_boxC (s : BoxM) : tagsL (boxC s) = [] := rfl
@[go_sem] theorem tags_evC (s : EvM) : tagsL (evC s) = [] := rfl
@[go_sem] theorem av_boxC (p : Nat → Bool) (q : Tag → Bool) (s : BoxM) : D.avoids.avoidsL p q (boxC s) = true := rfl
@[go_sem] theorem av_evC (p : Nat → Bool) (q : Tag → Bool) (s : EvM) : D.avoids.avoidsL p q (evC s) = true := rfl
theorem four {i : Nat} (h : i ≤ 4) : i = 0 ∨ i = 1 ∨ i = 2 ∨ i = 3 ∨ i = 4 := by omega
theorem next4 {p : Nat → Prop} {i : Nat} (h : ∀ j, j < i → p j) (hi : p i) : ∀ j, j < i + 1 → p j := fun j hj => by
  by_cases e : j = i
  · subst e; exact hi
  · exact h j (by omega)
def all4 (p : Nat → Bool) : Bool := p 0 && p 1 && p 2 && p 3
theorem all4_iff {p : Nat → Bool} : all4 p = true ↔ ∀ j, j < 4 → p j = true := by
  unfold all4
  simp only [Bool.and_eq_true]
  constructor
  · rintro ⟨⟨⟨h0, h1⟩, h2⟩, h3⟩ j hj
    have : j = 0 ∨ j = 1 ∨ j = 2 ∨ j = 3 := by omega
    rcases this with rfl | rfl | rfl | rfl <;> assumption
  · intro h; exact ⟨⟨⟨h 0 (by omega), h 1 (by omega)⟩, h 2 (by omega)⟩, h 3 (by omega)⟩
theorem all4_f {p : Nat → Bool} {i : Nat} (hi : i < 4) (h : p i = false) : all4 p = false := by
  cases ha : all4 p
  · rfl
  · rw [all4_iff.1 ha i hi] at h; cases h
def inv4 (p : Nat → Prop) (ts os : List Nat) (st : Nat → St) (S : St) (n : Nat) : Prop := ∃ i : Nat, i ≤ 4 ∧ n = 4 - i ∧ (∀ j, j < i → p j) ∧ S.trim ts os [] = st i
theorem inv4_next {p : Nat → Prop} {ts os : List Nat} {st : Nat → St} {S : St} (i : Nat) (hi : i < 4) (h : ∀ j, j < i → p j) (hp : p i) (hS : S.trim ts os [] = st (i + 1)) : ∃ k, k < 4 - i ∧ inv4 p ts os st S k :=
  ⟨4 - (i + 1), by omega, i + 1, by omega, rfl, next4 h hp, hS⟩

def allB : BoxM := ⟨allM, allM, allM, allM⟩
def withB (b : BoxM) (n : Int) (s : SetM) : BoxM := ⟨if n = 0 then s else b.s0, if n = 1 then s else b.s1, if n = 2 then s else b.s2, if n = 3 then s else b.s3⟩
def dif (p : Nat → Bool) : Nat → Int × Int
  | 0 => (0, -1)
  | i + 1 => if p i = true then dif p i else ((dif p i).1 + 1, if (dif p i).1 = 0 then z4 i else (dif p i).2)
theorem dif_t {p : Nat → Bool} {i : Nat} (h : p i = true) : dif p (i + 1) = dif p i := by rw [dif, if_pos h]
theorem dif_f {p : Nat → Bool} {i : Nat} (h : p i = false) : dif p (i + 1) = ((dif p i).1 + 1, if (dif p i).1 = 0 then z4 i else (dif p i).2) := by rw [dif, if_neg (by rw [h]; simp)]
theorem dif_bnd (p : Nat → Bool) : ∀ i, 0 ≤ (dif p i).1 ∧ (dif p i).1 ≤ i
  | 0 => ⟨Int.le_refl _, Int.le_refl _⟩
  | i + 1 => by
    have := dif_bnd p i
    unfold dif
    split
    · omega
    · simp only; omega
def stDif (a b : BoxM) (p : Nat → Bool) (i : Nat) : St := ⟨[(2, .ptr 2 0), (3, .ptr 3 0), (4, .val (.int .i64 (dif p i).1)), (5, .val (.int .i64 (dif p i).2)), (7, .val (.int .i64 (z4 i)))], [(2, boxC a), (3, boxC b)], []⟩
def FewB (k : Nat) (b : BoxM) : Prop := ∀ i, i < 4 → (b.at i).ints.length ≤ k ∧ (b.at i).strs.length ≤ k
def sameB (a b : BoxM) (i : Nat) : Bool := sameM (a.at i) (b.at i)
theorem kDiffer (a b : BoxM) (ha : FewB 1000000 a) : PureAt Tryz.prog 105 [.agg (boxC a), .agg (boxC b)] (· = .tup [.val (.int .i64 (dif (sameB a b) 4).1), .val (.int .i64 (dif (sameB a b) 4).2)]) := by
  refine pure_of r105 (by kernel_rfl) ?_
  unfold m105
  simp only [boxC, go_sem, Nat.reduceEqDiff, Nat.reduceAdd]
  refine ev_loop_by (inv4 (fun _ => True) [2, 3, 4, 5, 7] [2, 3] (stDif a b (sameB a b))) 4 ⟨0, by simp, by simp, by simp, by simp only [stDif, boxC, dif, go_sem, Nat.reduceEqDiff, z4, ↓reduceIte]⟩ ?_
  rintro n S ⟨i, hi, hn, hq, hS⟩
  rw [ev_trim, hS]
  subst hn
  clear hS S
  simp only [stDif]
  rcases four hi with rfl | rfl | rfl | rfl | rfl
  · obtain ⟨k1, k2⟩ := ha 0 (by omega)
    simp only [boxC, go_sem, Nat.reduceEqDiff, Nat.reduceAdd, Nat.reduceLeDiff, z4, Int.reduceLT, Int.toNat_zero, Int.le_refl, decide_true, c4, Nat.reduceMul, and_self, ↓reduceIte]
    refine callQ_by _ rfl rfl (kSame _ _ k1 k2) ?_
    simp only [go_sem, Nat.reduceEqDiff, ↓reduceIte]
    refine condE_split (fun h => ?_) (fun h => ?_)
    · have hd : dif (sameB a b) (0 + 1) = dif (sameB a b) 0 := dif_t (i := 0) h
      simp only [go_sem, Nat.reduceEqDiff, Int.reduceAdd, wr1, ↓reduceIte]
      refine inv4_next 0 (by omega) hq trivial ?_
      rw [stDif, hd]
      simp only [boxC, go_sem, Nat.reduceEqDiff, Nat.reduceAdd, z4, ↓reduceIte]
    · have hd : dif (sameB a b) (0 + 1) = ((dif (sameB a b) 0).1 + 1, if (dif (sameB a b) 0).1 = 0 then z4 0 else (dif (sameB a b) 0).2) := dif_f (i := 0) h
      have hb := dif_bnd (sameB a b) 0
      generalize dif (sameB a b) 0 = x at *
      have hw : IntKind.i64.wrap (x.1 + 1) = x.1 + 1 := wrap64 (by omega) (by omega)
      simp only [hw, go_sem, Nat.reduceEqDiff, ↓reduceIte]
      refine condE_split (fun h1 => ?_) (fun h1 => ?_)
      · have h1 : x.1 = 0 := by simp at h1; omega
        simp only [go_sem, Nat.reduceEqDiff, Int.reduceAdd, wr1, ↓reduceIte]
        refine inv4_next 0 (by omega) hq trivial ?_
        rw [stDif, hd, if_pos h1]
        simp only [boxC, h1, go_sem, Nat.reduceEqDiff, Nat.reduceAdd, z4, Int.reduceAdd, ↓reduceIte]
      · have h1 : ¬ x.1 = 0 := by simp at h1; omega
        simp only [go_sem, Nat.reduceEqDiff, Int.reduceAdd, wr1, ↓reduceIte]
        refine inv4_next 0 (by omega) hq trivial ?_
        rw [stDif, hd, if_neg h1]
        simp only [boxC, go_sem, Nat.reduceEqDiff, Nat.reduceAdd, z4, ↓reduceIte]
  · obtain ⟨k1, k2⟩ := ha 1 (by omega)
    simp only [boxC, go_sem, Nat.reduceEqDiff, Nat.reduceAdd, Nat.reduceLeDiff, z4, Int.reduceLT, Int.reduceLE, Int.reduceToNat, decide_true, c4, Nat.reduceMul, and_self, ↓reduceIte]
    refine callQ_by _ rfl rfl (kSame _ _ k1 k2) ?_
    simp only [go_sem, Nat.reduceEqDiff, ↓reduceIte]
    refine condE_split (fun h => ?_) (fun h => ?_)
    · have hd : dif (sameB a b) (1 + 1) = dif (sameB a b) 1 := dif_t (i := 1) h
      simp only [go_sem, Nat.reduceEqDiff, Int.reduceAdd, wr2, ↓reduceIte]
      refine inv4_next 1 (by omega) hq trivial ?_
      rw [stDif, hd]
      simp only [boxC, go_sem, Nat.reduceEqDiff, Nat.reduceAdd, z4, ↓reduceIte]
    · have hd : dif (sameB a b) (1 + 1) = ((dif (sameB a b) 1).1 + 1, if (dif (sameB a b) 1).1 = 0 then z4 1 else (dif (sameB a b) 1).2) := dif_f (i := 1) h
      have hb := dif_bnd (sameB a b) 1
      generalize dif (sameB a b) 1 = x at *
      have hw : IntKind.i64.wrap (x.1 + 1) = x.1 + 1 := wrap64 (by omega) (by omega)
      simp only [hw, go_sem, Nat.reduceEqDiff, ↓reduceIte]
      refine condE_split (fun h1 => ?_) (fun h1 => ?_)
      · have h1 : x.1 = 0 := by simp at h1; omega
        simp only [go_sem, Nat.reduceEqDiff, Int.reduceAdd, wr2, ↓reduceIte]
        refine inv4_next 1 (by omega) hq trivial ?_
        rw [stDif, hd, if_pos h1]
        simp only [boxC, h1, go_sem, Nat.reduceEqDiff, Nat.reduceAdd, z4, Int.reduceAdd, ↓reduceIte]
      · have h1 : ¬ x.1 = 0 := by simp at h1; omega
        simp only [go_sem, Nat.reduceEqDiff, Int.reduceAdd, wr2, ↓reduceIte]
        refine inv4_next 1 (by omega) hq trivial ?_
        rw [stDif, hd, if_neg h1]
        simp only [boxC, go_sem, Nat.reduceEqDiff, Nat.reduceAdd, z4, ↓reduceIte]
  · obtain ⟨k1, k2⟩ := ha 2 (by omega)
    simp only [boxC, go_sem, Nat.reduceEqDiff, Nat.reduceAdd, Nat.reduceLeDiff, z4, Int.reduceLT, Int.reduceLE, Int.reduceToNat, decide_true, c4, Nat.reduceMul, and_self, ↓reduceIte]
    refine callQ_by _ rfl rfl (kSame _ _ k1 k2) ?_
    simp only [go_sem, Nat.reduceEqDiff, ↓reduceIte]
    refine condE_split (fun h => ?_) (fun h => ?_)
    · have hd : dif (sameB a b) (2 + 1) = dif (sameB a b) 2 := dif_t (i := 2) h
      simp only [go_sem, Nat.reduceEqDiff, Int.reduceAdd, wr3, ↓reduceIte]
      refine inv4_next 2 (by omega) hq trivial ?_
      rw [stDif, hd]
      simp only [boxC, go_sem, Nat.reduceEqDiff, Nat.reduceAdd, z4, ↓reduceIte]
    · have hd : dif (sameB a b) (2 + 1) = ((dif (sameB a b) 2).1 + 1, if (dif (sameB a b) 2).1 = 0 then z4 2 else (dif (sameB a b) 2).2) := dif_f (i := 2) h
      have hb := dif_bnd (sameB a b) 2
      generalize dif (sameB a b) 2 = x at *
      have hw : IntKind.i64.wrap (x.1 + 1) = x.1 + 1 := wrap64 (by omega) (by omega)
      simp only [hw, go_sem, Nat.reduceEqDiff, ↓reduceIte]
      refine condE_split (fun h1 => ?_) (fun h1 => ?_)
      · have h1 : x.1 = 0 := by simp at h1; omega
        simp only [go_sem, Nat.reduceEqDiff, Int.reduceAdd, wr3, ↓reduceIte]
        refine inv4_next 2 (by omega) hq trivial ?_
        rw [stDif, hd, if_pos h1]
        simp only [boxC, h1, go_sem, Nat.reduceEqDiff, Nat.reduceAdd, z4, Int.reduceAdd, ↓reduceIte]
      · have h1 : ¬ x.1 = 0 := by simp at h1; omega
        simp only [go_sem, Nat.reduceEqDiff, Int.reduceAdd, wr3, ↓reduceIte]
        refine inv4_next 2 (by omega) hq trivial ?_
        rw [stDif, hd, if_neg h1]
        simp only [boxC, go_sem, Nat.reduceEqDiff, Nat.reduceAdd, z4, ↓reduceIte]
  · obtain ⟨k1, k2⟩ := ha 3 (by omega)
    simp only [boxC, go_sem, Nat.reduceEqDiff, Nat.reduceAdd, Nat.reduceLeDiff, z4, Int.reduceLT, Int.reduceLE, Int.reduceToNat, decide_true, c4, Nat.reduceMul, and_self, ↓reduceIte]
    refine callQ_by _ rfl rfl (kSame _ _ k1 k2) ?_
    simp only [go_sem, Nat.reduceEqDiff, ↓reduceIte]
    refine condE_split (fun h => ?_) (fun h => ?_)
    · have hd : dif (sameB a b) (3 + 1) = dif (sameB a b) 3 := dif_t (i := 3) h
      simp only [go_sem, Nat.reduceEqDiff, Int.reduceAdd, wr4, ↓reduceIte]
      refine inv4_next 3 (by omega) hq trivial ?_
      rw [stDif, hd]
      simp only [boxC, go_sem, Nat.reduceEqDiff, Nat.reduceAdd, z4, ↓reduceIte]
    · have hd : dif (sameB a b) (3 + 1) = ((dif (sameB a b) 3).1 + 1, if (dif (sameB a b) 3).1 = 0 then z4 3 else (dif (sameB a b) 3).2) := dif_f (i := 3) h
      have hb := dif_bnd (sameB a b) 3
      generalize dif (sameB a b) 3 = x at *
      have hw : IntKind.i64.wrap (x.1 + 1) = x.1 + 1 := wrap64 (by omega) (by omega)
      simp only [hw, go_sem, Nat.reduceEqDiff, ↓reduceIte]
      refine condE_split (fun h1 => ?_) (fun h1 => ?_)
      · have h1 : x.1 = 0 := by simp at h1; omega
        simp only [go_sem, Nat.reduceEqDiff, Int.reduceAdd, wr4, ↓reduceIte]
        refine inv4_next 3 (by omega) hq trivial ?_
        rw [stDif, hd, if_pos h1]
        simp only [boxC, h1, go_sem, Nat.reduceEqDiff, Nat.reduceAdd, z4, Int.reduceAdd, ↓reduceIte]
      · have h1 : ¬ x.1 = 0 := by simp at h1; omega
        simp only [go_sem, Nat.reduceEqDiff, Int.reduceAdd, wr4, ↓reduceIte]
        refine inv4_next 3 (by omega) hq trivial ?_
        rw [stDif, hd, if_neg h1]
        simp only [boxC, go_sem, Nat.reduceEqDiff, Nat.reduceAdd, z4, ↓reduceIte]
  · simp only [go_sem, Nat.reduceEqDiff, z4, Int.reduceLT, decide_false, and_self, ↓reduceIte]

def boxSame (a b : BoxM) : Bool := all4 (sameB a b)
theorem dif_zero (p : Nat → Bool) : (decide ((dif p 4).1 = 0)) = all4 p := by
  unfold all4
  simp only [dif]
  cases p 0 <;> cases p 1 <;> cases p 2 <;> cases p 3 <;> simp
theorem kboxSame (a b : BoxM) (ha : FewB 1000000 a) : PureAt Tryz.prog 96 [.agg (boxC a), .agg (boxC b)] (· = .val (.bool (boxSame a b))) := by
  refine pure_of r96 (by kernel_rfl) ?_
  unfold m96
  simp only [boxC, go_sem, Nat.reduceEqDiff, Nat.reduceAdd, Nat.reduceLeDiff]
  refine callP_eq rfl rfl (kDiffer a b ha) ?_
  simp only [go_sem, Nat.reduceEqDiff]
  rw [boxSame, ← dif_zero]
  congr 2

end Go.Proofs

