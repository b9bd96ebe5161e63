/- A part of the proof; what is proved stands in the last text. -/
import Derived.Test.YtipppgiimemloaaGreatTG
set_option linter.unusedVariables false
set_option maxRecDepth 2000
namespace Go.Proofs
open Go.Vm
set_option linter.unusedSimpArgs false

def fineB (b : BoxM) : Bool := rightB b && smallB b
def rightF (l : List BoxM) : Bool := decide (l.length ≤ 4) && l.all fineB && decide ((tidyM l).length = l.length)
def prefF (l : List BoxM) (i : Nat) : Prop := ∀ j, j < i → fineB (l.getD j allB) = true
theorem all_pref {l : List BoxM} (h : prefF l l.length) : l.all fineB = true := by
  rw [List.all_eq_true]
  intro b hb
  obtain ⟨j, hj, rfl⟩ := List.getElem_of_mem hb
  rw [← getD_at hj]; exact h j hj
theorem all_not {l : List BoxM} {i : Nat} (hi : i < l.length) (h : fineB (l.getD i allB) = false) : l.all fineB = false := by
  rw [List.all_eq_false]
  exact ⟨_, getD_mem hi, by rw [h]; simp⟩
theorem int_eq {m n : Nat} : ((m : Int) == (n : Int)) = decide (m = n) := by
  by_cases h : m = n
  · subst h; simp
  · simp [h]; omega
theorem int_le4 {n : Nat} : (decide ((n : Int) > 4)) = !decide (n ≤ 4) := by
  by_cases h : n ≤ 4 <;> simp [h] <;> omega

set_option maxHeartbeats 2000000 in
theorem kdnfRight (l : List BoxM) (hl : l.length ≤ 10000) (hf : ∀ b ∈ l, FewB 900 b) (hb : ∀ b ∈ l, BndB b) : PureAt Tryz.prog 45 [.sl none (l.map boxC)] (· = .val (.bool (rightF l))) := by
  refine pure_of r45 (by kernel_rfl) ?_
  unfold m45
  simp only [int_le4, go_sem, Nat.reduceEqDiff, Nat.reduceAdd, Nat.reduceLeDiff, List.length_map]
  refine condE_split (fun h4 => ?_) (fun h4 => ?_)
  · simp only [go_sem, Nat.reduceEqDiff, Nat.reduceAdd, Nat.reduceLeDiff, List.length_map]
    have : decide (l.length ≤ 4) = false := by simpa using h4
    unfold rightF
    rw [this]; rfl
  have h4' : decide (l.length ≤ 4) = true := by simpa using h4
  simp only [go_sem, Nat.reduceEqDiff, Nat.reduceAdd, Nat.reduceLeDiff, List.length_map]
  refine loop_N l.length (prefF l) (fun i => ⟨[(0, .sl none (l.map boxC)), (8, .sl none (l.map boxC)), (9, .val (.int .i64 l.length)), (10, .val (.int .i64 i))], [], []⟩) (fun j hj => by omega) (by simp only [go_sem, Nat.reduceEqDiff, Nat.reduceAdd, Nat.reduceLeDiff, List.length_map]; rfl) ?_
  intro i hil hp
  simp only [go_sem, Nat.reduceEqDiff, Nat.reduceAdd, Nat.reduceLeDiff, List.length_map]
  refine condE_split (fun h => ?_) (fun h => ?_)
  · have hi' : i < l.length := by simpa using h
    have hup := up64 (show i < 1000000 by omega)
    have hm := getD_mem hi'
    simp only [nn0, Int.toNat_natCast, get_boxC hi', go_sem, Nat.reduceEqDiff, Nat.reduceAdd, Nat.reduceLeDiff, List.length_map]
    have p1 := kboxRight (l.getD i allB) (fun j hj => ⟨by have := (hf _ hm j hj).1; omega, by have := (hf _ hm j hj).2; omega⟩) (hb _ hm)
    have p2 := kboxSmall (l.getD i allB)
    have no : fineB (l.getD i allB) = false → rightF l = false := fun hx => by unfold rightF; rw [all_not hi' hx]; simp
    have yes : fineB (l.getD i allB) = true → prefF l (i + 1) := fun hx => nextP hp hx
    unfold fineB at no yes
    generalize rightB (l.getD i allB) = x at *
    generalize smallB (l.getD i allB) = y at *
    refine callP_eq rfl rfl p1 ?_
    cases x
    · simp only [go_sem, Nat.reduceEqDiff, Nat.reduceAdd, Nat.reduceLeDiff, List.length_map]
      rw [no rfl]
    simp only [go_sem, Nat.reduceEqDiff, Nat.reduceAdd, Nat.reduceLeDiff, List.length_map]
    refine callP_eq rfl rfl p2 ?_
    cases y
    · simp only [go_sem, Nat.reduceEqDiff, Nat.reduceAdd, Nat.reduceLeDiff, List.length_map]
      rw [no rfl]
    simp only [hup, go_sem, Nat.reduceEqDiff, Nat.reduceAdd, Nat.reduceLeDiff, List.length_map]
    exact invN_next hi' (yes rfl) (by simp only [go_sem, Nat.reduceEqDiff, Nat.reduceAdd, Nat.reduceLeDiff, List.length_map])
  · have hil' : i = l.length := by simp at h; omega
    subst hil'
    simp only [go_sem, Nat.reduceEqDiff, Nat.reduceAdd, Nat.reduceLeDiff, List.length_map]
    refine callP_eq rfl rfl (kTidy l hl hf) ?_
    simp only [int_eq, go_sem, Nat.reduceEqDiff, Nat.reduceAdd, Nat.reduceLeDiff, List.length_map]
    unfold rightF
    rw [all_pref hp, h4']; simp

end Go.Proofs

