/- A part of the proof; what is proved stands in the last text. -/
import Derived.Test.YtipppgiimemloaaGreatT24
set_option linter.unusedVariables false
set_option maxRecDepth 2000
namespace Go.Proofs
open Go.Vm
set_option linter.unusedSimpArgs false

/-! ### arbourref03.In -/
theorem PtsOf.len {l : List SetM} {ps : List ValM} (h : PtsOf l ps) (hf : ∀ s ∈ l, s.ints.length ≤ 40 ∧ s.strs.length ≤ 40) : ps.length ≤ 5 + 200 * l.length := by
  obtain ⟨t, rfl, -, -⟩ := h
  have := ptsS_len hf
  simp [ptsM, pts0] at this ⊢; omega
def leaves (a b : SetM) (p : ValM) : Bool := hasM a p && !hasM b p
def inv24 (a b : SetM) (ps : List ValM) (S : St) (n : Nat) : Prop := ∃ i : Nat, i ≤ ps.length ∧ n = ps.length - i ∧ (∀ j, j < i → ∀ h : j < ps.length, leaves a b ps[j] = false) ∧
  S.trim [2, 3, 5, 6] [2, 3] [(10, 40, 3)] = ⟨[(2, .ptr 2 0), (3, .ptr 3 0), (5, .sl (some (10, 40, 3)) (ps.map valC)), (6, .val (.int .i64 i))], [(2, setC a), (3, setC b)], [((10, 40, 3), true)]⟩

theorem krefIn3 (a b : SetM) (hf : ∀ s ∈ [a, b], s.ints.length ≤ 40 ∧ s.strs.length ≤ 40) (hb : ∀ s ∈ [a, b], ∀ r ∈ s.ints, InB r) :
    PureAt Tryz.prog 140 [.agg (setC a), .agg (setC b)] (fun d => ∃ ps, PtsOf [a, b] ps ∧ d = .val (.bool (!ps.any (leaves a b)))) := by
  have pp := kPoints [a, b] (by simp) hf hb
  have l1 := hf a (by simp)
  have l2 := hf b (by simp)
  have hp1 := fun v => krefHas3 a (by omega) (by omega) v
  have hp2 := fun v => krefHas3 b (by omega) (by omega) v
  refine pure_of r140 (by kernel_rfl) ?_
  unfold m140
  simp only [setC, go_sem, Nat.reduceEqDiff, Nat.reduceAdd, Nat.reduceLeDiff, List.length_map]
  refine callF_by rfl rfl pp ?_
  rintro es ⟨ps, rfl, hps⟩
  have hpl := hps.len hf
  simp only [List.length_cons, List.length_nil] at hpl
  simp only [go_sem, Nat.reduceEqDiff, Nat.reduceAdd, Nat.reduceLeDiff, List.length_map]
  refine ev_loop_by (inv24 a b ps) ps.length ⟨0, by simp, by simp, by simp, by simp only [setC, go_sem, Nat.reduceEqDiff, Nat.reduceAdd, Nat.reduceLeDiff, List.length_map]; rfl⟩ ?_
  rintro n S ⟨i, hi, hn, hq, hS⟩
  rw [ev_trim, hS]
  subst hn
  clear hS S
  simp only [setC, go_sem, Nat.reduceEqDiff, Nat.reduceAdd, Nat.reduceLeDiff, List.length_map]
  refine condE_split (fun h => ?_) (fun h => ?_)
  · have hi' : i < ps.length := by simpa using h
    have hget : (ps.map valC)[i]? = some [.val (.int .i64 ps[i].kind), .val (.int .i64 ps[i].n), .val (.string ps[i].s)] := by simp [valC, hi']
    have h0 : (0 ≤ (i : Int)) = True := by simp
    have hw : IntKind.i64.wrap ((i : Int) + 1) = ((i + 1 : Nat) : Int) := by rw [wrap64 (by omega) (by omega)]; rfl
    simp only [h0, Int.toNat_natCast, hget, go_sem, Nat.reduceEqDiff, Nat.reduceAdd, Nat.reduceLeDiff, List.length_map]
    refine callQ_by _ rfl rfl (hp1 ps[i]) ?_
    simp only [h0, Int.toNat_natCast, hget, go_sem, Nat.reduceEqDiff, Nat.reduceAdd, Nat.reduceLeDiff, List.length_map]
    first | refine condE_split (fun h1 => ?_) (fun h1 => ?_) | refine wantE_split (fun h1 => ?_) (fun h1 => ?_) | refine wantQ_split (fun h1 => ?_) (fun h1 => ?_)
    · simp only [h1, h0, Int.toNat_natCast, hget, go_sem, Nat.reduceEqDiff, Nat.reduceAdd, Nat.reduceLeDiff, List.length_map]
      refine callQ_by _ rfl rfl (hp2 ps[i]) ?_
      simp only [h1, h0, Int.toNat_natCast, hget, go_sem, Nat.reduceEqDiff, Nat.reduceAdd, Nat.reduceLeDiff, List.length_map]
      refine condE_split (fun h2 => ?_) (fun h2 => ?_)
      · simp only [go_sem, Nat.reduceEqDiff, Nat.reduceAdd, Nat.reduceLeDiff, List.length_map]
        have hl : leaves a b ps[i] = true := by simp only [leaves, h1, h2]; rfl
        have : ps.any (leaves a b) = true := List.any_eq_true.2 ⟨ps[i], by simp, hl⟩
        exact ⟨ps, hps, by rw [this]; rfl⟩
      · simp only [hw, go_sem, Nat.reduceEqDiff, Nat.reduceAdd, Nat.reduceLeDiff, List.length_map]
        refine ⟨ps.length - (i + 1), by omega, i + 1, by omega, rfl, fun j hj hjl => ?_, by simp only [setC, go_sem, Nat.reduceEqDiff, Nat.reduceAdd, Nat.reduceLeDiff, List.length_map]⟩
        by_cases e : j = i
        · subst e; simp only [leaves, h1, h2]; rfl
        · exact hq j (by omega) hjl
    · simp only [h1, hw, go_sem, Nat.reduceEqDiff, Nat.reduceAdd, Nat.reduceLeDiff, List.length_map]
      refine ⟨ps.length - (i + 1), by omega, i + 1, by omega, rfl, fun j hj hjl => ?_, by simp only [setC, go_sem, Nat.reduceEqDiff, Nat.reduceAdd, Nat.reduceLeDiff, List.length_map]⟩
      by_cases e : j = i
      · subst e; simp only [leaves, h1]; rfl
      · exact hq j (by omega) hjl
  · have hil : ¬ i < ps.length := by simpa using h
    simp only [go_sem, Nat.reduceEqDiff, Nat.reduceAdd, Nat.reduceLeDiff, List.length_map]
    have : ps.any (leaves a b) = false := any_none fun j hj => hq j (by omega)
    exact ⟨ps, hps, by rw [this]; rfl⟩
end Go.Proofs
