/- A part of the proof; what is proved stands in the last text. -/
import Derived.Test.YtoojpeidgdadgaaT13
namespace Go.Proofs
open Go.Vm
set_option linter.unusedSimpArgs false

theorem norm_of {rs out : List Rg} (hb : ∀ r ∈ rs, InB r) (h : NF out) (hc : ∀ n, Cov out n ↔ Cov rs n) : normR rs = out :=
  NF_unique (normR_ok hb).1 h (fun n => ((normR_ok hb).2.2 n).trans (hc n).symm)

theorem kNot' (s : SetM) (hi : s.ints.length ≤ 1000000) (hs : s.strs.length ≤ 1000000) : PureAt Try.prog 14 [.agg (setC s)] (· = .agg (setC (notM normR s))) :=
  kNot normR (fun rs h => kRanges' rs h) normR_len s hi hs

theorem norm1 : normR [(1, 3), (4, 5), (9, 8)] = [(1, 5)] := by
  refine norm_of (by simp [InB]) (by simp [NF]) (fun n => ?_)
  simp only [Cov_cons, Cov_one]
  have := Cov_nil n
  show (1 ≤ n ∧ n ≤ 5) ∨ Cov [] n ↔ (1 ≤ n ∧ n ≤ 3) ∨ (4 ≤ n ∧ n ≤ 5) ∨ (9 ≤ n ∧ n ≤ 8) ∨ Cov [] n
  simp only [this, or_false]
  omega
theorem norm7 : normR [(7, 7)] = [(7, 7)] := norm_of (by simp [InB]) (by simp [NF]) (fun n => Iff.rfl)
theorem norm0 : normR [] = [] := norm_of (by simp) NF.nil (fun n => Iff.rfl)
theorem not7 : notM normR ⟨false, [(7, 7)], false, []⟩ = ⟨true, [(-9223372036854775808, 6), (8, 9223372036854775807)], true, []⟩ := by
  simp only [notM, norm7]; rfl
theorem not0 : notM normR ⟨false, [], false, []⟩ = ⟨true, [(-9223372036854775808, 9223372036854775807)], true, []⟩ := by
  simp only [notM, norm0]; rfl

theorem kawake03 : PureAt Try.prog 11 [] (· = .val (.bool true)) := by
  refine pure_of r11 (by kernel_rfl) ?_
  unfold m11
  simp only [go_sem, Nat.reduceEqDiff, Nat.reduceAdd, Nat.reduceLeDiff, List.length_map]
  have h5 := kRanges' [(1, 3), (4, 5), (9, 8)] (by simp)
  rw [show (sortRg [(1, 3), (4, 5), (9, 8)]).foldl merge1 [] = [(1, 5)] from norm1] at h5
  refine callP_eq rfl rfl h5 ?_
  simp only [List.map_cons, List.map_nil, encR, go_sem, Nat.reduceEqDiff, Nat.reduceAdd, Nat.reduceLeDiff, List.length_map]
  have h9 := kNot' ⟨false, [(7, 7)], false, []⟩ (by simp) (by simp)
  rw [not7] at h9
  refine callP_eq rfl rfl h9 ?_
  simp only [setC, List.map_cons, List.map_nil, encR, go_sem, Nat.reduceEqDiff, Nat.reduceAdd, Nat.reduceLeDiff, List.length_map]
  have c1 : ((1 : Nat) : Int) = 1 := rfl
  have c2 : ((2 : Nat) : Int) = 2 := rfl
  have h10 := fun v => kHas ⟨true, [(-9223372036854775808, 6), (8, 9223372036854775807)], true, []⟩ (by simp) (by simp) v
  have hx : hasM ⟨true, [(-9223372036854775808, 6), (8, 9223372036854775807)], true, []⟩ ⟨2, 0, ⟨#[120]⟩⟩ = true := by decide
  have hy : hasM ⟨true, [(-9223372036854775808, 6), (8, 9223372036854775807)], true, []⟩ ⟨1, 7, ⟨#[]⟩⟩ = false := by
    have e : (ByteArray.mk #[]).toList = [] := by rw [ByteArray.toList_eq]
    simp [hasM, rightV, e]
  have hx' := h10 ⟨2, 0, ⟨#[120]⟩⟩
  have hy' := h10 ⟨1, 7, ⟨#[]⟩⟩
  rw [hx] at hx'
  rw [hy] at hy'
  have h11 : PureAt Try.prog 22 [.agg (setC ⟨false, [], false, []⟩)] (· = .val (.bool true)) := kEmpty ⟨false, [], false, []⟩
  have h13 := kAll
  have h90 := kNot' ⟨false, [], false, []⟩ (by simp) (by simp)
  rw [not0] at h90
  have h12 := kSame ⟨true, [(-9223372036854775808, 9223372036854775807)], true, []⟩ ⟨true, [(-9223372036854775808, 9223372036854775807)], true, []⟩ (by simp) (by simp)
  rw [show sameM ⟨true, [(-9223372036854775808, 9223372036854775807)], true, []⟩ ⟨true, [(-9223372036854775808, 9223372036854775807)], true, []⟩ = true by simp [sameM]] at h12
  simp only [c1, c2, beq_self_eq_true, Int.reduceLE, Int.reduceToNat, Int.toNat_zero, Int.le_refl, go_sem, Nat.reduceEqDiff, Nat.reduceAdd, Nat.reduceLeDiff, List.length_map]
  refine callP_eq rfl rfl hx' ?_
  simp only [c1, c2, beq_self_eq_true, Int.reduceLE, Int.reduceToNat, Int.toNat_zero, Int.le_refl, go_sem, Nat.reduceEqDiff, Nat.reduceAdd, Nat.reduceLeDiff, List.length_map]
  refine callP_eq rfl rfl hy' ?_
  simp only [c1, c2, beq_self_eq_true, Int.reduceLE, Int.reduceToNat, Int.toNat_zero, Int.le_refl, go_sem, Nat.reduceEqDiff, Nat.reduceAdd, Nat.reduceLeDiff, List.length_map]
  refine callP_eq rfl rfl h11 ?_
  simp only [List.isEmpty_nil, go_sem, Nat.reduceEqDiff, Nat.reduceAdd, Nat.reduceLeDiff, List.length_map]
  refine callP_eq rfl rfl h13 ?_
  simp only [setC, List.map_cons, List.map_nil, encR, go_sem, Nat.reduceEqDiff, Nat.reduceAdd, Nat.reduceLeDiff, List.length_map]
  refine callP_eq rfl rfl h90 ?_
  simp only [setC, List.map_cons, List.map_nil, encR, go_sem, Nat.reduceEqDiff, Nat.reduceAdd, Nat.reduceLeDiff, List.length_map]
  refine callP_eq rfl rfl h12 ?_
  simp only [setC, List.map_cons, List.map_nil, encR, go_sem, Nat.reduceEqDiff, Nat.reduceAdd, Nat.reduceLeDiff, List.length_map]

end Go.Proofs
