/- A part of the proof; what is proved stands in the last text. -/
import Derived.Test.YtncekmflajjmkaaT13
namespace Go.Proofs
open Go.Vm
set_option linter.unusedSimpArgs false

theorem norm_of {rs out : List Rg} (hb : ∀ r ∈ rs, InB r) (h : NF out) (hc : ∀ n, Cov out n ↔ Cov rs n) : normR rs = out :=
  NF_unique (normR_ok hb).1 h (fun n => ((normR_ok hb).2.2 n).trans (hc n).symm)

theorem k9' (s : SetM) (hi : s.ints.length ≤ 1000000) (hs : s.strs.length ≤ 1000000) : PureAt Try.prog 9 [.agg (setC s)] (· = .agg (setC (notM normR s))) :=
  k9 normR (fun rs h => k5' rs h) normR_len s hi hs

theorem norm1 : normR [(1, 3), (4, 5), (9, 8)] = [(1, 5)] := by
  refine norm_of (by simp [InB]) (by simp [NF]) (fun n => ?_)
  simp only [Cov_cons, Cov_one]
  have := Cov_nil n
  show (1 ≤ n ∧ n ≤ 5) ∨ Cov [] n ↔ (1 ≤ n ∧ n ≤ 3) ∨ (4 ≤ n ∧ n ≤ 5) ∨ (9 ≤ n ∧ n ≤ 8) ∨ Cov [] n
  simp only [this, or_false]
  omega
theorem norm7 : normR [(7, 7)] = [(7, 7)] := norm_of (by simp [InB]) (by simp [NF]) (fun n => Iff.rfl)
theorem norm0 : normR [] = [] := norm_of (by simp) NF.nil (fun n => Iff.rfl)
theorem not7 : notM normR ⟨false, [(7, 7)], false, []⟩ = ⟨true, [(-9223372036854775808, 6), (8, 9223372036854775807)], true, []⟩ := by
  simp only [notM, norm7]; rfl
theorem not0 : notM normR ⟨false, [], false, []⟩ = ⟨true, [(-9223372036854775808, 9223372036854775807)], true, []⟩ := by
  simp only [notM, norm0]; rfl

theorem k4 : PureAt Try.prog 4 [] (· = .val (.bool true)) := by
  refine pure_of r4 (by kernel_rfl) ?_
  unfold m4
  simp only [go_sem, Nat.reduceEqDiff, Nat.reduceAdd, Nat.reduceLeDiff, List.length_map]
  have h5 := k5' [(1, 3), (4, 5), (9, 8)] (by simp)
  rw [show (sortRg [(1, 3), (4, 5), (9, 8)]).foldl merge1 [] = [(1, 5)] from norm1] at h5
  refine callP_eq rfl rfl h5 ?_
  simp only [List.map_cons, List.map_nil, encR, go_sem, Nat.reduceEqDiff, Nat.reduceAdd, Nat.reduceLeDiff, List.length_map]
  have h9 := k9' ⟨false, [(7, 7)], false, []⟩ (by simp) (by simp)
  rw [not7] at h9
  refine callP_eq rfl rfl h9 ?_
  simp only [setC, List.map_cons, List.map_nil, encR, go_sem, Nat.reduceEqDiff, Nat.reduceAdd, Nat.reduceLeDiff, List.length_map]
  have c1 : ((1 : Nat) : Int) = 1 := rfl
  have c2 : ((2 : Nat) : Int) = 2 := rfl
  have h10 := fun v => k10 ⟨true, [(-9223372036854775808, 6), (8, 9223372036854775807)], true, []⟩ (by simp) (by simp) v
  have hx : hasM ⟨true, [(-9223372036854775808, 6), (8, 9223372036854775807)], true, []⟩ ⟨2, 0, ⟨#[120]⟩⟩ = true := by decide
  have hy : hasM ⟨true, [(-9223372036854775808, 6), (8, 9223372036854775807)], true, []⟩ ⟨1, 7, ⟨#[]⟩⟩ = false := by
    have e : (ByteArray.mk #[]).toList = [] := by rw [ByteArray.toList_eq]
    simp [hasM, rightV, e]
  have hx' := h10 ⟨2, 0, ⟨#[120]⟩⟩
  have hy' := h10 ⟨1, 7, ⟨#[]⟩⟩
  rw [hx] at hx'
  rw [hy] at hy'
  have h11 : PureAt Try.prog 11 [.agg (setC ⟨false, [], false, []⟩)] (· = .val (.bool true)) := k11 ⟨false, [], false, []⟩
  have h13 := k13
  have h90 := k9' ⟨false, [], false, []⟩ (by simp) (by simp)
  rw [not0] at h90
  have h12 := k12 ⟨true, [(-9223372036854775808, 9223372036854775807)], true, []⟩ ⟨true, [(-9223372036854775808, 9223372036854775807)], true, []⟩ (by simp) (by simp)
  rw [show sameM ⟨true, [(-9223372036854775808, 9223372036854775807)], true, []⟩ ⟨true, [(-9223372036854775808, 9223372036854775807)], true, []⟩ = true by simp [sameM]] at h12
  simp only [c1, c2, beq_self_eq_true, Int.reduceLE, Int.reduceToNat, Int.toNat_zero, Int.le_refl, go_sem, Nat.reduceEqDiff, Nat.reduceAdd, Nat.reduceLeDiff, List.length_map]
  refine callP_eq rfl rfl hx' ?_
  simp only [c1, c2, beq_self_eq_true, Int.reduceLE, Int.reduceToNat, Int.toNat_zero, Int.le_refl, go_sem, Nat.reduceEqDiff, Nat.reduceAdd, Nat.reduceLeDiff, List.length_map]
  refine callP_eq rfl rfl hy' ?_
  simp only [c1, c2, beq_self_eq_true, Int.reduceLE, Int.reduceToNat, Int.toNat_zero, Int.le_refl, go_sem, Nat.reduceEqDiff, Nat.reduceAdd, Nat.reduceLeDiff, List.length_map]
  refine callP_eq rfl rfl h11 ?_
  simp only [List.isEmpty_nil, go_sem, Nat.reduceEqDiff, Nat.reduceAdd, Nat.reduceLeDiff, List.length_map]
  refine callP_eq rfl rfl h13 ?_
  simp only [setC, List.map_cons, List.map_nil, encR, go_sem, Nat.reduceEqDiff, Nat.reduceAdd, Nat.reduceLeDiff, List.length_map]
  refine callP_eq rfl rfl h90 ?_
  simp only [setC, List.map_cons, List.map_nil, encR, go_sem, Nat.reduceEqDiff, Nat.reduceAdd, Nat.reduceLeDiff, List.length_map]
  refine callP_eq rfl rfl h12 ?_
  simp only [setC, List.map_cons, List.map_nil, encR, go_sem, Nat.reduceEqDiff, Nat.reduceAdd, Nat.reduceLeDiff, List.length_map]

theorem k3 (l : List Rg) (hb : ∀ r ∈ l, InB r) : PureAt Try.prog 3 [.sl none (l.map encR)] (· = .val (.bool true)) := by
  refine pure_of r3 (by kernel_rfl) ?_
  unfold m3
  simp only [go_sem, Nat.reduceEqDiff, Nat.reduceAdd, Nat.reduceLeDiff, List.length_map]
  refine callP_eq rfl rfl k4 ?_
  simp only [go_sem, Nat.reduceEqDiff, Nat.reduceAdd, Nat.reduceLeDiff, List.length_map]
  refine condE_split (fun h => ?_) (fun h => ?_)
  · simp only [go_sem, Nat.reduceEqDiff, Nat.reduceAdd, Nat.reduceLeDiff, List.length_map]
    refine callP_eq rfl rfl k4 ?_
    simp only [go_sem, Nat.reduceEqDiff, Nat.reduceAdd, Nat.reduceLeDiff, List.length_map]
  · have hl : l.length ≤ 60 := by simp at h; omega
    simp only [go_sem, Nat.reduceEqDiff, Nat.reduceAdd, Nat.reduceLeDiff, List.length_map]
    refine ⟨by intro e he; obtain ⟨r, _, rfl⟩ := List.mem_map.1 he; rfl, by omega, by omega, ?_⟩
    have h5 := k5' l (by omega)
    rw [show (sortRg l).foldl merge1 [] = normR l from rfl] at h5
    have hn := normR_len l
    obtain ⟨n1, n2, -⟩ := normR_ok hb
    have h6 := k6' l (by omega) hb
    have h7 := k7 ⟨false, normR l, false, []⟩ ⟨false, normR l, false, []⟩ (by simp only; omega) (by simp)
    rw [show sameM ⟨false, normR l, false, []⟩ ⟨false, normR l, false, []⟩ = true by simp [sameM]] at h7
    have h8 := k8 ⟨false, normR l, false, []⟩ (by simp only; omega) (by simp)
    rw [show rightM ⟨false, normR l, false, []⟩ = true by unfold rightM; simp only [okI_NF n1 n2]; rfl] at h8
    generalize normR l = nl at h5 h6 h7 h8
    refine callP_eq rfl rfl h5 ?_
    simp only [go_sem, Nat.reduceEqDiff, Nat.reduceAdd, Nat.reduceLeDiff, List.length_map]
    refine callP_eq rfl rfl h6 ?_
    simp only [go_sem, Nat.reduceEqDiff, Nat.reduceAdd, Nat.reduceLeDiff, List.length_map]
    refine callP_eq rfl rfl h7 ?_
    simp only [go_sem, Nat.reduceEqDiff, Nat.reduceAdd, Nat.reduceLeDiff, List.length_map]
    refine callP_eq rfl rfl h8 ?_
    simp only [go_sem, Nat.reduceEqDiff, Nat.reduceAdd, Nat.reduceLeDiff, List.length_map]
end Go.Proofs
