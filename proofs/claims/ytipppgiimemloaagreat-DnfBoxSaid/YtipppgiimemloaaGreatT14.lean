/- A part of the proof; what is proved stands in the last text. -/
import Derived.Test.YtipppgiimemloaaGreatT13
set_option linter.unusedVariables false
set_option maxRecDepth 2000
namespace Go.Proofs
open Go.Vm
set_option linter.unusedSimpArgs false

theorem norm_of {rs out : List Rg} (hb : ∀ r ∈ rs, InB r) (h : NF out) (hc : ∀ n, Cov out n ↔ Cov rs n) : normR rs = out :=
  NF_unique (normR_ok hb).1 h (fun n => ((normR_ok hb).2.2 n).trans (hc n).symm)

theorem kNot' (s : SetM) (hi : s.ints.length ≤ 1000000) (hs : s.strs.length ≤ 1000000) : PureAt Tryz.prog 85 [.agg (setC s)] (· = .agg (setC (notM normR s))) :=
  kNot normR (fun rs h => kRanges' rs h) normR_len s hi hs

theorem norm1 : normR [(1, 3), (4, 5), (9, 8)] = [(1, 5)] := by
  refine norm_of (by simp [InB]) (by simp [NF]) (fun n => ?_)
  simp only [Cov_cons, Cov_one]
  have := Cov_nil n
  show (1 ≤ n ∧ n ≤ 5) ∨ Cov [] n ↔ (1 ≤ n ∧ n ≤ 3) ∨ (4 ≤ n ∧ n ≤ 5) ∨ (9 ≤ n ∧ n ≤ 8) ∨ Cov [] n
  simp only [this, or_false]
  omega
theorem norm7 : normR [(7, 7)] = [(7, 7)] := norm_of (by simp [InB]) (by simp [NF]) (fun n => Iff.rfl)
theorem norm0 : normR [] = [] := norm_of (by simp) NF.nil (fun n => Iff.rfl)
theorem not7 : notM normR ⟨false, [(7, 7)], false, []⟩ = ⟨true, [(-9223372036854775808, 6), (8, 9223372036854775807)], true, []⟩ := by
  simp only [notM, norm7]; rfl
theorem not0 : notM normR ⟨false, [], false, []⟩ = ⟨true, [(-9223372036854775808, 9223372036854775807)], true, []⟩ := by
  simp only [notM, norm0]; rfl

end Go.Proofs
