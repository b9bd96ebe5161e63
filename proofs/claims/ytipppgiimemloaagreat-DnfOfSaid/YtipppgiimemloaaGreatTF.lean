/- A part of the proof; what is proved stands in the last text. -/
import Derived.Test.YtipppgiimemloaaGreatTE
import Derived.Test.YtipppgiimemloaaGreatMZ
set_option linter.unusedVariables false
set_option maxRecDepth 2000

namespace Go.Proofs
open Go.Vm
set_option linter.unusedSimpArgs false

theorem setsOk_few (x : ExprM) : setsOk Bnd x → setsF x = true → setsOk SetB x := by
  refine ExprM.ind (p := fun x => setsOk Bnd x → setsF x = true → setsOk SetB x) (fun k a s l ih => ?_) x
  intro hb hf
  rw [setsOk_mk] at hb ⊢
  rw [setsF_mk, Bool.and_eq_true, List.all_eq_true] at hf
  have h1 := hf.1
  simp only [few1, Bool.and_eq_true, decide_eq_true_eq] at h1
  exact ⟨⟨⟨by omega, by omega⟩, hb.1⟩, fun y hy => ih y hy (hb.2 y hy) (hf.2 y hy)⟩
theorem fewE_set {x : ExprM} (hb : setsOk Bnd x) (h : fewE x = true) : setsOk SetB x := by
  simp only [fewE, Bool.and_eq_true] at h
  exact setsOk_few x hb h.2
theorem ofX_few {x : ExprM} (hs : setsOk SetB x) : ∀ b ∈ (ofX x).1, FewB 1000000 b := fun b hb => ((ofX_facts hs).2 b hb).1.mono (by omega)

end Go.Proofs



namespace Go.Proofs
open Go.Vm
set_option linter.unusedSimpArgs false

end Go.Proofs



namespace Go.Proofs
open Go.Vm
set_option linter.unusedSimpArgs false

end Go.Proofs

