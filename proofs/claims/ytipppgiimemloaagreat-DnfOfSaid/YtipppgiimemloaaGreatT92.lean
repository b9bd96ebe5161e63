/- A part of the proof; what is proved stands in the last text. -/
import Derived.Test.YtipppgiimemloaaGreatTQ
import Derived.Test.YtipppgiimemloaaGreatTF
set_option linter.unusedVariables false
set_option maxRecDepth 2000
namespace Go.Proofs
open Go.Vm Go.ChangeShapes Go.WideShapes Go.ChangeAt Go.RowKit
set_option linter.unusedSimpArgs false

theorem rd_expr {H : Type} {enc : TypeId × Value → H} {w : World} (fuel : Nat) : Rd enc Tryz.prog w fuel 28 (fun ds => ∃ x : ExprM, ds = exprC x ∧ setsOk Bnd x) := by
  induction fuel using Nat.strongRecOn with
  | ind fuel ih =>
    refine (Rd_struct (As := [fun ds => ∃ n, ds = [.val (.int .i64 n)] ∧ (Lit.int .i64 n).wf = true, fun ds => ∃ n, ds = [.val (.int .i64 n)] ∧ (Lit.int .i64 n).wf = true, fun ds => ∃ s : SetM, ds = setC s ∧ ∀ r ∈ s.ints, InB r, fun ds => ∃ l : List ExprM, ds = [.sl none (l.map exprC)] ∧ (∀ x ∈ l, setsOk Bnd x) ∧ l.length ≤ maxLen])
      Tryz.underlying28 (by kernel_rfl) (fun n hn => ⟨Rd_int Tryz.underlying3, Rd_int Tryz.underlying3, rd_set n, rd_rows (by exact Tryz.underlying26) (by kernel_rfl : Tryz.prog.cellsOf 28 = 7) (by omega) (fun m hm => ih m (by omega)), trivial⟩)).mono ?_
    rintro ds ⟨a, b, rfl, ⟨k, rfl, -⟩, c, d, rfl, ⟨t, rfl, -⟩, e, f, rfl, ⟨s, rfl, h1⟩, g, h, rfl, ⟨l, rfl, h2, -⟩, rfl⟩
    refine ⟨.mk k t s l, ?_, (setsOk_mk _ _).2 ⟨h1, h2⟩⟩
    rw [exprC_at]
    rfl
end Go.Proofs

