/- A part of the proof; what is proved stands in the last text. -/
import Derived.Test.YtaoppmjidjdgdaaGreatT337
import Derived.Test.YtaoppmjidjdgdaaGreatTQ
set_option linter.unusedVariables false
set_option maxRecDepth 2000
namespace Go.Proofs
open Go.Vm Go.ChangeShapes Go.WideShapes Go.ChangeAt Go.RowKit
set_option linter.unusedSimpArgs false
theorem rd_filter {H : Type} {enc : TypeId × Value → H} {w : World} (fuel : Nat) : Rd enc Tryz.prog w fuel 29 (fun ds => ∃ l : List BoxM, ds = [.sl none (l.map boxC)] ∧ (∀ b ∈ l, BndB b) ∧ l.length ≤ maxLen) :=
 rd_rows (by exact Tryz.underlying29) (by kernel_rfl : Tryz.prog.cellsOf 65 = 16) (by omega) fun n _ => rd_box n
theorem rd_op {H : Type} {enc : TypeId × Value → H} {w : World} (fuel : Nat) : Rd enc Tryz.prog w fuel 35 (fun ds => ∃ x : OpM, ds = opC x ∧ OpIn x) := by
 refine (Rd_struct (As := [fun ds => ∃ n, ds = [.val (.int .i64 n)] ∧ InR n, fun ds => ∃ n, ds = [.val (.int .i64 n)] ∧ InR n, fun ds => ∃ l : List BoxM, ds = [.sl none (l.map boxC)] ∧ (∀ b ∈ l, BndB b) ∧ l.length ≤ maxLen, fun ds => ∃ e : EvM, ds = evC e ∧ ∀ i, i < 4 → InR (e.at i).n])
  Tryz.underlying35 (by kernel_rfl) (fun n _ => ⟨rd_int n, rd_int n, rd_filter n, rd_event n, trivial⟩)).mono ?_
 rintro ds ⟨a, b, rfl, ⟨i, rfl, h1⟩, c, d, rfl, ⟨j, rfl, h2⟩, e, f, rfl, ⟨l, rfl, h3, h4⟩, p, q, rfl, ⟨g, rfl, h5⟩, rfl⟩
 exact ⟨⟨i, j, l, g⟩, by simp [opC], h3, h4⟩
theorem rd_ops {H : Type} {enc : TypeId × Value → H} {w : World} (fuel : Nat) : Rd enc Tryz.prog w fuel 22 (fun ds => ∃ l : List OpM, ds = [.sl none (l.map opC)] ∧ (∀ x ∈ l, OpIn x) ∧ l.length ≤ maxLen) :=
 rd_rows (by exact Tryz.underlying22) (by kernel_rfl : Tryz.prog.cellsOf 35 = 15) (by omega) fun n _ => rd_op n
end Go.Proofs
