/- A part of the proof; what is proved stands in the last text. -/
import Derived.Test.YtaoppmjidjdgdaaTQ
import Derived.Test.YtaoppmjidjdgdaaT335
set_option linter.unusedVariables false
set_option maxRecDepth 2000
namespace Go.Proofs
open Go.Vm Go.ChangeShapes Go.WideShapes Go.ChangeAt Go.RowKit
set_option linter.unusedSimpArgs false
structure PubM where
 id : Int
 k : Int
 e : EvM
def pubD (p : PubM) : List D := pubC p.id p.k p.e
theorem rd_filter {H : Type} {enc : TypeId × Value → H} {w : World} (fuel : Nat) : Rd enc Try.prog w fuel 29 (fun ds => ∃ l : List BoxM, ds = [.sl none (l.map boxC)] ∧ (∀ b ∈ l, BndB b) ∧ l.length ≤ maxLen) :=
 rd_rows (by exact Try.underlying29) (by kernel_rfl : Try.prog.cellsOf 58 = 16) (by omega) fun n _ => rd_box n
theorem rd_pub {H : Type} {enc : TypeId × Value → H} {w : World} (fuel : Nat) : Rd enc Try.prog w fuel 46 (fun ds => ∃ p : PubM, ds = pubD p ∧ True) := by
 refine (Rd_struct (As := [fun ds => ∃ n, ds = [.val (.int .i64 n)] ∧ InR n, fun ds => ∃ n, ds = [.val (.int .i64 n)] ∧ InR n, fun ds => ∃ e : EvM, ds = evC e ∧ ∀ i, i < 4 → InR (e.at i).n])
  Try.underlying46 (by kernel_rfl) (fun n _ => ⟨rd_int n, rd_int n, rd_event n, trivial⟩)).mono ?_
 rintro ds ⟨a, b, rfl, ⟨i, rfl, h1⟩, c, d, rfl, ⟨j, rfl, h2⟩, e, f, rfl, ⟨g, rfl, h3⟩, rfl⟩
 exact ⟨⟨i, j, g⟩, by simp [pubD, pubC], trivial⟩
end Go.Proofs
