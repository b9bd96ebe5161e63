/- A part of the proof; what is proved stands in the last text. -/
import Derived.Test.YtipppgiimemloaaGreatTM
import Derived.Test.YtipppgiimemloaaGreatVm25
import Derived.Test.YtipppgiimemloaaGreatRows
import Derived.WalkKit
import Derived.ProofKit
import Derived.OpenShut
import Derived.ShutString
import Derived.ChangeOld
import Derived.SizedLaws
import Derived.Test.YtipppgiimemloaaGreatT50
set_option linter.unusedVariables false
set_option maxRecDepth 2000
namespace Go.Proofs
open Go.Vm Go.ChangeShapes Go.WideShapes Go.ChangeAt Go.RowKit
set_option linter.unusedSimpArgs false

def InR (n : Int) : Prop := -9223372036854775808 ≤ n ∧ n ≤ 9223372036854775807
theorem wf_i64 {n : Int} (h : (Lit.int .i64 n).wf = true) : InR n := by
  have e1 : IntKind.i64.min = -9223372036854775808 := rfl
  have e2 : IntKind.i64.max = 9223372036854775807 := rfl
  simp [Lit.wf] at h
  exact ⟨by omega, by omega⟩
theorem rd_string {H : Type} {enc : TypeId × Value → H} {w : World} (fuel : Nat) : Rd enc Tryz.prog w fuel 9 (fun ds => ∃ s : ByteArray, ds = encSt s ∧ s.size ≤ maxLen) := Rd_string Tryz.underlying9
theorem rd_value {H : Type} {enc : TypeId × Value → H} {w : World} (fuel : Nat) : Rd enc Tryz.prog w fuel 40 (fun ds => ∃ v : ValM, ds = valC v ∧ InR v.n ∧ InR v.kind ∧ v.s.size ≤ maxLen) := by
  refine (Rd_struct (As := [fun ds => ∃ n, ds = [.val (.int .i64 n)] ∧ (Lit.int .i64 n).wf = true, fun ds => ∃ n, ds = [.val (.int .i64 n)] ∧ (Lit.int .i64 n).wf = true, fun ds => ∃ s : ByteArray, ds = encSt s ∧ s.size ≤ maxLen])
    Tryz.underlying40 (by kernel_rfl) (fun n _ => ⟨Rd_int Tryz.underlying3, Rd_int Tryz.underlying3, rd_string n, trivial⟩)).mono ?_
  rintro ds ⟨a, b, rfl, ⟨x, rfl, h1⟩, c, d, rfl, ⟨y, rfl, h2⟩, e, f, rfl, ⟨z, rfl, h3⟩, rfl⟩
  exact ⟨⟨x, y, z⟩, rfl, wf_i64 h2, wf_i64 h1, h3⟩
end Go.Proofs


namespace Go.Proofs
open Go.Vm Go.ChangeShapes Go.WideShapes Go.ChangeAt Go.RowKit
set_option linter.unusedSimpArgs false

theorem rd_event {H : Type} {enc : TypeId × Value → H} {w : World} (fuel : Nat) : Rd enc Tryz.prog w fuel 42 (fun ds => ∃ e : EvM, ds = evC e ∧ ∀ i, i < 4 → InR (e.at i).n) := by
  refine (Rd_array (n := 4) (sz := 3) Tryz.underlying42 (by kernel_rfl) (by kernel_rfl) (fun m _ => rd_value m)).mono ?_
  rintro ds ⟨ls, rfl, hl, hA⟩
  match ls, hl, hA with
  | [a, b, c, d], _, hA =>
    obtain ⟨a, rfl, ha, -⟩ := hA a (by simp)
    obtain ⟨b, rfl, hb, -⟩ := hA b (by simp)
    obtain ⟨c, rfl, hc, -⟩ := hA c (by simp)
    obtain ⟨d, rfl, hd, -⟩ := hA d (by simp)
    refine ⟨⟨a, b, c, d⟩, rfl, fun i hi => ?_⟩
    have : i = 0 ∨ i = 1 ∨ i = 2 ∨ i = 3 := by omega
    rcases this with rfl | rfl | rfl | rfl
    · exact ha
    · exact hb
    · exact hc
    · exact hd
end Go.Proofs

