/- A part of the proof; what is proved stands in the last text. -/
import Derived.Test.YtipppgiimemloaaGreatT40
import Derived.Test.YtipppgiimemloaaGreatT50
set_option linter.unusedVariables false
set_option maxRecDepth 2000
namespace Go.Proofs
open Go.Vm Go.ChangeShapes Go.WideShapes Go.ChangeAt Go.RowKit
set_option linter.unusedSimpArgs false

theorem rd_int {H : Type} {enc : TypeId × Value → H} {w : World} (fuel : Nat) : Rd enc Tryz.prog w fuel 3 (fun ds => ∃ n : Int, ds = [.val (.int .i64 n)] ∧ InR n) :=
  (Rd_int Tryz.underlying3).mono fun _ ⟨n, h, hw⟩ => ⟨n, h, wf_i64 hw⟩
theorem rd_box {H : Type} {enc : TypeId × Value → H} {w : World} (fuel : Nat) : Rd enc Tryz.prog w fuel 49 (fun ds => ∃ b : BoxM, ds = boxC b ∧ ∀ i, i < 4 → ∀ r ∈ (b.at i).ints, InB r) := by
  refine (Rd_array (n := 4) (sz := 4) Tryz.underlying49 (by kernel_rfl) (by kernel_rfl) (fun m _ => rd_set m)).mono ?_
  rintro ds ⟨ls, rfl, hl, hA⟩
  match ls, hl, hA with
  | [a, b, c, d], _, hA =>
    obtain ⟨a, rfl, ha⟩ := hA a (by simp)
    obtain ⟨b, rfl, hb⟩ := hA b (by simp)
    obtain ⟨c, rfl, hc⟩ := hA c (by simp)
    obtain ⟨d, rfl, hd⟩ := hA d (by simp)
    refine ⟨⟨a, b, c, d⟩, rfl, fun i hi => ?_⟩
    have : i = 0 ∨ i = 1 ∨ i = 2 ∨ i = 3 := by omega
    rcases this with rfl | rfl | rfl | rfl
    · exact ha
    · exact hb
    · exact hc
    · exact hd
theorem rd_event {H : Type} {enc : TypeId × Value → H} {w : World} (fuel : Nat) : Rd enc Tryz.prog w fuel 42 (fun ds => ∃ e : EvM, ds = evC e ∧ ∀ i, i < 4 → InR (e.at i).n) := by
  refine (Rd_array (n := 4) (sz := 3) Tryz.underlying42 (by kernel_rfl) (by kernel_rfl) (fun m _ => rd_value m)).mono ?_
  rintro ds ⟨ls, rfl, hl, hA⟩
  match ls, hl, hA with
  | [a, b, c, d], _, hA =>
    obtain ⟨a, rfl, ha, -⟩ := hA a (by simp)
    obtain ⟨b, rfl, hb, -⟩ := hA b (by simp)
    obtain ⟨c, rfl, hc, -⟩ := hA c (by simp)
    obtain ⟨d, rfl, hd, -⟩ := hA d (by simp)
    refine ⟨⟨a, b, c, d⟩, rfl, fun i hi => ?_⟩
    have : i = 0 ∨ i = 1 ∨ i = 2 ∨ i = 3 := by omega
    rcases this with rfl | rfl | rfl | rfl
    · exact ha
    · exact hb
    · exact hc
    · exact hd
end Go.Proofs
