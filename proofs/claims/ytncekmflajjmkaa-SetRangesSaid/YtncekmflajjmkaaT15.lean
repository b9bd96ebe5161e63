/- Proved: SetRanges: whatever ranges come in, set.Ranges gives the document's normal form of them (setRanges_holds : Rows.SetRangesSaid). Conditions: none. -/
import Derived.Test.YtncekmflajjmkaaT14
import Derived.Test.YtncekmflajjmkaaVm25
import Derived.Test.YtncekmflajjmkaaRows
import Derived.WalkKit
import Derived.ProofKit
import Derived.OpenShut
import Derived.ShutString
import Derived.ChangeOld
import Derived.SizedLaws
namespace Go.Proofs.Ytncekmflajjmkaa.SetRangesRow
open Go.Vm Go.ChangeShapes Go.WideShapes Go.ChangeAt Go.RowKit

theorem own : ownKnob Try.prog.godebug = none := by kernel_rfl
theorem laidOut : laidOutB Try.prog = true := by kernel_rfl

theorem rd_range {H : Type} {enc : TypeId × Value → H} {w : World} (fuel : Nat) : Rd enc Try.prog w fuel 33 (fun ds => ∃ r : Rg, ds = encR r ∧ InB r) := by
  refine (Rd_struct (As := [fun ds => ∃ n, ds = [.val (.int .i64 n)] ∧ (Lit.int .i64 n).wf = true, fun ds => ∃ n, ds = [.val (.int .i64 n)] ∧ (Lit.int .i64 n).wf = true]) Try.underlying33 (by kernel_rfl) (fun n _ => ⟨Rd_int Try.underlying3, Rd_int Try.underlying3, trivial⟩)).mono ?_
  rintro ds ⟨a, b, rfl, ⟨lo, rfl, h1⟩, c, d, rfl, ⟨hi, rfl, h2⟩, rfl⟩
  refine ⟨(lo, hi), rfl, ?_⟩
  have e1 : IntKind.i64.min = -9223372036854775808 := rfl
  have e2 : IntKind.i64.max = 9223372036854775807 := rfl
  simp [Lit.wf] at h1 h2
  refine ⟨⟨?_, ?_⟩, ?_, ?_⟩ <;> simp only <;> omega

theorem rd_ranges {H : Type} {enc : TypeId × Value → H} {w : World} (fuel : Nat) : Rd enc Try.prog w fuel 22 (fun ds => ∃ l : List Rg, ds = [.sl none (l.map encR)] ∧ ∀ r ∈ l, InB r) := by
  refine (Rd_slice (e := 33) (sz := 2) (by exact Try.underlying22) (by kernel_rfl) (by omega) (fun n _ => rd_range n)).mono ?_
  rintro ds ⟨es, rfl, -, hes⟩
  suffices ∃ l : List Rg, es = l.map encR ∧ ∀ r ∈ l, InB r by
    obtain ⟨l, rfl, hl⟩ := this
    exact ⟨l, rfl, hl⟩
  induction es with
  | nil => exact ⟨[], rfl, by simp⟩
  | cons e es ih =>
    obtain ⟨l, rfl, hl⟩ := ih (fun x hx => hes x (by simp [hx]))
    obtain ⟨-, r, rfl, hr⟩ := hes e (by simp)
    refine ⟨r :: l, rfl, fun x hx => ?_⟩
    rcases List.mem_cons.1 hx with rfl | hx
    · exact hr
    · exact hl x hx

set_option maxRecDepth 100000 in
theorem lifted (os : Os) (started : os.Started) (H : Type) (enc : TypeId × Value → H) :
    ReturnsInHanded {} Try.checked os 3 .any (Rows.setRangesSpec.pre6 enc Try.prog Try.f3 Rows.setRangesRow.domain false) (Rows.setRangesSpec.post enc Try.prog Try.f3 false true false false) := by
  refine returnsInHanded_of_change_sized (C := Try.checked) own started (by kernel_rfl) Try.func3
    (ChangeSpec.witness6 (enc := enc) (C := Try.checked) false ⟨#[], #[.slice none 0 0], []⟩ 8 (by kernel_rfl) (by kernel_rfl) (by kernel_rfl) (by kernel_rfl)) ?_
  intro W base args ds gs before hval0 hW hcnd hsz0 _
  have hval : ∀ (j : Nat) t v, Try.f3.params[j]? = some t → args[j]? = some v → Value.okWide Try.prog W .any base t v := hval0
  have hW' := hW
  obtain ⟨p, q, hA0, hV, rfl, hfz, hnd⟩ := hW
  have hA : DataW.TrodAll enc Try.prog W 0 (fun _ => true) true Try.f3.params.toList args.toList ds p := hA0
  rw [Try.params3] at hA hval
  obtain ⟨v0, vs0, d0, ds0, p0, q0, hargs, rfl, rfl, h0, r0⟩ := trodAll_cons hA
  obtain ⟨rfl, rfl, rfl⟩ := trodAll_nil r0
  obtain rfl : args = #[v0] := by cases args; simp_all
  obtain ⟨rfl, rfl⟩ := trodVars_none hV
  obtain ⟨a0, len0, cap0, rfl⟩ := okWide_slice Try.underlying22 (hval 0 22 v0 rfl rfl)
  have k0 := h0
  have lt0 : ∀ x ∈ p0, x.block < W.heap.size := by obtain ⟨m, hm⟩ := k0; exact DataW.trod_lt m _ _ _ hm
  obtain ⟨fuel, hf⟩ := h0
  obtain ⟨dd, ⟨l, hd, hl⟩, hrep⟩ := arg_one (rd_ranges fuel) rfl hf
  injection hd with hd
  subst hd
  clear hA0 hval0 hsz0
  refine ((k3 l hl).2 (Lie W) W #[.slice a0 len0 cap0] (fun b j h => h) rfl (fun i d v hd hv => ?_)).mono fun e W' ⟨r, v, he, hr, hrv, hk⟩ => ?_
  · cases i with
    | zero => simp at hd hv; subst hd; subst hv; exact hrep
    | succ i => simp at hd
  · subst hr
    cases hrv
    subst he
    have bel := hk.below
    exact ⟨_, rfl, _, _, _, [], _, [], hW', trodAll_mk1 (shut_bool Try.underlying4 _), (trodAll_cons_mk (Below.trod laidOut (by kernel_rfl) (of_decide_eq_true (by kernel_rfl)) k0 bel lt0) trodAll_mk0), rfl, bel.frame _, fun h => by cases h⟩

theorem over : Rows.setRangesRow.holds Try.pinned (OpenSpec.ofChange Rows.setRangesSpec) :=
  OpenClaim.holds_of_wide 3 Try.f3 rfl rfl rfl rfl rfl rfl rfl ⟨rfl, rfl, rfl, rfl, rfl⟩ rfl rfl rfl rfl rfl (by kernel_rfl) Try.func3 (by kernel_rfl)
    (of_decide_eq_true (by kernel_rfl)) (by unfold Func.isWrapper; first | (rw [if_pos (by decide +kernel)]; kernel_rfl) | (rw [if_neg (by decide +kernel)]; exact ⟨rfl, rfl⟩))
    (fun os started H enc _ => lifted os started H enc)

end Go.Proofs.Ytncekmflajjmkaa.SetRangesRow
namespace Go.Proofs.Ytncekmflajjmkaa
theorem setRanges_holds : Rows.SetRangesSaid := SetRangesRow.over
end Go.Proofs.Ytncekmflajjmkaa
#print axioms Go.Proofs.Ytncekmflajjmkaa.setRanges_holds
