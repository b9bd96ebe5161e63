/- Proved: SessionPlays: in every order of calls activations are there, and publications are got, as the document says (sessionPlays_holds : Rows.SessionPlaysSaid). Conditions: none. -/
import Derived.Test.YtaoppmjidjdgdaaGreatT350
import Derived.WalkKit
set_option linter.unusedVariables false
set_option maxRecDepth 2000
namespace Go.Proofs.YtaoppmjidjdgdaaGreat.SessionPlaysRow
open Go.Vm Go.ChangeShapes Go.WideShapes Go.ChangeAt Go.RowKit
theorem own : ownKnob Tryz.prog.godebug = none := by kernel_rfl
theorem laidOut : laidOutB Tryz.prog = true := by kernel_rfl
set_option maxRecDepth 100000 in
theorem lifted (os : Os) (started : os.Started) (H : Type) (enc : TypeId × Value → H) :
    ReturnsInHanded {} Tryz.checked os 4 .any (Rows.sessionPlaysSpec.pre6 enc Tryz.prog Tryz.f4 Rows.sessionPlaysRow.domain false) (Rows.sessionPlaysSpec.post enc Tryz.prog Tryz.f4 false true false false) := by
 refine returnsInHanded_of_change_sized (C := Tryz.checked) own started (by kernel_rfl) Tryz.func4
  (ChangeSpec.witness6 (enc := enc) (C := Tryz.checked) false ⟨#[], #[.slice none 0 0], []⟩ 8 (by kernel_rfl) (by kernel_rfl) (by kernel_rfl) (by kernel_rfl)) ?_
 intro W base args ds gs before hval0 hW hcnd hsz0 _
 have hval : ∀ (j : Nat) t v, Tryz.f4.params[j]? = some t → args[j]? = some v → Value.okWide Tryz.prog W .any base t v := hval0
 have hW' := hW
 obtain ⟨p, q, hA0, hV, rfl, hfz, hnd⟩ := hW
 have hA : DataW.TrodAll enc Tryz.prog W 0 (fun _ => true) true Tryz.f4.params.toList args.toList ds p := hA0
 rw [Tryz.params4] at hA hval
 obtain ⟨v0, vs0, d0, ds0, p0, q0, hargs, rfl, rfl, h0, r0⟩ := trodAll_cons hA
 obtain ⟨e1, rfl, rfl⟩ := trodAll_nil r0
 subst e1
 obtain rfl : args = #[v0] := by cases args; simp_all
 obtain ⟨rfl, rfl⟩ := trodVars_none hV
 obtain ⟨a0, len0, cap0, rfl⟩ := okWide_slice Tryz.underlying22 (hval 0 22 v0 rfl rfl)
 have k0 := h0
 have lt0 : ∀ x ∈ p0, x.block < W.heap.size := by obtain ⟨m, hm⟩ := k0; exact DataW.trod_lt m _ _ _ hm
 obtain ⟨fuel0, hf0⟩ := h0
 obtain ⟨dd0, ⟨x0, hd0, y0_0, y0_1⟩, hrep0⟩ := arg_one (rd_ops fuel0) rfl hf0
 injection hd0 with hd0
 subst hd0
 clear hA0 hval0 hsz0
 refine ((kSessionPlays x0 y0_1 y0_0).2 (Lie W) W #[.slice a0 len0 cap0] ⟨fun b j h => h, fun n vs h => absurd h List.not_mem_nil, fun n h => absurd h List.not_mem_nil⟩ rfl (fun i d v hd hv => ?_)).mono fun e W' ⟨r, v, he, hr, hrv, hk⟩ => ?_
 ·cases i with
  | zero => simp at hd hv; subst hd; subst hv; exact hrep0
  | succ i =>
   simp at hd
 ·subst hr
  cases hrv
  subst he
  have bel := hk.below
  exact ⟨_, rfl, _, _, _, [], _, [], hW', trodAll_mk1 (shut_bool Tryz.underlying4 _), (trodAll_cons_mk (Below.trod laidOut (by kernel_rfl) (of_decide_eq_true (by kernel_rfl)) k0 bel lt0) trodAll_mk0), rfl, bel.frame _, fun h => by cases h⟩
theorem over : Rows.sessionPlaysRow.holds Tryz.pinned (OpenSpec.ofChange Rows.sessionPlaysSpec) :=
 OpenClaim.holds_of_wide 4 Tryz.f4 rfl rfl rfl rfl rfl rfl rfl ⟨rfl, rfl, rfl, rfl, rfl⟩ rfl rfl rfl rfl rfl (by kernel_rfl) Tryz.func4 (by kernel_rfl)
  (of_decide_eq_true (by kernel_rfl)) (by unfold Func.isWrapper; first | (rw [if_pos (by decide +kernel)]; kernel_rfl) | (rw [if_neg (by decide +kernel)]; exact ⟨rfl, rfl⟩))
  (fun os started H enc _ => lifted os started H enc)
end Go.Proofs.YtaoppmjidjdgdaaGreat.SessionPlaysRow
namespace Go.Proofs.YtaoppmjidjdgdaaGreat
theorem sessionPlays_holds : Rows.SessionPlaysSaid := SessionPlaysRow.over
end Go.Proofs.YtaoppmjidjdgdaaGreat
#print axioms Go.Proofs.YtaoppmjidjdgdaaGreat.sessionPlays_holds
