/- Proved: SessionNil: a session that is none has, and gets, nothing (sessionNil_holds : Rows.SessionNilSaid). Conditions: none. -/
import Derived.Test.YtaoppmjidjdgdaaT336
import Derived.WalkKit
set_option linter.unusedVariables false
set_option maxRecDepth 2000
namespace Go.Proofs.Ytaoppmjidjdgdaa.SessionNilRow
open Go.Vm Go.ChangeShapes Go.WideShapes Go.ChangeAt Go.RowKit
theorem own : ownKnob Try.prog.godebug = none := by kernel_rfl
theorem laidOut : laidOutB Try.prog = true := by kernel_rfl
set_option maxRecDepth 100000 in
theorem lifted (os : Os) (started : os.Started) (H : Type) (enc : TypeId × Value → H) :
    ReturnsInHanded {} Try.checked os 4 .any (Rows.sessionNilSpec.pre6 enc Try.prog Try.f4 Rows.sessionNilRow.domain false) (Rows.sessionNilSpec.post enc Try.prog Try.f4 false true false false) := by
 refine returnsInHanded_of_change_sized (C := Try.checked) own started (by kernel_rfl) Try.func4
  (ChangeSpec.witness6 (enc := enc) (C := Try.checked) false ⟨#[], #[.slice none 0 0, .agg #[.int .i64 0, .int .i64 0, .int .i64 0, .int .i64 0, .string .empty, .int .i64 0, .int .i64 0, .string .empty, .int .i64 0, .int .i64 0, .string .empty, .int .i64 0, .int .i64 0, .string .empty], .int .i64 0], []⟩ 8 (by kernel_rfl) (by kernel_rfl) (by kernel_rfl) (by kernel_rfl)) ?_
 intro W base args ds gs before hval0 hW hcnd hsz0 _
 have hval : ∀ (j : Nat) t v, Try.f4.params[j]? = some t → args[j]? = some v → Value.okWide Try.prog W .any base t v := hval0
 have hW' := hW
 obtain ⟨p, q, hA0, hV, rfl, hfz, hnd⟩ := hW
 have hA : DataW.TrodAll enc Try.prog W 0 (fun _ => true) true Try.f4.params.toList args.toList ds p := hA0
 rw [Try.params4] at hA hval
 obtain ⟨v0, vs0, d0, ds0, p0, q0, hargs, rfl, rfl, h0, r0⟩ := trodAll_cons hA
 obtain ⟨v1, vs1, d1, ds1, p1, q1, e1, rfl, rfl, h1, r1⟩ := trodAll_cons r0
 obtain ⟨v2, vs2, d2, ds2, p2, q2, e2, rfl, rfl, h2, r2⟩ := trodAll_cons r1
 obtain ⟨e3, rfl, rfl⟩ := trodAll_nil r2
 subst e3
 subst e2
 subst e1
 obtain rfl : args = #[v0, v1, v2] := by cases args; simp_all
 obtain ⟨rfl, rfl⟩ := trodVars_none hV
 obtain ⟨a0, len0, cap0, rfl⟩ := okWide_slice Try.underlying29 (hval 0 29 v0 rfl rfl)
 obtain ⟨cs1, rfl, -⟩ := okWide_struct Try.underlying46 (hval 1 46 v1 rfl rfl)
 obtain ⟨n2, rfl⟩ := okWide_int Try.underlying3 (hval 2 3 v2 rfl rfl)
 have k0 := h0
 have lt0 : ∀ x ∈ p0, x.block < W.heap.size := by obtain ⟨m, hm⟩ := k0; exact DataW.trod_lt m _ _ _ hm
 obtain ⟨fuel0, hf0⟩ := h0
 obtain ⟨dd0, ⟨x0, hd0, y0_0, y0_1⟩, hrep0⟩ := arg_one (rd_filter fuel0) rfl hf0
 injection hd0 with hd0
 subst hd0
 have k1 := h1
 have lt1 : ∀ x ∈ p1, x.block < W.heap.size := by obtain ⟨m, hm⟩ := k1; exact DataW.trod_lt m _ _ _ hm
 obtain ⟨fuel1, hf1⟩ := h1
 obtain ⟨dd1, ⟨x1, rfl, y1_0⟩, hrep1⟩ := arg_agg (rd_pub fuel1) hf1
 have k2 := h2
 have lt2 : ∀ x ∈ p2, x.block < W.heap.size := by obtain ⟨m, hm⟩ := k2; exact DataW.trod_lt m _ _ _ hm
 obtain ⟨fuel2, hf2⟩ := h2
 obtain ⟨dd2, ⟨x2, hd2, y2_0⟩, hrep2⟩ := arg_one (rd_int fuel2) rfl hf2
 injection hd2 with hd2
 subst hd2
 clear hA0 hval0 hsz0
 refine ((kSessionNil x0 x1.id x1.k x1.e x2 y0_1).2 (Lie W) W #[.slice a0 len0 cap0, .agg cs1, .int .i64 n2] ⟨fun b j h => h, fun n vs h => absurd h List.not_mem_nil, fun n h => absurd h List.not_mem_nil⟩ rfl (fun i d v hd hv => ?_)).mono fun e W' ⟨r, v, he, hr, hrv, hk⟩ => ?_
 ·cases i with
  | zero => simp at hd hv; subst hd; subst hv; exact hrep0
  | succ i =>
   cases i with
   | zero => simp at hd hv; subst hd; subst hv; exact hrep1
   | succ i =>
    cases i with
    | zero => simp at hd hv; subst hd; subst hv; exact hrep2
    | succ i =>
     simp at hd
 ·subst hr
  cases hrv
  subst he
  have bel := hk.below
  exact ⟨_, rfl, _, _, _, [], _, [], hW', trodAll_mk1 (shut_bool Try.underlying4 _), (trodAll_cons_mk (Below.trod laidOut (by kernel_rfl) (of_decide_eq_true (by kernel_rfl)) k0 bel lt0) (trodAll_cons_mk (Below.trod laidOut (by kernel_rfl) (of_decide_eq_true (by kernel_rfl)) k1 bel lt1) (trodAll_cons_mk (Below.trod laidOut (by kernel_rfl) (of_decide_eq_true (by kernel_rfl)) k2 bel lt2) trodAll_mk0))), rfl, bel.frame _, fun h => by cases h⟩
theorem over : Rows.sessionNilRow.holds Try.pinned (OpenSpec.ofChange Rows.sessionNilSpec) :=
 OpenClaim.holds_of_wide 4 Try.f4 rfl rfl rfl rfl rfl rfl rfl ⟨rfl, rfl, rfl, rfl, rfl⟩ rfl rfl rfl rfl rfl (by kernel_rfl) Try.func4 (by kernel_rfl)
  (of_decide_eq_true (by kernel_rfl)) (by unfold Func.isWrapper; first | (rw [if_pos (by decide +kernel)]; kernel_rfl) | (rw [if_neg (by decide +kernel)]; exact ⟨rfl, rfl⟩))
  (fun os started H enc _ => lifted os started H enc)
end Go.Proofs.Ytaoppmjidjdgdaa.SessionNilRow
namespace Go.Proofs.Ytaoppmjidjdgdaa
theorem sessionNil_holds : Rows.SessionNilSaid := SessionNilRow.over
end Go.Proofs.Ytaoppmjidjdgdaa
#print axioms Go.Proofs.Ytaoppmjidjdgdaa.sessionNil_holds
