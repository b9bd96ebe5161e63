/- Proved: WireOne: Unlike right filters have unlike bytes, and so have unlike events that may be; none is another one's beginning (wireOne_holds : Rows.WireOneSaid). Conditions: none. -/
import Derived.Test.YtipppgiimemloaaGreatWH
import Derived.Test.YtipppgiimemloaaGreatT93
import Derived.WalkKit
set_option linter.unusedVariables false
set_option maxRecDepth 2000
namespace Go.Proofs.YtipppgiimemloaaGreat.WireOneRow
open Go.Vm Go.ChangeShapes Go.WideShapes Go.ChangeAt Go.RowKit

theorem own : ownKnob Tryz.prog.godebug = none := by kernel_rfl
theorem laidOut : laidOutB Tryz.prog = true := by kernel_rfl

set_option maxRecDepth 100000 in
theorem lifted (os : Os) (started : os.Started) (H : Type) (enc : TypeId × Value → H) :
    ReturnsInHanded {} Tryz.checked os 11 .any (Rows.wireOneSpec.pre6 enc Tryz.prog Tryz.f11 Rows.wireOneRow.domain false) (Rows.wireOneSpec.post enc Tryz.prog Tryz.f11 false true false false) := by
  refine returnsInHanded_of_change_sized (C := Tryz.checked) own started (by kernel_rfl) Tryz.func11
    (ChangeSpec.witness6 (enc := enc) (C := Tryz.checked) false ⟨#[], #[.slice none 0 0, .slice none 0 0, .agg #[.int .i64 0, .int .i64 0, .string .empty, .int .i64 0, .int .i64 0, .string .empty, .int .i64 0, .int .i64 0, .string .empty, .int .i64 0, .int .i64 0, .string .empty], .agg #[.int .i64 0, .int .i64 0, .string .empty, .int .i64 0, .int .i64 0, .string .empty, .int .i64 0, .int .i64 0, .string .empty, .int .i64 0, .int .i64 0, .string .empty]], []⟩ 8 (by kernel_rfl) (by kernel_rfl) (by kernel_rfl) (by kernel_rfl)) ?_
  intro W base args ds gs before hval0 hW hcnd hsz0 _
  have hval : ∀ (j : Nat) t v, Tryz.f11.params[j]? = some t → args[j]? = some v → Value.okWide Tryz.prog W .any base t v := hval0
  have hW' := hW
  obtain ⟨p, q, hA0, hV, rfl, hfz, hnd⟩ := hW
  have hA : DataW.TrodAll enc Tryz.prog W 0 (fun _ => true) true Tryz.f11.params.toList args.toList ds p := hA0
  rw [Tryz.params11] at hA hval
  obtain ⟨v0, vs0, d0, ds0, p0, q0, hargs, rfl, rfl, h0, r0⟩ := trodAll_cons hA
  obtain ⟨v1, vs1, d1, ds1, p1, q1, e1, rfl, rfl, h1, r1⟩ := trodAll_cons r0
  obtain ⟨v2, vs2, d2, ds2, p2, q2, e2, rfl, rfl, h2, r2⟩ := trodAll_cons r1
  obtain ⟨v3, vs3, d3, ds3, p3, q3, e3, rfl, rfl, h3, r3⟩ := trodAll_cons r2
  obtain ⟨e4, rfl, rfl⟩ := trodAll_nil r3
  subst e4
  subst e3
  subst e2
  subst e1
  obtain rfl : args = #[v0, v1, v2, v3] := by cases args; simp_all
  obtain ⟨rfl, rfl⟩ := trodVars_none hV
  obtain ⟨a0, len0, cap0, rfl⟩ := okWide_slice Tryz.underlying31 (hval 0 31 v0 rfl rfl)
  obtain ⟨a1, len1, cap1, rfl⟩ := okWide_slice Tryz.underlying31 (hval 1 31 v1 rfl rfl)
  obtain ⟨cs2, rfl, -⟩ := okWide_array Tryz.underlying42 (hval 2 42 v2 rfl rfl)
  obtain ⟨cs3, rfl, -⟩ := okWide_array Tryz.underlying42 (hval 3 42 v3 rfl rfl)
  have k0 := h0
  have lt0 : ∀ x ∈ p0, x.block < W.heap.size := by obtain ⟨m, hm⟩ := k0; exact DataW.trod_lt m _ _ _ hm
  obtain ⟨fuel0, hf0⟩ := h0
  obtain ⟨dd0, ⟨x0, hd0, y0_0, y0_1⟩, hrep0⟩ := arg_one (rd_boxes fuel0) rfl hf0
  injection hd0 with hd0
  subst hd0
  have k1 := h1
  have lt1 : ∀ x ∈ p1, x.block < W.heap.size := by obtain ⟨m, hm⟩ := k1; exact DataW.trod_lt m _ _ _ hm
  obtain ⟨fuel1, hf1⟩ := h1
  obtain ⟨dd1, ⟨x1, hd1, y1_0, y1_1⟩, hrep1⟩ := arg_one (rd_boxes fuel1) rfl hf1
  injection hd1 with hd1
  subst hd1
  have k2 := h2
  have lt2 : ∀ x ∈ p2, x.block < W.heap.size := by obtain ⟨m, hm⟩ := k2; exact DataW.trod_lt m _ _ _ hm
  obtain ⟨fuel2, hf2⟩ := h2
  obtain ⟨dd2, ⟨x2, rfl, y2_0⟩, hrep2⟩ := arg_agg (rd_event fuel2) hf2
  have k3 := h3
  have lt3 : ∀ x ∈ p3, x.block < W.heap.size := by obtain ⟨m, hm⟩ := k3; exact DataW.trod_lt m _ _ _ hm
  obtain ⟨fuel3, hf3⟩ := h3
  obtain ⟨dd3, ⟨x3, rfl, y3_0⟩, hrep3⟩ := arg_agg (rd_event fuel3) hf3
  clear hA0 hval0 hsz0
  refine ((kWireOne x0 x1 x2 x3 y0_0 y0_1 y1_0 y1_1 y2_0 y3_0).2 (Lie W) W #[.slice a0 len0 cap0, .slice a1 len1 cap1, .agg cs2, .agg cs3] (fun b j h => h) rfl (fun i d v hd hv => ?_)).mono fun e W' ⟨r, v, he, hr, hrv, hk⟩ => ?_
  · cases i with
    | zero => simp at hd hv; subst hd; subst hv; exact hrep0
    | succ i =>
      cases i with
      | zero => simp at hd hv; subst hd; subst hv; exact hrep1
      | succ i =>
        cases i with
        | zero => simp at hd hv; subst hd; subst hv; exact hrep2
        | succ i =>
          cases i with
          | zero => simp at hd hv; subst hd; subst hv; exact hrep3
          | succ i =>
            simp at hd
  · subst hr
    cases hrv
    subst he
    have bel := hk.below
    exact ⟨_, rfl, _, _, _, [], _, [], hW', trodAll_mk1 (shut_bool Tryz.underlying4 _), (trodAll_cons_mk (Below.trod laidOut (by kernel_rfl) (of_decide_eq_true (by kernel_rfl)) k0 bel lt0) (trodAll_cons_mk (Below.trod laidOut (by kernel_rfl) (of_decide_eq_true (by kernel_rfl)) k1 bel lt1) (trodAll_cons_mk (Below.trod laidOut (by kernel_rfl) (of_decide_eq_true (by kernel_rfl)) k2 bel lt2) (trodAll_cons_mk (Below.trod laidOut (by kernel_rfl) (of_decide_eq_true (by kernel_rfl)) k3 bel lt3) trodAll_mk0)))), rfl, bel.frame _, fun h => by cases h⟩

theorem over : Rows.wireOneRow.holds Tryz.pinned (OpenSpec.ofChange Rows.wireOneSpec) :=
  OpenClaim.holds_of_wide 11 Tryz.f11 rfl rfl rfl rfl rfl rfl rfl ⟨rfl, rfl, rfl, rfl, rfl⟩ rfl rfl rfl rfl rfl (by kernel_rfl) Tryz.func11 (by kernel_rfl)
    (of_decide_eq_true (by kernel_rfl)) (by unfold Func.isWrapper; first | (rw [if_pos (by decide +kernel)]; kernel_rfl) | (rw [if_neg (by decide +kernel)]; exact ⟨rfl, rfl⟩))
    (fun os started H enc _ => lifted os started H enc)

end Go.Proofs.YtipppgiimemloaaGreat.WireOneRow
namespace Go.Proofs.YtipppgiimemloaaGreat
theorem wireOne_holds : Rows.WireOneSaid := WireOneRow.over
end Go.Proofs.YtipppgiimemloaaGreat
#print axioms Go.Proofs.YtipppgiimemloaaGreat.wireOne_holds

