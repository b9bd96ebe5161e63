/- The value machine, 27: maps.Clone, as a call to which a map is lent. -/
import Derived.Test.YtaoppmjidjdgdaaGreatVm26
set_option linter.unusedVariables false
set_option maxRecDepth 2000
namespace Go.Vm
open Go.RowKit
set_option linter.unusedVariables false
variable {P : Program}
def CloneAt (P : Program) (k : FuncId) : Prop := (∃ fn, P.funcs[k]? = some fn ∧ (fn.name == "runtime.NumGoroutine") = false ∧ fn.body.isNone = false) ∧
 ∀ (b : Nat) (es : Array MapEntry) (clock : Nat) (w : World), w.heap[b]? = some (.map es clock) → Calls P k #[.map (some b)] w fun e w' => e = .returned (.map (some w.heap.size)) ∧ w' = w.alloc (.map es clock)
theorem clone_obj {k : FuncId} (hC : CloneAt P k) {o : Nat} (ho : mapB ≤ o) (hi : o < itB) (hne : o ≠ 10000001) (es : List (List D)) :
    ObjAt P k ⟨[(0, .mh o)], [(o, [.mpc es, .undef, .undef])], []⟩ 1 (fun r hp tg => r = .mh 10000001 ∧ hp = [(10000001, [.mpc es, .undef, .undef]), (o, [.mpc es, .undef, .undef])] ∧ tg = []) := by
 refine ⟨hC.1, fun W w g vs hsz hc hw htag => ?_⟩
 have h0 := hc.env 0 (.mh o) (by simp [St.get, lkp])
 obtain ⟨b0, hm1, hm2, hm3⟩ := h0.mh_inv
 have hbox : St.box ⟨[(0, .mh o)], [(o, [.mpc es, .undef, .undef])], []⟩ o = some [.mpc es, .undef, .undef] := by simp [St.box, lkp]
 obtain ⟨b, ent, clk, q1, q2, q3, -, qw⟩ := hc.mapAt hbox hm3 hi
 rw [hm2] at q1; injection q1 with q1; injection q1 with q1 _; subst q1
 have hvs : vs = #[.map (some b0)] := by
  have h1 : vs.getD 0 undef = .map (some b0) := by rw [hm1]; unfold handV; rw [if_pos hi]
  apply Array.ext
  ·simpa using hsz
  ·intro i hi1 hi2
   have : i = 0 := by simp at hi2; omega
   subst this
   rw [Array.getD_eq_getD_getElem?, Array.getElem?_eq_getElem hi1] at h1
   simpa using h1
 subst hvs
 refine (hC.2 b0 ent clk w q2).mono ?_
 rintro e w' ⟨rfl, rfl⟩
 -- as a state of one temporary
 have hs : SR w W g.F (fun t => (g.τ t).map (·.v), g.μ) 1 g ⟨[(0, .mh o)], [(o, [.mpc es, .undef, .undef])], []⟩ { tmps := #[.map (some b0)], defers := [] } w :=
  ⟨hc, hw, Keep.refl _ _, rfl, rfl, fun _ _ h => h, fun _ _ h => .inl h, by omega, fun t ti _ h => by simp [h], fun o b _ h => h⟩
 have hcells : Cells g w [.mpc es, .undef, .undef] #[entV ent, .tuple (ent.map fun e => goInt (e.born : Int)), goInt (clk : Int)] := ⟨rfl, fun i d v hd hv => by
  match i, hd, hv with
  | 0, hd, hv => simp at hd hv; subst hd; subst hv; exact .fz _ _ q3.mpc
  | 1, hd, hv => simp at hd; subst hd; exact .fz _ _ (.undef _)
  | 2, hd, hv => simp at hd; subst hd; exact .fz _ _ (.undef _)
  | i + 3, hd, hv => simp at hd⟩
 have hblk : Blk (w.alloc (.map ent clk)) (mapB + 1) w.heap.size 0 3 #[entV ent, .tuple (ent.map fun e => goInt (e.born : Int)), goInt (clk : Int)] 0 := by
  refine .ofMap (heap_alloc_new w _) ?_ (by omega) (by omega)
  simp only [virtO]
  exact if_pos ⟨by unfold mapB itB; omega, qw⟩
 have h2 := hs.newObj (mapB + 1) _ _ 0 (.map ent clk) hcells hblk (by unfold mapB; omega)
 have hrep : Rep { g with μ := fun o' => if o' = mapB + 1 then some (w.heap.size, 0) else g.μ o' } (w.alloc (.map ent clk)) (.mh (mapB + 1)) (handV (mapB + 1) w.heap.size) := Rep.mh (mapB + 1) w.heap.size (by simp) (by omega)
 have hh : handV (mapB + 1) w.heap.size = .map (some w.heap.size) := by unfold handV; rw [if_pos (by unfold mapB itB; omega)]
 rw [hh] at hrep
 have h3 := (h2.put (dst := some 0) (fun t ht => by injection ht with ht; omega) hrep).trim [0] [mapB + 1, o] []
 have hS : (((St.newBox ⟨[(0, .mh o)], [(o, [.mpc es, .undef, .undef])], []⟩ (mapB + 1) ([.mpc es, .undef, .undef].map (D.keep (fun y => decide (y ≠ mapB + 1)) fun _ => true))).put (some 0) (.mh (mapB + 1))).trim [0] [mapB + 1, o] []) = ⟨[(0, .mh 10000001)], [(10000001, [.mpc es, .undef, .undef]), (o, [.mpc es, .undef, .undef])], []⟩ := by
  have h1 : (10000001 : Nat) = mapB + 1 := rfl
  rw [h1] at hne ⊢
  simp [St.newBox, St.put, St.only, St.trim, pickL, lkp, hne, D.keep, D.avoids]
 rw [hS] at h3
 refine ⟨_, _, _, _, _, rfl, ⟨rfl, rfl, rfl⟩, h3.core, h3.wr, h3.keep, ?_, h3.fext, h3.fnew, h3.pin.2⟩
 intro o' cs hl
 simp only [lkp] at hl
 split at hl
 ·injection hl with hl; subst hl; simp
 ·split at hl
  ·injection hl with hl; subst hl; simp
  ·cases hl
end Go.Vm
