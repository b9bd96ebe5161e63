/- The value machine, 25: what an argument reads as. -/
import Derived.Test.YtdfpmolkpkpboaaDoorVm24
import Derived.OpenShut
import Derived.ChangeArms
import Derived.ChangeOld
import Derived.Below
set_option linter.unusedVariables false
set_option maxRecDepth 2000
namespace Go.Vm
open Go.RowKit
variable {H : Type} {enc : TypeId × Value → H} {P : Program} {w w' : World}
def Lie (w : World) : Reg := fun b _ => b < w.heap.size
def Rd (enc : TypeId × Value → H) (P : Program) (w : World) (fuel : Nat) (t : TypeId) (A : List D → Prop) : Prop :=
 ∀ (cs : List Value) (x : DataW H × List MemPlace), DataW.trod enc P w 0 (fun _ => true) true fuel t cs = some x →
  ∃ ds : List D, ds.length = cs.length ∧ A ds ∧ ds.all D.one = true ∧ ∀ (i : Nat) (d : D) (v : Value), ds[i]? = some d → cs[i]? = some v → RepF (Lie w) w d v
theorem Rd.mono {fuel : Nat} {t : TypeId} {A B : List D → Prop} (h : Rd enc P w fuel t A) (hAB : ∀ ds, A ds → B ds) : Rd enc P w fuel t B :=
 fun cs x hx => let ⟨ds, h1, h2, h3⟩ := h cs x hx; ⟨ds, h1, hAB ds h2, h3⟩
theorem rd_val (v : Value) (i : Nat) (d : D) (u : Value) (hd : [D.val v][i]? = some d) (hu : [v][i]? = some u) : RepF (Lie w) w d u := by
 cases i with
 | zero => simp at hd hu; subst hd; subst hu; exact .val _
 | succ i => simp at hd
theorem Rd_int {fuel : Nat} {t : TypeId} {k : IntKind} (ht : P.underlying t = some (.int k)) : Rd enc P w fuel t (fun ds => ∃ n, ds = [.val (.int k n)] ∧ (Lit.int k n).wf = true) := fun cs x h => by
 obtain ⟨n, rfl, -, hw⟩ := DataW.trod_int ht h
 exact ⟨_, rfl, ⟨n, rfl, hw⟩, rfl, rd_val _⟩
theorem Rd_string {fuel : Nat} {t : TypeId} (ht : P.underlying t = some .string) : Rd enc P w fuel t (fun ds => ∃ s : ByteArray, ds = [.val (.string s)] ∧ s.size ≤ maxLen) := fun cs x h => by
 obtain ⟨s, rfl, -, hs⟩ := DataW.trod_string ht h
 exact ⟨_, rfl, ⟨s, rfl, hs⟩, rfl, rd_val _⟩
theorem cell_lies {a : Addr} {v : Value} (h : w.cell? a = some v) : a.block < w.heap.size ∧ a.spot = none := by
 unfold World.cell? at h
 split at h
 ·rename_i c e f hb
  split at h
  ·cases h
  ·rename_i hs
   exact ⟨(Array.getElem?_eq_some_iff.1 hb).1, by cases hh : a.spot <;> simp_all⟩
 ·cases h
theorem arg_one {fuel : Nat} {t : TypeId} {A : List D → Prop} {v : Value} {x : DataW H × List MemPlace} (hA : Rd enc P w fuel t A) (hv : v.cells.toList = [v]) (h : DataW.trod enc P w 0 (fun _ => true) true fuel t v.cells.toList = some x) : ∃ d, A [d] ∧ RepF (Lie w) w d v := by
 rw [hv] at h
 obtain ⟨ds, h1, h2, -, h4⟩ := hA _ _ h
 match ds, h1 with
 | [d], _ => exact ⟨d, h2, h4 0 d v rfl rfl⟩
theorem Keep.below (h : Keep (fun _ _ => False) w w') : Below w.heap.size w w' := by
 refine ⟨h.os, h.tape, h.output, h.size, fun k hk => ?_⟩
 rcases h.block k _ (Array.getElem?_eq_getElem hk) with h1 | ⟨vs, vs', e, h0, h1, h2, h3⟩
 ·rw [h1, Array.getElem?_eq_getElem hk]
 ·have : vs' = vs := by
    apply Array.ext_getElem?
    intro j
    exact h3 j (fun h => h)
  rw [h1, Array.getElem?_eq_getElem hk, h0, this]
 ·rename_i h; exact h.2.1.elim
end Go.Vm
