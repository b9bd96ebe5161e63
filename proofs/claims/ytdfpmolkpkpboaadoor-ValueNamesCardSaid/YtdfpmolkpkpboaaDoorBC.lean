/- A part of the proof; what is proved stands in the last text. -/
import Derived.Test.YtdfpmolkpkpboaaDoorVm25
set_option linter.unusedVariables false
set_option maxRecDepth 2000
namespace Go.Vm
open Go.RowKit
set_option linter.unusedVariables false
variable {P : Program} {w w' : World} {g : Gh} {S : St} {tm : Array Value}
theorem setCell_row {b i : Nat} {cur : Array Value} {e : TypeId} {v : Value} (h : w.heap[b]? = some (.cells cur e (0, 0))) (hi : i < cur.size) :
    w.setCell ⟨b, i, none⟩ v = w.setRow b (cur.toList.take i ++ [v] ++ cur.toList.drop (i + [v].length)).toArray := by
 have hlt : b < w.heap.size := (Array.getElem?_eq_some_iff.1 h).1
 have hv : w.heap[b] = .cells cur e (0, 0) := (Array.getElem?_eq_some_iff.1 h).2
 have hr : cur.setIfInBounds i v = (cur.toList.take i ++ [v] ++ cur.toList.drop (i + [v].length)).toArray := by
  apply Array.ext_getElem?
  intro j
  simp only [List.getElem?_toArray, Array.getElem?_setIfInBounds, List.append_assoc]
  have h1 : (cur.toList.take i).length = i := by simp; omega
  by_cases hj : j < i
  ·rw [List.getElem?_append_left (by omega), List.getElem?_take, if_pos hj, if_neg (by omega)]; simp
  ·rw [List.getElem?_append_right (by omega), h1]
   by_cases hj2 : j = i
   ·subst hj2; simp [hi]
   ·rw [if_neg (by omega)]
    obtain ⟨m, hm⟩ : ∃ m, j - i = m + 1 := ⟨j - i - 1, by omega⟩
    rw [hm]
    simp only [List.singleton_append, List.getElem?_cons_succ, List.getElem?_drop, List.length_singleton, Array.getElem?_toList]
    congr 1; omega
 unfold World.setCell World.setRow
 congr 1
 apply Array.ext_getElem?
 intro j
 rw [Array.getElem?_modify, Array.getElem?_modify]
 by_cases hj : b = j
 ·subst hj
  rw [if_pos rfl, if_pos rfl, h]
  simp only [Option.map_some, Option.isSome_none, Bool.false_eq_true, if_false, hr]
 ·rw [if_neg hj, if_neg hj]
theorem Core.setOne (h : Core g S tm w) {o : Nat} {cs : List D} {b k off : Nat} {v : Value} (hb : S.box o = some cs) (hμ : g.μ o = some (b, k)) (hlt : off < cs.length) (hob : o < mapB := by decide) :
    Core g (S.setBox o (putCells cs off [.val v])) tm (w.setCell ⟨b, k + off, none⟩ v) ∧ Keep (fun b' k' => b' = b ∧ k ≤ k' ∧ k' < k + cs.length) w (w.setCell ⟨b, k + off, none⟩ v) := by
 obtain ⟨b', k', vs, e, q1, q2, q3, q4⟩ := h.box o cs hb
 rw [hμ] at q1; injection q1 with q1; injection q1 with q1 q1'; subst q1; subst q1'
 replace q2 := q2.cells hob
 rw [setCell_row q2 (by omega)]
 refine ⟨h.setBox hb hμ (ds := [.val v]) (us := [v]) (off := off) (by simp; omega) q2 rfl (fun i d u hd hu => ?_) q3 hob, Keep.setRow q2 (by simp; omega) (fun j hj => ?_)⟩
 ·cases i with
  | zero => simp at hd hu; subst hd; subst hu; exact .fz _ _ (.val _)
  | succ i => simp at hd
 ·have hk2 : ¬ (k ≤ j ∧ j < k + cs.length) := fun hh => hj ⟨rfl, hh⟩
  rw [← putCells_row vs.toList (k + off) [v] (by simp; omega)]
  simp only [List.getElem?_toArray]
  rw [putCells_get _ _ _ (by simp; omega), if_neg (by simp; omega)]
  simp
theorem Core.cellAt (h : Core g S tm w) {o : Nat} {cs : List D} {b k i : Nat} {v : Value} (hb : S.box o = some cs) (hμ : g.μ o = some (b, k)) (hi : cs[i]? = some (.val v)) (hob : o < mapB := by decide) :
    w.cell? ⟨b, k + i, none⟩ = some v ∧ w.frozen? ⟨b, k + i, none⟩ = false := by
 obtain ⟨b', k', vs, e, q1, q2, q3, q4⟩ := h.box o cs hb
 replace q2 := q2.cells hob
 rw [hμ] at q1; injection q1 with q1; injection q1 with q1 q1'; subst q1; subst q1'
 have hlt : i < cs.length := (List.getElem?_eq_some_iff.1 hi).1
 have hu : vs[k + i]? = some (vs[k + i]'(by omega)) := Array.getElem?_eq_getElem _
 have := (q4 i _ _ hi hu).val_inv
 refine ⟨?_, ?_⟩
 ·rw [cell_of_row _ _ _ _ _ _ q2, hu, this]
 ·unfold World.frozen?
  simp only [q2]
  simp
theorem Core.drew (h : Core g S tm w) : Core g S tm w.drew := by
 have hl : Later g g w w.drew (fun _ => true) (fun _ => true) := ⟨fun _ _ _ h => h, fun _ _ _ h => h, fun _ _ h => h, fun b k hF => rfl⟩
 have hc := h.later hl (fun _ _ _ => rfl) (fun _ _ _ => rfl) (fun b ob hb => hb) (fun b k hF => .inl hF) (fun b k hF => h.frz.1 b k hF)
 rw [only_all] at hc
 exact hc
theorem tup0_inv {v : Value} (h : Rep g w (.tup []) v) : v = .tuple #[] := by
 obtain ⟨vs, rfl, h1, -⟩ := h.tup_inv
 rw [Array.eq_empty_of_size_eq_zero h1]
def DoFirst (P : Program) (fD fL : FuncId) : Prop := ∀ (b off : Nat) (p : Value) (w : World) (Q : World → Prop),
    w.cell? ⟨b, off, none⟩ = some (.int .u32 0) → w.cell? ⟨b, off + 1, none⟩ = some (.int .i32 0) →
    w.frozen? ⟨b, off, none⟩ = false → w.frozen? ⟨b, off + 1, none⟩ = false →
    (Calls P fL #[p] (w.setCell ⟨b, off + 1, none⟩ (.int .i32 1)) fun e w' => e = .returned (.tuple #[]) ∧ Q w') →
    (∀ w', Q w' → w'.cell? ⟨b, off, none⟩ = some (.int .u32 0) ∧ w'.cell? ⟨b, off + 1, none⟩ = some (.int .i32 1) ∧ w'.frozen? ⟨b, off, none⟩ = false ∧ w'.frozen? ⟨b, off + 1, none⟩ = false) →
    Calls P fD #[.pointer (some ⟨b, off, none⟩), .func (.func fL) #[p] #[]] w fun e w' => e = .returned (.tuple #[]) ∧
     ∃ w2, Q w2 ∧ w' = (w2.drew.setCell ⟨b, off, none⟩ (.int .u32 1)).setCell ⟨b, off + 1, none⟩ (.int .i32 0)
def DoAgain (P : Program) (fD : FuncId) : Prop := ∀ (a : Addr) (d : Int) (_ : ¬ d = 0) (fv : Value) (w : World), w.cell? a = some (.int .u32 d) → Calls P fD #[.pointer (some a), fv] w fun e w' => e = .returned (.tuple #[]) ∧ w' = w
end Go.Vm

namespace Go.Vm
open Go.RowKit
set_option linter.unusedVariables false
variable {P : Program} {w w' : World} {g : Gh} {S : St} {tm : Array Value}
theorem once_firstX {fD fL : FuncId} {off : Nat} {cs cs1 : List D} {ex : List (Nat × List D)} (hex : ∀ o ys, lkp o ex = some ys → o ≠ 1000000) (hfn : ∃ fn, P.funcs[fD]? = some fn ∧ (fn.name == "runtime.NumGoroutine") = false ∧ fn.body.isNone = false) (hdo : DoFirst P fD fL)
    (c0 : cs[off]? = some (.val (.int .u32 0))) (c1 : cs[off + 1]? = some (.val (.int .i32 0)))
    (hlay : ObjAt P fL ⟨[(0, .ptr 1000000 0)], [(1000000, putCells cs (off + 1) [.val (.int .i32 1)])], []⟩ 1 (fun r hp tg => r = .tup [] ∧ hp = (1000000, cs1) :: ex ∧ tg = []))
    (d0 : cs1[off]? = some (.val (.int .u32 0))) (d1 : cs1[off + 1]? = some (.val (.int .i32 1))) (hlen : cs1.length = cs.length) :
    ObjAt P fD ⟨[(0, .ptr 1000000 off), (1, .fn fL [.ptr 1000000 0] [])], [(1000000, cs)], []⟩ 2 (fun r hp tg => r = .tup [] ∧ hp = (1000000, putCells (putCells cs1 off [.val (.int .u32 1)]) (off + 1) [.val (.int .i32 0)]) :: ex ∧ tg = []) := by
 refine ⟨hfn, fun W w g vs hs hc hw hτ => ?_⟩
 have lt0 : off < cs.length := (List.getElem?_eq_some_iff.1 c0).1
 have lt1 : off + 1 < cs.length := (List.getElem?_eq_some_iff.1 c1).1
 have hbox : (⟨[(0, .ptr 1000000 off), (1, .fn fL [.ptr 1000000 0] [])], [(1000000, cs)], []⟩ : St).box 1000000 = some cs := rfl
 obtain ⟨b, k, hv0, hμ, hbo⟩ := (hc.env 0 (.ptr 1000000 off) rfl).ptr_inv
 obtain ⟨ps, us, hv1, ⟨hps, hpr⟩, ⟨hus, -⟩⟩ := (hc.env 1 (.fn fL [.ptr 1000000 0] []) rfl).fn_inv
 match vs, hs with
 | ⟨[v0, v1]⟩, _ =>
 match ps, hps with
 | ⟨[p]⟩, _ =>
 have hus0 : us = #[] := Array.eq_empty_of_size_eq_zero hus
 subst hus0
 have hp := hpr 0 (.ptr 1000000 0) p rfl rfl
 have e0 : v0 = .pointer (some ⟨b, k + off, none⟩) := hv0
 have e1 : v1 = .func (.func fL) #[p] #[] := hv1
 subst e0; subst e1
 obtain ⟨x0, y0⟩ := hc.cellAt hbox hμ c0
 obtain ⟨x1, y1⟩ := hc.cellAt hbox hμ c1
 have hblt : b < w.heap.size := hc.box_lt hbox hμ
 have hW : ∀ i, i < cs.length → W b (k + i) := fun i hi => by
  rcases hw.box 1000000 cs b k i hbox hμ hi with h | h
  ·exact absurd hblt (by omega)
  ·exact h
 have sub : ∀ b' k', b' = b ∧ k ≤ k' ∧ k' < k + cs.length → W b' k' := fun b' k' ⟨h1, h2, h3⟩ => by
  subst h1; have := hW (k' - k) (by omega); rwa [show k + (k' - k) = k' by omega] at this
 obtain ⟨g1, k1⟩ := hc.setOne (v := .int .i32 1) hbox hμ lt1
 have hk : k + (off + 1) = k + off + 1 := by omega
 rw [hk] at g1 k1 x1 y1
 have one : ∀ {o : Nat} {xs ys : List D}, lkp o [(1000000, xs)] = some ys → o = 1000000 ∧ ys = xs := fun {o xs ys} h => by
  simp only [lkp] at h
  split at h
  ·rename_i he; injection h with h; exact ⟨he, h.symm⟩
  ·cases h
 obtain ⟨b0, k0, hp0, hμ0, -⟩ := hp.ptr_inv
 have core1 : Core g ⟨[(0, .ptr 1000000 0)], [(1000000, putCells cs (off + 1) [.val (.int .i32 1)])], []⟩ #[p] (w.setCell ⟨b, k + off + 1, none⟩ (.int .i32 1)) := by
  refine g1.ofPart (fun t d hd => ?_) (fun o ys ho => ?_) (fun t x hx => by cases hx)
  ·simp only [lkp] at hd
   split at hd
   ·rename_i ht; subst ht; injection hd with hd; subst hd
    show Rep g _ _ p
    rw [hp0]; exact .ptr _ _ _ _ hμ0 hbo
   ·cases hd
  ·obtain ⟨rfl, rfl⟩ := one ho
   rw [setBox_box, if_pos rfl]
 have wrW : ∀ (base : Nat) (g' : Gh) (env : List (Nat × D)) (xs : List D), g'.μ 1000000 = some (b, k) → xs.length = cs.length → Wr base W g' ⟨env, [(1000000, xs)], []⟩ := fun base g' env xs hm hl =>
  ⟨fun o ys b' k' i hb hμ' hi => by
   obtain ⟨rfl, rfl⟩ := one hb
   rw [hm] at hμ'; injection hμ' with hμ'; injection hμ' with h1 h2; subst h1; subst h2
   exact .inr (hW i (by omega)), fun t x ti b ht => by cases ht⟩
 have hcall := hlay.2 W (w.setCell ⟨b, k + off + 1, none⟩ (.int .i32 1)) g #[p] rfl core1 (wrW _ g _ _ hμ (putCells_length _ _ _)) hτ
 have two : ∀ {o : Nat} {xs ys : List D}, lkp o ((1000000, xs) :: ex) = some ys → (o = 1000000 ∧ ys = xs) ∨ (o ≠ 1000000 ∧ lkp o ex = some ys) := fun {o xs ys} h => by
  simp only [lkp] at h
  split at h
  ·rename_i he; injection h with h; exact .inl ⟨he, h.symm⟩
  ·rename_i he; exact .inr ⟨he, h⟩
 let Q : World → Prop := fun w2 => ∃ g', Core g' ⟨[(0, .tup [])], (1000000, cs1) :: ex, []⟩ #[.tuple #[]] w2 ∧ g'.μ 1000000 = some (b, k) ∧ Wr (w.setCell ⟨b, k + off + 1, none⟩ (.int .i32 1)).heap.size W g' ⟨[(0, .tup [])], (1000000, cs1) :: ex, []⟩ ∧ (∀ o ys, lkp o ((1000000, cs1) :: ex) = some ys → ys ≠ []) ∧ Keep W (w.setCell ⟨b, k + off + 1, none⟩ (.int .i32 1)) w2 ∧
  (∀ b k, g.F b k → g'.F b k) ∧ (∀ b' k', g'.F b' k' → g.F b' k' ∨ (w.setCell ⟨b, k + off + 1, none⟩ (.int .i32 1)).heap.size ≤ b' ∨ W b' k') ∧ (∀ o b, 999999 ≤ o % mapB → g'.μ o = some b → g.μ o = some b)
 have hcallQ : Calls P fL #[p] (w.setCell ⟨b, k + off + 1, none⟩ (.int .i32 1)) fun e w' => e = .returned (.tuple #[]) ∧ Q w' := hcall.mono (by
  rintro e w2 ⟨g', r, v, hp', tg', rfl, ⟨rfl, rfl, rfl⟩, c', wr', kp, nz, f1, f2, m⟩
  have hv : v = .tuple #[] := tup0_inv (w := w2) (g := g') (c'.env 0 (.tup []) rfl)
  subst hv
  obtain ⟨b', k', vs', e', q1, -⟩ := c'.box 1000000 cs1 rfl
  have := m 1000000 _ (by decide) q1
  rw [hμ] at this; injection this with this; injection this with h1 h2; subst h1; subst h2
  exact ⟨rfl, g', c', q1, wr', nz, kp, f1, f2, m⟩)
 have hQ : ∀ w', Q w' → w'.cell? ⟨b, k + off, none⟩ = some (.int .u32 0) ∧ w'.cell? ⟨b, k + off + 1, none⟩ = some (.int .i32 1) ∧ w'.frozen? ⟨b, k + off, none⟩ = false ∧ w'.frozen? ⟨b, k + off + 1, none⟩ = false := by
  rintro w' ⟨g', c', m1, -⟩
  have hb1 : (⟨[(0, .tup [])], (1000000, cs1) :: ex, []⟩ : St).box 1000000 = some cs1 := rfl
  obtain ⟨a1, a2⟩ := c'.cellAt hb1 m1 d0
  obtain ⟨a3, a4⟩ := c'.cellAt hb1 m1 d1
  rw [hk] at a3 a4
  exact ⟨a1, a3, a2, a4⟩
 refine (hdo b (k + off) p w Q x0 x1 y0 y1 hcallQ hQ).mono ?_
 rintro e w' ⟨rfl, w2, ⟨g', c', m1, wr', nz, kp, f1, f2, m⟩, rfl⟩
 have hb1 : (⟨[(0, .tup [])], (1000000, cs1) :: ex, []⟩ : St).box 1000000 = some cs1 := rfl
 obtain ⟨g2, k2⟩ := c'.drew.setOne (v := .int .u32 1) (off := off) hb1 m1 (by omega)
 have hb2 := setBox_box (S := ⟨[(0, .tup [])], (1000000, cs1) :: ex, []⟩) 1000000 1000000 (putCells cs1 off [.val (.int .u32 1)])
 rw [if_pos rfl] at hb2
 obtain ⟨g3, k3⟩ := g2.setOne (v := .int .i32 0) (off := off + 1) hb2 m1 (by rw [putCells_length]; omega)
 rw [hk] at g3 k3
 rw [putCells_length, hlen] at k3
 rw [hlen] at k2
 have hsz : (w.setCell ⟨b, k + off + 1, none⟩ (.int .i32 1)).heap.size = w.heap.size := by simp [World.setCell]
 refine ⟨g', .tup [], .tuple #[], _, _, rfl, ⟨rfl, rfl, rfl⟩, ?_, ?_, ?_, ?_, f1, ?_, m⟩
 ·refine g3.ofPart (fun t d hd => ?_) (fun o ys ho => ?_) (fun t x hx => by cases hx)
  ·simp only [lkp] at hd
   split at hd
   ·rename_i ht; subst ht; injection hd with hd; subst hd
    exact .fz _ _ (.tup [] #[] rfl (fun i d v h => by simp at h))
   ·cases hd
  ·rcases two ho with ⟨rfl, rfl⟩ | ⟨hne, he⟩
   ·rw [setBox_box, if_pos rfl]
   ·rw [setBox_box, if_neg hne, setBox_box, if_neg hne]
    show lkp o ((1000000, cs1) :: ex) = some ys
    simp only [lkp, if_neg hne]; exact he
 ·refine ⟨fun o ys b' k' i hb hμ' hi => ?_, fun t x ti b ht => by cases ht⟩
  rcases two hb with ⟨rfl, rfl⟩ | ⟨hne, he⟩
  ·exact (wrW w.heap.size g' [(0, .tup [])] _ m1 (by rw [putCells_length, putCells_length, hlen])).box 1000000 _ b' k' i rfl hμ' hi
  ·have h1 : (⟨[(0, .tup [])], (1000000, cs1) :: ex, []⟩ : St).box o = some ys := by
     show lkp o ((1000000, cs1) :: ex) = some ys
     simp only [lkp, if_neg hne]; exact he
   have := wr'.box o ys b' k' i h1 hμ' hi
   rwa [hsz] at this
 ·have s1 : ∀ b' k', b' < w.heap.size → (b' = b ∧ k ≤ k' ∧ k' < k + cs.length) → W b' k' := fun b' k' _ h => sub b' k' h
  have t1 : Keep W w (w.setCell ⟨b, k + off + 1, none⟩ (.int .i32 1)) := (Keep.refl W w).trans k1 s1
  have t2 := t1.trans kp (fun b' k' _ h => h)
  have t3 := t2.trans (Keep.drew (fun _ _ => False) w2 (w2.drawn + 1) (Nat.le_succ _)) (fun b' k' _ h => h.elim)
  have t4 := t3.trans k2 s1
  exact t4.trans k3 s1
 ·intro o ys ho
  rcases two ho with ⟨rfl, rfl⟩ | ⟨hne, he⟩
  rotate_left
  ·exact nz o ys (by simp only [lkp, if_neg hne]; exact he)
  intro h0
  have := congrArg List.length h0
  rw [putCells_length, putCells_length, hlen] at this
  have h3 : cs.length = 0 := this
  omega
 ·intro b' k' h
  rcases f2 b' k' h with h | h | h
  ·exact .inl h
  ·exact .inr (.inl (by rw [hsz] at h; exact h))
  ·exact .inr (.inr h)
theorem once_againX {fD : FuncId} {d : D} {off : Nat} {cs : List D} {ex : List (Nat × List D)} (hne : ∀ o ys, lkp o ((1000000, cs) :: ex) = some ys → ys ≠ []) (hfn : ∃ fn, P.funcs[fD]? = some fn ∧ (fn.name == "runtime.NumGoroutine") = false ∧ fn.body.isNone = false) (hdo : DoAgain P fD)
    (c0 : cs[off]? = some (.val (.int .u32 1))) :
    ObjAt P fD ⟨[(0, .ptr 1000000 off), (1, d)], (1000000, cs) :: ex, []⟩ 2 (fun r hp tg => r = .tup [] ∧ hp = (1000000, cs) :: ex ∧ tg = []) := by
 refine ⟨hfn, fun W w g vs hs hc hw hτ => ?_⟩
 have lt0 : off < cs.length := (List.getElem?_eq_some_iff.1 c0).1
 have hbox : (⟨[(0, .ptr 1000000 off), (1, d)], (1000000, cs) :: ex, []⟩ : St).box 1000000 = some cs := rfl
 obtain ⟨b, k, hv0, hμ, hbo⟩ := (hc.env 0 (.ptr 1000000 off) rfl).ptr_inv
 match vs, hs with
 | ⟨[v0, v1]⟩, _ =>
 have e0 : v0 = .pointer (some ⟨b, k + off, none⟩) := hv0
 subst e0
 obtain ⟨x0, -⟩ := hc.cellAt hbox hμ c0
 refine (hdo _ 1 (by decide) v1 w x0).mono ?_
 rintro e w' ⟨rfl, rfl⟩
 refine ⟨g, .tup [], .tuple #[], _, _, rfl, ⟨rfl, rfl, rfl⟩, ?_, ?_, Keep.refl _ _, ?_, fun _ _ h => h, fun _ _ h => .inl h, fun _ _ _ h => h⟩
 ·refine hc.ofPart (fun t d hd => ?_) (fun o ys ho => ho) (fun t x hx => by cases hx)
  simp only [lkp] at hd
  split at hd
  ·rename_i ht; subst ht; injection hd with hd; subst hd
   exact .fz _ _ (.tup [] #[] rfl (fun i d v h => by simp at h))
  ·cases hd
 ·exact ⟨fun o ys b' k' i hb => hw.box o ys b' k' i hb, fun t x ti b ht => by cases ht⟩
 ·exact hne
end Go.Vm
