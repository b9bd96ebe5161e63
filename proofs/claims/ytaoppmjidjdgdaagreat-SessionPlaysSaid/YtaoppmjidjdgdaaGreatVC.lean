/- A part of the proof; what is proved stands in the last text. -/
import Derived.Test.YtaoppmjidjdgdaaGreatVB
import Derived.Laws.OwnMore
set_option linter.unusedVariables false
set_option maxRecDepth 2000
namespace Go.Vm
open Go.RowKit
variable {P : Program} {w0 w w' : World} {W : Reg} {N : Nat} {g g' : Gh} {S : St} {a : Act} {tm : Array Value}
def D.keep (po : Nat → Bool) (pt : Tag → Bool) (d : D) : D := if d.avoids po pt then d else .undef
def St.only (S : St) (po : Nat → Bool) (pt : Tag → Bool) : St :=
 { env := S.env.map fun x => (x.1, x.2.keep po pt), hp := S.hp.map fun x => (x.1, x.2.map (D.keep po pt)), tg := S.tg }
theorem lookup_map {α β γ : Type} [DecidableEq α] (f : β → γ) (l : List (α × β)) (t : α) : lkp t (l.map fun x => (x.1, f x.2)) = (lkp t l).map f := by
 induction l with
 | nil => rfl
 | cons x l ih =>
  simp only [List.map_cons, lkp, ih]
  split <;> rfl
theorem only_get (po : Nat → Bool) (pt : Tag → Bool) (t : Nat) : (S.only po pt).get t = (S.get t).map (D.keep po pt) := lookup_map _ _ _
theorem only_box (po : Nat → Bool) (pt : Tag → Bool) (o : Nat) : (S.only po pt).box o = (S.box o).map (List.map (D.keep po pt)) := lookup_map _ _ _
theorem only_tag (po : Nat → Bool) (pt : Tag → Bool) (t : Tag) : (S.only po pt).tag t = S.tag t := rfl
structure Later (g g' : Gh) (w w' : World) (po : Nat → Bool) (pt : Tag → Bool) : Prop where
 μ : ∀ o, po o = true → ∀ b, g.μ o = some b → g'.μ o = some b
 τ : ∀ t, pt t = true → ∀ ti, g.τ t = some ti → g'.τ t = some ti
 F : ∀ b k, g.F b k → g'.F b k
 cell : ∀ b k, g.F b k → w'.cell? ⟨b, k, none⟩ = w.cell? ⟨b, k, none⟩
theorem Rep.keep {d : D} {v : Value} {po : Nat → Bool} {pt : Tag → Bool} (h : Rep g w d v) (hl : Later g g' w w' po pt) : Rep g' w' (d.keep po pt) v := by
 unfold D.keep
 split
 ·rename_i ha; exact h.mono po pt ha hl.μ hl.τ hl.F hl.cell
 ·exact .fz _ _ (.undef _)
theorem getD_set (tm : Array Value) (t d : Nat) (v : Value) (hd : d < tm.size) : (tm.setIfInBounds d v).getD t undef = if t = d then v else tm.getD t undef := by
 simp only [Array.getD_eq_getD_getElem?, Array.getElem?_setIfInBounds]
 by_cases h : t = d
 ·subst h; simp [hd]
 ·simp [h, Ne.symm h]
theorem put_get (S : St) (d t : Nat) (x : D) : (S.put (some d) x).get t = if t = d then some x else S.get t := by
 simp only [St.put, St.get, lkp]
theorem Core.put (h : Core g S tm w) {dst : Option Nat} {d : D} {v : Value} (hd : ∀ t, dst = some t → t < tm.size) (hr : Rep g w d v) :
    Core g (S.put dst d) (match dst with | some t => tm.setIfInBounds t v | none => tm) w := by
 cases dst with
 | none => exact h
 | some t =>
  refine ⟨fun t' d' hg => ?_, h.box, h.boxF, h.boxI, h.tag, h.tagB, h.tagI, h.frz⟩
  rw [put_get] at hg
  rw [getD_set _ _ _ _ (hd t rfl)]
  split at hg
  ·rename_i he; injection hg with hg; subst hg; rw [if_pos he]; exact hr
  ·rename_i he; rw [if_neg he]; exact h.env t' d' hg
theorem Core.later (h : Core g S tm w) {po : Nat → Bool} {pt : Tag → Bool} (hl : Later g g' w w' po pt)
    (hbox : ∀ o cs, S.box o = some cs → po o = true) (htag : ∀ t x, S.tag t = some x → pt t = true)
    (hheap : ∀ (b : Nat) (o : Obj), w.heap[b]? = some o → w'.heap[b]? = some o) (hF : ∀ b k, g'.F b k → g.F b k ∨ w.heap.size ≤ b) (hlt : ∀ b k, g'.F b k → b < w'.heap.size) : Core g' (S.only po pt) tm w' := by
 have hblk : ∀ b, b < w.heap.size → w'.heap[b]? = w.heap[b]? := fun b hb => by rw [Array.getElem?_eq_getElem hb]; exact hheap b _ (Array.getElem?_eq_getElem hb)
 have own_lt : ∀ t x ti b, S.tag t = some x → g.τ t = some ti → ti.v.ownBlock = some b → b < w.heap.size := fun t x ti b ht hti hb => by
  obtain ⟨ti', h1, h2⟩ := h.tag t x ht
  rw [hti] at h1; injection h1 with h1; subst h1
  exact (h2.own.lt b hb).2
 have box_lt : ∀ o cs b k, S.box o = some cs → g.μ o = some (b, k) → b < w.heap.size := fun o cs b k hb hμ => by
  obtain ⟨b', k', vs, e, h1, h2, _⟩ := h.box o cs hb
  rw [hμ] at h1; injection h1 with h1; injection h1 with h1 _; subst h1
  exact h2.lt
 have unbox : ∀ o cs', (S.only po pt).box o = some cs' → ∃ cs, S.box o = some cs ∧ cs' = cs.map (D.keep po pt) := fun o cs' hb => by
  rw [only_box] at hb
  obtain ⟨cs, h1, h2⟩ := Option.map_eq_some_iff.1 hb
  exact ⟨cs, h1, h2.symm⟩
 have unμ : ∀ o cs bk, S.box o = some cs → g'.μ o = some bk → g.μ o = some bk := fun o cs bk hb hμ => by
  obtain ⟨b', k', vs, e, h1, _⟩ := h.box o cs hb
  have := hl.μ o (hbox o cs hb) _ h1
  rw [hμ] at this; rw [h1, this]
 have unτ : ∀ t x ti, S.tag t = some x → g'.τ t = some ti → g.τ t = some ti := fun t x ti ht hti => by
  obtain ⟨ti', h1, h2⟩ := h.tag t x ht
  have := hl.τ t (htag t x ht) _ h1
  rw [hti] at this; rw [h1, this]
 refine ⟨fun t d hd => ?_, fun o cs' hb => ?_, fun o cs' b k i hb hμ hi => ?_, fun o o' cs cs' b k k' hb hb' hμ hμ' => ?_, fun t x ht => ?_, fun t x ti o cs' b k ht hti hb hμ => ?_, fun t x ti t' x' ti' b ht hti ht' hti' => ?_, hlt, h.frz.2.mono hl.F hl.cell⟩
 ·rw [only_get] at hd
  obtain ⟨d0, h1, h2⟩ := Option.map_eq_some_iff.1 hd
  subst h2
  exact (h.env t d0 h1).keep hl
 ·obtain ⟨cs, hcs, rfl⟩ := unbox o cs' hb
  obtain ⟨b, k, vs, e, h1, h2, h3, h4⟩ := h.box o cs hcs
  refine ⟨b, k, vs, e, hl.μ o (hbox o cs hcs) _ h1, h2.keep (hheap b), by simpa using h3, fun i d u hd hu => ?_⟩
  rw [List.getElem?_map] at hd
  obtain ⟨d0, h5, h6⟩ := Option.map_eq_some_iff.1 hd
  subst h6
  exact (h4 i d0 u h5 hu).keep hl
 ·obtain ⟨cs, hcs, rfl⟩ := unbox o cs' hb
  have hμ0 := unμ o cs _ hcs hμ
  intro hFF
  rcases hF _ _ hFF with h1 | h1
  ·exact h.boxF o cs b k i hcs hμ0 (by simpa using hi) h1
  ·have := box_lt o cs b k hcs hμ0; omega
 ·obtain ⟨c1, hc1, rfl⟩ := unbox o cs hb
  obtain ⟨c2, hc2, rfl⟩ := unbox o' cs' hb'
  have := h.boxI o o' c1 c2 b k k' hc1 hc2 (unμ _ _ _ hc1 hμ) (unμ _ _ _ hc2 hμ')
  simpa using this
 ·obtain ⟨ti, h1, h2⟩ := h.tag t x ht
  refine ⟨ti, hl.τ t (htag t x ht) _ h1, h2.ty, ?_, h2.one, fun b k hb hFF => ?_, fun b k hb hx hk => hl.F _ _ (h2.inn b k hb hx hk)⟩
  ·refine ⟨h2.own.1, ?_⟩
   rcases h2.own.2 with h3 | ⟨gg, cap, cur, hv, hz, hh, r⟩
   ·exact .inl h3
   ·exact .inr ⟨gg, cap, cur, hv, hz, hheap _ _ hh, r⟩
  ·rcases hF _ _ hFF with h3 | h3
   ·exact h2.out b k hb h3
   ·have := own_lt t x ti b ht h1 hb; omega
 ·obtain ⟨cs, hcs, rfl⟩ := unbox o cs' hb
  exact h.tagB t x ti o cs b k ht (unτ _ _ _ ht hti) hcs (unμ _ _ _ hcs hμ)
 ·exact h.tagI t x ti t' x' ti' b ht (unτ _ _ _ ht hti) ht' (unτ _ _ _ ht' hti')
def St.newTag (S : St) (t : Tag) (x : Bool) : St := { S.only (fun _ => true) (fun y => decide (y ≠ t)) with tg := (t, x) :: S.tg.filter fun y => decide (y.1 ≠ t) }
def St.newBox (S : St) (o : Nat) (cs : List D) : St :=
 let S' := S.only (fun y => decide (y ≠ o)) (fun _ => true)
 { S' with hp := (o, cs) :: S'.hp.filter fun y => decide (y.1 ≠ o) }
theorem lookup_filter {α β : Type} [DecidableEq α] (l : List (α × β)) (t t' : α) : lkp t' (l.filter fun y => decide (y.1 ≠ t)) = if t' = t then none else lkp t' l := by
 induction l with
 | nil => simp [lkp]
 | cons x l ih =>
  obtain ⟨k, v⟩ := x
  simp only [List.filter_cons, lkp]
  by_cases h : k = t
  ·subst h
   simp only [ne_eq, not_true_eq_false, decide_false, Bool.false_eq_true, if_false, ih]
   by_cases h2 : t' = k <;> simp [h2]
  ·simp only [ne_eq, h, not_false_eq_true, decide_true, if_true, lkp, ih]
   by_cases h2 : t' = k
   ·subst h2; simp [h]
   ·simp [h2]
theorem newTag_tag (t t' : Tag) (x : Bool) : (S.newTag t x).tag t' = if t' = t then some x else S.tag t' := by
 simp only [St.newTag, St.tag, lkp, lookup_filter]
 by_cases h : t' = t <;> simp [h]
theorem newBox_box (o o' : Nat) (cs : List D) : (S.newBox o cs).box o' = if o' = o then some cs else (S.box o').map (List.map (D.keep (fun y => decide (y ≠ o)) fun _ => true)) := by
 simp only [St.newBox, St.box, lkp, lookup_filter]
 by_cases h : o' = o
 ·simp [h]
 ·simp only [h, if_false]
  exact lookup_map _ _ _
theorem Core.dropTag (h : Core g S tm w) (t : Tag) : Core g { S with tg := S.tg.filter fun y => decide (y.1 ≠ t) } tm w := by
 have sub : ∀ t' x, ({ S with tg := S.tg.filter fun y => decide (y.1 ≠ t) } : St).tag t' = some x → S.tag t' = some x := fun t' x hx => by
  simp only [St.tag, lookup_filter] at hx
  split at hx
  ·cases hx
  ·exact hx
 exact ⟨h.env, h.box, h.boxF, h.boxI, fun t' x hx => h.tag t' x (sub t' x hx), fun t' x ti o cs b k ht => h.tagB t' x ti o cs b k (sub t' x ht),
  fun t1 x ti t2 x' ti' b h1 h2 h3 => h.tagI t1 x ti t2 x' ti' b (sub _ _ h1) h2 (sub _ _ h3), h.frz⟩
theorem Core.dropBox (h : Core g S tm w) (o : Nat) : Core g { S with hp := S.hp.filter fun y => decide (y.1 ≠ o) } tm w := by
 have sub : ∀ o' cs, ({ S with hp := S.hp.filter fun y => decide (y.1 ≠ o) } : St).box o' = some cs → S.box o' = some cs := fun o' cs hx => by
  simp only [St.box, lookup_filter] at hx
  split at hx
  ·cases hx
  ·exact hx
 exact ⟨h.env, fun o' cs hb => h.box o' cs (sub _ _ hb), fun o' cs b k i hb => h.boxF o' cs b k i (sub _ _ hb), fun o1 o2 c1 c2 b k k' h1 h2 => h.boxI o1 o2 c1 c2 b k k' (sub _ _ h1) (sub _ _ h2),
  h.tag, fun t x ti o' cs b k ht hti hb => h.tagB t x ti o' cs b k ht hti (sub _ _ hb), h.tagI, h.frz⟩
theorem Core.newRow (h : Core g S tm w) (t : Tag) (ti : TI) (hty : ti.e = t.2.1 ∧ ti.sz = t.2.2) (hheap : ∀ (b : Nat) (o : Obj), w.heap[b]? = some o → w'.heap[b]? = some o) (hsize : w.heap.size ≤ w'.heap.size)
    (hown : w'.ownsRow 0 ti.e ti.sz ti.v ti.n ti.xs) (hone : ∀ u ∈ ti.xs, u.oneCell' = true) (hnew : ∀ b, ti.v.ownBlock = some b → w.heap.size ≤ b) :
    Core { g with τ := fun t' => if t' = t then some ti else g.τ t' } (S.newTag t true) tm w' := by
 have h1 := h.dropTag t
 have hcell : ∀ b k, b < w.heap.size → w'.cell? ⟨b, k, none⟩ = w.cell? ⟨b, k, none⟩ := fun b k hb =>
  World.cell?_of_block (a := ⟨b, k, none⟩) (by rw [Array.getElem?_eq_getElem hb]; exact hheap b _ (Array.getElem?_eq_getElem hb))
 have hl : Later g { g with τ := fun t' => if t' = t then some ti else g.τ t' } w w' (fun _ => true) (fun y => decide (y ≠ t)) :=
  ⟨fun o _ b hb => hb, fun t' ht ti' hti => by
   have : t' ≠ t := by simpa using ht
   show (if t' = t then some ti else g.τ t') = some ti'
   rw [if_neg this]; exact hti, fun _ _ h => h, fun b k hF => hcell b k (h.frz.1 b k hF)⟩
 have h2 := h1.later hl (fun _ _ _ => rfl) (fun t' x hx => by
  simp only [St.tag, lookup_filter] at hx
  split at hx
  ·cases hx
  ·rename_i hne; simpa using hne) hheap (fun b k hF => .inl hF) (fun b k hF => by have := h.frz.1 b k hF; omega)
 have tagT : ∀ t' x, (S.newTag t true).tag t' = some x → t' ≠ t → (({ S with tg := S.tg.filter fun y => decide (y.1 ≠ t) } : St).only (fun _ => true) (fun y => decide (y ≠ t))).tag t' = some x := fun t' x hx hne => by
  rw [newTag_tag, if_neg hne] at hx
  show lkp t' (S.tg.filter fun y => decide (y.1 ≠ t)) = some x
  rw [lookup_filter, if_neg hne]; exact hx
 have box_lt : ∀ o cs b k, (S.newTag t true).box o = some cs → g.μ o = some (b, k) → b < w.heap.size := fun o cs b k hb hμ => by
  have hb' : (S.only (fun _ => true) (fun y => decide (y ≠ t))).box o = some cs := hb
  rw [only_box] at hb'
  obtain ⟨c0, hc0, _⟩ := Option.map_eq_some_iff.1 hb'
  obtain ⟨b', k', vs, e, q1, q2, _⟩ := h.box o c0 hc0
  rw [hμ] at q1; injection q1 with q1; injection q1 with q1 _; subst q1
  exact q2.lt
 have own_lt : ∀ t' x ti' b, (S.newTag t true).tag t' = some x → t' ≠ t → g.τ t' = some ti' → ti'.v.ownBlock = some b → b < w.heap.size := fun t' x ti' b hx hne hti hb => by
  rw [newTag_tag, if_neg hne] at hx
  obtain ⟨ti2, q1, q2⟩ := h.tag t' x hx
  rw [hti] at q1; injection q1 with q1; subst q1
  exact (q2.own.lt b hb).2
 refine ⟨h2.env, h2.box, h2.boxF, h2.boxI, fun t' x ht => ?_, fun t' x ti' o cs b k ht hti hb hμ => ?_, fun t1 x1 ti1 t2 x2 ti2 b ht1 hti1 ht2 hti2 hb1 hb2 => ?_, h2.frz⟩
 ·by_cases hne : t' = t
  ·subst hne
   rw [newTag_tag, if_pos rfl] at ht
   injection ht with ht; subst ht
   refine ⟨ti, by simp, hty, hown, hone, fun b k hb hF => ?_, fun b k hb hx => by cases hx⟩
   have := hnew b hb
   have := h.frz.1 b k hF
   omega
  ·exact h2.tag t' x (tagT t' x ht hne)
 ·by_cases hne : t' = t
  ·subst hne
   simp only [if_pos] at hti
   injection hti with hti; subst hti
   intro hb'
   have := hnew b hb'
   have := box_lt o cs b k hb hμ
   omega
  ·exact h2.tagB t' x ti' o cs b k (tagT t' x ht hne) hti hb hμ
 ·by_cases hne1 : t1 = t
  ·by_cases hne2 : t2 = t
   ·rw [hne1, hne2]
   ·exfalso
    subst hne1
    simp only [if_pos] at hti1
    injection hti1 with hti1; subst hti1
    simp only [if_neg hne2] at hti2
    have := hnew b hb1
    have := own_lt t2 x2 ti2 b ht2 hne2 hti2 hb2
    omega
  ·by_cases hne2 : t2 = t
   ·exfalso
    subst hne2
    simp only [if_pos] at hti2
    injection hti2 with hti2; subst hti2
    simp only [if_neg hne1] at hti1
    have := hnew b hb2
    have := own_lt t1 x1 ti1 b ht1 hne1 hti1 hb1
    omega
   ·exact h2.tagI t1 x1 ti1 t2 x2 ti2 b (tagT _ _ ht1 hne1) hti1 (tagT _ _ ht2 hne2) hti2 hb1 hb2
end Go.Vm

namespace Go.Vm
open Go.RowKit
variable {P : Program} {w0 w w' : World} {W : Reg} {N : Nat} {g g' : Gh} {S : St} {a : Act} {tm : Array Value}
theorem Core.box_lt (h : Core g S tm w) {o : Nat} {cs : List D} {b k : Nat} (hb : S.box o = some cs) (hμ : g.μ o = some (b, k)) : b < w.heap.size := by
 obtain ⟨b', k', vs, e, q1, q2, _⟩ := h.box o cs hb
 rw [hμ] at q1; injection q1 with q1; injection q1 with q1 _; subst q1
 exact q2.lt
theorem Core.own_lt (h : Core g S tm w) {t : Tag} {x : Bool} {ti : TI} {b : Nat} (ht : S.tag t = some x) (hti : g.τ t = some ti) (hb : ti.v.ownBlock = some b) : b < w.heap.size := by
 obtain ⟨ti2, q1, q2⟩ := h.tag t x ht
 rw [hti] at q1; injection q1 with q1; subst q1
 exact (q2.own.lt b hb).2
theorem Core.newBox (h : Core g S tm w) (o : Nat) (cs : List D) (vs : Array Value) (e : TypeId) (hc : Cells g w cs vs) (hob : o < mapB) :
    Core { g with μ := fun o' => if o' = o then some (w.heap.size, 0) else g.μ o' } (S.newBox o (cs.map (D.keep (fun y => decide (y ≠ o)) fun _ => true))) tm (w.alloc (.cells vs e (0, 0))) := by
 have h1 := h.dropBox o
 have hheap : ∀ (b : Nat) (ob : Obj), w.heap[b]? = some ob → (w.alloc (.cells vs e (0, 0))).heap[b]? = some ob := fun b ob hb => by
  rw [heap_alloc_old w _ b (Array.getElem?_eq_some_iff.1 hb).1]; exact hb
 have hl : Later g { g with μ := fun o' => if o' = o then some (w.heap.size, 0) else g.μ o' } w (w.alloc (.cells vs e (0, 0))) (fun y => decide (y ≠ o)) (fun _ => true) :=
  ⟨fun o' ho b hb => by
   have : o' ≠ o := by simpa using ho
   show (if o' = o then some (w.heap.size, 0) else g.μ o') = some b
   rw [if_neg this]; exact hb, fun _ _ _ h => h, fun _ _ h => h, fun b k hF => World.cell?_of_block (a := ⟨b, k, none⟩) (heap_alloc_old w _ b (h.frz.1 b k hF))⟩
 have h2 := h1.later hl (fun o' c hb => by
  simp only [St.box, lookup_filter] at hb
  split at hb
  ·cases hb
  ·rename_i hne; simpa using hne) (fun _ _ _ => rfl) hheap (fun b k hF => .inl hF) (fun b k hF => by have := h.frz.1 b k hF; simp; omega)
 have unb : ∀ o' c, o' ≠ o → (S.newBox o (cs.map (D.keep (fun y => decide (y ≠ o)) fun _ => true))).box o' = some c → (({ S with hp := S.hp.filter fun y => decide (y.1 ≠ o) } : St).only (fun y => decide (y ≠ o)) (fun _ => true)).box o' = some c := fun o' c hne hb => by
  rw [newBox_box, if_neg hne] at hb
  rw [only_box]
  show (lkp o' (S.hp.filter fun y => decide (y.1 ≠ o))).map _ = some c
  rw [lookup_filter, if_neg hne]; exact hb
 have blt : ∀ o' c b k, o' ≠ o → (S.newBox o (cs.map (D.keep (fun y => decide (y ≠ o)) fun _ => true))).box o' = some c → g.μ o' = some (b, k) → b < w.heap.size := fun o' c b k hne hb hμ => by
  rw [newBox_box, if_neg hne] at hb
  obtain ⟨c0, hc0, _⟩ := Option.map_eq_some_iff.1 hb
  exact h.box_lt hc0 hμ
 refine ⟨h2.env, fun o' c hb => ?_, fun o' c b k i hb hμ hi hF => ?_, fun o1 o2 c1 c2 b k k' hb1 hb2 hμ1 hμ2 => ?_, h2.tag, fun t x ti o' c b k ht hti hb hμ hown => ?_, h2.tagI, h2.frz⟩
 ·by_cases hne : o' = o
  ·subst hne
   rw [newBox_box, if_pos rfl] at hb
   injection hb with hb; subst hb
   refine ⟨w.heap.size, 0, vs, e, by simp, .of (heap_alloc_new w _) hob, by simp [hc.1], fun i d u hd hu => ?_⟩
   rw [List.getElem?_map] at hd
   obtain ⟨d0, h3, h4⟩ := Option.map_eq_some_iff.1 hd
   subst h4
   exact (hc.2 i d0 u h3 (by simpa using hu)).keep hl
  ·exact h2.box o' c (unb o' c hne hb)
 ·by_cases hne : o' = o
  ·subst hne
   simp only [if_pos, Option.some.injEq, Prod.mk.injEq] at hμ
   have := h.frz.1 b _ hF
   omega
  ·exact h2.boxF o' c b k i (unb o' c hne hb) hμ hi hF
 ·by_cases hn1 : o1 = o
  ·by_cases hn2 : o2 = o
   ·exact fun _ _ _ _ _ => hn1.trans hn2.symm
   ·subst hn1
    simp only [if_pos, Option.some.injEq, Prod.mk.injEq] at hμ1
    simp only [if_neg hn2] at hμ2
    have := blt o2 c2 b k' hn2 hb2 hμ2
    omega
  ·by_cases hn2 : o2 = o
   ·subst hn2
    simp only [if_pos, Option.some.injEq, Prod.mk.injEq] at hμ2
    simp only [if_neg hn1] at hμ1
    have := blt o1 c1 b k hn1 hb1 hμ1
    omega
   ·exact h2.boxI o1 o2 c1 c2 b k k' (unb _ _ hn1 hb1) (unb _ _ hn2 hb2) hμ1 hμ2
 ·by_cases hne : o' = o
  ·subst hne
   simp only [if_pos, Option.some.injEq, Prod.mk.injEq] at hμ
   have := h.own_lt ht hti hown
   omega
  ·exact h2.tagB t x ti o' c b k ht hti (unb o' c hne hb) hμ hown
def St.setBox (S : St) (o : Nat) (cs : List D) : St := { S with hp := (o, cs) :: S.hp.filter fun y => decide (y.1 ≠ o) }
theorem setBox_box (o o' : Nat) (cs : List D) : (S.setBox o cs).box o' = if o' = o then some cs else S.box o' := by
 simp only [St.setBox, St.box, lkp, lookup_filter]
 by_cases h : o' = o <;> simp [h]
theorem putCells_get {α : Type} (cs : List α) (off : Nat) (ds : List α) (h : off + ds.length ≤ cs.length) (i : Nat) :
    (putCells cs off ds)[i]? = if off ≤ i ∧ i < off + ds.length then ds[i - off]? else cs[i]? := by
 unfold putCells
 have key : ∀ (ds : List α) (k : Nat) (cs : List α), off + k + ds.length ≤ cs.length → ((ds.zipIdx k).foldl (fun cs x => cs.set (off + x.2) x.1) cs)[i]? = if off + k ≤ i ∧ i < off + k + ds.length then ds[i - (off + k)]? else cs[i]? := by
  intro ds
  induction ds with
  | nil => intro k cs _; simp only [List.zipIdx_nil, List.foldl_nil, List.length_nil]; rw [if_neg (by omega)]
  | cons d ds ih =>
   intro k cs hle
   simp only [List.zipIdx_cons, List.foldl_cons]
   rw [ih (k + 1) (cs.set (off + k) d) (by simp at hle ⊢; omega)]
   simp only [List.length_cons] at hle
   by_cases h1 : off + (k + 1) ≤ i ∧ i < off + (k + 1) + ds.length
   ·rw [if_pos h1, if_pos (by simp; omega), show i - (off + k) = (i - (off + (k + 1))) + 1 by omega]
    simp
   ·rw [if_neg h1]
    by_cases h2 : off + k = i
    ·subst h2
     rw [if_pos (by simp only [List.length_cons]; omega), List.getElem?_set_self (by omega), Nat.sub_self]
     rfl
    ·rw [if_neg (by simp; omega), List.getElem?_set_ne h2]
 have := key ds 0 cs (by omega)
 simpa using this
theorem putCells_length {α : Type} (cs : List α) (off : Nat) (ds : List α) : (putCells cs off ds).length = cs.length := foldl_set_length off _ cs
theorem Core.setBox (h : Core g S tm w) {o : Nat} {cs ds : List D} {b k off : Nat} {us : List Value} {cur : Array Value} {e : TypeId} (hb : S.box o = some cs) (hμ : g.μ o = some (b, k)) (hle : off + ds.length ≤ cs.length)
    (hcur : w.heap[b]? = some (.cells cur e (0, 0))) (hlen : us.length = ds.length) (hr : ∀ (i : Nat) (d : D) (u : Value), ds[i]? = some d → us[i]? = some u → Rep g w d u) (hsz : k + cs.length ≤ cur.size) (hob : o < mapB) :
    Core g (S.setBox o (putCells cs off ds)) tm (w.setRow b (cur.toList.take (k + off) ++ us ++ cur.toList.drop (k + off + us.length)).toArray) := by
 let new := (cur.toList.take (k + off) ++ us ++ cur.toList.drop (k + off + us.length)).toArray
 have hlt : b < w.heap.size := (Array.getElem?_eq_some_iff.1 hcur).1
 have hnew : (w.setRow b new).heap[b]? = some (.cells new e (0, 0)) := setRow_heap w b cur new e (0, 0) hcur
 have hnsz : new.size = cur.size := by simp [new]; omega
 have hget : ∀ i, new[i]? = if k + off ≤ i ∧ i < k + off + us.length then us[i - (k + off)]? else cur[i]? := fun i => by
  have h1 : (cur.toList.take (k + off)).length = k + off := by simp; omega
  simp only [new, List.getElem?_toArray, List.append_assoc]
  by_cases hi1 : i < k + off
  ·rw [if_neg (by omega), List.getElem?_append_left (by omega), List.getElem?_take, if_pos hi1]; simp
  ·rw [List.getElem?_append_right (by omega), h1]
   by_cases hi2 : i < k + off + us.length
   ·rw [if_pos (by omega), List.getElem?_append_left (by omega)]
   ·rw [if_neg (by omega), List.getElem?_append_right (by omega), List.getElem?_drop]
    simp only [Array.getElem?_toList]
    congr 1; omega
 have hcellF : ∀ b' k', g.F b' k' → (w.setRow b new).cell? ⟨b', k', none⟩ = w.cell? ⟨b', k', none⟩ := fun b' k' hF => by
  by_cases hbb : b' = b
  ·subst hbb
   rw [cell_of_row _ _ _ _ _ _ hnew, cell_of_row _ _ _ _ _ _ hcur, hget, if_neg]
   rintro ⟨h1, h2⟩
   refine h.boxF o cs b' k (k' - k) hb hμ (by omega) ?_
   rw [show k + (k' - k) = k' by omega]; exact hF
  ·exact cell_setRow_other w b new ⟨b', k', none⟩ hbb
 have rep : ∀ {d : D} {v : Value}, Rep g w d v → Rep g (w.setRow b new) d v := fun hr => hr.mono' (fun _ _ h => h) (fun _ _ h => h) (fun _ _ h => h) hcellF
 refine ⟨fun t d hd => rep (h.env t d hd), fun o' c hb' => ?_, fun o' c b' k' i hb' hμ' hi => ?_, fun o1 o2 c1 c2 b1 k1 k2 hb1 hb2 hμ1 hμ2 => ?_, fun t x ht => ?_, fun t x ti o' c b' k' ht hti hb' hμ' => ?_, h.tagI, fun b' k' hF => by simpa using h.frz.1 b' k' hF, h.frz.2.mono (fun _ _ h => h) hcellF⟩
 ·rw [setBox_box] at hb'
  split at hb'
  ·rename_i he; subst he
   injection hb' with hb'; subst hb'
   refine ⟨b, k, new, e, hμ, .of hnew hob, by rw [putCells_length, hnsz]; exact hsz, fun i d u hd hu => ?_⟩
   rw [putCells_get _ _ _ hle] at hd
   rw [hget] at hu
   by_cases hi : off ≤ i ∧ i < off + ds.length
   ·rw [if_pos hi] at hd
    rw [if_pos (by omega), show k + i - (k + off) = i - off by omega] at hu
    exact rep (hr _ d u hd hu)
   ·rw [if_neg hi] at hd
    rw [if_neg (by omega)] at hu
    obtain ⟨b', k', vs, e', q1, q2, q3, q4⟩ := h.box o' cs hb
    rw [hμ] at q1; injection q1 with q1; injection q1 with q1 q1'; subst q1; subst q1'
    replace q2 := q2.cells hob
    rw [hcur] at q2; injection q2 with q2; injection q2 with q2; subst q2
    exact rep (q4 i d u hd hu)
  ·rename_i hne
   obtain ⟨b', k', vs, e', q1, q2, q3, q4⟩ := h.box o' c hb'
   by_cases hbb : b' = b
   ·subst hbb
    have ho' : o' < mapB := Classical.byContradiction fun hn => by
     obtain ⟨-, ob, h1, h2, -⟩ := q2.isMap hn
     rw [hcur] at h1; injection h1 with h1; subst h1; cases h2
    replace q2 := q2.cells ho'
    rw [hcur] at q2; injection q2 with q2; injection q2 with q2 q2'; subst q2; subst q2'
    refine ⟨b', k', new, e, q1, .of hnew ho', by rw [hnsz]; exact q3, fun i d u hd hu => ?_⟩
    have hic : i < c.length := (List.getElem?_eq_some_iff.1 hd).1
    rw [hget, if_neg] at hu
    ·exact rep (q4 i d u hd hu)
    ·rintro ⟨h1, h2⟩
     exact hne (h.boxI o' o c cs b' k' k hb' hb q1 hμ i (k' + i - k) hic (by omega) (by omega))
   ·exact ⟨b', k', vs, e', q1, q2.keep (fun ob h => by rw [setRow_other w b b' new hbb]; exact h), q3, fun i d u hd hu => rep (q4 i d u hd hu)⟩
 ·rw [setBox_box] at hb'
  split at hb'
  ·rename_i he; subst he
   injection hb' with hb'; subst hb'
   rw [putCells_length] at hi
   exact h.boxF o' cs b' k' i hb hμ' hi
  ·exact h.boxF o' c b' k' i hb' hμ' hi
 ·have len : ∀ o' c, (S.setBox o (putCells cs off ds)).box o' = some c → ∃ c0, S.box o' = some c0 ∧ c0.length = c.length := fun o' c hb' => by
    rw [setBox_box] at hb'
    split at hb'
    ·rename_i he; subst he
     injection hb' with hb'; subst hb'
     exact ⟨cs, hb, (putCells_length cs off ds).symm⟩
    ·exact ⟨c, hb', rfl⟩
  obtain ⟨d1, e1, f1⟩ := len o1 c1 hb1
  obtain ⟨d2, e2, f2⟩ := len o2 c2 hb2
  rw [← f1, ← f2]
  exact h.boxI o1 o2 d1 d2 b1 k1 k2 e1 e2 hμ1 hμ2
 ·obtain ⟨ti, q1, q2⟩ := h.tag t x ht
  refine ⟨ti, q1, ⟨q2.ty, ?_, q2.one, q2.out, q2.inn⟩⟩
  refine ⟨q2.own.1, ?_⟩
  rcases q2.own.2 with h3 | ⟨gg, cap, cur', hv, hz, hh, r⟩
  ·exact .inl h3
  ·refine .inr ⟨gg, cap, cur', hv, hz, ?_, r⟩
   have : gg ≠ b := fun e => h.tagB t x ti o cs b k ht q1 hb hμ (by rw [hv, ← e]; rfl)
   rw [setRow_other w b gg new this]; exact hh
 ·rw [setBox_box] at hb'
  split at hb'
  ·rename_i he; subst he
   exact h.tagB t x ti o' cs b' k' ht hti hb hμ'
  ·exact h.tagB t x ti o' c b' k' ht hti hb' hμ'
theorem Keep.setRow {W : Reg} {b : Nat} {cur new : Array Value} {e : TypeId} (hcur : w.heap[b]? = some (.cells cur e (0, 0))) (hs : new.size = cur.size) (hW : ∀ k, ¬ W b k → new[k]? = cur[k]?) : Keep W w (w.setRow b new) := by
 refine ⟨rfl, rfl, rfl, by simp, Nat.le_refl _, fun b' o hb => ?_⟩
 by_cases h : b' = b
 ·subst h
  rw [hcur] at hb; injection hb with hb
  exact .inr (.inl ⟨cur, new, e, hb.symm, setRow_heap w b' cur new e (0, 0) hcur, hs, hW⟩)
 ·exact .inl (by rw [setRow_other w b b' new h]; exact hb)
end Go.Vm

namespace Go.Vm
open Go.RowKit
variable {P : Program} {w0 w w' : World} {W : Reg} {N : Nat} {g g' : Gh} {S : St} {a : Act} {tm : Array Value}
theorem run_append (t ty e : TypeId) (i : TypeInfo) (z : Value) (size bytes : Nat) (ht : P.underlying t = some (.slice e)) (hi : P.info? e = some i) (hz : i.zero = some z)
    (hsize : i.size = size) (hby : i.bytes = bytes) (hzs : z.cells.size = size) (hsz : 0 < size)
    (v : Value) (n : Nat) (xs : List Value) (hown : w.ownsRow 0 e size v n xs)
    (a : Addr) (m c : Nat) (news : List Value) (hl : news.length = m * size) (hnews : ∀ (j : Nat) (u : Value), news[j]? = some u → w.cell? (a.add j) = some u) (h1 : ∀ u ∈ news, u.oneCell' = true)
    (h63 : n + m ≤ maxLen) (hbytes : (n + m) * bytes ≤ 140737488355328) :
    ∃ v' w', (Builtin.append_ #[t, t] ty #[v, .slice (some a) m c]).run P w = .ok v' w' ∧ w'.ownsRow 0 e size v' (n + m) (xs ++ news) ∧ (w.grownBy w' v.ownBlock ∧ w.drawn ≤ w'.drawn) ∧
     ((∀ b, v'.ownBlock = some b → w.heap.size ≤ b) ∧ (∀ b, v.ownBlock = some b → w'.heap[b]? = w.heap[b]?) ∨
      ∃ b cur cur', v.ownBlock = some b ∧ v'.ownBlock = some b ∧ w.heap[b]? = some (.cells cur e (0, 0)) ∧ w'.heap[b]? = some (.cells cur' e (0, 0)) ∧ cur'.size = cur.size) := by
 subst hsize
 subst hby
 have hsmall : n + m ≤ 9223372036854775807 := by simp only [maxLen] at h63; omega
 have hlen : (xs ++ news).length = (n + m) * i.size := by rw [List.length_append, hown.1, hl, Nat.add_mul]
 have grown : ∀ (old : Nat), old < n + m → ∀ (row : Option Nat),
     (w.drew.alloc (.cells (xs.toArray ++ news.toArray ++ Builtin.zeroCells z.cells (grownCap w (n + m) old e - (n + m))) e)).ownsRow 0 e i.size
      (.slice (some ⟨w.heap.size, 0, none⟩) (n + m) (grownCap w (n + m) old e)) (n + m) (xs ++ news) ∧
     w.grownBy (w.drew.alloc (.cells (xs.toArray ++ news.toArray ++ Builtin.zeroCells z.cells (grownCap w (n + m) old e - (n + m))) e)) row := by
  intro old ho row
  have hge := grownCap_ge w (n + m) old e
  have hcm : grownCap w (n + m) old e ≤ maxLen := grownCap_le_maxLen w (n + m) old e h63
  refine ⟨⟨hlen, .inr ⟨w.heap.size, _, _, rfl, Nat.zero_le _, heap_alloc_new w.drew _, hge, hcm, ?_, ?_⟩⟩, ⟨rfl, rfl, rfl, by simp, fun k hk _ => heap_alloc_old w.drew _ k hk⟩⟩
  ·simp only [Array.size_append, List.size_toArray, size_zeroCells, hzs, hown.1, hl, ← Nat.add_mul]
   congr 1
   omega
  ·simp only [Array.toList_append, List.append_assoc]
   rw [← List.append_assoc, ← hlen]
   exact List.take_left
 rcases hown.2 with ⟨rfl, rfl⟩ | ⟨g, cap, cur, rfl, hbg, hg, hnc, hcm, hcs, htake⟩
 ·have hx : xs = [] := List.eq_nil_of_length_eq_zero (by simpa using hown.1)
  subst hx
  by_cases hm : m = 0
  ·subst hm
   have hn : news = [] := List.eq_nil_of_length_eq_zero (by simpa using hl)
   subst hn
   refine ⟨.slice none 0 0, w, ?_, World.ownsRow_nil w 0 e i.size, ⟨⟨rfl, rfl, rfl, Nat.le_refl _, fun _ _ _ => rfl⟩, Nat.le_refl _⟩, .inl ⟨fun b hb => by simp [Value.ownBlock] at hb, fun b _ => rfl⟩⟩
   simp [Builtin.append_, run_underlying ht, sizeOf, typeInfo, hi, Builtin.lenOf, Builtin.firstCells, loadCells, loadCellsFrom]
  ·have hr := run_append_nil (P := P) w t ty e i z ht hi hz a m c news hl hnews (by omega) (by omega) (by have hb := hbytes; simp only [Nat.zero_add] at hb; omega)
   have hgr := grown 0 (by omega) (Value.ownBlock (.slice none 0 0))
   simp only [Nat.zero_add, List.nil_append, Array.empty_append] at hgr ⊢
   exact ⟨_, _, hr, hgr.1, ⟨hgr.2, Nat.le_succ _⟩, .inl ⟨fun b hb => by simp only [Value.ownBlock, Option.some.injEq] at hb; omega, fun b hb => by simp [Value.ownBlock] at hb⟩⟩
 ·by_cases hroom : n + m ≤ cap
  ·have hfit : n * i.size + news.length ≤ cur.size := by rw [hl, hcs, ← Nat.add_mul]; exact Nat.mul_le_mul_right _ hroom
   have hr := run_append_room (P := P) w t ty e i ht hi g n cap cur hg a m c news hl hnews h1 hroom hfit
   have hns : (cur.toList.take (n * i.size) ++ news ++ cur.toList.drop (n * i.size + news.length)).toArray.size = cur.size := by
    simp only [List.size_toArray, List.length_append, List.length_take, List.length_drop, Array.length_toList]
    omega
   refine ⟨_, _, hr, ⟨hlen, .inr ⟨g, cap, _, rfl, hbg, setRow_heap w g cur _ e _ hg, hroom, hcm, ?_, ?_⟩⟩, ⟨⟨rfl, rfl, rfl, by simp, fun k _ hk => setRow_other w g k _ (fun e => hk (by simp [Value.ownBlock, e]))⟩, Nat.le_refl _⟩,
    .inr ⟨g, cur, _, rfl, rfl, hg, setRow_heap w g cur _ e _ hg, hns⟩⟩
   ·rw [hns, hcs]
   ·rw [htake, ← hlen]
    exact List.take_left
  ·have holds : ∀ j u, xs[j]? = some u → w.cell? ((⟨g, 0, none⟩ : Addr).add j) = some u := hown.cells (g := g) rfl
   have hr := run_append_grow (P := P) w t ty e i z ht hi hz ⟨g, 0, none⟩ n cap xs hown.1 holds a m c news hl hnews (by omega) (by omega) (growslice_fits (by omega) hbytes)
   have hgr := grown cap (by omega) (Value.ownBlock (.slice (some ⟨g, 0, none⟩) n cap))
   have hlt : g < w.heap.size := (Array.getElem?_eq_some_iff.1 hg).1
   exact ⟨_, _, hr, hgr.1, ⟨hgr.2, Nat.le_succ _⟩, .inl ⟨fun b hb => by simp only [Value.ownBlock, Option.some.injEq] at hb; omega, fun b hb => by
    simp only [Value.ownBlock, Option.some.injEq] at hb; subst hb
    exact heap_alloc_old w.drew _ g hlt⟩⟩
theorem own_shape {e : TypeId} {sz n : Nat} {v : Value} {xs : List Value} (h : w.ownsRow 0 e sz v n xs) : (v = .slice none 0 0 ∧ n = 0) ∨ ∃ b c, v = .slice (some ⟨b, 0, none⟩) n c := by
 rcases h.2 with h | ⟨g, cap, cur, hv, _⟩
 ·exact .inl h
 ·exact .inr ⟨g, cap, hv⟩
theorem Core.grow (h : Core g S tm w) {t : Tag} {x : Bool} {ti ti' : TI} (ht : S.tag t = some x) (hti : g.τ t = some ti) (hty : ti'.e = t.2.1 ∧ ti'.sz = t.2.2) (hown : w'.ownsRow 0 ti'.e ti'.sz ti'.v ti'.n ti'.xs) (hone : ∀ u ∈ ti'.xs, u.oneCell' = true)
    (hg : w.grownBy w' ti.v.ownBlock) (hpre : ∀ j, j < ti.n * ti.sz → ti'.xs[j]? = ti.xs[j]?) (hle : ti.n * ti.sz ≤ ti'.n * ti'.sz)
    (hcase : (∀ b, ti'.v.ownBlock = some b → w.heap.size ≤ b) ∧ (∀ b, ti.v.ownBlock = some b → w'.heap[b]? = w.heap[b]?) ∨ ti'.v.ownBlock = ti.v.ownBlock) :
    let g' : Gh := { g with τ := fun t' => if t' = t then some ti' else g.τ t', F := fun b k => g.F b k ∨ (x = false ∧ ti'.v.ownBlock = some b ∧ k < ti'.n * ti'.sz) }
    Core g' (S.only (fun _ => true) (fun y => decide (y ≠ t))) tm w' ∧ Later g g' w w' (fun _ => true) (fun y => decide (y ≠ t)) := by
 intro g'
 obtain ⟨ti0, q1, q2⟩ := h.tag t x ht
 rw [hti] at q1; injection q1 with q1; subst q1
 have hcell : ∀ b k, g.F b k → w'.cell? ⟨b, k, none⟩ = w.cell? ⟨b, k, none⟩ := fun b k hF => by
  by_cases hb : ti.v.ownBlock = some b
  ·rcases hcase with ⟨_, h2⟩ | h2
   ·exact World.cell?_of_block (a := ⟨b, k, none⟩) (h2 b hb)
   ·obtain ⟨_, hk⟩ := q2.out b k hb hF
    have hlt : k < ti.xs.length := by rw [q2.own.1]; exact hk
    have e1 := q2.own.cells hb k _ (List.getElem?_eq_getElem hlt)
    have e2 := hown.cells (h2.trans hb) k _ ((hpre k hk).trans (List.getElem?_eq_getElem hlt))
    rw [addr_add, Nat.zero_add] at e1 e2
    rw [e1, e2]
  ·exact World.cell?_of_block (a := ⟨b, k, none⟩) (hg.block b (h.frz.1 b k hF) (fun e => hb e.symm))
 have hl : Later g g' w w' (fun _ => true) (fun y => decide (y ≠ t)) := ⟨fun _ _ _ h => h, fun t' ht' ti2 hti2 => by
  have : t' ≠ t := by simpa using ht'
  show (if t' = t then some ti' else g.τ t') = some ti2
  rw [if_neg this]; exact hti2, fun _ _ h => .inl h, hcell⟩
 have own' : ∀ b, ti'.v.ownBlock = some b → ti.v.ownBlock = some b ∨ w.heap.size ≤ b := fun b hb => by
  rcases hcase with ⟨h1, _⟩ | h1
  ·exact .inr (h1 b hb)
  ·exact .inl (h1 ▸ hb)
 have unb : ∀ o c, (S.only (fun _ => true) (fun y => decide (y ≠ t))).box o = some c → ∃ c0, S.box o = some c0 ∧ c = c0.map (D.keep (fun _ => true) (fun y => decide (y ≠ t))) := fun o c hb => by
  rw [only_box] at hb
  obtain ⟨c0, h1, h2⟩ := Option.map_eq_some_iff.1 hb
  exact ⟨c0, h1, h2.symm⟩
 refine ⟨⟨fun t' d hd => ?_, fun o c hb => ?_, fun o c b k i hb hμ hi hF => ?_, fun o1 o2 c1 c2 b k k' hb1 hb2 hμ1 hμ2 => ?_, fun t' x' ht' => ?_, fun t' x' ti2 o c b k ht' hti2 hb hμ => ?_, fun t1 x1 ti1 t2 x2 ti2 b h1 h2 h3 h4 h5 h6 => ?_, fun b k hF => ?_, h.frz.2.mono (fun _ _ h => .inl h) hcell⟩, hl⟩
 ·rw [only_get] at hd
  obtain ⟨d0, h1, h2⟩ := Option.map_eq_some_iff.1 hd
  subst h2
  exact (h.env t' d0 h1).keep hl
 ·obtain ⟨c0, hc0, rfl⟩ := unb o c hb
  obtain ⟨b, k, vs, e, h1, h2, h3, h4⟩ := h.box o c0 hc0
  refine ⟨b, k, vs, e, h1, ?_, by simpa using h3, fun i d u hd hu => ?_⟩
  ·exact h2.keep fun ob hob => by rw [hg.block b (h.box_lt hc0 h1) (fun e => h.tagB t x ti o c0 b k ht hti hc0 h1 e.symm)]; exact hob
  ·rw [List.getElem?_map] at hd
   obtain ⟨d0, h5, h6⟩ := Option.map_eq_some_iff.1 hd
   subst h6
   exact (h4 i d0 u h5 hu).keep hl
 ·obtain ⟨c0, hc0, rfl⟩ := unb o c hb
  rcases hF with hF | ⟨_, hb', _⟩
  ·exact h.boxF o c0 b k i hc0 hμ (by simpa using hi) hF
  ·rcases own' b hb' with h1 | h1
   ·exact h.tagB t x ti o c0 b k ht hti hc0 hμ h1
   ·have := h.box_lt hc0 hμ; omega
 ·obtain ⟨d1, hd1, rfl⟩ := unb o1 c1 hb1
  obtain ⟨d2, hd2, rfl⟩ := unb o2 c2 hb2
  simpa using h.boxI o1 o2 d1 d2 b k k' hd1 hd2 hμ1 hμ2
 ·by_cases hne : t' = t
  ·subst hne
   rw [only_tag, ht] at ht'
   injection ht' with ht'; subst ht'
   refine ⟨ti', by simp [g'], hty, hown, hone, fun b k hb hF => ?_, fun b k hb hx hk => .inr ⟨hx, hb, hk⟩⟩
   rcases hF with hF | ⟨h1, _, h3⟩
   ·rcases own' b hb with h1 | h1
    ·obtain ⟨h2, h3⟩ := q2.out b k h1 hF
     exact ⟨h2, by omega⟩
    ·have := h.frz.1 b k hF; omega
   ·exact ⟨h1, h3⟩
  ·obtain ⟨ti2, r1, r2⟩ := h.tag t' x' ht'
   have hdis : ∀ b, ti2.v.ownBlock = some b → ti.v.ownBlock ≠ some b := fun b h1 h2 => hne (h.tagI t' x' ti2 t x ti b ht' r1 ht hti h1 h2)
   refine ⟨ti2, by simp [g', hne, r1], r2.ty, ?_, r2.one, fun b k hb hF => ?_, fun b k hb hx hk => .inl (r2.inn b k hb hx hk)⟩
   ·refine r2.own.kept hg ?_
    cases hob : ti2.v.ownBlock with
    | none => exact .inl rfl
    | some b => exact .inr (fun e => hdis b hob e.symm)
   ·rcases hF with hF | ⟨_, h1, _⟩
    ·exact r2.out b k hb hF
    ·rcases own' b h1 with h1 | h1
     ·exact absurd h1 (hdis b hb)
     ·have := (r2.own.lt b hb).2; omega
 ·obtain ⟨c0, hc0, rfl⟩ := unb o c hb
  by_cases hne : t' = t
  ·subst hne
   simp only [g', if_pos, Option.some.injEq] at hti2
   subst hti2
   intro hb'
   rcases own' b hb' with h1 | h1
   ·exact h.tagB t' x ti o c0 b k ht hti hc0 hμ h1
   ·have := h.box_lt hc0 hμ; omega
  ·simp only [g', if_neg hne] at hti2
   exact h.tagB t' x' ti2 o c0 b k ht' hti2 hc0 hμ
 ·by_cases hn1 : t1 = t
  ·by_cases hn2 : t2 = t
   ·rw [hn1, hn2]
   ·exfalso
    subst hn1
    simp only [g', if_pos, Option.some.injEq] at h2
    subst h2
    simp only [g', if_neg hn2] at h4
    rcases own' b h5 with h7 | h7
    ·exact hn2 (h.tagI t2 x2 ti2 t1 x ti b h3 h4 ht hti h6 h7)
    ·have := h.own_lt h3 h4 h6; omega
  ·by_cases hn2 : t2 = t
   ·exfalso
    subst hn2
    simp only [g', if_pos, Option.some.injEq] at h4
    subst h4
    simp only [g', if_neg hn1] at h2
    rcases own' b h6 with h7 | h7
    ·exact hn1 (h.tagI t1 x1 ti1 t2 x ti b h1 h2 ht hti h5 h7)
    ·have := h.own_lt h1 h2 h5; omega
   ·simp only [g', if_neg hn1] at h2
    simp only [g', if_neg hn2] at h4
    exact h.tagI t1 x1 ti1 t2 x2 ti2 b h1 h2 h3 h4 h5 h6
 ·have := hg.size
  rcases hF with hF | ⟨_, h1, _⟩
  ·have := h.frz.1 b k hF; omega
  ·exact (hown.lt b h1).2
end Go.Vm

namespace Go.Vm
open Go.RowKit
variable {P : Program} {w0 w w' : World} {W : Reg} {N : Nat} {g g' : Gh} {S : St} {a : Act} {tm : Array Value}
mutual
/-- The tags that a datum names. -/
def D.tags : D → List Tag
 | .sl (some t) _ => [t]
 | .rp (some (t, _)) _ _ => [t]
 | .fn _ first caps => tagsL first ++ tagsL caps
 | .agg ds => tagsL ds
 | .tup ds => tagsL ds
 | .part t _ _ _ => [t]
 | _ => []
def tagsL : List D → List Tag
 | [] => []
 | d :: ds => d.tags ++ tagsL ds
end
mutual
/-- A datum, frozen. -/
def D.frz : D → Option D
 | .undef => some .undef
 | .val v => some (.val v)
 | .sl _ es => some (.sl none es)
 | .rp _ cs off => some (.rp none cs off)
 | .ptr _ _ => none
 | .part _ lo n es => some (.sl none ((es.drop lo).take n))
 | .mh _ => none
 | .mpc _ => none
 | .fn f first caps => match frzL first, frzL caps with
  | some x, some y => some (.fn f x y)
  | _, _ => none
 | .agg ds => match frzL ds with
  | some x => some (.agg x)
  | none => none
 | .tup ds => match frzL ds with
  | some x => some (.tup x)
  | none => none
def frzL : List D → Option (List D)
 | [] => some []
 | d :: ds => match d.frz, frzL ds with
  | some x, some xs => some (x :: xs)
  | _, _ => none
end
def St.share (S : St) (ts : List Tag) : St := { S with tg := S.tg.map fun y => (y.1, y.2 && !ts.contains y.1) }
theorem lkp_map2 {α β γ : Type} [DecidableEq α] (f : α → β → γ) (l : List (α × β)) (t : α) : lkp t (l.map fun x => (x.1, f x.1 x.2)) = (lkp t l).map (f t) := by
 induction l with
 | nil => rfl
 | cons x l ih =>
  simp only [List.map_cons, lkp, ih]
  split
  ·rename_i h; subst h; rfl
  ·rfl
theorem share_tag (ts : List Tag) (t : Tag) : (S.share ts).tag t = (S.tag t).map fun x => x && !ts.contains t := lkp_map2 (fun t x => x && !ts.contains t) S.tg t
def shareF (g : Gh) (S : St) (ts : List Tag) : Reg := fun b k => g.F b k ∨ ∃ t ∈ ts, ∃ x ti, S.tag t = some x ∧ g.τ t = some ti ∧ ti.v.ownBlock = some b ∧ k < ti.n * ti.sz
theorem Core.share (h : Core g S tm w) (ts : List Tag) : Core { g with F := shareF g S ts } (S.share ts) tm w := by
 have rep : ∀ {d : D} {v : Value}, Rep g w d v → Rep { g with F := shareF g S ts } w d v := fun hr => hr.mono' (fun _ _ h => h) (fun _ _ h => h) (fun _ _ h => .inl h) (fun _ _ _ => rfl)
 have untag : ∀ t x, (S.share ts).tag t = some x → ∃ x0, S.tag t = some x0 ∧ x = (x0 && !ts.contains t) := fun t x hx => by
  rw [share_tag] at hx
  obtain ⟨x0, h1, h2⟩ := Option.map_eq_some_iff.1 hx
  exact ⟨x0, h1, h2.symm⟩
 refine ⟨fun t d hd => rep (h.env t d hd), fun o c hb => ?_, fun o c b k i hb hμ hi hF => ?_, h.boxI, fun t x ht => ?_, fun t x ti o c b k ht hti hb hμ => ?_, fun t1 x1 ti1 t2 x2 ti2 b h1 h2 h3 h4 => ?_, fun b k hF => ?_, h.frz.2.mono (fun _ _ h => .inl h) (fun _ _ _ => rfl)⟩
 ·obtain ⟨b, k, vs, e, h1, h2, h3, h4⟩ := h.box o c hb
  exact ⟨b, k, vs, e, h1, h2, h3, fun i d u hd hu => rep (h4 i d u hd hu)⟩
 ·rcases hF with hF | ⟨t, _, x, ti, h1, h2, h3, _⟩
  ·exact h.boxF o c b k i hb hμ hi hF
  ·exact h.tagB t x ti o c b k h1 h2 hb hμ h3
 ·obtain ⟨x0, h1, rfl⟩ := untag t x ht
  obtain ⟨ti, h2, h3⟩ := h.tag t x0 h1
  refine ⟨ti, h2, h3.ty, h3.own, h3.one, fun b k hb hF => ?_, fun b k hb hx hk => ?_⟩
  ·rcases hF with hF | ⟨t', ht', x', ti', h4, h5, h6, h7⟩
   ·obtain ⟨h8, h9⟩ := h3.out b k hb hF
    exact ⟨by simp [h8], h9⟩
   ·have : t' = t := h.tagI t' x' ti' t x0 ti b h4 h5 h1 h2 h6 hb
    subst this
    rw [h2] at h5; injection h5 with h5; subst h5
    exact ⟨by simp [ht'], h7⟩
  ·by_cases hc : t ∈ ts
   ·exact .inr ⟨t, hc, x0, ti, h1, h2, hb, hk⟩
   ·have : x0 = false := by simpa [hc] using hx
    exact .inl (h3.inn b k hb this hk)
 ·obtain ⟨x0, h1, rfl⟩ := untag t x ht
  exact h.tagB t x0 ti o c b k h1 hti hb hμ
 ·obtain ⟨y1, e1, _⟩ := untag t1 x1 h1
  obtain ⟨y2, e2, _⟩ := untag t2 x2 h3
  exact h.tagI t1 y1 ti1 t2 y2 ti2 b e1 h2 e2 h4
 ·rcases hF with hF | ⟨t, _, x, ti, h1, h2, h3, _⟩
  ·exact h.frz.1 b k hF
  ·exact h.own_lt h1 h2 h3
theorem Rep.fn_inv {f : FuncId} {first caps : List D} {u : Value} (h : Rep g w (.fn f first caps) u) : ∃ vs us, u = .func (.func f) vs us ∧ Cells g w first vs ∧ Cells g w caps us := by
 cases h with
 | fz _ _ h => cases h with
  | fn _ _ _ vs us hv hu h1 h2 => exact ⟨vs, us, rfl, ⟨hv, fun i d v hd hv => .fz _ _ (h1 i d v hd hv)⟩, ⟨hu, fun i d v hd hv => .fz _ _ (h2 i d v hd hv)⟩⟩
 | fn _ _ _ vs us hv hu h1 h2 => exact ⟨vs, us, rfl, ⟨hv, h1⟩, ⟨hu, h2⟩⟩
theorem frz_row {ts : List Tag} (h : Core g S tm w) (hlive : ∀ t ∈ ts, ∃ x, S.tag t = some x) {t : Tag} {es : List (List D)} {ti : TI} (ht : t ∈ ts) (hti : g.τ t = some ti) (hn : es.length = ti.n)
    (hl : ∀ (i : Nat) (e : List D), es[i]? = some e → e.length = ti.sz) (hr : ∀ (i : Nat) (e : List D) (j : Nat) (d : D), es[i]? = some e → e[j]? = some d → ∃ u, ti.xs[i * ti.sz + j]? = some u ∧ RepF g.F w d u) :
    RepF (shareF g S ts) w (.sl none es) ti.v := by
 obtain ⟨x, hx⟩ := hlive t ht
 obtain ⟨ti', q1, q2⟩ := h.tag t x hx
 rw [hti] at q1; injection q1 with q1; subst q1
 rcases ti.shape with ⟨hv, hz⟩ | ⟨b, c, hv⟩
 ·have : es = [] := List.eq_nil_of_length_eq_zero (by omega)
  subst this
  rw [hv]; exact .nil
 ·have hb : ti.v.ownBlock = some b := by rw [hv]; rfl
  have hc : ti.n ≤ c := by
   rcases q2.own.2 with ⟨h1, _⟩ | ⟨gg, cap, cur, h1, _, _, h2, _⟩
   ·rw [hv] at h1; cases h1
   ·rw [hv] at h1; injection h1 with _ _ h1; omega
  have hlt : ∀ i j, i < es.length → j < ti.sz → i * ti.sz + j < ti.xs.length := fun i j hi hj => by
   rw [q2.own.1]
   have : (i + 1) * ti.sz ≤ ti.n * ti.sz := Nat.mul_le_mul_right _ (by omega)
   rw [Nat.succ_mul] at this; omega
  have := RepF.sl (F := shareF g S ts) (w := w) b 0 ti.sz c es (fun i j => ti.xs.getD (i * ti.sz + j) undef) (by omega) hl
   (fun i j hi hj => .inr ⟨t, ht, x, ti, hx, hti, hb, by have := hlt i j hi hj; rw [q2.own.1] at this; omega⟩)
   (fun i j hi hj => by
    have hj' := hlt i j hi hj
    have := q2.own.cells hb _ _ (List.getElem?_eq_getElem hj')
    rw [addr_add] at this
    rw [Nat.zero_add] at this ⊢
    rw [this, List.getD_eq_getElem?_getD, List.getElem?_eq_getElem hj']; rfl)
   (fun i j hi hj => by
    have hj' := hlt i j hi hj
    rw [List.getD_eq_getElem?_getD, List.getElem?_eq_getElem hj']
    exact q2.one _ (List.getElem_mem hj'))
   (fun i e j d he hd => by
    obtain ⟨u, h1, h2⟩ := hr i e j d he hd
    rw [List.getD_eq_getElem?_getD, h1]
    exact h2.mono (fun _ _ h => .inl h) (fun _ _ _ => rfl))
  rw [hv, ← hn]; exact this
theorem frz_part {ts : List Tag} (h : Core g S tm w) (hlive : ∀ t ∈ ts, ∃ x, S.tag t = some x) {t : Tag} {es : List (List D)} {ti : TI} {lo n : Nat} (ht : t ∈ ts) (hti : g.τ t = some ti) (hn : es.length = ti.n) (hlo : lo + n ≤ ti.n) {v : Value} (hpv : PartV lo n ti.sz ti.v v)
    (hl : ∀ (i : Nat) (e : List D), es[i]? = some e → e.length = ti.sz) (hr : ∀ (i : Nat) (e : List D) (j : Nat) (d : D), es[i]? = some e → e[j]? = some d → ∃ u, ti.xs[i * ti.sz + j]? = some u ∧ RepF g.F w d u) :
    RepF (shareF g S ts) w (.sl none ((es.drop lo).take n)) v := by
 obtain ⟨x, hx⟩ := hlive t ht
 obtain ⟨ti', q1, q2⟩ := h.tag t x hx
 rw [hti] at q1; injection q1 with q1; subst q1
 rcases ti.shape with ⟨hv, hz⟩ | ⟨b, c, hv⟩
 ·have : es = [] := List.eq_nil_of_length_eq_zero (by omega)
  subst this
  rw [hv] at hpv
  have hpv : v = .slice none 0 0 := hpv
  rw [hpv]
  simp only [List.drop_nil, List.take_nil]
  exact .nil
 ·have hb : ti.v.ownBlock = some b := by rw [hv]; rfl
  have hc : ti.n ≤ c := by
   rcases q2.own.2 with ⟨h1, _⟩ | ⟨gg, cap, cur, h1, _, _, h2, _⟩
   ·rw [hv] at h1; cases h1
   ·rw [hv] at h1; injection h1 with _ _ h1; omega
  have hlen : ((es.drop lo).take n).length = n := by rw [List.length_take, List.length_drop]; omega
  have hget : ∀ i, i < n → ((es.drop lo).take n)[i]? = es[lo + i]? := fun i hi => by rw [List.getElem?_take, if_pos hi, List.getElem?_drop]
  have hlt : ∀ i j, i < n → j < ti.sz → (lo + i) * ti.sz + j < ti.xs.length := fun i j hi hj => by
   rw [q2.own.1]
   have : (lo + i + 1) * ti.sz ≤ ti.n * ti.sz := Nat.mul_le_mul_right _ (by omega)
   rw [Nat.succ_mul] at this; omega
  have hoff : ∀ i j, 0 + lo * ti.sz + i * ti.sz + j = (lo + i) * ti.sz + j := fun i j => by rw [Nat.add_mul]; omega
  have := RepF.sl (F := shareF g S ts) (w := w) b (0 + lo * ti.sz) ti.sz (c - lo) ((es.drop lo).take n) (fun i j => ti.xs.getD ((lo + i) * ti.sz + j) undef) (by omega)
   (fun i e he => by
    have hi : i < n := by rw [← hlen]; exact (List.getElem?_eq_some_iff.1 he).1
    rw [hget i hi] at he; exact hl _ _ he)
   (fun i j hi hj => .inr ⟨t, ht, x, ti, hx, hti, hb, by rw [hoff]; have := hlt i j (by omega) hj; rw [q2.own.1] at this; omega⟩)
   (fun i j hi hj => by
    have hj' := hlt i j (by omega) hj
    have := q2.own.cells hb _ _ (List.getElem?_eq_getElem hj')
    rw [addr_add] at this
    rw [Nat.zero_add] at this
    rw [hoff, this, List.getD_eq_getElem?_getD, List.getElem?_eq_getElem hj']; rfl)
   (fun i j hi hj => by
    have hj' := hlt i j (by omega) hj
    rw [List.getD_eq_getElem?_getD, List.getElem?_eq_getElem hj']
    exact q2.one _ (List.getElem_mem hj'))
   (fun i e j d he hd => by
    have hi : i < n := by rw [← hlen]; exact (List.getElem?_eq_some_iff.1 he).1
    rw [hget i hi] at he
    obtain ⟨u, h1, h2⟩ := hr _ e j d he hd
    rw [List.getD_eq_getElem?_getD, h1]
    exact h2.mono (fun _ _ h => .inl h) (fun _ _ _ => rfl))
  rw [hlen] at this
  rw [hv] at hpv
  obtain ⟨p, rfl, hp⟩ := hpv
  by_cases hlc : lo < c
  ·rw [hp hlc]; exact this
  ·have h0 : n = 0 := by omega
   subst h0
   rw [List.take_zero]
   exact .emp _ _
mutual
theorem frz_sound {ts : List Tag} (h : Core g S tm w) (hlive : ∀ t ∈ ts, ∃ x, S.tag t = some x) : ∀ (d : D) {d' : D} {v : Value}, Rep g w d v → (∀ t ∈ d.tags, t ∈ ts) → d.frz = some d' → RepF (shareF g S ts) w d' v
 | .undef, d', v, hr, hs, hf => by simp only [D.frz, Option.some.injEq] at hf; subst hf; exact .undef _
 | .val x, d', v, hr, hs, hf => by
  simp only [D.frz, Option.some.injEq] at hf; subst hf
  have := hr.val_inv; subst this; exact .val _
 | .sl tag es, d', v, hr, hs, hf => by
  simp only [D.frz, Option.some.injEq] at hf; subst hf
  cases hr with
  | fz _ _ hr => cases hr with
   | nil => exact .nil
   | emp a c => exact .emp a c
   | sl b off sz c _ us hc hl hF hw h1 hr => exact (RepF.sl b off sz c es us hc hl hF hw h1 hr).mono (fun _ _ h => .inl h) (fun _ _ _ => rfl)
  | slT t _ ti ht hn hl hr => exact frz_row h hlive (hs t (by simp [D.tags])) ht hn hl hr
 | .ptr o off, d', v, hr, hs, hf => by simp [D.frz] at hf
 | .rp own cs off, d', v, hr, hs, hf => by
  simp only [D.frz, Option.some.injEq] at hf; subst hf
  cases hr with
  | fz _ _ hr => cases hr with
   | rp b o _ _ us hF hw hr => exact (RepF.rp b o cs off us hF hw hr).mono (fun _ _ h => .inl h) (fun _ _ _ => rfl)
  | rpT t i _ _ ti ht hi hl b n c hv hr =>
   have htt : t ∈ ts := hs t (by simp [D.tags])
   obtain ⟨x, hx⟩ := hlive t htt
   obtain ⟨ti', q1, q2⟩ := h.tag t x hx
   rw [ht] at q1; injection q1 with q1; subst q1
   have hb : ti.v.ownBlock = some b := by rw [hv]; rfl
   have hlt : ∀ j, j < cs.length → i * ti.sz + j < ti.n * ti.sz := fun j hj => by
    have : (i + 1) * ti.sz ≤ ti.n * ti.sz := Nat.mul_le_mul_right _ (by omega)
    rw [Nat.succ_mul] at this; omega
   refine .rp b (i * ti.sz) cs off (fun j => ti.xs.getD (i * ti.sz + j) undef) (fun j hj => .inr ⟨t, htt, x, ti, hx, ht, hb, hlt j hj⟩) (fun j hj => ?_) (fun j d hd => ?_)
   ·have hj' : i * ti.sz + j < ti.xs.length := by rw [q2.own.1]; exact hlt j hj
    have := q2.own.cells hb _ _ (List.getElem?_eq_getElem hj')
    rw [addr_add, Nat.zero_add] at this
    rw [this, List.getD_eq_getElem?_getD, List.getElem?_eq_getElem hj']; rfl
   ·obtain ⟨u, h1, h2⟩ := hr j d hd
    rw [List.getD_eq_getElem?_getD, h1]
    exact h2.mono (fun _ _ h => .inl h) (fun _ _ _ => rfl)
 | .part t lo n es, d', v, hr, hs, hf => by
  simp only [D.frz, Option.some.injEq] at hf; subst hf
  cases hr with
  | fz _ _ hr => cases hr
  | part _ _ _ _ ti _ hpv ht hn hlo hl hr => exact frz_part h hlive (hs t (by simp [D.tags])) ht hn hlo hpv hl hr
 | .mh o, d', v, hr, hs, hf => by simp [D.frz] at hf
 | .mpc es, d', v, hr, hs, hf => by simp [D.frz] at hf
 | .fn f first caps, d', v, hr, hs, hf => by
  simp only [D.frz] at hf
  split at hf
  ·rename_i x y hx hy
   injection hf with hf; subst hf
   obtain ⟨vs, us, rfl, c1, c2⟩ := hr.fn_inv
   obtain ⟨l1, r1⟩ := frzL_sound h hlive first hx (fun t ht => hs t (by simp [D.tags, ht]))
   obtain ⟨l2, r2⟩ := frzL_sound h hlive caps hy (fun t ht => hs t (by simp [D.tags, ht]))
   exact .fn f x y vs us (by rw [l1]; exact c1.1) (by rw [l2]; exact c2.1) (fun i e v he hv => by
    have hi : i < first.length := by rw [← l1]; exact (List.getElem?_eq_some_iff.1 he).1
    exact r1 i e v he first[i] (List.getElem?_eq_getElem hi) (c1.2 i _ v (List.getElem?_eq_getElem hi) hv)) (fun i e v he hv => by
    have hi : i < caps.length := by rw [← l2]; exact (List.getElem?_eq_some_iff.1 he).1
    exact r2 i e v he caps[i] (List.getElem?_eq_getElem hi) (c2.2 i _ v (List.getElem?_eq_getElem hi) hv))
  ·cases hf
 | .agg ds, d', v, hr, hs, hf => by
  simp only [D.frz] at hf
  split at hf
  ·rename_i x hx
   injection hf with hf; subst hf
   obtain ⟨vs, rfl, hv, hc⟩ := hr.agg_inv
   obtain ⟨l1, r1⟩ := frzL_sound h hlive ds hx (fun t ht => hs t (by simp [D.tags, ht]))
   exact .agg x vs (by rw [l1]; exact hv) (fun i e v he hv' => by
    have hi : i < ds.length := by rw [← l1]; exact (List.getElem?_eq_some_iff.1 he).1
    exact r1 i e v he ds[i] (List.getElem?_eq_getElem hi) (hc i _ v (List.getElem?_eq_getElem hi) hv'))
  ·cases hf
 | .tup ds, d', v, hr, hs, hf => by
  simp only [D.frz] at hf
  split at hf
  ·rename_i x hx
   injection hf with hf; subst hf
   obtain ⟨vs, rfl, hv, hc⟩ := hr.tup_inv
   obtain ⟨l1, r1⟩ := frzL_sound h hlive ds hx (fun t ht => hs t (by simp [D.tags, ht]))
   exact .tup x vs (by rw [l1]; exact hv) (fun i e v he hv' => by
    have hi : i < ds.length := by rw [← l1]; exact (List.getElem?_eq_some_iff.1 he).1
    exact r1 i e v he ds[i] (List.getElem?_eq_getElem hi) (hc i _ v (List.getElem?_eq_getElem hi) hv'))
  ·cases hf
theorem frzL_sound {ts : List Tag} (h : Core g S tm w) (hlive : ∀ t ∈ ts, ∃ x, S.tag t = some x) : ∀ (ds : List D) {es : List D}, frzL ds = some es → (∀ t ∈ tagsL ds, t ∈ ts) →
    es.length = ds.length ∧ ∀ (i : Nat) (e : D) (v : Value), es[i]? = some e → ∀ d, ds[i]? = some d → Rep g w d v → RepF (shareF g S ts) w e v
 | [], es, hf, hs => by
  simp only [frzL, Option.some.injEq] at hf; subst hf
  exact ⟨rfl, fun i e v he => by simp at he⟩
 | d :: ds, es, hf, hs => by
  simp only [frzL] at hf
  split at hf
  ·rename_i x xs hx hxs
   injection hf with hf; subst hf
   obtain ⟨l1, r1⟩ := frzL_sound h hlive ds hxs (fun t ht => hs t (by simp [tagsL, ht]))
   refine ⟨by simp [l1], fun i e v he d' hd hr => ?_⟩
   cases i with
   | zero =>
    simp at he hd; subst he; subst hd
    exact frz_sound h hlive d hr (fun t ht => hs t (by simp [tagsL, ht])) hx
   | succ i => exact r1 i e v (by simpa using he) d' (by simpa using hd) hr
  ·cases hf
end
end Go.Vm
