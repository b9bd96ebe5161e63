/- The value machine, 8: new rows and new boxes. -/
import Derived.Test.YtncekmflajjmkaaVm7
namespace Go.Vm
open Go.RowKit
variable {P : Program} {w0 w w' : World} {W : Reg} {N : Nat} {g g' : Gh} {S : St} {a : Act} {tm : Array Value}

def D.keep (po : Nat → Bool) (pt : Tag → Bool) (d : D) : D := if d.avoids po pt then d else .undef

/-- What names a box or a tag that is gone is struck. -/
def St.only (S : St) (po : Nat → Bool) (pt : Tag → Bool) : St :=
  { env := S.env.map fun x => (x.1, x.2.keep po pt), hp := S.hp.map fun x => (x.1, x.2.map (D.keep po pt)), tg := S.tg }

theorem lookup_map {α β γ : Type} [DecidableEq α] (f : β → γ) (l : List (α × β)) (t : α) : lkp t (l.map fun x => (x.1, f x.2)) = (lkp t l).map f := by
  induction l with
  | nil => rfl
  | cons x l ih =>
    simp only [List.map_cons, lkp, ih]
    split <;> rfl

theorem only_get (po : Nat → Bool) (pt : Tag → Bool) (t : Nat) : (S.only po pt).get t = (S.get t).map (D.keep po pt) := lookup_map _ _ _
theorem only_box (po : Nat → Bool) (pt : Tag → Bool) (o : Nat) : (S.only po pt).box o = (S.box o).map (List.map (D.keep po pt)) := lookup_map _ _ _
theorem only_tag (po : Nat → Bool) (pt : Tag → Bool) (t : Tag) : (S.only po pt).tag t = S.tag t := rfl

/-- What later worlds must hold to. -/
structure Later (g g' : Gh) (w w' : World) (po : Nat → Bool) (pt : Tag → Bool) : Prop where
  μ : ∀ o, po o = true → ∀ b, g.μ o = some b → g'.μ o = some b
  τ : ∀ t, pt t = true → ∀ ti, g.τ t = some ti → g'.τ t = some ti
  F : ∀ b k, g.F b k → g'.F b k
  cell : ∀ b k, g.F b k → w'.cell? ⟨b, k, none⟩ = w.cell? ⟨b, k, none⟩

theorem Rep.keep {d : D} {v : Value} {po : Nat → Bool} {pt : Tag → Bool} (h : Rep g w d v) (hl : Later g g' w w' po pt) : Rep g' w' (d.keep po pt) v := by
  unfold D.keep
  split
  · rename_i ha; exact h.mono po pt ha hl.μ hl.τ hl.F hl.cell
  · exact .fz _ _ (.undef _)

theorem getD_set (tm : Array Value) (t d : Nat) (v : Value) (hd : d < tm.size) : (tm.setIfInBounds d v).getD t undef = if t = d then v else tm.getD t undef := by
  simp only [Array.getD_eq_getD_getElem?, Array.getElem?_setIfInBounds]
  by_cases h : t = d
  · subst h; simp [hd]
  · simp [h, Ne.symm h]

theorem put_get (S : St) (d t : Nat) (x : D) : (S.put (some d) x).get t = if t = d then some x else S.get t := by
  simp only [St.put, St.get, lkp]

/-- A result is laid into its slot. -/
theorem Core.put (h : Core g S tm w) {dst : Option Nat} {d : D} {v : Value} (hd : ∀ t, dst = some t → t < tm.size) (hr : Rep g w d v) :
    Core g (S.put dst d) (match dst with | some t => tm.setIfInBounds t v | none => tm) w := by
  cases dst with
  | none => exact h
  | some t =>
    refine ⟨fun t' d' hg => ?_, h.box, h.boxF, h.boxI, h.tag, h.tagB, h.tagI, h.frz⟩
    rw [put_get] at hg
    rw [getD_set _ _ _ _ (hd t rfl)]
    split at hg
    · rename_i he; injection hg with hg; subst hg; rw [if_pos he]; exact hr
    · rename_i he; rw [if_neg he]; exact h.env t' d' hg

/-- Memory has grown, or what isn't told has turned: the same state, later. -/
theorem Core.later (h : Core g S tm w) {po : Nat → Bool} {pt : Tag → Bool} (hl : Later g g' w w' po pt)
    (hbox : ∀ o cs, S.box o = some cs → po o = true) (htag : ∀ t x, S.tag t = some x → pt t = true)
    (hheap : ∀ (b : Nat) (o : Obj), w.heap[b]? = some o → w'.heap[b]? = some o) (hF : ∀ b k, g'.F b k → g.F b k ∨ w.heap.size ≤ b) (hlt : ∀ b k, g'.F b k → b < w'.heap.size) : Core g' (S.only po pt) tm w' := by
  have hblk : ∀ b, b < w.heap.size → w'.heap[b]? = w.heap[b]? := fun b hb => by rw [Array.getElem?_eq_getElem hb]; exact hheap b _ (Array.getElem?_eq_getElem hb)
  have own_lt : ∀ t x ti b, S.tag t = some x → g.τ t = some ti → ti.v.ownBlock = some b → b < w.heap.size := fun t x ti b ht hti hb => by
    obtain ⟨ti', h1, h2⟩ := h.tag t x ht
    rw [hti] at h1; injection h1 with h1; subst h1
    exact (h2.own.lt b hb).2
  have box_lt : ∀ o cs b k, S.box o = some cs → g.μ o = some (b, k) → b < w.heap.size := fun o cs b k hb hμ => by
    obtain ⟨b', k', vs, e, h1, h2, _⟩ := h.box o cs hb
    rw [hμ] at h1; injection h1 with h1; injection h1 with h1 _; subst h1
    exact (Array.getElem?_eq_some_iff.1 h2).1
  have unbox : ∀ o cs', (S.only po pt).box o = some cs' → ∃ cs, S.box o = some cs ∧ cs' = cs.map (D.keep po pt) := fun o cs' hb => by
    rw [only_box] at hb
    obtain ⟨cs, h1, h2⟩ := Option.map_eq_some_iff.1 hb
    exact ⟨cs, h1, h2.symm⟩
  have unμ : ∀ o cs bk, S.box o = some cs → g'.μ o = some bk → g.μ o = some bk := fun o cs bk hb hμ => by
    obtain ⟨b', k', vs, e, h1, _⟩ := h.box o cs hb
    have := hl.μ o (hbox o cs hb) _ h1
    rw [hμ] at this; rw [h1, this]
  have unτ : ∀ t x ti, S.tag t = some x → g'.τ t = some ti → g.τ t = some ti := fun t x ti ht hti => by
    obtain ⟨ti', h1, h2⟩ := h.tag t x ht
    have := hl.τ t (htag t x ht) _ h1
    rw [hti] at this; rw [h1, this]
  refine ⟨fun t d hd => ?_, fun o cs' hb => ?_, fun o cs' b k i hb hμ hi => ?_, fun o o' cs cs' b k k' hb hb' hμ hμ' => ?_, fun t x ht => ?_, fun t x ti o cs' b k ht hti hb hμ => ?_, fun t x ti t' x' ti' b ht hti ht' hti' => ?_, hlt⟩
  · rw [only_get] at hd
    obtain ⟨d0, h1, h2⟩ := Option.map_eq_some_iff.1 hd
    subst h2
    exact (h.env t d0 h1).keep hl
  · obtain ⟨cs, hcs, rfl⟩ := unbox o cs' hb
    obtain ⟨b, k, vs, e, h1, h2, h3, h4⟩ := h.box o cs hcs
    refine ⟨b, k, vs, e, hl.μ o (hbox o cs hcs) _ h1, hheap b _ h2, by simpa using h3, fun i d u hd hu => ?_⟩
    rw [List.getElem?_map] at hd
    obtain ⟨d0, h5, h6⟩ := Option.map_eq_some_iff.1 hd
    subst h6
    exact (h4 i d0 u h5 hu).keep hl
  · obtain ⟨cs, hcs, rfl⟩ := unbox o cs' hb
    have hμ0 := unμ o cs _ hcs hμ
    intro hFF
    rcases hF _ _ hFF with h1 | h1
    · exact h.boxF o cs b k i hcs hμ0 (by simpa using hi) h1
    · have := box_lt o cs b k hcs hμ0; omega
  · obtain ⟨c1, hc1, rfl⟩ := unbox o cs hb
    obtain ⟨c2, hc2, rfl⟩ := unbox o' cs' hb'
    have := h.boxI o o' c1 c2 b k k' hc1 hc2 (unμ _ _ _ hc1 hμ) (unμ _ _ _ hc2 hμ')
    simpa using this
  · obtain ⟨ti, h1, h2⟩ := h.tag t x ht
    refine ⟨ti, hl.τ t (htag t x ht) _ h1, h2.ty, ?_, h2.one, fun b k hb hFF => ?_, fun b k hb hx hk => hl.F _ _ (h2.inn b k hb hx hk)⟩
    · refine ⟨h2.own.1, ?_⟩
      rcases h2.own.2 with h3 | ⟨gg, cap, cur, hv, hz, hh, r⟩
      · exact .inl h3
      · exact .inr ⟨gg, cap, cur, hv, hz, hheap _ _ hh, r⟩
    · rcases hF _ _ hFF with h3 | h3
      · exact h2.out b k hb h3
      · have := own_lt t x ti b ht h1 hb; omega
  · obtain ⟨cs, hcs, rfl⟩ := unbox o cs' hb
    exact h.tagB t x ti o cs b k ht (unτ _ _ _ ht hti) hcs (unμ _ _ _ hcs hμ)
  · exact h.tagI t x ti t' x' ti' b ht (unτ _ _ _ ht hti) ht' (unτ _ _ _ ht' hti')

/-- A tag is laid anew. -/
def St.newTag (S : St) (t : Tag) (x : Bool) : St := { S.only (fun _ => true) (fun y => decide (y ≠ t)) with tg := (t, x) :: S.tg.filter fun y => decide (y.1 ≠ t) }
/-- A box is laid anew. -/
def St.newBox (S : St) (o : Nat) (cs : List D) : St :=
  let S' := S.only (fun y => decide (y ≠ o)) (fun _ => true)
  { S' with hp := (o, cs) :: S'.hp.filter fun y => decide (y.1 ≠ o) }

theorem lookup_filter {α β : Type} [DecidableEq α] (l : List (α × β)) (t t' : α) : lkp t' (l.filter fun y => decide (y.1 ≠ t)) = if t' = t then none else lkp t' l := by
  induction l with
  | nil => simp [lkp]
  | cons x l ih =>
    obtain ⟨k, v⟩ := x
    simp only [List.filter_cons, lkp]
    by_cases h : k = t
    · subst h
      simp only [ne_eq, not_true_eq_false, decide_false, Bool.false_eq_true, if_false, ih]
      by_cases h2 : t' = k <;> simp [h2]
    · simp only [ne_eq, h, not_false_eq_true, decide_true, if_true, lkp, ih]
      by_cases h2 : t' = k
      · subst h2; simp [h]
      · simp [h2]

theorem newTag_tag (t t' : Tag) (x : Bool) : (S.newTag t x).tag t' = if t' = t then some x else S.tag t' := by
  simp only [St.newTag, St.tag, lkp, lookup_filter]
  by_cases h : t' = t <;> simp [h]

theorem newBox_box (o o' : Nat) (cs : List D) : (S.newBox o cs).box o' = if o' = o then some cs else (S.box o').map (List.map (D.keep (fun y => decide (y ≠ o)) fun _ => true)) := by
  simp only [St.newBox, St.box, lkp, lookup_filter]
  by_cases h : o' = o
  · simp [h]
  · simp only [h, if_false]
    exact lookup_map _ _ _

/-- The state without a tag: all else as it was. -/
theorem Core.dropTag (h : Core g S tm w) (t : Tag) : Core g { S with tg := S.tg.filter fun y => decide (y.1 ≠ t) } tm w := by
  have sub : ∀ t' x, ({ S with tg := S.tg.filter fun y => decide (y.1 ≠ t) } : St).tag t' = some x → S.tag t' = some x := fun t' x hx => by
    simp only [St.tag, lookup_filter] at hx
    split at hx
    · cases hx
    · exact hx
  exact ⟨h.env, h.box, h.boxF, h.boxI, fun t' x hx => h.tag t' x (sub t' x hx), fun t' x ti o cs b k ht => h.tagB t' x ti o cs b k (sub t' x ht),
    fun t1 x ti t2 x' ti' b h1 h2 h3 => h.tagI t1 x ti t2 x' ti' b (sub _ _ h1) h2 (sub _ _ h3), h.frz⟩

theorem Core.dropBox (h : Core g S tm w) (o : Nat) : Core g { S with hp := S.hp.filter fun y => decide (y.1 ≠ o) } tm w := by
  have sub : ∀ o' cs, ({ S with hp := S.hp.filter fun y => decide (y.1 ≠ o) } : St).box o' = some cs → S.box o' = some cs := fun o' cs hx => by
    simp only [St.box, lookup_filter] at hx
    split at hx
    · cases hx
    · exact hx
  exact ⟨h.env, fun o' cs hb => h.box o' cs (sub _ _ hb), fun o' cs b k i hb => h.boxF o' cs b k i (sub _ _ hb), fun o1 o2 c1 c2 b k k' h1 h2 => h.boxI o1 o2 c1 c2 b k k' (sub _ _ h1) (sub _ _ h2),
    h.tag, fun t x ti o' cs b k ht hti hb => h.tagB t x ti o' cs b k ht hti (sub _ _ hb), h.tagI, h.frz⟩

/-- A new row: a tag for it. -/
theorem Core.newRow (h : Core g S tm w) (t : Tag) (ti : TI) (hty : ti.e = t.2.1 ∧ ti.sz = t.2.2) (hheap : ∀ (b : Nat) (o : Obj), w.heap[b]? = some o → w'.heap[b]? = some o) (hsize : w.heap.size ≤ w'.heap.size)
    (hown : w'.ownsRow 0 ti.e ti.sz ti.v ti.n ti.xs) (hone : ∀ u ∈ ti.xs, u.oneCell' = true) (hnew : ∀ b, ti.v.ownBlock = some b → w.heap.size ≤ b) :
    Core { g with τ := fun t' => if t' = t then some ti else g.τ t' } (S.newTag t true) tm w' := by
  have h1 := h.dropTag t
  have hcell : ∀ b k, b < w.heap.size → w'.cell? ⟨b, k, none⟩ = w.cell? ⟨b, k, none⟩ := fun b k hb =>
    World.cell?_of_block (a := ⟨b, k, none⟩) (by rw [Array.getElem?_eq_getElem hb]; exact hheap b _ (Array.getElem?_eq_getElem hb))
  have hl : Later g { g with τ := fun t' => if t' = t then some ti else g.τ t' } w w' (fun _ => true) (fun y => decide (y ≠ t)) :=
    ⟨fun o _ b hb => hb, fun t' ht ti' hti => by
      have : t' ≠ t := by simpa using ht
      show (if t' = t then some ti else g.τ t') = some ti'
      rw [if_neg this]; exact hti, fun _ _ h => h, fun b k hF => hcell b k (h.frz b k hF)⟩
  have h2 := h1.later hl (fun _ _ _ => rfl) (fun t' x hx => by
    simp only [St.tag, lookup_filter] at hx
    split at hx
    · cases hx
    · rename_i hne; simpa using hne) hheap (fun b k hF => .inl hF) (fun b k hF => by have := h.frz b k hF; omega)
  have tagT : ∀ t' x, (S.newTag t true).tag t' = some x → t' ≠ t → (({ S with tg := S.tg.filter fun y => decide (y.1 ≠ t) } : St).only (fun _ => true) (fun y => decide (y ≠ t))).tag t' = some x := fun t' x hx hne => by
    rw [newTag_tag, if_neg hne] at hx
    show lkp t' (S.tg.filter fun y => decide (y.1 ≠ t)) = some x
    rw [lookup_filter, if_neg hne]; exact hx
  have box_lt : ∀ o cs b k, (S.newTag t true).box o = some cs → g.μ o = some (b, k) → b < w.heap.size := fun o cs b k hb hμ => by
    have hb' : (S.only (fun _ => true) (fun y => decide (y ≠ t))).box o = some cs := hb
    rw [only_box] at hb'
    obtain ⟨c0, hc0, _⟩ := Option.map_eq_some_iff.1 hb'
    obtain ⟨b', k', vs, e, q1, q2, _⟩ := h.box o c0 hc0
    rw [hμ] at q1; injection q1 with q1; injection q1 with q1 _; subst q1
    exact (Array.getElem?_eq_some_iff.1 q2).1
  have own_lt : ∀ t' x ti' b, (S.newTag t true).tag t' = some x → t' ≠ t → g.τ t' = some ti' → ti'.v.ownBlock = some b → b < w.heap.size := fun t' x ti' b hx hne hti hb => by
    rw [newTag_tag, if_neg hne] at hx
    obtain ⟨ti2, q1, q2⟩ := h.tag t' x hx
    rw [hti] at q1; injection q1 with q1; subst q1
    exact (q2.own.lt b hb).2
  refine ⟨h2.env, h2.box, h2.boxF, h2.boxI, fun t' x ht => ?_, fun t' x ti' o cs b k ht hti hb hμ => ?_, fun t1 x1 ti1 t2 x2 ti2 b ht1 hti1 ht2 hti2 hb1 hb2 => ?_, h2.frz⟩
  · by_cases hne : t' = t
    · subst hne
      rw [newTag_tag, if_pos rfl] at ht
      injection ht with ht; subst ht
      refine ⟨ti, by simp, hty, hown, hone, fun b k hb hF => ?_, fun b k hb hx => by cases hx⟩
      have := hnew b hb
      have := h.frz b k hF
      omega
    · exact h2.tag t' x (tagT t' x ht hne)
  · by_cases hne : t' = t
    · subst hne
      simp only [if_pos] at hti
      injection hti with hti; subst hti
      intro hb'
      have := hnew b hb'
      have := box_lt o cs b k hb hμ
      omega
    · exact h2.tagB t' x ti' o cs b k (tagT t' x ht hne) hti hb hμ
  · by_cases hne1 : t1 = t
    · by_cases hne2 : t2 = t
      · rw [hne1, hne2]
      · exfalso
        subst hne1
        simp only [if_pos] at hti1
        injection hti1 with hti1; subst hti1
        simp only [if_neg hne2] at hti2
        have := hnew b hb1
        have := own_lt t2 x2 ti2 b ht2 hne2 hti2 hb2
        omega
    · by_cases hne2 : t2 = t
      · exfalso
        subst hne2
        simp only [if_pos] at hti2
        injection hti2 with hti2; subst hti2
        simp only [if_neg hne1] at hti1
        have := hnew b hb2
        have := own_lt t1 x1 ti1 b ht1 hne1 hti1 hb1
        omega
      · exact h2.tagI t1 x1 ti1 t2 x2 ti2 b (tagT _ _ ht1 hne1) hti1 (tagT _ _ ht2 hne2) hti2 hb1 hb2

end Go.Vm
