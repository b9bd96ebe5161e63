/- The value machine, 12b: a row that another function made, or turned. -/
import Derived.Test.YtncekmflajjmkaaVm12
namespace Go.Vm
open Go.RowKit
variable {P : Program} {w0 w w' : World} {W : Reg} {N : Nat} {g g' : Gh} {S : St} {a : Act} {tm : Array Value}

/-- Later, when some blocks that the state does not name have turned. -/
theorem Core.laterU (U : Nat → Prop) (h : Core g S tm w) {po : Nat → Bool} {pt : Tag → Bool} (hl : Later g g' w w' po pt)
    (hUb : ∀ o cs b k, S.box o = some cs → g.μ o = some (b, k) → ¬ U b) (hUt : ∀ t x ti b, S.tag t = some x → g.τ t = some ti → ti.v.ownBlock = some b → ¬ U b)
    (hbox : ∀ o cs, S.box o = some cs → po o = true) (htag : ∀ t x, S.tag t = some x → pt t = true)
    (hheap : ∀ (b : Nat) (o : Obj), ¬ U b → w.heap[b]? = some o → w'.heap[b]? = some o) (hF : ∀ b k, g'.F b k → g.F b k ∨ w.heap.size ≤ b) (hlt : ∀ b k, g'.F b k → b < w'.heap.size) : Core g' (S.only po pt) tm w' := by
  have own_lt : ∀ t x ti b, S.tag t = some x → g.τ t = some ti → ti.v.ownBlock = some b → b < w.heap.size := fun t x ti b ht hti hb => by
    obtain ⟨ti', h1, h2⟩ := h.tag t x ht
    rw [hti] at h1; injection h1 with h1; subst h1
    exact (h2.own.lt b hb).2
  have box_lt : ∀ o cs b k, S.box o = some cs → g.μ o = some (b, k) → b < w.heap.size := fun o cs b k hb hμ => by
    obtain ⟨b', k', vs, e, h1, h2, _⟩ := h.box o cs hb
    rw [hμ] at h1; injection h1 with h1; injection h1 with h1 _; subst h1
    exact (Array.getElem?_eq_some_iff.1 h2).1
  have unbox : ∀ o cs', (S.only po pt).box o = some cs' → ∃ cs, S.box o = some cs ∧ cs' = cs.map (D.keep po pt) := fun o cs' hb => by
    rw [only_box] at hb
    obtain ⟨cs, h1, h2⟩ := Option.map_eq_some_iff.1 hb
    exact ⟨cs, h1, h2.symm⟩
  have unμ : ∀ o cs bk, S.box o = some cs → g'.μ o = some bk → g.μ o = some bk := fun o cs bk hb hμ => by
    obtain ⟨b', k', vs, e, h1, _⟩ := h.box o cs hb
    have := hl.μ o (hbox o cs hb) _ h1
    rw [hμ] at this; rw [h1, this]
  have unτ : ∀ t x ti, S.tag t = some x → g'.τ t = some ti → g.τ t = some ti := fun t x ti ht hti => by
    obtain ⟨ti', h1, h2⟩ := h.tag t x ht
    have := hl.τ t (htag t x ht) _ h1
    rw [hti] at this; rw [h1, this]
  refine ⟨fun t d hd => ?_, fun o cs' hb => ?_, fun o cs' b k i hb hμ hi => ?_, fun o o' cs cs' b k k' hb hb' hμ hμ' => ?_, fun t x ht => ?_, fun t x ti o cs' b k ht hti hb hμ => ?_, fun t x ti t' x' ti' b ht hti ht' hti' => ?_, hlt⟩
  · rw [only_get] at hd
    obtain ⟨d0, h1, h2⟩ := Option.map_eq_some_iff.1 hd
    subst h2
    exact (h.env t d0 h1).keep hl
  · obtain ⟨cs, hcs, rfl⟩ := unbox o cs' hb
    obtain ⟨b, k, vs, e, h1, h2, h3, h4⟩ := h.box o cs hcs
    refine ⟨b, k, vs, e, hl.μ o (hbox o cs hcs) _ h1, hheap b _ (hUb o cs b k hcs h1) h2, by simpa using h3, fun i d u hd hu => ?_⟩
    rw [List.getElem?_map] at hd
    obtain ⟨d0, h5, h6⟩ := Option.map_eq_some_iff.1 hd
    subst h6
    exact (h4 i d0 u h5 hu).keep hl
  · obtain ⟨cs, hcs, rfl⟩ := unbox o cs' hb
    have hμ0 := unμ o cs _ hcs hμ
    intro hFF
    rcases hF _ _ hFF with h1 | h1
    · exact h.boxF o cs b k i hcs hμ0 (by simpa using hi) h1
    · have := box_lt o cs b k hcs hμ0; omega
  · obtain ⟨c1, hc1, rfl⟩ := unbox o cs hb
    obtain ⟨c2, hc2, rfl⟩ := unbox o' cs' hb'
    have := h.boxI o o' c1 c2 b k k' hc1 hc2 (unμ _ _ _ hc1 hμ) (unμ _ _ _ hc2 hμ')
    simpa using this
  · obtain ⟨ti, h1, h2⟩ := h.tag t x ht
    refine ⟨ti, hl.τ t (htag t x ht) _ h1, h2.ty, ?_, h2.one, fun b k hb hFF => ?_, fun b k hb hx hk => hl.F _ _ (h2.inn b k hb hx hk)⟩
    · refine ⟨h2.own.1, ?_⟩
      rcases h2.own.2 with h3 | ⟨gg, cap, cur, hv, hz, hh, r⟩
      · exact .inl h3
      · exact .inr ⟨gg, cap, cur, hv, hz, hheap _ _ (hUt t x ti gg ht h1 (by rw [hv]; rfl)) hh, r⟩
    · rcases hF _ _ hFF with h3 | h3
      · exact h2.out b k hb h3
      · have := own_lt t x ti b ht h1 hb; omega
  · obtain ⟨cs, hcs, rfl⟩ := unbox o cs' hb
    exact h.tagB t x ti o cs b k ht (unτ _ _ _ ht hti) hcs (unμ _ _ _ hcs hμ)
  · exact h.tagI t x ti t' x' ti' b ht (unτ _ _ _ ht hti) ht' (unτ _ _ _ ht' hti')

/-- The block of a row that may be written. -/
def Own (g : Gh) (S : St) (t : Tag) (b : Nat) : Prop := S.tag t = some true ∧ ∃ ti, g.τ t = some ti ∧ ti.v.ownBlock = some b

theorem Core.own_apart (h : Core g S tm w) {t : Tag} {b : Nat} (ho : Own g S t b) : (∀ k, ¬ g.F b k) ∧ (∀ o cs k, S.box o = some cs → g.μ o ≠ some (b, k)) ∧ (∀ t' x ti, S.tag t' = some x → g.τ t' = some ti → ti.v.ownBlock = some b → t' = t) := by
  obtain ⟨h1, ti, h2, h3⟩ := ho
  obtain ⟨ti', q1, q2⟩ := h.tag t true h1
  rw [h2] at q1; injection q1 with q1; subst q1
  refine ⟨fun k hF => ?_, fun o cs k hb hμ => h.tagB t true ti o cs b k h1 h2 hb hμ h3, fun t' x ti2 ht hti hb => h.tagI t' x ti2 t true ti b ht hti h1 h2 hb h3⟩
  have := (q2.out b k h3 hF).1
  cases this

/-- A row that is new, or the tag's own one, made over: a tag for it. -/
theorem Core.newRowU (h : Core g S tm w) (t : Tag) (ti : TI) (F' : Reg) (hty : ti.e = t.2.1 ∧ ti.sz = t.2.2) (hheap : ∀ (b : Nat) (o : Obj), ¬ Own g S t b → w.heap[b]? = some o → w'.heap[b]? = some o) (hsize : w.heap.size ≤ w'.heap.size)
    (hown : w'.ownsRow 0 ti.e ti.sz ti.v ti.n ti.xs) (hone : ∀ u ∈ ti.xs, u.oneCell' = true) (hnew : ∀ b, ti.v.ownBlock = some b → w.heap.size ≤ b ∨ Own g S t b)
    (hFF : ∀ b k, g.F b k → F' b k) (hFn : ∀ b k, F' b k → g.F b k ∨ (w.heap.size ≤ b ∧ b < w'.heap.size ∧ ti.v.ownBlock ≠ some b)) :
    Core { g with τ := fun t' => if t' = t then some ti else g.τ t', F := F' } (S.newTag t true) tm w' := by
  have h1 := h.dropTag t
  have hcell : ∀ b k, g.F b k → w'.cell? ⟨b, k, none⟩ = w.cell? ⟨b, k, none⟩ := fun b k hF =>
    World.cell?_of_block (a := ⟨b, k, none⟩) (by rw [Array.getElem?_eq_getElem (h.frz b k hF)]; exact hheap b _ (fun ho => (h.own_apart ho).1 k hF) (Array.getElem?_eq_getElem (h.frz b k hF)))
  have hl : Later g { g with τ := fun t' => if t' = t then some ti else g.τ t', F := F' } w w' (fun _ => true) (fun y => decide (y ≠ t)) :=
    ⟨fun o _ b hb => hb, fun t' ht ti' hti => by
      have : t' ≠ t := by simpa using ht
      show (if t' = t then some ti else g.τ t') = some ti'
      rw [if_neg this]; exact hti, hFF, hcell⟩
  have h2 := h1.laterU (Own g S t) hl (fun o cs b k hb hμ ho => (h.own_apart ho).2.1 o cs k hb hμ) (fun t' x ti' b ht hti hb ho => by
    simp only [St.tag, lookup_filter] at ht
    split at ht
    · cases ht
    · rename_i hne
      exact hne ((h.own_apart ho).2.2 t' x ti' ht hti hb)) (fun _ _ _ => rfl) (fun t' x hx => by
    simp only [St.tag, lookup_filter] at hx
    split at hx
    · cases hx
    · rename_i hne; simpa using hne) hheap (fun b k hF => (hFn b k hF).imp id (·.1)) (fun b k hF => by
      rcases hFn b k hF with h3 | h3
      · have := h.frz b k h3; omega
      · exact h3.2.1)
  have tagT : ∀ t' x, (S.newTag t true).tag t' = some x → t' ≠ t → (({ S with tg := S.tg.filter fun y => decide (y.1 ≠ t) } : St).only (fun _ => true) (fun y => decide (y ≠ t))).tag t' = some x := fun t' x hx hne => by
    rw [newTag_tag, if_neg hne] at hx
    show lkp t' (S.tg.filter fun y => decide (y.1 ≠ t)) = some x
    rw [lookup_filter, if_neg hne]; exact hx
  have box_at : ∀ o cs b k, (S.newTag t true).box o = some cs → g.μ o = some (b, k) → b < w.heap.size ∧ ¬ Own g S t b := fun o cs b k hb hμ => by
    have hb' : (S.only (fun _ => true) (fun y => decide (y ≠ t))).box o = some cs := hb
    rw [only_box] at hb'
    obtain ⟨c0, hc0, _⟩ := Option.map_eq_some_iff.1 hb'
    refine ⟨?_, fun ho => (h.own_apart ho).2.1 o c0 k hc0 hμ⟩
    obtain ⟨b', k', vs, e, q1, q2, _⟩ := h.box o c0 hc0
    rw [hμ] at q1; injection q1 with q1; injection q1 with q1 _; subst q1
    exact (Array.getElem?_eq_some_iff.1 q2).1
  have own_at : ∀ t' x ti' b, (S.newTag t true).tag t' = some x → t' ≠ t → g.τ t' = some ti' → ti'.v.ownBlock = some b → b < w.heap.size ∧ ¬ Own g S t b := fun t' x ti' b hx hne hti hb => by
    rw [newTag_tag, if_neg hne] at hx
    obtain ⟨ti2, q1, q2⟩ := h.tag t' x hx
    rw [hti] at q1; injection q1 with q1; subst q1
    exact ⟨(q2.own.lt b hb).2, fun ho => hne ((h.own_apart ho).2.2 t' x ti' hx hti hb)⟩
  refine ⟨h2.env, h2.box, h2.boxF, h2.boxI, fun t' x ht => ?_, fun t' x ti' o cs b k ht hti hb hμ => ?_, fun t1 x1 ti1 t2 x2 ti2 b ht1 hti1 ht2 hti2 hb1 hb2 => ?_, h2.frz⟩
  · by_cases hne : t' = t
    · subst hne
      rw [newTag_tag, if_pos rfl] at ht
      injection ht with ht; subst ht
      refine ⟨ti, by simp, hty, hown, hone, fun b k hb hF => ?_, fun b k hb hx => by cases hx⟩
      exfalso
      rcases hFn b k hF with h3 | h3
      · rcases hnew b hb with h4 | h4
        · have := h.frz b k h3; omega
        · exact (h.own_apart h4).1 k h3
      · exact h3.2.2 hb
    · exact h2.tag t' x (tagT t' x ht hne)
  · by_cases hne : t' = t
    · subst hne
      simp only [if_pos] at hti
      injection hti with hti; subst hti
      intro hb'
      obtain ⟨e1, e2⟩ := box_at o cs b k hb hμ
      rcases hnew b hb' with h4 | h4
      · omega
      · exact e2 h4
    · exact h2.tagB t' x ti' o cs b k (tagT t' x ht hne) hti hb hμ
  · by_cases hne1 : t1 = t
    · by_cases hne2 : t2 = t
      · rw [hne1, hne2]
      · exfalso
        subst hne1
        simp only [if_pos] at hti1
        injection hti1 with hti1; subst hti1
        simp only [if_neg hne2] at hti2
        obtain ⟨e1, e2⟩ := own_at t2 x2 ti2 b ht2 hne2 hti2 hb2
        rcases hnew b hb1 with h4 | h4
        · omega
        · exact e2 h4
    · by_cases hne2 : t2 = t
      · exfalso
        subst hne2
        simp only [if_pos] at hti2
        injection hti2 with hti2; subst hti2
        simp only [if_neg hne1] at hti1
        obtain ⟨e1, e2⟩ := own_at t1 x1 ti1 b ht1 hne1 hti1 hb1
        rcases hnew b hb2 with h4 | h4
        · omega
        · exact e2 h4
      · exact h2.tagI t1 x1 ti1 t2 x2 ti2 b (tagT _ _ ht1 hne1) hti1 (tagT _ _ ht2 hne2) hti2 hb1 hb2

/-- A row made over in place: who held it holds it. -/
def D.remake (t : Tag) (es : List (List D)) : D → D
  | .sl (some t') es' => if t' = t then .sl (some t) es else .sl (some t') es'
  | d => d.keep (fun _ => true) (fun y => decide (y ≠ t))

def St.remake (S : St) (t : Tag) (es : List (List D)) : St :=
  { S.newTag t true with env := S.env.map fun x => (x.1, x.2.remake t es) }

theorem remake_get (t : Tag) (es : List (List D)) (k : Nat) : (S.remake t es).get k = (S.get k).map (D.remake t es) := lookup_map _ _ _

theorem Core.remake {t : Tag} (h : Core g' (S.newTag t true) tm w') {es : List (List D)} {ti' : TI} (hold : ∀ k es', S.get k = some (.sl (some t) es') → tm.getD k undef = ti'.v)
    (hnew : Rep g' w' (.sl (some t) es) ti'.v) : Core g' (S.remake t es) tm w' := by
  refine ⟨fun k d hd => ?_, h.box, h.boxF, h.boxI, h.tag, h.tagB, h.tagI, h.frz⟩
  rw [remake_get] at hd
  obtain ⟨d0, h1, h2⟩ := Option.map_eq_some_iff.1 hd
  have hk : (S.newTag t true).get k = some (d0.keep (fun _ => true) (fun y => decide (y ≠ t))) := by
    show (S.only (fun _ => true) (fun y => decide (y ≠ t))).get k = _
    rw [only_get, h1]; rfl
  have hr := h.env k _ hk
  subst h2
  cases d0 with
  | sl tag es' =>
    cases tag with
    | none => exact hr
    | some t' =>
      simp only [D.remake]
      split
      · rename_i he; subst he
        rw [hold k es' h1]; exact hnew
      · rename_i hne
        simpa [D.keep, D.avoids, hne] using hr
  | _ => exact hr

end Go.Vm
