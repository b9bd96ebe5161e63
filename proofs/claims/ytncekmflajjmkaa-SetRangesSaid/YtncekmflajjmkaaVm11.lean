/- The value machine, 11: data that is frozen; an element that is written. -/
import Derived.Test.YtncekmflajjmkaaVm10
namespace Go.Vm
open Go.RowKit
variable {P : Program} {w0 w w' : World} {W : Reg} {N : Nat} {g g' : Gh} {S : St} {a : Act} {tm : Array Value}

mutual
/-- The tags that a datum names. -/
def D.tags : D → List Tag
  | .sl (some t) _ => [t]
  | .rp (some (t, _)) _ _ => [t]
  | .fn _ first caps => tagsL first ++ tagsL caps
  | .agg ds => tagsL ds
  | .tup ds => tagsL ds
  | _ => []
def tagsL : List D → List Tag
  | [] => []
  | d :: ds => d.tags ++ tagsL ds
end
mutual
/-- A datum, frozen. -/
def D.frz : D → Option D
  | .undef => some .undef
  | .val v => some (.val v)
  | .sl _ es => some (.sl none es)
  | .rp _ cs off => some (.rp none cs off)
  | .ptr _ _ => none
  | .fn f first caps => match frzL first, frzL caps with
    | some x, some y => some (.fn f x y)
    | _, _ => none
  | .agg ds => match frzL ds with
    | some x => some (.agg x)
    | none => none
  | .tup ds => match frzL ds with
    | some x => some (.tup x)
    | none => none
def frzL : List D → Option (List D)
  | [] => some []
  | d :: ds => match d.frz, frzL ds with
    | some x, some xs => some (x :: xs)
    | _, _ => none
end

def St.share (S : St) (ts : List Tag) : St := { S with tg := S.tg.map fun y => (y.1, y.2 && !ts.contains y.1) }

theorem lkp_map2 {α β γ : Type} [DecidableEq α] (f : α → β → γ) (l : List (α × β)) (t : α) : lkp t (l.map fun x => (x.1, f x.1 x.2)) = (lkp t l).map (f t) := by
  induction l with
  | nil => rfl
  | cons x l ih =>
    simp only [List.map_cons, lkp, ih]
    split
    · rename_i h; subst h; rfl
    · rfl

theorem share_tag (ts : List Tag) (t : Tag) : (S.share ts).tag t = (S.tag t).map fun x => x && !ts.contains t := lkp_map2 (fun t x => x && !ts.contains t) S.tg t

def shareF (g : Gh) (S : St) (ts : List Tag) : Reg := fun b k => g.F b k ∨ ∃ t ∈ ts, ∃ x ti, S.tag t = some x ∧ g.τ t = some ti ∧ ti.v.ownBlock = some b ∧ k < ti.n * ti.sz

theorem Core.share (h : Core g S tm w) (ts : List Tag) : Core { g with F := shareF g S ts } (S.share ts) tm w := by
  have rep : ∀ {d : D} {v : Value}, Rep g w d v → Rep { g with F := shareF g S ts } w d v := fun hr => hr.mono' (fun _ _ h => h) (fun _ _ h => h) (fun _ _ h => .inl h) (fun _ _ _ => rfl)
  have untag : ∀ t x, (S.share ts).tag t = some x → ∃ x0, S.tag t = some x0 ∧ x = (x0 && !ts.contains t) := fun t x hx => by
    rw [share_tag] at hx
    obtain ⟨x0, h1, h2⟩ := Option.map_eq_some_iff.1 hx
    exact ⟨x0, h1, h2.symm⟩
  refine ⟨fun t d hd => rep (h.env t d hd), fun o c hb => ?_, fun o c b k i hb hμ hi hF => ?_, h.boxI, fun t x ht => ?_, fun t x ti o c b k ht hti hb hμ => ?_, fun t1 x1 ti1 t2 x2 ti2 b h1 h2 h3 h4 => ?_, fun b k hF => ?_⟩
  · obtain ⟨b, k, vs, e, h1, h2, h3, h4⟩ := h.box o c hb
    exact ⟨b, k, vs, e, h1, h2, h3, fun i d u hd hu => rep (h4 i d u hd hu)⟩
  · rcases hF with hF | ⟨t, _, x, ti, h1, h2, h3, _⟩
    · exact h.boxF o c b k i hb hμ hi hF
    · exact h.tagB t x ti o c b k h1 h2 hb hμ h3
  · obtain ⟨x0, h1, rfl⟩ := untag t x ht
    obtain ⟨ti, h2, h3⟩ := h.tag t x0 h1
    refine ⟨ti, h2, h3.ty, h3.own, h3.one, fun b k hb hF => ?_, fun b k hb hx hk => ?_⟩
    · rcases hF with hF | ⟨t', ht', x', ti', h4, h5, h6, h7⟩
      · obtain ⟨h8, h9⟩ := h3.out b k hb hF
        exact ⟨by simp [h8], h9⟩
      · have : t' = t := h.tagI t' x' ti' t x0 ti b h4 h5 h1 h2 h6 hb
        subst this
        rw [h2] at h5; injection h5 with h5; subst h5
        exact ⟨by simp [ht'], h7⟩
    · by_cases hc : t ∈ ts
      · exact .inr ⟨t, hc, x0, ti, h1, h2, hb, hk⟩
      · have : x0 = false := by simpa [hc] using hx
        exact .inl (h3.inn b k hb this hk)
  · obtain ⟨x0, h1, rfl⟩ := untag t x ht
    exact h.tagB t x0 ti o c b k h1 hti hb hμ
  · obtain ⟨y1, e1, _⟩ := untag t1 x1 h1
    obtain ⟨y2, e2, _⟩ := untag t2 x2 h3
    exact h.tagI t1 y1 ti1 t2 y2 ti2 b e1 h2 e2 h4
  · rcases hF with hF | ⟨t, _, x, ti, h1, h2, h3, _⟩
    · exact h.frz b k hF
    · exact h.own_lt h1 h2 h3

theorem Rep.fn_inv {f : FuncId} {first caps : List D} {u : Value} (h : Rep g w (.fn f first caps) u) : ∃ vs us, u = .func (.func f) vs us ∧ Cells g w first vs ∧ Cells g w caps us := by
  cases h with
  | fz _ _ h => cases h with
    | fn _ _ _ vs us hv hu h1 h2 => exact ⟨vs, us, rfl, ⟨hv, fun i d v hd hv => .fz _ _ (h1 i d v hd hv)⟩, ⟨hu, fun i d v hd hv => .fz _ _ (h2 i d v hd hv)⟩⟩
  | fn _ _ _ vs us hv hu h1 h2 => exact ⟨vs, us, rfl, ⟨hv, h1⟩, ⟨hu, h2⟩⟩

theorem frz_row {ts : List Tag} (h : Core g S tm w) (hlive : ∀ t ∈ ts, ∃ x, S.tag t = some x) {t : Tag} {es : List (List D)} {ti : TI} (ht : t ∈ ts) (hti : g.τ t = some ti) (hn : es.length = ti.n)
    (hl : ∀ (i : Nat) (e : List D), es[i]? = some e → e.length = ti.sz) (hr : ∀ (i : Nat) (e : List D) (j : Nat) (d : D), es[i]? = some e → e[j]? = some d → ∃ u, ti.xs[i * ti.sz + j]? = some u ∧ RepF g.F w d u) :
    RepF (shareF g S ts) w (.sl none es) ti.v := by
  obtain ⟨x, hx⟩ := hlive t ht
  obtain ⟨ti', q1, q2⟩ := h.tag t x hx
  rw [hti] at q1; injection q1 with q1; subst q1
  rcases ti.shape with ⟨hv, hz⟩ | ⟨b, c, hv⟩
  · have : es = [] := List.eq_nil_of_length_eq_zero (by omega)
    subst this
    rw [hv]; exact .nil
  · have hb : ti.v.ownBlock = some b := by rw [hv]; rfl
    have hc : ti.n ≤ c := by
      rcases q2.own.2 with ⟨h1, _⟩ | ⟨gg, cap, cur, h1, _, _, h2, _⟩
      · rw [hv] at h1; cases h1
      · rw [hv] at h1; injection h1 with _ _ h1; omega
    have hlt : ∀ i j, i < es.length → j < ti.sz → i * ti.sz + j < ti.xs.length := fun i j hi hj => by
      rw [q2.own.1]
      have : (i + 1) * ti.sz ≤ ti.n * ti.sz := Nat.mul_le_mul_right _ (by omega)
      rw [Nat.succ_mul] at this; omega
    have := RepF.sl (F := shareF g S ts) (w := w) b 0 ti.sz c es (fun i j => ti.xs.getD (i * ti.sz + j) undef) (by omega) hl
      (fun i j hi hj => .inr ⟨t, ht, x, ti, hx, hti, hb, by have := hlt i j hi hj; rw [q2.own.1] at this; omega⟩)
      (fun i j hi hj => by
        have hj' := hlt i j hi hj
        have := q2.own.cells hb _ _ (List.getElem?_eq_getElem hj')
        rw [addr_add] at this
        rw [Nat.zero_add] at this ⊢
        rw [this, List.getD_eq_getElem?_getD, List.getElem?_eq_getElem hj']; rfl)
      (fun i j hi hj => by
        have hj' := hlt i j hi hj
        rw [List.getD_eq_getElem?_getD, List.getElem?_eq_getElem hj']
        exact q2.one _ (List.getElem_mem hj'))
      (fun i e j d he hd => by
        obtain ⟨u, h1, h2⟩ := hr i e j d he hd
        rw [List.getD_eq_getElem?_getD, h1]
        exact h2.mono (fun _ _ h => .inl h) (fun _ _ _ => rfl))
    rw [hv, ← hn]; exact this

mutual
theorem frz_sound {ts : List Tag} (h : Core g S tm w) (hlive : ∀ t ∈ ts, ∃ x, S.tag t = some x) : ∀ (d : D) {d' : D} {v : Value}, Rep g w d v → (∀ t ∈ d.tags, t ∈ ts) → d.frz = some d' → RepF (shareF g S ts) w d' v
  | .undef, d', v, hr, hs, hf => by simp only [D.frz, Option.some.injEq] at hf; subst hf; exact .undef _
  | .val x, d', v, hr, hs, hf => by
    simp only [D.frz, Option.some.injEq] at hf; subst hf
    have := hr.val_inv; subst this; exact .val _
  | .sl tag es, d', v, hr, hs, hf => by
    simp only [D.frz, Option.some.injEq] at hf; subst hf
    cases hr with
    | fz _ _ hr => cases hr with
      | nil => exact .nil
      | emp a c => exact .emp a c
      | sl b off sz c _ us hc hl hF hw h1 hr => exact (RepF.sl b off sz c es us hc hl hF hw h1 hr).mono (fun _ _ h => .inl h) (fun _ _ _ => rfl)
    | slT t _ ti ht hn hl hr => exact frz_row h hlive (hs t (by simp [D.tags])) ht hn hl hr
  | .ptr o off, d', v, hr, hs, hf => by simp [D.frz] at hf
  | .rp own cs off, d', v, hr, hs, hf => by
    simp only [D.frz, Option.some.injEq] at hf; subst hf
    cases hr with
    | fz _ _ hr => cases hr with
      | rp b o _ _ us hF hw hr => exact (RepF.rp b o cs off us hF hw hr).mono (fun _ _ h => .inl h) (fun _ _ _ => rfl)
    | rpT t i _ _ ti ht hi hl b n c hv hr =>
      have htt : t ∈ ts := hs t (by simp [D.tags])
      obtain ⟨x, hx⟩ := hlive t htt
      obtain ⟨ti', q1, q2⟩ := h.tag t x hx
      rw [ht] at q1; injection q1 with q1; subst q1
      have hb : ti.v.ownBlock = some b := by rw [hv]; rfl
      have hlt : ∀ j, j < cs.length → i * ti.sz + j < ti.n * ti.sz := fun j hj => by
        have : (i + 1) * ti.sz ≤ ti.n * ti.sz := Nat.mul_le_mul_right _ (by omega)
        rw [Nat.succ_mul] at this; omega
      refine .rp b (i * ti.sz) cs off (fun j => ti.xs.getD (i * ti.sz + j) undef) (fun j hj => .inr ⟨t, htt, x, ti, hx, ht, hb, hlt j hj⟩) (fun j hj => ?_) (fun j d hd => ?_)
      · have hj' : i * ti.sz + j < ti.xs.length := by rw [q2.own.1]; exact hlt j hj
        have := q2.own.cells hb _ _ (List.getElem?_eq_getElem hj')
        rw [addr_add, Nat.zero_add] at this
        rw [this, List.getD_eq_getElem?_getD, List.getElem?_eq_getElem hj']; rfl
      · obtain ⟨u, h1, h2⟩ := hr j d hd
        rw [List.getD_eq_getElem?_getD, h1]
        exact h2.mono (fun _ _ h => .inl h) (fun _ _ _ => rfl)
  | .fn f first caps, d', v, hr, hs, hf => by
    simp only [D.frz] at hf
    split at hf
    · rename_i x y hx hy
      injection hf with hf; subst hf
      obtain ⟨vs, us, rfl, c1, c2⟩ := hr.fn_inv
      obtain ⟨l1, r1⟩ := frzL_sound h hlive first hx (fun t ht => hs t (by simp [D.tags, ht]))
      obtain ⟨l2, r2⟩ := frzL_sound h hlive caps hy (fun t ht => hs t (by simp [D.tags, ht]))
      exact .fn f x y vs us (by rw [l1]; exact c1.1) (by rw [l2]; exact c2.1) (fun i e v he hv => by
        have hi : i < first.length := by rw [← l1]; exact (List.getElem?_eq_some_iff.1 he).1
        exact r1 i e v he first[i] (List.getElem?_eq_getElem hi) (c1.2 i _ v (List.getElem?_eq_getElem hi) hv)) (fun i e v he hv => by
        have hi : i < caps.length := by rw [← l2]; exact (List.getElem?_eq_some_iff.1 he).1
        exact r2 i e v he caps[i] (List.getElem?_eq_getElem hi) (c2.2 i _ v (List.getElem?_eq_getElem hi) hv))
    · cases hf
  | .agg ds, d', v, hr, hs, hf => by
    simp only [D.frz] at hf
    split at hf
    · rename_i x hx
      injection hf with hf; subst hf
      obtain ⟨vs, rfl, hv, hc⟩ := hr.agg_inv
      obtain ⟨l1, r1⟩ := frzL_sound h hlive ds hx (fun t ht => hs t (by simp [D.tags, ht]))
      exact .agg x vs (by rw [l1]; exact hv) (fun i e v he hv' => by
        have hi : i < ds.length := by rw [← l1]; exact (List.getElem?_eq_some_iff.1 he).1
        exact r1 i e v he ds[i] (List.getElem?_eq_getElem hi) (hc i _ v (List.getElem?_eq_getElem hi) hv'))
    · cases hf
  | .tup ds, d', v, hr, hs, hf => by
    simp only [D.frz] at hf
    split at hf
    · rename_i x hx
      injection hf with hf; subst hf
      obtain ⟨vs, rfl, hv, hc⟩ := hr.tup_inv
      obtain ⟨l1, r1⟩ := frzL_sound h hlive ds hx (fun t ht => hs t (by simp [D.tags, ht]))
      exact .tup x vs (by rw [l1]; exact hv) (fun i e v he hv' => by
        have hi : i < ds.length := by rw [← l1]; exact (List.getElem?_eq_some_iff.1 he).1
        exact r1 i e v he ds[i] (List.getElem?_eq_getElem hi) (hc i _ v (List.getElem?_eq_getElem hi) hv'))
    · cases hf
theorem frzL_sound {ts : List Tag} (h : Core g S tm w) (hlive : ∀ t ∈ ts, ∃ x, S.tag t = some x) : ∀ (ds : List D) {es : List D}, frzL ds = some es → (∀ t ∈ tagsL ds, t ∈ ts) →
    es.length = ds.length ∧ ∀ (i : Nat) (e : D) (v : Value), es[i]? = some e → ∀ d, ds[i]? = some d → Rep g w d v → RepF (shareF g S ts) w e v
  | [], es, hf, hs => by
    simp only [frzL, Option.some.injEq] at hf; subst hf
    exact ⟨rfl, fun i e v he => by simp at he⟩
  | d :: ds, es, hf, hs => by
    simp only [frzL] at hf
    split at hf
    · rename_i x xs hx hxs
      injection hf with hf; subst hf
      obtain ⟨l1, r1⟩ := frzL_sound h hlive ds hxs (fun t ht => hs t (by simp [tagsL, ht]))
      refine ⟨by simp [l1], fun i e v he d' hd hr => ?_⟩
      cases i with
      | zero =>
        simp at he hd; subst he; subst hd
        exact frz_sound h hlive d hr (fun t ht => hs t (by simp [tagsL, ht])) hx
      | succ i => exact r1 i e v (by simpa using he) d' (by simpa using hd) hr
    · cases hf
end

end Go.Vm
