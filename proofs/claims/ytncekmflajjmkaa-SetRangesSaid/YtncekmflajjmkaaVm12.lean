/- The value machine, 12: an element of a row of the call's own is written. -/
import Derived.Test.YtncekmflajjmkaaVm11
namespace Go.Vm
open Go.RowKit
variable {P : Program} {w0 w w' : World} {W : Reg} {N : Nat} {g g' : Gh} {S : St} {a : Act} {tm : Array Value}

/-- An element's cells, if it is the one that is written. -/
def updR (b : Bool) (cs : List D) (off : Nat) (ds : List D) : List D := if b then putCells cs off ds else cs
theorem updR_length (b : Bool) (cs : List D) (off : Nat) (ds : List D) : (updR b cs off ds).length = cs.length := by
  cases b
  · rfl
  · exact putCells_length _ _ _

def D.upd (t : Tag) (i off : Nat) (ds : List D) : D → D
  | .sl (some t') es => if t' = t then .sl (some t') (es.modify i fun e => putCells e off ds) else .sl (some t') es
  | .rp (some (t', k)) cs o => if t' = t then .rp (some (t', k)) (updR (decide (k = i)) cs off ds) o else .rp (some (t', k)) cs o
  | d => d.keep (fun _ => true) (fun y => decide (y ≠ t))

def St.upd (S : St) (t : Tag) (i off : Nat) (ds : List D) : St :=
  { env := S.env.map fun x => (x.1, x.2.upd t i off ds), hp := S.hp.map fun x => (x.1, x.2.map (D.upd t i off ds)), tg := S.tg }

theorem upd_get (t : Tag) (i off : Nat) (ds : List D) (k : Nat) : (S.upd t i off ds).get k = (S.get k).map (D.upd t i off ds) := lookup_map _ _ _
theorem upd_box (t : Tag) (i off : Nat) (ds : List D) (o : Nat) : (S.upd t i off ds).box o = (S.box o).map (List.map (D.upd t i off ds)) := lookup_map _ _ _

theorem putCells_row (xs : List Value) (o : Nat) (us : List Value) (h : o + us.length ≤ xs.length) : putCells xs o us = xs.take o ++ us ++ xs.drop (o + us.length) := by
  apply List.ext_getElem?
  intro i
  rw [putCells_get _ _ _ h]
  have h1 : (xs.take o).length = o := by simp; omega
  by_cases hi1 : i < o
  · rw [if_neg (by omega), List.append_assoc, List.getElem?_append_left (by omega), List.getElem?_take, if_pos hi1]
  · rw [List.append_assoc, List.getElem?_append_right (by omega), h1]
    by_cases hi2 : i < o + us.length
    · rw [if_pos (by omega), List.getElem?_append_left (by omega)]
    · rw [if_neg (by omega), List.getElem?_append_right (by omega), List.getElem?_drop]
      congr 1; omega

theorem Core.setElem (h : Core g S tm w) {t : Tag} {ti : TI} {b n c i off : Nat} {ds : List D} {us : List Value} (ht : S.tag t = some true) (hti : g.τ t = some ti) (hv : ti.v = .slice (some ⟨b, 0, none⟩) n c)
    (hi : i < ti.n) (hoff : off + ds.length ≤ ti.sz) (hlen : us.length = ds.length) (hone : ∀ u ∈ us, u.oneCell' = true) (hr : ∀ (j : Nat) (d : D) (u : Value), ds[j]? = some d → us[j]? = some u → RepF g.F w d u) :
    ∃ cur e, w.heap[b]? = some (.cells cur e (0, 0)) ∧ i * ti.sz + off + us.length ≤ cur.size ∧
      Core { g with τ := fun t' => if t' = t then some { ti with xs := putCells ti.xs (i * ti.sz + off) us } else g.τ t' } (S.upd t i off ds) tm
        (w.setRow b (cur.toList.take (i * ti.sz + off) ++ us ++ cur.toList.drop (i * ti.sz + off + us.length)).toArray) := by
  obtain ⟨ti0, q1, q2⟩ := h.tag t true ht
  rw [hti] at q1; injection q1 with q1; subst q1
  have hb : ti.v.ownBlock = some b := by rw [hv]; rfl
  have hbound : i * ti.sz + off + us.length ≤ ti.n * ti.sz := by
    have : (i + 1) * ti.sz ≤ ti.n * ti.sz := Nat.mul_le_mul_right _ hi
    rw [Nat.succ_mul] at this; omega
  obtain ⟨cap, cur, hvc, hg, hnc, hcm, hcs, htake⟩ : ∃ cap cur, ti.v = .slice (some ⟨b, 0, none⟩) ti.n cap ∧ w.heap[b]? = some (.cells cur ti.e (0, 0)) ∧ ti.n ≤ cap ∧ cap ≤ maxLen ∧ cur.size = cap * ti.sz ∧ cur.toList.take (ti.n * ti.sz) = ti.xs := by
    rcases q2.own.2 with ⟨h1, _⟩ | ⟨gg, cap, cur, h1, _, h2, h3, h4, h5, h6⟩
    · rw [hv] at h1; cases h1
    · have : gg = b := by rw [hv] at h1; injection h1 with h1 _ _; injection h1 with h1; injection h1 with h1; exact h1.symm
      subst this
      exact ⟨cap, cur, h1, h2, h3, h4, h5, h6⟩
  have hcsz : ti.n * ti.sz ≤ cur.size := by rw [hcs]; exact Nat.mul_le_mul_right _ hnc
  have hxl : ti.xs.length = ti.n * ti.sz := q2.own.1
  refine ⟨cur, ti.e, hg, by omega, ?_⟩
  let o := i * ti.sz + off
  let new := (cur.toList.take o ++ us ++ cur.toList.drop (o + us.length)).toArray
  have hnew : (w.setRow b new).heap[b]? = some (.cells new ti.e (0, 0)) := setRow_heap w b cur new ti.e (0, 0) hg
  have hnsz : new.size = cur.size := by simp [new, o]; omega
  have hFb : ∀ k, ¬ g.F b k := fun k hF => by have := (q2.out b k hb hF).1; cases this
  let ti' : TI := { ti with xs := putCells ti.xs o us }
  let g' : Gh := { g with τ := fun t' => if t' = t then some ti' else g.τ t' }
  have hcellF : ∀ b' k', g.F b' k' → (w.setRow b new).cell? ⟨b', k', none⟩ = w.cell? ⟨b', k', none⟩ := fun b' k' hF =>
    cell_setRow_other w b new ⟨b', k', none⟩ (fun e => hFb k' (e ▸ hF))
  have hl : Later g g' w (w.setRow b new) (fun _ => true) (fun y => decide (y ≠ t)) := ⟨fun _ _ _ h => h, fun t' ht' ti2 hti2 => by
    have : t' ≠ t := by simpa using ht'
    show (if t' = t then some ti' else g.τ t') = some ti2
    rw [if_neg this]; exact hti2, fun _ _ h => h, hcellF⟩
  have rep : ∀ {d : D} {v : Value}, Rep g w d v → Rep g' (w.setRow b new) (d.upd t i off ds) v := fun {d v} hr' => by
    have other : d.upd t i off ds = d.keep (fun _ => true) (fun y => decide (y ≠ t)) → Rep g' (w.setRow b new) (d.upd t i off ds) v := fun e => by rw [e]; exact hr'.keep hl
    cases d with
    | sl tag es =>
      cases tag with
      | none => exact other rfl
      | some t' =>
        simp only [D.upd]
        split
        · rename_i he
          subst he
          cases hr' with
          | fz _ _ hr' => cases hr'
          | slT _ _ ti2 ht2 hn hl2 hr2 =>
            rw [hti] at ht2; injection ht2 with ht2; subst ht2
            refine Rep.slT (g := g') t' _ ti' (by simp [g']) (by simpa using hn) (fun q e he => ?_) (fun q e j d he hd => ?_)
            · rw [List.getElem?_modify] at he
              split at he
              · obtain ⟨e0, h1, rfl⟩ := Option.map_eq_some_iff.1 he
                rw [putCells_length]; exact hl2 q e0 h1
              · exact hl2 q e (by simpa using he)
            · have hq : q < ti.n := by rw [← hn]; have := (List.getElem?_eq_some_iff.1 he).1; simpa using this
              have hx' : ∀ k, ti'.xs[k]? = if o ≤ k ∧ k < o + us.length then us[k - o]? else ti.xs[k]? := fun k => putCells_get _ _ _ (by omega) k
              rw [List.getElem?_modify] at he
              split at he
              · rename_i hqi
                subst hqi
                obtain ⟨e0, h1, rfl⟩ := Option.map_eq_some_iff.1 he
                have hel := hl2 i e0 h1
                rw [putCells_get _ _ _ (by omega)] at hd
                show ∃ u, ti'.xs[i * ti.sz + j]? = some u ∧ _
                rw [hx']
                split at hd
                · rename_i hj
                  have hj2 : j - off < us.length := by omega
                  refine ⟨us[j - off], ?_, (hr (j - off) d _ hd (List.getElem?_eq_getElem hj2)).mono (fun _ _ h => h) hcellF⟩
                  rw [if_pos (by omega), show i * ti.sz + j - o = j - off by omega]
                  exact List.getElem?_eq_getElem hj2
                · rename_i hj
                  obtain ⟨u, h2, h3⟩ := hr2 i e0 j d h1 hd
                  refine ⟨u, ?_, h3.mono (fun _ _ h => h) hcellF⟩
                  rw [if_neg (by omega)]; exact h2
              · rename_i hqi
                have he' : es[q]? = some e := by simpa using he
                have hel := hl2 q e he'
                have hj : j < ti.sz := by rw [← hel]; exact (List.getElem?_eq_some_iff.1 hd).1
                obtain ⟨u, h2, h3⟩ := hr2 q e j d he' hd
                refine ⟨u, ?_, h3.mono (fun _ _ h => h) hcellF⟩
                show ti'.xs[q * ti.sz + j]? = some u
                rw [hx', if_neg]
                · exact h2
                · rintro ⟨h4, h5⟩
                  rcases Nat.lt_or_gt_of_ne hqi with h6 | h6
                  · have : (i + 1) * ti.sz ≤ q * ti.sz := Nat.mul_le_mul_right _ h6
                    rw [Nat.succ_mul] at this; omega
                  · have : (q + 1) * ti.sz ≤ i * ti.sz := Nat.mul_le_mul_right _ h6
                    rw [Nat.succ_mul] at this; omega
        · rename_i hne
          have : (D.sl (some t') es).keep (fun _ => true) (fun y => decide (y ≠ t)) = .sl (some t') es := by
            simp [D.keep, D.avoids, hne]
          have h2 := hr'.keep hl
          rw [this] at h2
          exact h2
    | rp own cs o' =>
      cases own with
      | none => exact other rfl
      | some x =>
        obtain ⟨t', k⟩ := x
        simp only [D.upd]
        split
        · rename_i he
          subst he
          cases hr' with
          | fz _ _ hr' => cases hr'
          | rpT _ _ _ _ ti2 ht2 hk hl2 b2 n2 c2 hv2 hr2 =>
            rw [hti] at ht2; injection ht2 with ht2; subst ht2
            refine Rep.rpT (g := g') t' k _ o' ti' (by simp [g']) hk (by rw [updR_length]; exact hl2) b2 n2 c2 hv2 (fun j d hd => ?_)
            have hx' : ∀ k, ti'.xs[k]? = if o ≤ k ∧ k < o + us.length then us[k - o]? else ti.xs[k]? := fun k => putCells_get _ _ _ (by omega) k
            have hj : j < ti.sz := by rw [← hl2, ← updR_length (decide (k = i)) cs off ds]; exact (List.getElem?_eq_some_iff.1 hd).1
            show ∃ u, ti'.xs[k * ti.sz + j]? = some u ∧ _
            by_cases hki : k = i
            · subst hki
              simp only [updR, decide_true, if_true] at hd
              rw [putCells_get _ _ _ (by omega)] at hd
              rw [hx']
              split at hd
              · rename_i hj
                have hj2 : j - off < us.length := by omega
                refine ⟨us[j - off], ?_, (hr (j - off) d _ hd (List.getElem?_eq_getElem hj2)).mono (fun _ _ h => h) hcellF⟩
                rw [if_pos (by omega), show k * ti.sz + j - o = j - off by omega]
                exact List.getElem?_eq_getElem hj2
              · rename_i hj
                obtain ⟨u, h2, h3⟩ := hr2 j d hd
                refine ⟨u, ?_, h3.mono (fun _ _ h => h) hcellF⟩
                rw [if_neg (by omega)]; exact h2
            · simp only [updR, hki, decide_false, Bool.false_eq_true, if_false] at hd
              obtain ⟨u, h2, h3⟩ := hr2 j d hd
              refine ⟨u, ?_, h3.mono (fun _ _ h => h) hcellF⟩
              rw [hx', if_neg]
              · exact h2
              · rintro ⟨h4, h5⟩
                rcases Nat.lt_or_gt_of_ne hki with h6 | h6
                · have : (k + 1) * ti.sz ≤ i * ti.sz := Nat.mul_le_mul_right _ h6
                  rw [Nat.succ_mul] at this; omega
                · have : (i + 1) * ti.sz ≤ k * ti.sz := Nat.mul_le_mul_right _ h6
                  rw [Nat.succ_mul] at this; omega
        · rename_i hne
          have : (D.rp (some (t', k)) cs o').keep (fun _ => true) (fun y => decide (y ≠ t)) = .rp (some (t', k)) cs o' := by
            simp [D.keep, D.avoids, hne]
          have h2 := hr'.keep hl
          rw [this] at h2
          exact h2
    | _ => exact other rfl
  have unb : ∀ o' c', (S.upd t i off ds).box o' = some c' → ∃ c0, S.box o' = some c0 ∧ c' = c0.map (D.upd t i off ds) := fun o' c' hb => by
    rw [upd_box] at hb
    obtain ⟨c0, h1, h2⟩ := Option.map_eq_some_iff.1 hb
    exact ⟨c0, h1, h2.symm⟩
  have own' : ti'.v.ownBlock = some b := hb
  have unτ : ∀ t' ti2, (if t' = t then some ti' else g.τ t') = some ti2 → ∃ ti3, g.τ t' = some ti3 ∧ ti3.v = ti2.v := fun t' ti2 h1 => by
    split at h1
    · rename_i he; subst he
      injection h1 with h1; subst h1
      exact ⟨ti, hti, rfl⟩
    · exact ⟨ti2, h1, rfl⟩
  refine ⟨fun k d hd => ?_, fun o' c' hb' => ?_, fun o' c' b' k j hb' hμ hj hF => ?_, fun o1 o2 c1 c2 b' k k' hb1 hb2 hμ1 hμ2 => ?_, fun t' x ht' => ?_, fun t' x ti2 o' c' b' k ht' hti2 hb' hμ => ?_, fun t1 x1 ti1 t2 x2 ti2 b' h1 h2 h3 h4 h5 h6 => ?_, fun b' k hF => by simpa using h.frz b' k hF⟩
  · rw [upd_get] at hd
    obtain ⟨d0, h1, h2⟩ := Option.map_eq_some_iff.1 hd
    subst h2
    exact rep (h.env k d0 h1)
  · obtain ⟨c0, hc0, rfl⟩ := unb o' c' hb'
    obtain ⟨b', k, vs, e, h1, h2, h3, h4⟩ := h.box o' c0 hc0
    have hne : b' ≠ b := fun e => h.tagB t true ti o' c0 b' k ht hti hc0 h1 (by rw [e]; exact hb)
    refine ⟨b', k, vs, e, h1, by rw [setRow_other w b b' _ hne]; exact h2, by simpa using h3, fun j d u hd hu => ?_⟩
    rw [List.getElem?_map] at hd
    obtain ⟨d0, h5, h6⟩ := Option.map_eq_some_iff.1 hd
    subst h6
    exact rep (h4 j d0 u h5 hu)
  · obtain ⟨c0, hc0, rfl⟩ := unb o' c' hb'
    exact h.boxF o' c0 b' k j hc0 hμ (by simpa using hj) hF
  · obtain ⟨d1, hd1, rfl⟩ := unb o1 c1 hb1
    obtain ⟨d2, hd2, rfl⟩ := unb o2 c2 hb2
    simpa using h.boxI o1 o2 d1 d2 b' k k' hd1 hd2 hμ1 hμ2
  · by_cases hne : t' = t
    · subst hne
      have hx : x = true := by
        have : S.tag t' = some x := ht'
        rw [ht] at this; injection this with this; exact this.symm
      subst hx
      refine ⟨ti', if_pos rfl, q2.ty, ⟨by simp only [ti', putCells_length]; exact hxl, .inr ⟨b, cap, new, hvc, Nat.zero_le _, hnew, hnc, hcm, by rw [hnsz, hcs], ?_⟩⟩, fun u hu => ?_, fun b' k hb' hF => ?_, fun b' k hb' hx => by cases hx⟩
      · show new.toList.take (ti.n * ti.sz) = putCells ti.xs o us
        have hnl : new.toList = putCells cur.toList o us := by rw [putCells_row _ _ _ (by simp; omega)]
        rw [hnl]
        apply List.ext_getElem?
        intro j
        rw [putCells_get _ _ _ (by omega), List.getElem?_take, putCells_get _ _ _ (by simp; omega), ← htake, List.getElem?_take]
        by_cases hj : j < ti.n * ti.sz
        · simp only [hj, if_true]
        · simp only [hj, if_false]
          rw [if_neg (by omega)]
      · have : u ∈ putCells ti.xs o us := hu
        rw [putCells_row _ _ _ (by omega)] at this
        simp only [List.mem_append] at this
        rcases this with (h1 | h1) | h1
        · exact q2.one u (List.mem_of_mem_take h1)
        · exact hone u h1
        · exact q2.one u (List.mem_of_mem_drop h1)
      · exact q2.out b' k hb' hF
    · obtain ⟨ti2, r1, r2⟩ := h.tag t' x ht'
      refine ⟨ti2, by simp [hne, r1], r2.ty, ⟨r2.own.1, ?_⟩, r2.one, r2.out, r2.inn⟩
      rcases r2.own.2 with h3 | ⟨gg, cap', cur', hv', hz, hh, r⟩
      · exact .inl h3
      · refine .inr ⟨gg, cap', cur', hv', hz, ?_, r⟩
        have : gg ≠ b := fun e => hne (h.tagI t' x ti2 t true ti gg ht' r1 ht hti (by rw [hv']; rfl) (by rw [e]; exact hb))
        rw [setRow_other w b gg _ this]; exact hh
  · obtain ⟨c0, hc0, rfl⟩ := unb o' c' hb'
    obtain ⟨ti3, h1, h2⟩ := unτ t' ti2 hti2
    rw [← h2]
    exact h.tagB t' x ti3 o' c0 b' k ht' h1 hc0 hμ
  · obtain ⟨y1, e1, e2⟩ := unτ t1 ti1 h2
    obtain ⟨y2, e3, e4⟩ := unτ t2 ti2 h4
    exact h.tagI t1 x1 y1 t2 x2 y2 b' h1 e1 h3 e3 (by rw [e2]; exact h5) (by rw [e4]; exact h6)

end Go.Vm
