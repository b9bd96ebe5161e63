/- A part of the proof; what is proved stands in the last text. -/
import Derived.Test.YtaoppmjidjdgdaaGreatVC
set_option linter.unusedVariables false
set_option maxRecDepth 2000
namespace Go.Vm
open Go.RowKit
variable {P : Program} {w0 w w' : World} {W : Reg} {N : Nat} {g g' : Gh} {S : St} {a : Act} {tm : Array Value}
def updR (b : Bool) (cs : List D) (off : Nat) (ds : List D) : List D := if b then putCells cs off ds else cs
theorem updR_length (b : Bool) (cs : List D) (off : Nat) (ds : List D) : (updR b cs off ds).length = cs.length := by
 cases b
 ·rfl
 ·exact putCells_length _ _ _
def D.upd (t : Tag) (i off : Nat) (ds : List D) : D → D
 | .sl (some t') es => if t' = t then .sl (some t') (es.modify i fun e => putCells e off ds) else .sl (some t') es
 | .part t' lo n es => if t' = t then .part t' lo n (es.modify i fun e => putCells e off ds) else .part t' lo n es
 | .rp (some (t', k)) cs o => if t' = t then .rp (some (t', k)) (updR (decide (k = i)) cs off ds) o else .rp (some (t', k)) cs o
 | d => d.keep (fun _ => true) (fun y => decide (y ≠ t))
def St.upd (S : St) (t : Tag) (i off : Nat) (ds : List D) : St :=
 { env := S.env.map fun x => (x.1, x.2.upd t i off ds), hp := S.hp.map fun x => (x.1, x.2.map (D.upd t i off ds)), tg := S.tg }
theorem upd_get (t : Tag) (i off : Nat) (ds : List D) (k : Nat) : (S.upd t i off ds).get k = (S.get k).map (D.upd t i off ds) := lookup_map _ _ _
theorem upd_box (t : Tag) (i off : Nat) (ds : List D) (o : Nat) : (S.upd t i off ds).box o = (S.box o).map (List.map (D.upd t i off ds)) := lookup_map _ _ _
theorem putCells_row (xs : List Value) (o : Nat) (us : List Value) (h : o + us.length ≤ xs.length) : putCells xs o us = xs.take o ++ us ++ xs.drop (o + us.length) := by
 apply List.ext_getElem?
 intro i
 rw [putCells_get _ _ _ h]
 have h1 : (xs.take o).length = o := by simp; omega
 by_cases hi1 : i < o
 ·rw [if_neg (by omega), List.append_assoc, List.getElem?_append_left (by omega), List.getElem?_take, if_pos hi1]
 ·rw [List.append_assoc, List.getElem?_append_right (by omega), h1]
  by_cases hi2 : i < o + us.length
  ·rw [if_pos (by omega), List.getElem?_append_left (by omega)]
  ·rw [if_neg (by omega), List.getElem?_append_right (by omega), List.getElem?_drop]
   congr 1; omega
theorem Core.setElem (h : Core g S tm w) {t : Tag} {ti : TI} {b n c i off : Nat} {ds : List D} {us : List Value} (ht : S.tag t = some true) (hti : g.τ t = some ti) (hv : ti.v = .slice (some ⟨b, 0, none⟩) n c)
    (hi : i < ti.n) (hoff : off + ds.length ≤ ti.sz) (hlen : us.length = ds.length) (hone : ∀ u ∈ us, u.oneCell' = true) (hr : ∀ (j : Nat) (d : D) (u : Value), ds[j]? = some d → us[j]? = some u → RepF g.F w d u) :
    ∃ cur e, w.heap[b]? = some (.cells cur e (0, 0)) ∧ i * ti.sz + off + us.length ≤ cur.size ∧
     Core { g with τ := fun t' => if t' = t then some { ti with xs := putCells ti.xs (i * ti.sz + off) us } else g.τ t' } (S.upd t i off ds) tm
      (w.setRow b (cur.toList.take (i * ti.sz + off) ++ us ++ cur.toList.drop (i * ti.sz + off + us.length)).toArray) := by
 obtain ⟨ti0, q1, q2⟩ := h.tag t true ht
 rw [hti] at q1; injection q1 with q1; subst q1
 have hb : ti.v.ownBlock = some b := by rw [hv]; rfl
 have hbound : i * ti.sz + off + us.length ≤ ti.n * ti.sz := by
  have : (i + 1) * ti.sz ≤ ti.n * ti.sz := Nat.mul_le_mul_right _ hi
  rw [Nat.succ_mul] at this; omega
 obtain ⟨cap, cur, hvc, hg, hnc, hcm, hcs, htake⟩ : ∃ cap cur, ti.v = .slice (some ⟨b, 0, none⟩) ti.n cap ∧ w.heap[b]? = some (.cells cur ti.e (0, 0)) ∧ ti.n ≤ cap ∧ cap ≤ maxLen ∧ cur.size = cap * ti.sz ∧ cur.toList.take (ti.n * ti.sz) = ti.xs := by
  rcases q2.own.2 with ⟨h1, _⟩ | ⟨gg, cap, cur, h1, _, h2, h3, h4, h5, h6⟩
  ·rw [hv] at h1; cases h1
  ·have : gg = b := by rw [hv] at h1; injection h1 with h1 _ _; injection h1 with h1; injection h1 with h1; exact h1.symm
   subst this
   exact ⟨cap, cur, h1, h2, h3, h4, h5, h6⟩
 have hcsz : ti.n * ti.sz ≤ cur.size := by rw [hcs]; exact Nat.mul_le_mul_right _ hnc
 have hxl : ti.xs.length = ti.n * ti.sz := q2.own.1
 refine ⟨cur, ti.e, hg, by omega, ?_⟩
 let o := i * ti.sz + off
 let new := (cur.toList.take o ++ us ++ cur.toList.drop (o + us.length)).toArray
 have hnew : (w.setRow b new).heap[b]? = some (.cells new ti.e (0, 0)) := setRow_heap w b cur new ti.e (0, 0) hg
 have hnsz : new.size = cur.size := by simp [new, o]; omega
 have hFb : ∀ k, ¬ g.F b k := fun k hF => by have := (q2.out b k hb hF).1; cases this
 let ti' : TI := { ti with xs := putCells ti.xs o us }
 let g' : Gh := { g with τ := fun t' => if t' = t then some ti' else g.τ t' }
 have hcellF : ∀ b' k', g.F b' k' → (w.setRow b new).cell? ⟨b', k', none⟩ = w.cell? ⟨b', k', none⟩ := fun b' k' hF =>
  cell_setRow_other w b new ⟨b', k', none⟩ (fun e => hFb k' (e ▸ hF))
 have hl : Later g g' w (w.setRow b new) (fun _ => true) (fun y => decide (y ≠ t)) := ⟨fun _ _ _ h => h, fun t' ht' ti2 hti2 => by
  have : t' ≠ t := by simpa using ht'
  show (if t' = t then some ti' else g.τ t') = some ti2
  rw [if_neg this]; exact hti2, fun _ _ h => h, hcellF⟩
 have rep0 : ∀ {d : D} {v : Value}, (∀ t lo n es, d ≠ .part t lo n es) → Rep g w d v → Rep g' (w.setRow b new) (d.upd t i off ds) v := fun {d v} hpn hr' => by
  have other : d.upd t i off ds = d.keep (fun _ => true) (fun y => decide (y ≠ t)) → Rep g' (w.setRow b new) (d.upd t i off ds) v := fun e => by rw [e]; exact hr'.keep hl
  cases d with
  | sl tag es =>
   cases tag with
   | none => exact other rfl
   | some t' =>
    simp only [D.upd]
    split
    ·rename_i he
     subst he
     cases hr' with
     | fz _ _ hr' => cases hr'
     | slT _ _ ti2 ht2 hn hl2 hr2 =>
      rw [hti] at ht2; injection ht2 with ht2; subst ht2
      refine Rep.slT (g := g') t' _ ti' (by simp [g']) (by simpa using hn) (fun q e he => ?_) (fun q e j d he hd => ?_)
      ·rw [List.getElem?_modify] at he
       split at he
       ·obtain ⟨e0, h1, rfl⟩ := Option.map_eq_some_iff.1 he
        rw [putCells_length]; exact hl2 q e0 h1
       ·exact hl2 q e (by simpa using he)
      ·have hq : q < ti.n := by rw [← hn]; have := (List.getElem?_eq_some_iff.1 he).1; simpa using this
       have hx' : ∀ k, ti'.xs[k]? = if o ≤ k ∧ k < o + us.length then us[k - o]? else ti.xs[k]? := fun k => putCells_get _ _ _ (by omega) k
       rw [List.getElem?_modify] at he
       split at he
       ·rename_i hqi
        subst hqi
        obtain ⟨e0, h1, rfl⟩ := Option.map_eq_some_iff.1 he
        have hel := hl2 i e0 h1
        rw [putCells_get _ _ _ (by omega)] at hd
        show ∃ u, ti'.xs[i * ti.sz + j]? = some u ∧ _
        rw [hx']
        split at hd
        ·rename_i hj
         have hj2 : j - off < us.length := by omega
         refine ⟨us[j - off], ?_, (hr (j - off) d _ hd (List.getElem?_eq_getElem hj2)).mono (fun _ _ h => h) hcellF⟩
         rw [if_pos (by omega), show i * ti.sz + j - o = j - off by omega]
         exact List.getElem?_eq_getElem hj2
        ·rename_i hj
         obtain ⟨u, h2, h3⟩ := hr2 i e0 j d h1 hd
         refine ⟨u, ?_, h3.mono (fun _ _ h => h) hcellF⟩
         rw [if_neg (by omega)]; exact h2
       ·rename_i hqi
        have he' : es[q]? = some e := by simpa using he
        have hel := hl2 q e he'
        have hj : j < ti.sz := by rw [← hel]; exact (List.getElem?_eq_some_iff.1 hd).1
        obtain ⟨u, h2, h3⟩ := hr2 q e j d he' hd
        refine ⟨u, ?_, h3.mono (fun _ _ h => h) hcellF⟩
        show ti'.xs[q * ti.sz + j]? = some u
        rw [hx', if_neg]
        ·exact h2
        ·rintro ⟨h4, h5⟩
         rcases Nat.lt_or_gt_of_ne hqi with h6 | h6
         ·have : (i + 1) * ti.sz ≤ q * ti.sz := Nat.mul_le_mul_right _ h6
          rw [Nat.succ_mul] at this; omega
         ·have : (q + 1) * ti.sz ≤ i * ti.sz := Nat.mul_le_mul_right _ h6
          rw [Nat.succ_mul] at this; omega
    ·rename_i hne
     have : (D.sl (some t') es).keep (fun _ => true) (fun y => decide (y ≠ t)) = .sl (some t') es := by
      simp [D.keep, D.avoids, hne]
     have h2 := hr'.keep hl
     rw [this] at h2
     exact h2
  | rp own cs o' =>
   cases own with
   | none => exact other rfl
   | some x =>
    obtain ⟨t', k⟩ := x
    simp only [D.upd]
    split
    ·rename_i he
     subst he
     cases hr' with
     | fz _ _ hr' => cases hr'
     | rpT _ _ _ _ ti2 ht2 hk hl2 b2 n2 c2 hv2 hr2 =>
      rw [hti] at ht2; injection ht2 with ht2; subst ht2
      refine Rep.rpT (g := g') t' k _ o' ti' (by simp [g']) hk (by rw [updR_length]; exact hl2) b2 n2 c2 hv2 (fun j d hd => ?_)
      have hx' : ∀ k, ti'.xs[k]? = if o ≤ k ∧ k < o + us.length then us[k - o]? else ti.xs[k]? := fun k => putCells_get _ _ _ (by omega) k
      have hj : j < ti.sz := by rw [← hl2, ← updR_length (decide (k = i)) cs off ds]; exact (List.getElem?_eq_some_iff.1 hd).1
      show ∃ u, ti'.xs[k * ti.sz + j]? = some u ∧ _
      by_cases hki : k = i
      ·subst hki
       simp only [updR, decide_true, if_true] at hd
       rw [putCells_get _ _ _ (by omega)] at hd
       rw [hx']
       split at hd
       ·rename_i hj
        have hj2 : j - off < us.length := by omega
        refine ⟨us[j - off], ?_, (hr (j - off) d _ hd (List.getElem?_eq_getElem hj2)).mono (fun _ _ h => h) hcellF⟩
        rw [if_pos (by omega), show k * ti.sz + j - o = j - off by omega]
        exact List.getElem?_eq_getElem hj2
       ·rename_i hj
        obtain ⟨u, h2, h3⟩ := hr2 j d hd
        refine ⟨u, ?_, h3.mono (fun _ _ h => h) hcellF⟩
        rw [if_neg (by omega)]; exact h2
      ·simp only [updR, hki, decide_false, Bool.false_eq_true, if_false] at hd
       obtain ⟨u, h2, h3⟩ := hr2 j d hd
       refine ⟨u, ?_, h3.mono (fun _ _ h => h) hcellF⟩
       rw [hx', if_neg]
       ·exact h2
       ·rintro ⟨h4, h5⟩
        rcases Nat.lt_or_gt_of_ne hki with h6 | h6
        ·have : (k + 1) * ti.sz ≤ i * ti.sz := Nat.mul_le_mul_right _ h6
         rw [Nat.succ_mul] at this; omega
        ·have : (i + 1) * ti.sz ≤ k * ti.sz := Nat.mul_le_mul_right _ h6
         rw [Nat.succ_mul] at this; omega
    ·rename_i hne
     have : (D.rp (some (t', k)) cs o').keep (fun _ => true) (fun y => decide (y ≠ t)) = .rp (some (t', k)) cs o' := by
      simp [D.keep, D.avoids, hne]
     have h2 := hr'.keep hl
     rw [this] at h2
     exact h2
  | part t' lo n es => exact absurd rfl (hpn t' lo n es)
  | _ => exact other rfl
 have rep : ∀ {d : D} {v : Value}, Rep g w d v → Rep g' (w.setRow b new) (d.upd t i off ds) v := fun {d v} hr' => by
  by_cases hp : ∃ t lo n es, d = .part t lo n es
  ·obtain ⟨t', lo, n, es, rfl⟩ := hp
   simp only [D.upd]
   split
   ·rename_i he; subst he
    cases hr' with
    | fz _ _ hr' => cases hr'
    | part _ _ _ _ ti2 _ hpv ht2 hn hlo hl2 hr2 =>
     rw [hti] at ht2; injection ht2 with ht2; subst ht2
     have h3 := rep0 (fun _ _ _ _ h => by cases h) (Rep.slT t' es ti hti hn hl2 hr2)
     simp only [D.upd, if_true] at h3
     generalize hvv : ti.v = vv at h3
     cases h3 with
     | fz _ _ h3 => cases h3
     | slT _ _ ti3 ht3 hn3 hl3 hr3 =>
      have : ti3 = ti' := by
       have : (if t' = t' then some ti' else g.τ t') = some ti3 := ht3
       rw [if_pos rfl] at this; injection this with this; exact this.symm
      subst this
      exact Rep.part (g := g') t' lo n _ ti' _ hpv (by simp [g']) hn3 hlo hl3 hr3
   ·rename_i hne
    have : (D.part t' lo n es).keep (fun _ => true) (fun y => decide (y ≠ t)) = .part t' lo n es := by
     simp [D.keep, D.avoids, hne]
    have h2 := hr'.keep hl
    rw [this] at h2
    exact h2
  ·exact rep0 (fun t lo n es h => hp ⟨t, lo, n, es, h⟩) hr'
 have unb : ∀ o' c', (S.upd t i off ds).box o' = some c' → ∃ c0, S.box o' = some c0 ∧ c' = c0.map (D.upd t i off ds) := fun o' c' hb => by
  rw [upd_box] at hb
  obtain ⟨c0, h1, h2⟩ := Option.map_eq_some_iff.1 hb
  exact ⟨c0, h1, h2.symm⟩
 have own' : ti'.v.ownBlock = some b := hb
 have unτ : ∀ t' ti2, (if t' = t then some ti' else g.τ t') = some ti2 → ∃ ti3, g.τ t' = some ti3 ∧ ti3.v = ti2.v := fun t' ti2 h1 => by
  split at h1
  ·rename_i he; subst he
   injection h1 with h1; subst h1
   exact ⟨ti, hti, rfl⟩
  ·exact ⟨ti2, h1, rfl⟩
 refine ⟨fun k d hd => ?_, fun o' c' hb' => ?_, fun o' c' b' k j hb' hμ hj hF => ?_, fun o1 o2 c1 c2 b' k k' hb1 hb2 hμ1 hμ2 => ?_, fun t' x ht' => ?_, fun t' x ti2 o' c' b' k ht' hti2 hb' hμ => ?_, fun t1 x1 ti1 t2 x2 ti2 b' h1 h2 h3 h4 h5 h6 => ?_, fun b' k hF => by simpa using h.frz.1 b' k hF, h.frz.2.mono (fun _ _ h => h) hcellF⟩
 ·rw [upd_get] at hd
  obtain ⟨d0, h1, h2⟩ := Option.map_eq_some_iff.1 hd
  subst h2
  exact rep (h.env k d0 h1)
 ·obtain ⟨c0, hc0, rfl⟩ := unb o' c' hb'
  obtain ⟨b', k, vs, e, h1, h2, h3, h4⟩ := h.box o' c0 hc0
  have hne : b' ≠ b := fun e => h.tagB t true ti o' c0 b' k ht hti hc0 h1 (by rw [e]; exact hb)
  refine ⟨b', k, vs, e, h1, h2.keep (fun ob hob => by rw [setRow_other w b b' _ hne]; exact hob), by simpa using h3, fun j d u hd hu => ?_⟩
  rw [List.getElem?_map] at hd
  obtain ⟨d0, h5, h6⟩ := Option.map_eq_some_iff.1 hd
  subst h6
  exact rep (h4 j d0 u h5 hu)
 ·obtain ⟨c0, hc0, rfl⟩ := unb o' c' hb'
  exact h.boxF o' c0 b' k j hc0 hμ (by simpa using hj) hF
 ·obtain ⟨d1, hd1, rfl⟩ := unb o1 c1 hb1
  obtain ⟨d2, hd2, rfl⟩ := unb o2 c2 hb2
  simpa using h.boxI o1 o2 d1 d2 b' k k' hd1 hd2 hμ1 hμ2
 ·by_cases hne : t' = t
  ·subst hne
   have hx : x = true := by
    have : S.tag t' = some x := ht'
    rw [ht] at this; injection this with this; exact this.symm
   subst hx
   refine ⟨ti', if_pos rfl, q2.ty, ⟨by simp only [ti', putCells_length]; exact hxl, .inr ⟨b, cap, new, hvc, Nat.zero_le _, hnew, hnc, hcm, by rw [hnsz, hcs], ?_⟩⟩, fun u hu => ?_, fun b' k hb' hF => ?_, fun b' k hb' hx => by cases hx⟩
   ·show new.toList.take (ti.n * ti.sz) = putCells ti.xs o us
    have hnl : new.toList = putCells cur.toList o us := by rw [putCells_row _ _ _ (by simp; omega)]
    rw [hnl]
    apply List.ext_getElem?
    intro j
    rw [putCells_get _ _ _ (by omega), List.getElem?_take, putCells_get _ _ _ (by simp; omega), ← htake, List.getElem?_take]
    by_cases hj : j < ti.n * ti.sz
    ·simp only [hj, if_true]
    ·simp only [hj, if_false]
     rw [if_neg (by omega)]
   ·have : u ∈ putCells ti.xs o us := hu
    rw [putCells_row _ _ _ (by omega)] at this
    simp only [List.mem_append] at this
    rcases this with (h1 | h1) | h1
    ·exact q2.one u (List.mem_of_mem_take h1)
    ·exact hone u h1
    ·exact q2.one u (List.mem_of_mem_drop h1)
   ·exact q2.out b' k hb' hF
  ·obtain ⟨ti2, r1, r2⟩ := h.tag t' x ht'
   refine ⟨ti2, by simp [hne, r1], r2.ty, ⟨r2.own.1, ?_⟩, r2.one, r2.out, r2.inn⟩
   rcases r2.own.2 with h3 | ⟨gg, cap', cur', hv', hz, hh, r⟩
   ·exact .inl h3
   ·refine .inr ⟨gg, cap', cur', hv', hz, ?_, r⟩
    have : gg ≠ b := fun e => hne (h.tagI t' x ti2 t true ti gg ht' r1 ht hti (by rw [hv']; rfl) (by rw [e]; exact hb))
    rw [setRow_other w b gg _ this]; exact hh
 ·obtain ⟨c0, hc0, rfl⟩ := unb o' c' hb'
  obtain ⟨ti3, h1, h2⟩ := unτ t' ti2 hti2
  rw [← h2]
  exact h.tagB t' x ti3 o' c0 b' k ht' h1 hc0 hμ
 ·obtain ⟨y1, e1, e2⟩ := unτ t1 ti1 h2
  obtain ⟨y2, e3, e4⟩ := unτ t2 ti2 h4
  exact h.tagI t1 x1 y1 t2 x2 y2 b' h1 e1 h3 e3 (by rw [e2]; exact h5) (by rw [e4]; exact h6)
end Go.Vm

namespace Go.Vm
open Go.RowKit
variable {P : Program} {w0 w w' : World} {W : Reg} {N : Nat} {g g' : Gh} {S : St} {a : Act} {tm : Array Value}
theorem Core.laterU (U : Nat → Prop) (h : Core g S tm w) {po : Nat → Bool} {pt : Tag → Bool} (hl : Later g g' w w' po pt)
    (hUb : ∀ o cs b k, S.box o = some cs → g.μ o = some (b, k) → ¬ U b) (hUt : ∀ t x ti b, S.tag t = some x → g.τ t = some ti → ti.v.ownBlock = some b → ¬ U b)
    (hbox : ∀ o cs, S.box o = some cs → po o = true) (htag : ∀ t x, S.tag t = some x → pt t = true)
    (hheap : ∀ (b : Nat) (o : Obj), ¬ U b → w.heap[b]? = some o → w'.heap[b]? = some o) (hF : ∀ b k, g'.F b k → g.F b k ∨ w.heap.size ≤ b) (hlt : ∀ b k, g'.F b k → b < w'.heap.size) : Core g' (S.only po pt) tm w' := by
 have own_lt : ∀ t x ti b, S.tag t = some x → g.τ t = some ti → ti.v.ownBlock = some b → b < w.heap.size := fun t x ti b ht hti hb => by
  obtain ⟨ti', h1, h2⟩ := h.tag t x ht
  rw [hti] at h1; injection h1 with h1; subst h1
  exact (h2.own.lt b hb).2
 have box_lt : ∀ o cs b k, S.box o = some cs → g.μ o = some (b, k) → b < w.heap.size := fun o cs b k hb hμ => by
  obtain ⟨b', k', vs, e, h1, h2, _⟩ := h.box o cs hb
  rw [hμ] at h1; injection h1 with h1; injection h1 with h1 _; subst h1
  exact h2.lt
 have unbox : ∀ o cs', (S.only po pt).box o = some cs' → ∃ cs, S.box o = some cs ∧ cs' = cs.map (D.keep po pt) := fun o cs' hb => by
  rw [only_box] at hb
  obtain ⟨cs, h1, h2⟩ := Option.map_eq_some_iff.1 hb
  exact ⟨cs, h1, h2.symm⟩
 have unμ : ∀ o cs bk, S.box o = some cs → g'.μ o = some bk → g.μ o = some bk := fun o cs bk hb hμ => by
  obtain ⟨b', k', vs, e, h1, _⟩ := h.box o cs hb
  have := hl.μ o (hbox o cs hb) _ h1
  rw [hμ] at this; rw [h1, this]
 have unτ : ∀ t x ti, S.tag t = some x → g'.τ t = some ti → g.τ t = some ti := fun t x ti ht hti => by
  obtain ⟨ti', h1, h2⟩ := h.tag t x ht
  have := hl.τ t (htag t x ht) _ h1
  rw [hti] at this; rw [h1, this]
 refine ⟨fun t d hd => ?_, fun o cs' hb => ?_, fun o cs' b k i hb hμ hi => ?_, fun o o' cs cs' b k k' hb hb' hμ hμ' => ?_, fun t x ht => ?_, fun t x ti o cs' b k ht hti hb hμ => ?_, fun t x ti t' x' ti' b ht hti ht' hti' => ?_, hlt, h.frz.2.mono hl.F hl.cell⟩
 ·rw [only_get] at hd
  obtain ⟨d0, h1, h2⟩ := Option.map_eq_some_iff.1 hd
  subst h2
  exact (h.env t d0 h1).keep hl
 ·obtain ⟨cs, hcs, rfl⟩ := unbox o cs' hb
  obtain ⟨b, k, vs, e, h1, h2, h3, h4⟩ := h.box o cs hcs
  refine ⟨b, k, vs, e, hl.μ o (hbox o cs hcs) _ h1, h2.keep (fun ob => hheap b ob (hUb o cs b k hcs h1)), by simpa using h3, fun i d u hd hu => ?_⟩
  rw [List.getElem?_map] at hd
  obtain ⟨d0, h5, h6⟩ := Option.map_eq_some_iff.1 hd
  subst h6
  exact (h4 i d0 u h5 hu).keep hl
 ·obtain ⟨cs, hcs, rfl⟩ := unbox o cs' hb
  have hμ0 := unμ o cs _ hcs hμ
  intro hFF
  rcases hF _ _ hFF with h1 | h1
  ·exact h.boxF o cs b k i hcs hμ0 (by simpa using hi) h1
  ·have := box_lt o cs b k hcs hμ0; omega
 ·obtain ⟨c1, hc1, rfl⟩ := unbox o cs hb
  obtain ⟨c2, hc2, rfl⟩ := unbox o' cs' hb'
  have := h.boxI o o' c1 c2 b k k' hc1 hc2 (unμ _ _ _ hc1 hμ) (unμ _ _ _ hc2 hμ')
  simpa using this
 ·obtain ⟨ti, h1, h2⟩ := h.tag t x ht
  refine ⟨ti, hl.τ t (htag t x ht) _ h1, h2.ty, ?_, h2.one, fun b k hb hFF => ?_, fun b k hb hx hk => hl.F _ _ (h2.inn b k hb hx hk)⟩
  ·refine ⟨h2.own.1, ?_⟩
   rcases h2.own.2 with h3 | ⟨gg, cap, cur, hv, hz, hh, r⟩
   ·exact .inl h3
   ·exact .inr ⟨gg, cap, cur, hv, hz, hheap _ _ (hUt t x ti gg ht h1 (by rw [hv]; rfl)) hh, r⟩
  ·rcases hF _ _ hFF with h3 | h3
   ·exact h2.out b k hb h3
   ·have := own_lt t x ti b ht h1 hb; omega
 ·obtain ⟨cs, hcs, rfl⟩ := unbox o cs' hb
  exact h.tagB t x ti o cs b k ht (unτ _ _ _ ht hti) hcs (unμ _ _ _ hcs hμ)
 ·exact h.tagI t x ti t' x' ti' b ht (unτ _ _ _ ht hti) ht' (unτ _ _ _ ht' hti')
def Own (g : Gh) (S : St) (t : Tag) (b : Nat) : Prop := S.tag t = some true ∧ ∃ ti, g.τ t = some ti ∧ ti.v.ownBlock = some b
theorem Core.own_apart (h : Core g S tm w) {t : Tag} {b : Nat} (ho : Own g S t b) : (∀ k, ¬ g.F b k) ∧ (∀ o cs k, S.box o = some cs → g.μ o ≠ some (b, k)) ∧ (∀ t' x ti, S.tag t' = some x → g.τ t' = some ti → ti.v.ownBlock = some b → t' = t) := by
 obtain ⟨h1, ti, h2, h3⟩ := ho
 obtain ⟨ti', q1, q2⟩ := h.tag t true h1
 rw [h2] at q1; injection q1 with q1; subst q1
 refine ⟨fun k hF => ?_, fun o cs k hb hμ => h.tagB t true ti o cs b k h1 h2 hb hμ h3, fun t' x ti2 ht hti hb => h.tagI t' x ti2 t true ti b ht hti h1 h2 hb h3⟩
 have := (q2.out b k h3 hF).1
 cases this
theorem Core.newRowU (h : Core g S tm w) (t : Tag) (ti : TI) (F' : Reg) (hty : ti.e = t.2.1 ∧ ti.sz = t.2.2) (hheap : ∀ (b : Nat) (o : Obj), ¬ Own g S t b → w.heap[b]? = some o → w'.heap[b]? = some o) (hsize : w.heap.size ≤ w'.heap.size)
    (hown : w'.ownsRow 0 ti.e ti.sz ti.v ti.n ti.xs) (hone : ∀ u ∈ ti.xs, u.oneCell' = true) (hnew : ∀ b, ti.v.ownBlock = some b → w.heap.size ≤ b ∨ Own g S t b)
    (hFF : ∀ b k, g.F b k → F' b k) (hFn : ∀ b k, F' b k → g.F b k ∨ (w.heap.size ≤ b ∧ b < w'.heap.size ∧ ti.v.ownBlock ≠ some b)) :
    Core { g with τ := fun t' => if t' = t then some ti else g.τ t', F := F' } (S.newTag t true) tm w' := by
 have h1 := h.dropTag t
 have hcell : ∀ b k, g.F b k → w'.cell? ⟨b, k, none⟩ = w.cell? ⟨b, k, none⟩ := fun b k hF =>
  World.cell?_of_block (a := ⟨b, k, none⟩) (by rw [Array.getElem?_eq_getElem (h.frz.1 b k hF)]; exact hheap b _ (fun ho => (h.own_apart ho).1 k hF) (Array.getElem?_eq_getElem (h.frz.1 b k hF)))
 have hl : Later g { g with τ := fun t' => if t' = t then some ti else g.τ t', F := F' } w w' (fun _ => true) (fun y => decide (y ≠ t)) :=
  ⟨fun o _ b hb => hb, fun t' ht ti' hti => by
   have : t' ≠ t := by simpa using ht
   show (if t' = t then some ti else g.τ t') = some ti'
   rw [if_neg this]; exact hti, hFF, hcell⟩
 have h2 := h1.laterU (Own g S t) hl (fun o cs b k hb hμ ho => (h.own_apart ho).2.1 o cs k hb hμ) (fun t' x ti' b ht hti hb ho => by
  simp only [St.tag, lookup_filter] at ht
  split at ht
  ·cases ht
  ·rename_i hne
   exact hne ((h.own_apart ho).2.2 t' x ti' ht hti hb)) (fun _ _ _ => rfl) (fun t' x hx => by
  simp only [St.tag, lookup_filter] at hx
  split at hx
  ·cases hx
  ·rename_i hne; simpa using hne) hheap (fun b k hF => (hFn b k hF).imp id (·.1)) (fun b k hF => by
   rcases hFn b k hF with h3 | h3
   ·have := h.frz.1 b k h3; omega
   ·exact h3.2.1)
 have tagT : ∀ t' x, (S.newTag t true).tag t' = some x → t' ≠ t → (({ S with tg := S.tg.filter fun y => decide (y.1 ≠ t) } : St).only (fun _ => true) (fun y => decide (y ≠ t))).tag t' = some x := fun t' x hx hne => by
  rw [newTag_tag, if_neg hne] at hx
  show lkp t' (S.tg.filter fun y => decide (y.1 ≠ t)) = some x
  rw [lookup_filter, if_neg hne]; exact hx
 have box_at : ∀ o cs b k, (S.newTag t true).box o = some cs → g.μ o = some (b, k) → b < w.heap.size ∧ ¬ Own g S t b := fun o cs b k hb hμ => by
  have hb' : (S.only (fun _ => true) (fun y => decide (y ≠ t))).box o = some cs := hb
  rw [only_box] at hb'
  obtain ⟨c0, hc0, _⟩ := Option.map_eq_some_iff.1 hb'
  refine ⟨?_, fun ho => (h.own_apart ho).2.1 o c0 k hc0 hμ⟩
  obtain ⟨b', k', vs, e, q1, q2, _⟩ := h.box o c0 hc0
  rw [hμ] at q1; injection q1 with q1; injection q1 with q1 _; subst q1
  exact q2.lt
 have own_at : ∀ t' x ti' b, (S.newTag t true).tag t' = some x → t' ≠ t → g.τ t' = some ti' → ti'.v.ownBlock = some b → b < w.heap.size ∧ ¬ Own g S t b := fun t' x ti' b hx hne hti hb => by
  rw [newTag_tag, if_neg hne] at hx
  obtain ⟨ti2, q1, q2⟩ := h.tag t' x hx
  rw [hti] at q1; injection q1 with q1; subst q1
  exact ⟨(q2.own.lt b hb).2, fun ho => hne ((h.own_apart ho).2.2 t' x ti' hx hti hb)⟩
 refine ⟨h2.env, h2.box, h2.boxF, h2.boxI, fun t' x ht => ?_, fun t' x ti' o cs b k ht hti hb hμ => ?_, fun t1 x1 ti1 t2 x2 ti2 b ht1 hti1 ht2 hti2 hb1 hb2 => ?_, h2.frz⟩
 ·by_cases hne : t' = t
  ·subst hne
   rw [newTag_tag, if_pos rfl] at ht
   injection ht with ht; subst ht
   refine ⟨ti, by simp, hty, hown, hone, fun b k hb hF => ?_, fun b k hb hx => by cases hx⟩
   exfalso
   rcases hFn b k hF with h3 | h3
   ·rcases hnew b hb with h4 | h4
    ·have := h.frz.1 b k h3; omega
    ·exact (h.own_apart h4).1 k h3
   ·exact h3.2.2 hb
  ·exact h2.tag t' x (tagT t' x ht hne)
 ·by_cases hne : t' = t
  ·subst hne
   simp only [if_pos] at hti
   injection hti with hti; subst hti
   intro hb'
   obtain ⟨e1, e2⟩ := box_at o cs b k hb hμ
   rcases hnew b hb' with h4 | h4
   ·omega
   ·exact e2 h4
  ·exact h2.tagB t' x ti' o cs b k (tagT t' x ht hne) hti hb hμ
 ·by_cases hne1 : t1 = t
  ·by_cases hne2 : t2 = t
   ·rw [hne1, hne2]
   ·exfalso
    subst hne1
    simp only [if_pos] at hti1
    injection hti1 with hti1; subst hti1
    simp only [if_neg hne2] at hti2
    obtain ⟨e1, e2⟩ := own_at t2 x2 ti2 b ht2 hne2 hti2 hb2
    rcases hnew b hb1 with h4 | h4
    ·omega
    ·exact e2 h4
  ·by_cases hne2 : t2 = t
   ·exfalso
    subst hne2
    simp only [if_pos] at hti2
    injection hti2 with hti2; subst hti2
    simp only [if_neg hne1] at hti1
    obtain ⟨e1, e2⟩ := own_at t1 x1 ti1 b ht1 hne1 hti1 hb1
    rcases hnew b hb2 with h4 | h4
    ·omega
    ·exact e2 h4
   ·exact h2.tagI t1 x1 ti1 t2 x2 ti2 b (tagT _ _ ht1 hne1) hti1 (tagT _ _ ht2 hne2) hti2 hb1 hb2
def D.remake (t : Tag) (es : List (List D)) : D → D
 | .sl (some t') es' => if t' = t then .sl (some t) es else .sl (some t') es'
 | .part t' lo n es' => if t' = t then .part t lo n es else .part t' lo n es'
 | d => d.keep (fun _ => true) (fun y => decide (y ≠ t))
def St.remake (S : St) (t : Tag) (es : List (List D)) : St :=
 { S.newTag t true with env := S.env.map fun x => (x.1, x.2.remake t es) }
theorem remake_get (t : Tag) (es : List (List D)) (k : Nat) : (S.remake t es).get k = (S.get k).map (D.remake t es) := lookup_map _ _ _
theorem Core.remake {t : Tag} (h : Core g' (S.newTag t true) tm w') {es : List (List D)} {ti' : TI} (hti : g'.τ t = some ti') (hold : ∀ k es', S.get k = some (.sl (some t) es') → tm.getD k undef = ti'.v)
    (hpart : ∀ k lo n es', S.get k = some (.part t lo n es') → lo + n ≤ ti'.n ∧ PartV lo n ti'.sz ti'.v (tm.getD k undef))
    (hnew : Rep g' w' (.sl (some t) es) ti'.v) : Core g' (S.remake t es) tm w' := by
 refine ⟨fun k d hd => ?_, h.box, h.boxF, h.boxI, h.tag, h.tagB, h.tagI, h.frz⟩
 rw [remake_get] at hd
 obtain ⟨d0, h1, h2⟩ := Option.map_eq_some_iff.1 hd
 have hk : (S.newTag t true).get k = some (d0.keep (fun _ => true) (fun y => decide (y ≠ t))) := by
  show (S.only (fun _ => true) (fun y => decide (y ≠ t))).get k = _
  rw [only_get, h1]; rfl
 have hr := h.env k _ hk
 subst h2
 cases d0 with
 | sl tag es' =>
  cases tag with
  | none => exact hr
  | some t' =>
   simp only [D.remake]
   split
   ·rename_i he; subst he
    rw [hold k es' h1]; exact hnew
   ·rename_i hne
    simpa [D.keep, D.avoids, hne] using hr
 | part t' lo n es' =>
  simp only [D.remake]
  split
  ·rename_i he; subst he
   obtain ⟨p1, p2⟩ := hpart k lo n es' h1
   generalize hvv : ti'.v = vv at hnew
   cases hnew with
   | fz _ _ h0 => cases h0
   | slT _ _ ti2 ht2 hn hl hrr =>
    have h2 := hti
    rw [ht2] at h2; injection h2 with h2; subst h2
    exact .part _ lo n es ti2 _ p2 ht2 hn p1 hl hrr
  ·rename_i hne
   simpa [D.keep, D.avoids, hne] using hr
 | _ => exact hr
end Go.Vm

namespace Go.Vm
open Go.RowKit
variable {P : Program} {w0 w w' : World} {W : Reg} {N : Nat} {g g' : Gh} {S : St} {a : Act} {tm : Array Value}
mutual
def D.fzb (o : Nat) (fs : List D) : D → D
 | .ptr o' off => if o' = o then .rp none fs off else .ptr o' off
 | .fn f x y => .fn f (fzbL o fs x) (fzbL o fs y)
 | .agg ds => .agg (fzbL o fs ds)
 | .tup ds => .tup (fzbL o fs ds)
 | .undef => .undef
 | .val v => .val v
 | .sl t es => .sl t es
 | .rp own cs off => .rp own cs off
 | .part t lo n es => .part t lo n es
 | .mh o => .mh o
 | .mpc es => .mpc es
def fzbL (o : Nat) (fs : List D) : List D → List D
 | [] => []
 | d :: ds => d.fzb o fs :: fzbL o fs ds
end
theorem fzbL_map (o : Nat) (fs : List D) : ∀ ds : List D, fzbL o fs ds = ds.map (D.fzb o fs)
 | [] => rfl
 | d :: ds => by simp [fzbL, fzbL_map o fs ds]
theorem RepF.fzb {F : Reg} {d : D} {v : Value} (h : RepF F w d v) (o : Nat) (fs : List D) : d.fzb o fs = d := by
 have lst : ∀ (ds : List D) (vs : Array Value), vs.size = ds.length → (∀ (i : Nat) (d : D) (v : Value), ds[i]? = some d → vs[i]? = some v → d.fzb o fs = d) → fzbL o fs ds = ds := fun ds vs hl h => by
  rw [fzbL_map]
  apply List.ext_getElem?
  intro i
  rw [List.getElem?_map]
  cases hd : ds[i]? with
  | none => rfl
  | some d =>
   have hi : i < vs.size := by rw [hl]; exact (List.getElem?_eq_some_iff.1 hd).1
   simp only [Option.map_some, h i d vs[i] hd (Array.getElem?_eq_getElem hi)]
 induction h with
 | fn f first caps vs us hv hu h1 h2 ih1 ih2 => simp only [D.fzb, lst first vs hv ih1, lst caps us hu ih2]
 | agg ds vs hl h ih => simp only [D.fzb, lst ds vs hl ih]
 | tup ds vs hl h ih => simp only [D.fzb, lst ds vs hl ih]
 | _ => rfl
theorem Rep.fzb {d : D} {v : Value} (h : Rep g w d v) (o : Nat) (fs : List D) (hμ : ∀ o' b, o' ≠ o → g.μ o' = some b → g'.μ o' = some b) (hτ : ∀ t ti, g.τ t = some ti → g'.τ t = some ti)
    (hF : ∀ b k, g.F b k → g'.F b k) (hp : ∀ off b k, g.μ o = some (b, k) → RepF g'.F w (.rp none fs off) (.pointer (some ⟨b, k + off, none⟩))) (hob : o < mapB) : Rep g' w (d.fzb o fs) v := by
 have lst : ∀ (ds : List D) (vs : Array Value), (∀ (i : Nat) (d : D) (v : Value), ds[i]? = some d → vs[i]? = some v → Rep g' w (d.fzb o fs) v) → ∀ (i : Nat) (d : D) (v : Value), (fzbL o fs ds)[i]? = some d → vs[i]? = some v → Rep g' w d v := fun ds vs h i d v hd hv => by
  rw [fzbL_map, List.getElem?_map] at hd
  obtain ⟨d0, h1, rfl⟩ := Option.map_eq_some_iff.1 hd
  exact h i d0 v h1 hv
 induction h with
 | fz d v h => rw [h.fzb]; exact .fz _ _ (h.mono hF (fun _ _ _ => rfl))
 | slT t es ti ht hn hl hr => exact .slT t es ti (hτ t ti ht) hn hl (fun i e j d he hd => let ⟨u, h1, h2⟩ := hr i e j d he hd; ⟨u, h1, h2.mono hF (fun _ _ _ => rfl)⟩)
 | rpT t i cs off ti ht hi hl b n c hv hr => exact .rpT t i cs off ti (hτ t ti ht) hi hl b n c hv (fun j d hd => let ⟨u, h1, h2⟩ := hr j d hd; ⟨u, h1, h2.mono hF (fun _ _ _ => rfl)⟩)
 | ptr o' off b k h ho =>
  simp only [D.fzb]
  split
  ·rename_i he; subst he; exact .fz _ _ (hp off b k h)
  ·rename_i hne; exact .ptr o' off b k (hμ o' _ hne h) ho
 | part t lo n es ti v hv ht hn hlo hl hr => exact .part t lo n es ti v hv (hτ t ti ht) hn hlo hl (fun i e j d he hd => let ⟨u, h1, h2⟩ := hr i e j d he hd; ⟨u, h1, h2.mono hF (fun _ _ _ => rfl)⟩)
 | mh o' b h ho => exact .mh o' b (hμ o' _ (fun e => by rw [e] at ho; exact absurd hob (Nat.not_lt.2 ho)) h) ho
 | fn f first caps vs us hv hu h1 h2 ih1 ih2 => exact .fn f _ _ vs us (by rw [fzbL_map]; simpa using hv) (by rw [fzbL_map]; simpa using hu) (lst first vs ih1) (lst caps us ih2)
 | agg ds vs hl h ih => exact .agg _ vs (by rw [fzbL_map]; simpa using hl) (lst ds vs ih)
 | tup ds vs hl h ih => exact .tup _ vs (by rw [fzbL_map]; simpa using hl) (lst ds vs ih)
def St.fzb (S : St) (o : Nat) (fs : List D) : St :=
 { env := S.env.map fun x => (x.1, x.2.fzb o fs), hp := (S.hp.filter fun y => decide (y.1 ≠ o)).map fun x => (x.1, x.2.map (D.fzb o fs)), tg := S.tg }
theorem fzb_get (o : Nat) (fs : List D) (t : Nat) : (S.fzb o fs).get t = (S.get t).map (D.fzb o fs) := lookup_map _ _ _
theorem fzb_box (o o' : Nat) (fs : List D) : (S.fzb o fs).box o' = if o' = o then none else (S.box o').map (List.map (D.fzb o fs)) := by
 simp only [St.fzb, St.box]
 rw [lookup_map (List.map (D.fzb o fs)), lookup_filter]
 split <;> simp
theorem Core.fzb (h : Core g S tm w) {o : Nat} {cs fs : List D} (hb : S.box o = some cs) {b0 k0 : Nat} (hμ : g.μ o = some (b0, k0)) (hfs : fs.length = cs.length)
    (hr : ∀ (j : Nat) (d : D) (e : D) (u : Value), fs[j]? = some d → cs[j]? = some e → Rep g w e u → RepF g.F w d u) (hob : o < mapB) :
    Core { g with F := fun b k => g.F b k ∨ (b = b0 ∧ k0 ≤ k ∧ k < k0 + cs.length) } (S.fzb o fs) tm w := by
 obtain ⟨b1, k1, vs, ety, q1, q2, q3, q4⟩ := h.box o cs hb
 rw [hμ] at q1; injection q1 with q1; injection q1 with e1 e2; subst e1; subst e2
 replace q2 := q2.cells hob
 let g' : Gh := { g with F := fun b k => g.F b k ∨ (b = b0 ∧ k0 ≤ k ∧ k < k0 + cs.length) }
 have cellv : ∀ j, j < cs.length → ∃ u, vs[k0 + j]? = some u ∧ w.cell? ⟨b0, k0 + j, none⟩ = some u := fun j hj => by
  have hj' : k0 + j < vs.size := by omega
  exact ⟨vs[k0 + j], Array.getElem?_eq_getElem hj', by rw [cell_of_row w b0 (k0 + j) vs ety (0, 0) q2, Array.getElem?_eq_getElem hj']⟩
 have hp : ∀ off b k, g.μ o = some (b, k) → RepF g'.F w (.rp none fs off) (.pointer (some ⟨b, k + off, none⟩)) := fun off b k hbk => by
  rw [hμ] at hbk; injection hbk with hbk; injection hbk with e1 e2; subst e1; subst e2
  refine .rp b0 k0 fs off (fun j => (w.cell? ⟨b0, k0 + j, none⟩).getD undef) (fun j hj => .inr ⟨rfl, by omega, by omega⟩) (fun j hj => ?_) (fun j d hd => ?_)
  ·obtain ⟨u, _, h2⟩ := cellv j (by omega)
   rw [h2]; rfl
  ·have hj : j < cs.length := by rw [← hfs]; exact (List.getElem?_eq_some_iff.1 hd).1
   obtain ⟨u, h1, h2⟩ := cellv j hj
   rw [h2]
   exact (hr j d cs[j] u hd (List.getElem?_eq_getElem hj) (q4 j _ u (List.getElem?_eq_getElem hj) h1)).mono (fun _ _ h => .inl h) (fun _ _ _ => rfl)
 have rep : ∀ {d : D} {v : Value}, Rep g w d v → Rep g' w (d.fzb o fs) v := fun hd => hd.fzb o fs (fun _ _ _ h => h) (fun _ _ h => h) (fun _ _ h => .inl h) hp hob
 have unb : ∀ o' c, (S.fzb o fs).box o' = some c → o' ≠ o ∧ ∃ c0, S.box o' = some c0 ∧ c = c0.map (D.fzb o fs) := fun o' c hc => by
  rw [fzb_box] at hc
  split at hc
  ·cases hc
  ·rename_i hne
   obtain ⟨c0, h1, h2⟩ := Option.map_eq_some_iff.1 hc
   exact ⟨hne, c0, h1, h2.symm⟩
 refine ⟨fun t d hd => ?_, fun o' c hc => ?_, fun o' c b k i hc hμ' hi hF => ?_, fun o1 o2 c1 c2 b k k' h1 h2 hm1 hm2 => ?_, fun t x ht => ?_, fun t x ti o' c b k ht hti hc hμ' => ?_, h.tagI, fun b k hF => ?_, h.frz.2.mono (fun _ _ h => .inl h) (fun _ _ _ => rfl)⟩
 ·rw [fzb_get] at hd
  obtain ⟨d0, h1, rfl⟩ := Option.map_eq_some_iff.1 hd
  exact rep (h.env t d0 h1)
 ·obtain ⟨_, c0, hc0, rfl⟩ := unb o' c hc
  obtain ⟨b, k, vs', e', p1, p2, p3, p4⟩ := h.box o' c0 hc0
  refine ⟨b, k, vs', e', p1, p2.keep fun _ h => h, by simpa using p3, fun i d u hd hu => ?_⟩
  rw [List.getElem?_map] at hd
  obtain ⟨d0, h5, rfl⟩ := Option.map_eq_some_iff.1 hd
  exact rep (p4 i d0 u h5 hu)
 ·obtain ⟨hne, c0, hc0, rfl⟩ := unb o' c hc
  rcases hF with hF | ⟨e1, e2, e3⟩
  ·exact h.boxF o' c0 b k i hc0 hμ' (by simpa using hi) hF
  ·subst e1
   have hi' : i < c0.length := by simpa using hi
   exact hne (h.boxI o' o c0 cs b k k0 hc0 hb hμ' hμ i (k + i - k0) hi' (by omega) (by omega))
 ·obtain ⟨_, d1, hd1, rfl⟩ := unb o1 c1 h1
  obtain ⟨_, d2, hd2, rfl⟩ := unb o2 c2 h2
  simpa using h.boxI o1 o2 d1 d2 b k k' hd1 hd2 hm1 hm2
 ·obtain ⟨ti, p1, p2⟩ := h.tag t x ht
  refine ⟨ti, p1, p2.ty, p2.own, p2.one, fun b k hbk hF => ?_, fun b k hbk hx hk => .inl (p2.inn b k hbk hx hk)⟩
  rcases hF with hF | ⟨e1, _, _⟩
  ·exact p2.out b k hbk hF
  ·subst e1
   exact absurd hbk (h.tagB t x ti o cs b k0 ht p1 hb hμ)
 ·obtain ⟨_, c0, hc0, rfl⟩ := unb o' c hc
  exact h.tagB t x ti o' c0 b k ht hti hc0 hμ'
 ·rcases hF with hF | ⟨e1, _, _⟩
  ·exact h.frz.1 b k hF
  ·subst e1
   exact (Array.getElem?_eq_some_iff.1 q2).1
end Go.Vm

namespace Go.Vm
open Go.RowKit
variable {P : Program} {w0 w w' : World} {W : Reg} {N : Nat} {g g' : Gh} {S S' : St} {a : Act} {tm : Array Value}

mutual
/-- A datum in other names; what has none there is not told. -/
def D.ren (f : Nat → Option Nat) (h : Tag → Option Tag) : D → D
  | .undef => .undef
  | .val v => .val v
  | .sl none es => .sl none es
  | .sl (some t) es => match h t with
    | some t' => .sl (some t') es
    | none => .undef
  | .ptr o off => match f o with
    | some o' => .ptr o' off
    | none => .undef
  | .rp none cs off => .rp none cs off
  | .rp (some (t, i)) cs off => match h t with
    | some t' => .rp (some (t', i)) cs off
    | none => .undef
  | .fn k x y => .fn k (renL f h x) (renL f h y)
  | .agg ds => .agg (renL f h ds)
  | .tup ds => .tup (renL f h ds)
  | .part t lo n es => match h t with
    | some t' => .part t' lo n es
    | none => .undef
  | .mh o => match f o with
    | some o' => .mh o'
    | none => .undef
  | .mpc es => .mpc es
def renL (f : Nat → Option Nat) (h : Tag → Option Tag) : List D → List D
  | [] => []
  | d :: ds => d.ren f h :: renL f h ds
end

theorem renL_map (f : Nat → Option Nat) (h : Tag → Option Tag) : ∀ ds : List D, renL f h ds = ds.map (D.ren f h)
  | [] => rfl
  | d :: ds => by simp [renL, renL_map f h ds]

theorem RepF.ren {F : Reg} {d : D} {v : Value} (hr : RepF F w d v) (f : Nat → Option Nat) (h : Tag → Option Tag) : d.ren f h = d := by
  have lst : ∀ (ds : List D) (vs : Array Value), vs.size = ds.length → (∀ (i : Nat) (d : D) (v : Value), ds[i]? = some d → vs[i]? = some v → d.ren f h = d) → renL f h ds = ds := fun ds vs hl hh => by
    rw [renL_map]
    apply List.ext_getElem?
    intro i
    rw [List.getElem?_map]
    cases hd : ds[i]? with
    | none => rfl
    | some d =>
      have hi : i < vs.size := by rw [hl]; exact (List.getElem?_eq_some_iff.1 hd).1
      simp only [Option.map_some, hh i d vs[i] hd (Array.getElem?_eq_getElem hi)]
  induction hr with
  | fn k first caps vs us hv hu h1 h2 ih1 ih2 => simp only [D.ren, lst first vs hv ih1, lst caps us hu ih2]
  | agg ds vs hl hh ih => simp only [D.ren, lst ds vs hl ih]
  | tup ds vs hl hh ih => simp only [D.ren, lst ds vs hl ih]
  | _ => rfl

theorem Rep.ren {d : D} {v : Value} (hr : Rep g w d v) {f : Nat → Option Nat} {h : Tag → Option Tag} (hμ : ∀ o o' b, f o = some o' → g.μ o = some b → g'.μ o' = some b) (hk : ∀ o o', f o = some o' → o / mapB = o' / mapB) (hτ : ∀ t t' ti, h t = some t' → g.τ t = some ti → g'.τ t' = some ti)
    (hF : ∀ b k, g.F b k → g'.F b k) (hw : ∀ b k, g.F b k → w'.cell? ⟨b, k, none⟩ = w.cell? ⟨b, k, none⟩) : Rep g' w' (d.ren f h) v := by
  have lst : ∀ (ds : List D) (vs : Array Value), (∀ (i : Nat) (d : D) (v : Value), ds[i]? = some d → vs[i]? = some v → Rep g' w' (d.ren f h) v) → ∀ (i : Nat) (d : D) (v : Value), (renL f h ds)[i]? = some d → vs[i]? = some v → Rep g' w' d v := fun ds vs hh i d v hd hv => by
    rw [renL_map, List.getElem?_map] at hd
    obtain ⟨d0, h1, rfl⟩ := Option.map_eq_some_iff.1 hd
    exact hh i d0 v h1 hv
  induction hr with
  | fz d v hr => rw [hr.ren]; exact .fz _ _ (hr.mono hF hw)
  | slT t es ti ht hn hl hr =>
    simp only [D.ren]
    split
    · rename_i t' ht'
      exact .slT t' es ti (hτ t t' ti ht' ht) hn hl (fun i e j d he hd => let ⟨u, h1, h2⟩ := hr i e j d he hd; ⟨u, h1, h2.mono hF hw⟩)
    · exact .fz _ _ (.undef _)
  | rpT t i cs off ti ht hi hl b n c hv hr =>
    simp only [D.ren]
    split
    · rename_i t' ht'
      exact .rpT t' i cs off ti (hτ t t' ti ht' ht) hi hl b n c hv (fun j d hd => let ⟨u, h1, h2⟩ := hr j d hd; ⟨u, h1, h2.mono hF hw⟩)
    · exact .fz _ _ (.undef _)
  | ptr o off b k hb ho =>
    simp only [D.ren]
    split
    · rename_i o' ho'
      exact .ptr o' off b k (hμ o o' _ ho' hb) (by have := hk o o' ho'; unfold mapB at *; omega)
    · exact .fz _ _ (.undef _)
  | part t lo n es ti v hv ht hn hlo hl hr =>
    simp only [D.ren]
    split
    · rename_i t' ht'
      exact .part t' lo n es ti v hv (hτ t t' ti ht' ht) hn hlo hl (fun i e j d he hd => let ⟨u, h1, h2⟩ := hr i e j d he hd; ⟨u, h1, h2.mono hF hw⟩)
    · exact .fz _ _ (.undef _)
  | mh o b hb ho =>
    simp only [D.ren]
    split
    · rename_i o' ho'
      have := hk o o' ho'
      have e : handV o b = handV o' b := by unfold handV itB; unfold mapB at *; congr 1; apply propext; omega
      rw [e]
      exact .mh o' b (hμ o o' _ ho' hb) (by unfold mapB at *; omega)
    · exact .fz _ _ (.undef _)
  | fn k first caps vs us hv hu h1 h2 ih1 ih2 => exact .fn k _ _ vs us (by rw [renL_map]; simpa using hv) (by rw [renL_map]; simpa using hu) (lst first vs ih1) (lst caps us ih2)
  | agg ds vs hl hh ih => exact .agg _ vs (by rw [renL_map]; simpa using hl) (lst ds vs ih)
  | tup ds vs hl hh ih => exact .tup _ vs (by rw [renL_map]; simpa using hl) (lst ds vs ih)

def fwd {α β : Type} [DecidableEq α] (l : List (α × β)) (x : α) : Option β := lkp x l

def seenH (S : St) (bs : List (Nat × Nat)) (ts : List (Tag × Tag)) : List (Nat × Nat) → Option (List (Nat × List D))
  | [] => some []
  | (o, o') :: r => match S.box o, seenH S bs ts r with
    | some cs, some l => some ((o', renL (fwd bs) (fwd ts) cs) :: l)
    | _, _ => none

theorem seenH_at {bs0 : List (Nat × Nat)} {ts : List (Tag × Tag)} : ∀ {bs : List (Nat × Nat)} {l : List (Nat × List D)}, seenH S bs0 ts bs = some l → ∀ o' cs', lkp o' l = some cs' → ∃ o cs, (o, o') ∈ bs ∧ S.box o = some cs ∧ cs' = renL (fwd bs0) (fwd ts) cs
  | [], l, h, o', cs', hl => by
    simp only [seenH, Option.some.injEq] at h; subst h
    simp [lkp] at hl
  | (p, p') :: r, l, h, o', cs', hl => by
    simp only [seenH] at h
    split at h
    · rename_i cs l' h1 h2
      injection h with h; subst h
      simp only [lkp] at hl
      split at hl
      · rename_i he; subst he
        injection hl with hl
        exact ⟨p, cs, by simp, h1, hl.symm⟩
      · obtain ⟨o, cs, h3, h4⟩ := seenH_at h2 o' cs' hl
        exact ⟨o, cs, by simp [h3], h4⟩
    · cases h

def swap {α β : Type} (l : List (α × β)) : List (β × α) := l.map fun x => (x.2, x.1)

def backH (hp : List (Nat × List D)) (bs : List (Nat × Nat)) (ts : List (Tag × Tag)) : List (Nat × Nat) → List (Nat × List D)
  | [] => []
  | (o', o) :: r => match lkp o' hp with
    | some cs => (o, renL (fwd bs) (fwd ts) cs) :: backH hp bs ts r
    | none => backH hp bs ts r
def backT (tg : List (Tag × Bool)) : List (Tag × Tag) → List (Tag × Bool)
  | [] => []
  | (t', t) :: r => match lkp t' tg with
    | some x => (t, x) :: backT tg r
    | none => backT tg r

theorem backH_at {hp : List (Nat × List D)} {bs0 : List (Nat × Nat)} {ts : List (Tag × Tag)} : ∀ {bs : List (Nat × Nat)} {o : Nat} {cs : List D}, lkp o (backH hp bs0 ts bs) = some cs → ∃ o' cs', (o', o) ∈ bs ∧ lkp o' hp = some cs' ∧ cs = renL (fwd bs0) (fwd ts) cs'
  | [], o, cs, h => by simp [backH, lkp] at h
  | (p', p) :: r, o, cs, h => by
    simp only [backH] at h
    split at h
    · rename_i c hc
      simp only [lkp] at h
      split at h
      · rename_i he; subst he
        injection h with h
        exact ⟨p', c, by simp, hc, h.symm⟩
      · obtain ⟨o', cs', h1, h2⟩ := backH_at h
        exact ⟨o', cs', by simp [h1], h2⟩
    · obtain ⟨o', cs', h1, h2⟩ := backH_at h
      exact ⟨o', cs', by simp [h1], h2⟩
theorem backT_at {tg : List (Tag × Bool)} : ∀ {ts : List (Tag × Tag)} {t : Tag} {x : Bool}, lkp t (backT tg ts) = some x → ∃ t', (t', t) ∈ ts ∧ lkp t' tg = some x
  | [], t, x, h => by simp [backT, lkp] at h
  | (p', p) :: r, t, x, h => by
    simp only [backT] at h
    split at h
    · rename_i c hc
      simp only [lkp] at h
      split at h
      · rename_i he; subst he
        injection h with h; subst h
        exact ⟨p', by simp, hc⟩
      · obtain ⟨t', h1, h2⟩ := backT_at h
        exact ⟨t', by simp [h1], h2⟩
    · obtain ⟨t', h1, h2⟩ := backT_at h
      exact ⟨t', by simp [h1], h2⟩

def lendA (hs : List Tag) : List D → Option (List D × List Tag)
  | [] => some ([], [])
  | d :: ds => match lendA hs ds with
    | some (xs, ts) => if d.tags.all fun t => hs.contains t then some (d :: xs, ts) else match d.frz with
      | some x => some (x :: xs, d.tags ++ ts)
      | none => none
    | none => none

def notIn {α : Type} [DecidableEq α] (l : List α) (x : α) : Bool := l.all fun y => decide (y ≠ x)
theorem notIn_iff {α : Type} [DecidableEq α] {l : List α} {x : α} : notIn l x = true ↔ x ∉ l := by
  unfold notIn
  rw [List.all_eq_true]
  constructor
  · intro h hx; have := h x hx; simp at this
  · intro h y hy; simp; rintro rfl; exact h hy

structure Lend where
  bs : List (Nat × Nat)
  ts : List (Tag × Tag)
  nb : List (Nat × Nat)
  nt : List (Tag × Tag)
  deriving Inhabited

def Lend.bk (L : Lend) : List (Nat × Nat) := swap L.bs ++ L.nb
def Lend.tk (L : Lend) : List (Tag × Tag) := swap L.ts ++ L.nt

def Lend.ok (L : Lend) : Bool :=
  (L.bs.all fun x => Nat.ble 1000000 (x.2 % mapB) && decide (x.1 / mapB = x.2 / mapB)) && (L.ts.all fun x => Nat.ble x.1.1 999998 && decide (x.1.2 = x.2.2) && Nat.ble x.2.1 999998) &&
  (L.nb.all fun x => Nat.ble (x.1 % mapB) 999998 && Nat.ble (x.2 % mapB) 999998 && decide (x.1 / mapB = x.2 / mapB)) && (L.nt.all fun x => Nat.ble x.1.1 999998 && Nat.ble x.2.1 999998 && decide (x.1.2 = x.2.2)) &&
  decide (L.bk.map (·.2)).Nodup && decide (L.bk.map (·.1)).Nodup && decide (L.tk.map (·.2)).Nodup && decide (L.tk.map (·.1)).Nodup

def St.back (S : St) (L : Lend) (hp : List (Nat × List D)) (tg : List (Tag × Bool)) : St :=
  { env := S.env.map fun x => (x.1, x.2.keep (notIn (L.nb.map (·.2))) (notIn (L.tk.map (·.2))))
    hp := backH hp L.bk L.tk L.bk ++ (S.hp.filter fun y => notIn (L.bk.map (·.2)) y.1).map fun x => (x.1, x.2.map (D.keep (notIn (L.nb.map (·.2))) (notIn (L.tk.map (·.2)))))
    tg := backT tg L.tk ++ S.tg.filter fun y => notIn (L.tk.map (·.2)) y.1 }

theorem lkp_append {α β : Type} [DecidableEq α] (t : α) : ∀ (l l' : List (α × β)), lkp t (l ++ l') = (lkp t l).or (lkp t l')
  | [], l' => by simp [lkp]
  | (k, v) :: l, l' => by
    simp only [List.cons_append, lkp]
    split
    · rfl
    · exact lkp_append t l l'

theorem lkp_filter0 {α β : Type} [DecidableEq α] (p : α → Bool) (l : List (α × β)) (t : α) : lkp t (l.filter fun y => p y.1) = if p t then lkp t l else none := by
  induction l with
  | nil => simp [lkp]
  | cons x l ih =>
    obtain ⟨k, v⟩ := x
    simp only [List.filter_cons, lkp]
    by_cases h : p k = true
    · rw [if_pos h]
      simp only [lkp, ih]
      by_cases h2 : t = k
      · subst h2; simp [h]
      · simp [h2]
    · rw [if_neg h, ih]
      by_cases h2 : t = k
      · subst h2; simp [h]
      · simp [h2]

theorem back_get (L : Lend) (hp : List (Nat × List D)) (tg : List (Tag × Bool)) (t : Nat) : (S.back L hp tg).get t = (S.get t).map (D.keep (notIn (L.nb.map (·.2))) (notIn (L.tk.map (·.2)))) := lookup_map _ _ _
theorem back_box (L : Lend) (hp : List (Nat × List D)) (tg : List (Tag × Bool)) (o : Nat) : (S.back L hp tg).box o = (lkp o (backH hp L.bk L.tk L.bk)).or (if notIn (L.bk.map (·.2)) o then (S.box o).map (List.map (D.keep (notIn (L.nb.map (·.2))) (notIn (L.tk.map (·.2))))) else none) := by
  show lkp o (_ ++ _) = _
  rw [lkp_append, lookup_map (List.map (D.keep (notIn (L.nb.map (·.2))) (notIn (L.tk.map (·.2))))), lkp_filter0]
  split <;> rfl
theorem back_tag (L : Lend) (hp : List (Nat × List D)) (tg : List (Tag × Bool)) (t : Tag) : (S.back L hp tg).tag t = (lkp t (backT tg L.tk)).or (if notIn (L.tk.map (·.2)) t then S.tag t else none) := by
  show lkp t (_ ++ _) = _
  rw [lkp_append, lkp_filter0]; rfl

def num {α : Type} : Nat → List α → List (Nat × α)
  | _, [] => []
  | n, x :: xs => (n, x) :: num (n + 1) xs

theorem num_lkp {α : Type} : ∀ {xs : List α} {n t : Nat} {d : α}, lkp t (num n xs) = some d → n ≤ t ∧ xs[t - n]? = some d
  | [], n, t, d, h => by simp [num, lkp] at h
  | x :: xs, n, t, d, h => by
    simp only [num, lkp] at h
    split at h
    · rename_i he; subst he; injection h with h; subst h
      exact ⟨Nat.le_refl _, by simp⟩
    · rename_i hne
      obtain ⟨h1, h2⟩ := num_lkp h
      refine ⟨by omega, ?_⟩
      rw [show t - n = (t - (n + 1)) + 1 by omega]; simpa using h2

end Go.Vm


namespace Go.Vm
open Go.RowKit
variable {P : Program} {w0 w w' : World} {W F0 : Reg} {N : Nat} {g g' : Gh} {S : St} {a : Act} {tm : Array Value} {K : St → Prop}
abbrev Pins := (Tag → Option Value) × (Nat → Option (Nat × Nat))
variable {V : Pins}
structure SR (w0 : World) (W F0 : Reg) (V : Pins) (N : Nat) (g : Gh) (S : St) (a : Act) (w : World) : Prop where
 core : Core g S a.tmps w
 wr : Wr w0.heap.size W g S
 keep : Keep W w0 w
 size : a.tmps.size = N
 defers : a.defers = []
 fext : ∀ b k, F0 b k → g.F b k
 fnew : ∀ b k, g.F b k → F0 b k ∨ w0.heap.size ≤ b ∨ W b k
 cap : N ≤ 999999
 pin : (∀ t ti, 999999 ≤ t.1 → g.τ t = some ti → V.1 t = some ti.v) ∧ ∀ o b, 999999 ≤ o % mapB → g.μ o = some b → V.2 o = some b
theorem SR.put (h : SR w0 W F0 V N g S a w) {dst : Option Nat} {d : D} {v : Value} (hd : ∀ t, dst = some t → t < N) (hr : Rep g w d v) : SR w0 W F0 V N g (S.put dst d) (a.put dst v) w := by
 have hc := h.core.put (dst := dst) (fun t ht => by rw [h.size]; exact hd t ht) hr
 cases dst with
 | none => exact h
 | some t =>
  refine ⟨hc, ⟨h.wr.box, h.wr.tag⟩, h.keep, ?_, h.defers, h.fext, h.fnew, h.cap, h.pin⟩
  show (a.tmps.setIfInBounds t v).size = N
  rw [Array.size_setIfInBounds]; exact h.size
def PureAt (P : Program) (k : FuncId) (ds : List D) (R : D → Prop) : Prop :=
 (∃ fn, P.funcs[k]? = some fn ∧ (fn.name == "runtime.NumGoroutine") = false ∧ fn.body.isNone = false) ∧
 ∀ (F : Reg) (w : World) (vs : Array Value), FB F w → vs.size = ds.length → (∀ (i : Nat) (d : D) (v : Value), ds[i]? = some d → vs[i]? = some v → RepF F w d v) →
  Calls P k vs w fun e w' => ∃ r v, e = .returned v ∧ R r ∧ RepF (fun b j => F b j ∨ (w.heap.size ≤ b ∧ b < w'.heap.size)) w' r v ∧ Keep (fun _ _ => False) w w'
theorem PureAt.mono {k : FuncId} {ds : List D} {R R' : D → Prop} (h : PureAt P k ds R) (hR : ∀ r, R r → R' r) : PureAt P k ds R' :=
 ⟨h.1, fun F w vs h1 h2 h3 => (h.2 F w vs h1 h2 h3).mono fun _ _ ⟨r, v, e1, e2, e3⟩ => ⟨r, v, e1, hR r e2, e3⟩⟩
def FreshAt (P : Program) (k : FuncId) (ds : List D) (e sz : Nat) (R : List (List D) → Prop) : Prop :=
 (∃ fn, P.funcs[k]? = some fn ∧ (fn.name == "runtime.NumGoroutine") = false ∧ fn.body.isNone = false) ∧
 ∀ (F : Reg) (w : World) (vs : Array Value), FB F w → vs.size = ds.length → (∀ (i : Nat) (d : D) (v : Value), ds[i]? = some d → vs[i]? = some v → RepF F w d v) →
  Calls P k vs w fun en w' => ∃ es v xs, en = .returned v ∧ R es ∧ w'.ownsRow 0 e sz v es.length xs ∧ (∀ u ∈ xs, u.oneCell' = true) ∧ (∀ b, v.ownBlock = some b → w.heap.size ≤ b) ∧ Keep (fun _ _ => False) w w' ∧
   (∀ (i : Nat) (l : List D), es[i]? = some l → l.length = sz) ∧
   ∀ (i : Nat) (l : List D) (j : Nat) (d : D), es[i]? = some l → l[j]? = some d → ∃ u, xs[i * sz + j]? = some u ∧ RepF (fun b j => F b j ∨ (w.heap.size ≤ b ∧ b < w'.heap.size ∧ v.ownBlock ≠ some b)) w' d u
theorem FreshAt.mono {k : FuncId} {ds : List D} {e sz : Nat} {R R' : List (List D) → Prop} (h : FreshAt P k ds e sz R) (hR : ∀ r, R r → R' r) : FreshAt P k ds e sz R' :=
 ⟨h.1, fun F w vs h1 h2 h3 => (h.2 F w vs h1 h2 h3).mono fun _ _ ⟨es, v, xs, e1, e2, e3⟩ => ⟨es, v, xs, e1, hR es e2, e3⟩⟩
def CopyAt (P : Program) (k : FuncId) (e sz n : Nat) : Prop :=
 (∃ fn, P.funcs[k]? = some fn ∧ (fn.name == "runtime.NumGoroutine") = false ∧ fn.body.isNone = false) ∧
 ∀ raw : List (List Value), raw.length = n → (∀ l ∈ raw, l.length = sz) → (∀ l ∈ raw, ∀ u ∈ l, u.oneCell' = true) → FreshAt P k [.sl none (raw.map fun l => l.map D.val)] e sz (· = raw.map fun l => l.map D.val)
def MutAt (P : Program) (k : FuncId) (e sz : Nat) (es : List (List D)) (ds : List D) (R : List (List D) → D → Prop) : Prop :=
 (∃ fn, P.funcs[k]? = some fn ∧ (fn.name == "runtime.NumGoroutine") = false ∧ fn.body.isNone = false) ∧
 ∀ (F : Reg) (w : World) (v : Value) (xs : List Value) (vs : Array Value), FB F w → w.ownsRow 0 e sz v es.length xs → (∀ u ∈ xs, u.oneCell' = true) → (∀ b, v.ownBlock = some b → ∀ j, ¬ F b j) →
  (∀ (i : Nat) (l : List D), es[i]? = some l → l.length = sz) → (∀ (i : Nat) (l : List D) (j : Nat) (d : D), es[i]? = some l → l[j]? = some d → ∃ u, xs[i * sz + j]? = some u ∧ RepF F w d u) →
  vs.size = ds.length → (∀ (i : Nat) (d : D) (v : Value), ds[i]? = some d → vs[i]? = some v → RepF F w d v) →
  Calls P k (#[v] ++ vs) w fun en w' => ∃ es' r u xs', en = .returned u ∧ R es' r ∧ RepF (fun b j => F b j ∨ (w.heap.size ≤ b ∧ b < w'.heap.size)) w' r u ∧ es'.length = es.length ∧ w'.ownsRow 0 e sz v es'.length xs' ∧
   (∀ u ∈ xs', u.oneCell' = true) ∧ Keep (fun b _ => v.ownBlock = some b) w w' ∧ (∀ (i : Nat) (l : List D), es'[i]? = some l → l.length = sz) ∧
   ∀ (i : Nat) (l : List D) (j : Nat) (d : D), es'[i]? = some l → l[j]? = some d → ∃ u, xs'[i * sz + j]? = some u ∧ RepF (fun b j => F b j ∨ (w.heap.size ≤ b ∧ b < w'.heap.size)) w' d u
theorem MutAt.mono {k : FuncId} {e sz : Nat} {es : List (List D)} {ds : List D} {R R' : List (List D) → D → Prop} (h : MutAt P k e sz es ds R) (hR : ∀ r d, R r d → R' r d) : MutAt P k e sz es ds R' :=
 ⟨h.1, fun F w v xs vs h1 h2 h3 h4 h5 h6 h7 h8 => (h.2 F w v xs vs h1 h2 h3 h4 h5 h6 h7 h8).mono fun _ _ ⟨es', r, u, xs', e1, e2, e3⟩ => ⟨es', r, u, xs', e1, hR es' r e2, e3⟩⟩
def TakeAt (P : Program) (k : FuncId) (e sz : Nat) (es : List (List D)) (ds : List D) (R : List (List D) → D → Prop) : Prop :=
 (∃ fn, P.funcs[k]? = some fn ∧ (fn.name == "runtime.NumGoroutine") = false ∧ fn.body.isNone = false) ∧
 ∀ (F : Reg) (w : World) (v : Value) (xs : List Value) (vs : Array Value), FB F w → w.ownsRow 0 e sz v es.length xs → (∀ u ∈ xs, u.oneCell' = true) → (∀ b, v.ownBlock = some b → ∀ j, ¬ F b j) →
  (∀ (i : Nat) (l : List D), es[i]? = some l → l.length = sz) → (∀ (i : Nat) (l : List D) (j : Nat) (d : D), es[i]? = some l → l[j]? = some d → ∃ u, xs[i * sz + j]? = some u ∧ RepF F w d u) →
  vs.size = ds.length → (∀ (i : Nat) (d : D) (v : Value), ds[i]? = some d → vs[i]? = some v → RepF F w d v) →
  Calls P k (#[v] ++ vs) w fun en w' => ∃ es' r u xs', en = .returned u ∧ R es' r ∧ RepF (fun b j => F b j ∨ (w.heap.size ≤ b ∧ b < w'.heap.size) ∨ (v.ownBlock = some b ∧ j < es'.length * sz)) w' r u ∧ es'.length = es.length ∧ w'.ownsRow 0 e sz v es'.length xs' ∧
   (∀ u ∈ xs', u.oneCell' = true) ∧ Keep (fun b _ => v.ownBlock = some b) w w' ∧ (∀ (i : Nat) (l : List D), es'[i]? = some l → l.length = sz) ∧
   ∀ (i : Nat) (l : List D) (j : Nat) (d : D), es'[i]? = some l → l[j]? = some d → ∃ u, xs'[i * sz + j]? = some u ∧ RepF (fun b j => F b j ∨ (w.heap.size ≤ b ∧ b < w'.heap.size)) w' d u
theorem TakeAt.mono {k : FuncId} {e sz : Nat} {es : List (List D)} {ds : List D} {R R' : List (List D) → D → Prop} (h : TakeAt P k e sz es ds R) (hR : ∀ r d, R r d → R' r d) : TakeAt P k e sz es ds R' :=
 ⟨h.1, fun F w v xs vs h1 h2 h3 h4 h5 h6 h7 h8 => (h.2 F w v xs vs h1 h2 h3 h4 h5 h6 h7 h8).mono fun _ _ ⟨es', r, u, xs', e1, e2, e3⟩ => ⟨es', r, u, xs', e1, hR es' r e2, e3⟩⟩
def ObjAt (P : Program) (k : FuncId) (S : St) (n : Nat) (R : D → List (Nat × List D) → List (Tag × Bool) → Prop) : Prop :=
 (∃ fn, P.funcs[k]? = some fn ∧ (fn.name == "runtime.NumGoroutine") = false ∧ fn.body.isNone = false) ∧
 ∀ (W : Reg) (w : World) (g : Gh) (vs : Array Value), vs.size = n → Core g S vs w → Wr w.heap.size W g S → (∀ t ti, 999999 ≤ t.1 → g.τ t ≠ some ti) →
  Calls P k vs w fun e w' => ∃ g' r v hp tg, e = .returned v ∧ R r hp tg ∧ Core g' ⟨[(0, r)], hp, tg⟩ #[v] w' ∧ Wr w.heap.size W g' ⟨[(0, r)], hp, tg⟩ ∧ Keep W w w' ∧ (∀ o cs, lkp o hp = some cs → cs ≠ []) ∧
   (∀ b k, g.F b k → g'.F b k) ∧ (∀ b k, g'.F b k → g.F b k ∨ w.heap.size ≤ b ∨ W b k) ∧ (∀ o b, 999999 ≤ o % mapB → g'.μ o = some b → g.μ o = some b)
theorem ObjAt.mono {k : FuncId} {S : St} {n : Nat} {R R' : D → List (Nat × List D) → List (Tag × Bool) → Prop} (h : ObjAt P k S n R) (hR : ∀ r hp tg, R r hp tg → R' r hp tg) : ObjAt P k S n R' :=
 ⟨h.1, fun W w g vs h1 h2 h3 h4 => (h.2 W w g vs h1 h2 h3 h4).mono fun _ _ ⟨g', r, v, hp, tg, e1, e2, e3⟩ => ⟨g', r, v, hp, tg, e1, hR _ _ _ e2, e3⟩⟩
def objP (P : Program) (L : Lend) (k : FuncId) (ds : List D) (dst : Option Nat) (S : St) (K : St → Prop) : Prop :=
 match lendA (L.ts.map (·.1)) ds with
 | some (as, sh) => match seenH S L.bs L.ts L.bs with
  | some hin => L.ok = true ∧ (L.ts.all fun x => S.tag x.1 == some true) = true ∧ (sh.all fun t => (S.tag t).isSome && notIn (L.ts.map (·.1)) t) = true ∧
      ObjAt P k ⟨num 0 (renL (fwd L.bs) (fwd L.ts) as), hin, L.ts.map fun x => (x.2, true)⟩ as.length fun r hp tg => K (((S.share sh).back L hp tg).put dst (r.ren (fwd L.bk) (fwd L.tk)))
  | none => False
 | none => False
def chunk (sz : Nat) : Nat → List D → List (List D)
 | 0, _ => []
 | n + 1, cs => cs.take sz :: chunk sz n (cs.drop sz)
def rept {α : Type} (xs : List α) : Nat → List α
 | 0 => []
 | n + 1 => xs ++ rept xs n
def exactD : Operand → D → D
 | .const v, _ => .val v
 | _, d => d
def exactL : List Operand → List D → List D
 | x :: xs, d :: ds => exactD x d :: exactL xs ds
 | _, ds => ds
def XOp.strip : XOp → MOp
 | .appP e sz bytes x y => .append e sz bytes x y
 | k => .xop k
def MOp.strip : MOp → MOp
 | .call f args _ => .call f args .pure
 | .alloc t z => .alloc t (z.map nilD)
 | .build z ps => .build (z.map nilD) ps
 | .xop k => k.strip
 | m => m
def stD (st : List Nat) : D := .tup (st.map fun (s : Nat) => D.val (goInt (s : Int)))
def xstep (k : XOp) (dst : Option Nat) (S : St) (K : St → Prop) : Prop :=
 match k with
 | .clr sz zero x => match look S x with
  | some (.part t lo n es) => S.tag t = some true ∧ t.2.2 = sz ∧ lo + n ≤ es.length ∧ zero.all D.one = true ∧ K ((S.remake t (es.take lo ++ List.replicate n zero ++ es.drop (lo + n))).put dst .undef)
  | _ => False
 | .mkmap => match dst with
  | some d => K ((S.newBox (mapB + d) [.mpc [], .undef, .undef]).put dst (.mh (mapB + d)))
  | none => False
 | .mget ks zero ok m k => match look S m, look S k with
  | some (.mh o), some kd => match S.box o with
   | some (.mpc es :: _) => o < itB ∧ (eqKey ks kd kd).isSome = true ∧ match findE ks kd es 0 with
    | some r => K (S.put dst (mres ok zero r))
    | none => False
   | _ => False
  | _, _ => False
 | .mput ks m k v => match look S m, look S k, look S v with
  | some (.mh o), some kd, some vd => match S.box o, frzL [vd] with
   | some [.mpc es, _, _], some [fd] => o < itB ∧ (eqKey ks kd kd).isSome = true ∧ (tagsL [vd]).all (fun t => (S.tag t).isSome) = true ∧ match findE ks kd es 0 with
    | some r => K (((S.share (tagsL [vd])).setBox o [.mpc (putE kd fd es r), .undef, .undef]).put dst .undef)
    | none => False
   | _, _ => False
  | _, _, _ => False
 | .mdel ks m k => match look S m, look S k with
  | some (.mh o), some kd => match S.box o with
   | some [.mpc es, _, _] => o < itB ∧ (eqKey ks kd kd).isSome = true ∧ match findE ks kd es 0 with
    | some r => K ((S.setBox o [.mpc (delE0 es r), .undef, .undef]).put dst .undef)
    | none => False
   | _ => False
  | _, _ => False
 | .mlen m => match look S m with
  | some (.mh o) => match S.box o with
   | some (.mpc es :: _) => o < itB ∧ K (S.put dst (.val (.int .i64 es.length)))
   | _ => False
  | _ => False
 | .isnilI neg x => match look S x with
  | some (.val .nilIface) => K (S.put dst (.val (.bool (!neg))))
  | some (.val (.iface _ _)) => K (S.put dst (.val (.bool neg)))
  | _ => False
 | .mrange m => match look S m, dst with
  | some (.mh o), some d => match S.box o with
   | some [.mpc es, _, _] => o < itB ∧ ∀ (st : List Nat) (c : Nat), st.length = es.length → st.Nodup → K (((S.setBox o [.mpc es, stD st, .val (goInt (c : Int))]).newBox (itB + d) [.mh o, stD [], .val (goInt (c : Int)), .val (goInt (c : Int))]).put dst (.mh (itB + d)))
   | _ => False
  | _, _ => False
 | .mnext it => match look S it with
  | some (.mh i) => ∃ (o c : Nat) (es : List (List D)) (seen st : List Nat), itB ≤ i ∧ o < itB ∧ S.box i = some [.mh o, stD seen, .val (goInt (c : Int)), .val (goInt (c : Int))] ∧ S.box o = some [.mpc es, stD st, .val (goInt (c : Int))] ∧
      ((∀ s ∈ st, s ∈ seen) → K (S.put dst (.tup [.val (.bool false)]))) ∧
      ∀ (j : Nat) (s : Nat), j < es.length → st[j]? = some s → s ∉ seen → K ((S.setBox i [.mh o, stD (seen ++ [s]), .val (goInt (c : Int)), .val (goInt (c : Int))]).put dst (.tup [.val (.bool true), .undef, .undef]))
  | _ => False
 | .mentry it => match look S it with
  | some (.mh i) => ∃ (o c : Nat) (es : List (List D)) (seen st : List Nat) (j s : Nat) (r : List D), itB ≤ i ∧ o < itB ∧ S.box i = some [.mh o, stD (seen ++ [s]), .val (goInt (c : Int)), .val (goInt (c : Int))] ∧ S.box o = some [.mpc es, stD st, .val (goInt (c : Int))] ∧
      st[j]? = some s ∧ es[j]? = some r ∧ st.Nodup ∧ K (S.put dst (.tup r))
  | _ => False
 | .slc3 _ x lo hi mx => match look S x with
  | some (.sl tag es) => tag.all (fun t => (S.tag t).isSome) = true ∧ ∃ m h l, boundD S 0 es.length (some mx) = some m ∧ hi.isSome = true ∧ boundD S 0 m hi = some h ∧ boundD S 0 h lo = some l ∧ K (S.put dst .undef)
  | _ => False
 | .appP e sz _ x y => match look S x, look S y with
  | some (.part t lo i es), some (.part t2 j n es2) => t2 = t ∧ lo = 0 ∧ S.tag t = some true ∧ t.2 = (e, sz) ∧ 0 < es.length ∧ i + n ≤ es.length ∧ j + n ≤ es.length ∧
      K ((S.remake t (es.take i ++ (es2.drop j).take n ++ es.drop (i + n))).put dst (.part t 0 (i + n) (es.take i ++ (es2.drop j).take n ++ es.drop (i + n))))
  | _, _ => False
theorem xstep_mono {k : XOp} {dst : Option Nat} {L L' : St → Prop} (h : xstep k dst S L) (hL : ∀ S', L S' → L' S') : xstep k dst S L' := by
 cases k <;> simp only [xstep] at h ⊢
 case clr sz zero x =>
  split at h
  ·exact ⟨h.1, h.2.1, h.2.2.1, h.2.2.2.1, hL _ h.2.2.2.2⟩
  ·exact h.elim
 case mkmap =>
  split at h
  ·exact hL _ h
  ·exact h.elim
 case mget =>
  split at h
  ·split at h
   ·refine ⟨h.1, h.2.1, ?_⟩
    have h3 := h.2.2
    split at h3
    ·exact hL _ h3
    ·exact h3.elim
   ·exact h.elim
  ·exact h.elim
 case mput =>
  split at h
  ·split at h
   ·refine ⟨h.1, h.2.1, h.2.2.1, ?_⟩
    have h3 := h.2.2.2
    split at h3
    ·exact hL _ h3
    ·exact h3.elim
   ·exact h.elim
  ·exact h.elim
 case mdel =>
  split at h
  ·split at h
   ·refine ⟨h.1, h.2.1, ?_⟩
    have h3 := h.2.2
    split at h3
    ·exact hL _ h3
    ·exact h3.elim
   ·exact h.elim
  ·exact h.elim
 case mlen =>
  split at h
  ·split at h
   ·exact ⟨h.1, hL _ h.2⟩
   ·exact h.elim
  ·exact h.elim
 case isnilI =>
  split at h
  ·exact hL _ h
  ·exact hL _ h
  ·exact h.elim
 case mrange =>
  split at h
  ·split at h
   ·exact ⟨h.1, fun st c h1 h2 => hL _ (h.2 st c h1 h2)⟩
   ·exact h.elim
  ·exact h.elim
 case mnext =>
  split at h
  ·obtain ⟨o, c, es, seen, st, h1, h2, h3, h4, h5, h6⟩ := h
   exact ⟨o, c, es, seen, st, h1, h2, h3, h4, fun h => hL _ (h5 h), fun j s a b c => hL _ (h6 j s a b c)⟩
  ·exact h.elim
 case mentry =>
  split at h
  ·obtain ⟨o, c, es, seen, st, j, s, r, h1, h2, h3, h4, h5, h6, h7, h8⟩ := h
   exact ⟨o, c, es, seen, st, j, s, r, h1, h2, h3, h4, h5, h6, h7, hL _ h8⟩
  ·exact h.elim
 case slc3 =>
  split at h
  ·obtain ⟨h0, m, q, l, h1, h2, h3, h4, h5⟩ := h
   exact ⟨h0, m, q, l, h1, h2, h3, h4, hL _ h5⟩
  ·exact h.elim
 case appP =>
  split at h
  ·exact ⟨h.1, h.2.1, h.2.2.1, h.2.2.2.1, h.2.2.2.2.1, h.2.2.2.2.2.1, h.2.2.2.2.2.2.1, hL _ h.2.2.2.2.2.2.2⟩
  ·exact h.elim
def vstep (P : Program) (m : MOp) (dst : Option Nat) (S : St) (K : St → Prop) : Prop :=
 match m with
 | .nilsl e sz => match dst with
  | some d => K ((S.newTag (d, e, sz) true).put dst (.sl (some (d, e, sz)) []))
  | none => False
 | .alloc _ zero => match dst with
  | some d => K ((S.newBox d (zero.map (D.keep (fun y => decide (y ≠ d)) fun _ => true))).put dst (.ptr d 0))
  | none => False
 | .box _ sz x => match dst, look S x with
  | some d, some v => match v.cl with
   | some ds => ds.length = sz ∧ K ((S.newBox d (ds.map (D.keep (fun y => decide (y ≠ d)) fun _ => true))).put dst (.ptr d 0))
   | none => False
  | _, _ => False
 | .bslice e sz zero len parts => match dst, fillD S (rept zero len) parts with
  | some d, some cs => match frzL cs with
   | some fs => (tagsL cs).all (fun t => (S.tag t).isSome) = true ∧ fs.all D.one = true ∧ K (((S.share (tagsL cs)).newTag (d, e, sz) true).put dst (.sl (some (d, e, sz)) (chunk sz len fs)))
   | none => False
  | _, _ => False
 | .store sz x v => match look S x, look S v with
  | some (.ptr o off), some d => match S.box o, d.cl with
   | some cs, some ds => ds.length = sz ∧ off + sz ≤ cs.length ∧ K (S.setBox o (putCells cs off ds))
   | _, _ => False
  | some (.rp (some (t, i)) cs off), some d => match d.cl with
   | some ds => match frzL ds with
    | some fs => S.tag t = some true ∧ ds.length = sz ∧ off + sz ≤ cs.length ∧ (tagsL ds).all (fun t' => (S.tag t').isSome && decide (t' ≠ t)) = true ∧ K ((S.share (tagsL ds)).upd t i off fs)
    | none => False
   | none => False
  | _, _ => False
 | .append e sz bytes x y => match look S x, look S y with
  | some (.sl (some t) es), some (.sl tag ys) => t.2 = (e, sz) ∧ Nat.ble t.1 999998 = true ∧ (S.tag t).isSome = true ∧ tag.all (fun t' => (S.tag t').isSome) = true ∧ (∀ e ∈ es, e.length = sz) ∧ (∀ y ∈ ys, y.length = sz) ∧ es.length + ys.length ≤ 140737488355328 ∧
      (es.length + ys.length) * bytes ≤ 140737488355328 ∧ K ((S.only (fun _ => true) (fun y => decide (y ≠ t))).put dst (.sl (some t) (es ++ ys)))
  | _, _ => False
 | .call f args md => match look S f, looks S args with
  | some (.fn k first caps), some ds => match md with
   | .pure => match frzL (first ++ ds ++ caps) with
    | some fs => (tagsL (first ++ ds ++ caps)).all (fun t => (S.tag t).isSome) = true ∧ PureAt P k fs fun r => K ((S.share (tagsL (first ++ ds ++ caps))).put dst r)
    | none => False
   | .fresh e sz => match dst, frzL (first ++ ds ++ caps) with
    | some d, some fs => (tagsL (first ++ ds ++ caps)).all (fun t => (S.tag t).isSome) = true ∧
        FreshAt P k fs e sz fun es => K (((S.share (tagsL (first ++ ds ++ caps))).newTag (d, e, sz) true).put dst (.sl (some (d, e, sz)) es))
    | _, _ => False
   | .freshV e sz => match dst, frzL (first ++ exactL args ds ++ caps) with
    | some d, some fs => (tagsL (first ++ exactL args ds ++ caps)).all (fun t => (S.tag t).isSome) = true ∧
        FreshAt P k fs e sz fun es => K (((S.share (tagsL (first ++ exactL args ds ++ caps))).newTag (d, e, sz) true).put dst (.sl (some (d, e, sz)) es))
    | _, _ => False
   | .turn => match first ++ ds ++ caps with
    | .sl (some t) es :: rest => match frzL rest with
     | some fs => S.tag t = some true ∧ (tagsL rest).all (fun t' => (S.tag t').isSome && decide (t' ≠ t)) = true ∧
         MutAt P k t.2.1 t.2.2 es fs fun es' r => K (((S.share (tagsL rest)).remake t es').put dst r)
     | none => False
    | _ => False
   | .take => match first ++ ds ++ caps with
    | .sl (some t) es :: rest => match frzL rest with
     | some fs => S.tag t = some true ∧ (tagsL rest).all (fun t' => (S.tag t').isSome && decide (t' ≠ t)) = true ∧
         TakeAt P k t.2.1 t.2.2 es fs fun es' r => K ((((S.share (tagsL rest)).remake t es').share [t]).put dst r)
     | none => False
    | _ => False
   | .lend => match frzL (first ++ ds ++ caps) with
    | some fs => (tagsL (first ++ ds ++ caps)).all (fun t => (S.tag t).isSome) = true ∧ PureAt P k fs fun r => r.plain = true ∧ K (S.put dst r)
    | none => False
   | .obj bs ts nb nt => objP P ⟨bs, ts, nb, nt⟩ k (first ++ ds ++ caps) dst S K
   | .copy e sz => match dst, first ++ ds ++ caps with
    | some d, [.sl (some t) es] => t.2 = (e, sz) ∧ (S.tag t).isSome = true ∧ CopyAt P k e sz es.length ∧ K ((S.newTag (d, e, sz) true).put dst (.sl (some (d, e, sz)) es))
    | _, _ => False
  | _, _ => False
 | .isnil neg x => match look S x with
  | some (.sl tag es) => tag.all (fun t => (S.tag t).isSome) = true ∧ ∀ b, (b = true → es = []) → K (S.put dst (.val (.bool (b != neg))))
  | _ => False
 | .xop k => xstep k dst S K
 | m => match pop S m with
  | some d => K (S.put dst d)
  | none => False
theorem comp_alloc {o : Oper} {t : TypeId} {z : List D} (h : compOp P o = some (.alloc t z)) : o.op = .alloc t ∧ ∃ i zv, P.info? t = some i ∧ i.zero = some zv ∧ z = zeroD zv := by
 obtain ⟨dst, op, type, pos, after, guard⟩ := o
 cases op <;> simp only [compOp] at h <;> (repeat' (split at h)) <;> first
  | (cases h; done)
  | (injection h with h; injection h with h1 h2; subst h1; subst h2; exact ⟨rfl, _, _, by assumption, by assumption, rfl⟩)
  | (unfold compB at h; (repeat' (split at h)) <;> cases h)
theorem comp_box {o : Oper} {t : TypeId} {sz : Nat} {x : Operand} (h : compOp P o = some (.box t sz x)) : o.op = .box t x ∧ ∃ i, P.info? t = some i ∧ i.size = sz := by
 obtain ⟨dst, op, type, pos, after, guard⟩ := o
 cases op <;> simp only [compOp] at h <;> (repeat' (split at h)) <;> first
  | (cases h; done)
  | (injection h with h; injection h with h1 h2 h3; subst h1; subst h2; subst h3; exact ⟨rfl, _, by assumption, rfl⟩)
  | (unfold compB at h; (repeat' (split at h)) <;> cases h)
theorem isNil_eq {x : Operand} (h : isNilSl x = true) : x = .const (.slice none 0 0) := by
 unfold isNilSl at h
 split at h
 ·rfl
 ·cases h
theorem comp_nilsl {o : Oper} {e sz : Nat} (h : compOp P o = some (.nilsl e sz)) : o.op = .assign (.const (.slice none 0 0)) := by
 obtain ⟨dst, op, type, pos, after, guard⟩ := o
 cases op <;> simp only [compOp] at h <;> (repeat' (split at h)) <;> first
  | (cases h; done)
  | exact congrArg Op.assign (isNil_eq (by assumption))
  | (unfold compB at h; (repeat' (split at h)) <;> cases h)
theorem comp_store {o : Oper} {sz : Nat} {x v : Operand} (h : compOp P o = some (.store sz x v)) : ∃ t i, o.op = .store t x v ∧ P.info? t = some i ∧ i.size = sz := by
 obtain ⟨dst, op, type, pos, after, guard⟩ := o
 cases op <;> simp only [compOp] at h <;> (repeat' (split at h)) <;> first
  | (cases h; done)
  | (injection h with h; injection h with h1 h2 h3; subst h1; subst h2; subst h3; exact ⟨_, _, rfl, by assumption, rfl⟩)
  | (unfold compB at h; (repeat' (split at h)) <;> cases h)
theorem comp_bslice {o : Oper} {e sz len : Nat} {z : List D} {ps : List (Nat × Nat × Operand)} (h : compOp P o = some (.bslice e sz z len ps)) : ∃ t parts i zv, o.op = .buildSlice t len parts ∧ P.underlying t = some (.slice e) ∧ P.info? e = some i ∧ i.zero = some zv ∧
    i.size = sz ∧ 0 < i.size ∧ zv.cells.size = i.size ∧ len * i.size ≤ 2 ^ 24 ∧ z = zeroD zv ∧ ps = parts.toList.map fun p => (p.1 * i.size, i.size, p.2) := by
 obtain ⟨dst, op, type, pos, after, guard⟩ := o
 cases op <;> simp only [compOp] at h <;> (repeat' (split at h)) <;> first
  | (cases h; done)
  | (rename_i hc; injection h with h; injection h with h1 h2 h3 h4 h5; subst h1; subst h2; subst h3; subst h4; subst h5; exact ⟨_, _, _, _, rfl, by assumption, by assumption, by assumption, rfl, hc.1, hc.2.1, hc.2.2, rfl, rfl⟩)
  | (unfold compB at h; (repeat' (split at h)) <;> cases h)
theorem comp_append {o : Oper} {e sz bytes : Nat} {x y : Operand} (h : compOp P o = some (.append e sz bytes x y)) : ∃ t i zv, o.op = .call { callee := .builtin .append, args := #[x, y], argTypes := #[t, t] } ∧ P.underlying t = some (.slice e) ∧ P.info? e = some i ∧ i.zero = some zv ∧
    i.size = sz ∧ i.bytes = bytes ∧ 0 < i.size ∧ zv.cells.size = i.size := by
 obtain ⟨dst, op, type, pos, after, guard⟩ := o
 cases op
 case call c =>
  obtain ⟨callee, ⟨args⟩, ⟨ts⟩⟩ := c
  cases callee <;> simp only [compOp] at h <;> try (cases h; done)
  rename_i b
  cases b <;> simp only [compB] at h <;> (try (cases h; done)) <;> (repeat' (split at h)) <;> try (cases h; done)
  rename_i hc
  rename_i htu _ _ _ _ _ _ _ _ _
  subst htu
  injection h with h; injection h with h1 h2 h3 h4 h5
  subst h1; subst h2; subst h3; subst h4; subst h5
  exact ⟨_, _, _, rfl, by assumption, by assumption, by assumption, rfl, rfl, hc.1, hc.2⟩
 all_goals (simp only [compOp] at h; (repeat' (split at h)) <;> cases h)
theorem comp_isnil {o : Oper} {neg : Bool} {x : Operand} (h : compOp P o = some (.isnil neg x)) : ∃ op t e yt, o.op = .binOp op t x (.const (.slice none 0 0)) yt ∧ P.underlying t = some (.slice e) ∧ ((op = .eql ∧ neg = false) ∨ (op = .neq ∧ neg = true)) := by
 obtain ⟨dst, op, type, pos, after, guard⟩ := o
 cases op <;> simp only [compOp] at h <;> (repeat' (split at h)) <;> first
  | (cases h; done)
  | (rename_i hu hy _; injection h with h; injection h with h1 h2; subst h1; subst h2; exact ⟨_, _, _, _, congrArg (Op.binOp _ _ _ · _) (isNil_eq hy), hu, .inl ⟨rfl, rfl⟩⟩)
  | (rename_i hu hy _; injection h with h; injection h with h1 h2; subst h1; subst h2; exact ⟨_, _, _, _, congrArg (Op.binOp _ _ _ · _) (isNil_eq hy), hu, .inr ⟨rfl, rfl⟩⟩)
  | (unfold compB at h; (repeat' (split at h)) <;> cases h)
theorem comp_call {o : Oper} {f : Operand} {args : List Operand} {md : CM} (h : compOp P o = some (.call f args md)) : ∃ c : Call, o.op = .call c ∧ c.callee = .value f ∧ c.args.toList = args := by
 obtain ⟨dst, op, type, pos, after, guard⟩ := o
 cases op <;> simp only [compOp] at h <;> (repeat' (split at h)) <;> first
  | (cases h; done)
  | (injection h with h; injection h with h1 h2 h3; subst h1; subst h2; exact ⟨_, rfl, by assumption, rfl⟩)
  | (unfold compB at h; (repeat' (split at h)) <;> cases h)
theorem SR.later (h : SR w0 W F0 V N g S a w) {S' : St} {g' : Gh} (hc : Core g' S' a.tmps w') (hw : Wr w0.heap.size W g' S') {W' : Reg} (hk : Keep W' w w') (hW : ∀ b k, b < w0.heap.size → W' b k → W b k)
    (hf : ∀ b k, g.F b k → g'.F b k) (hn : ∀ b k, g'.F b k → g.F b k ∨ w0.heap.size ≤ b ∨ W b k) (hp : ∀ t ti, 999999 ≤ t.1 → g'.τ t = some ti → ∃ ti0, g.τ t = some ti0 ∧ ti0.v = ti.v) (hq : ∀ o b, 999999 ≤ o % mapB → g'.μ o = some b → g.μ o = some b := by exact fun _ _ _ h => h) : SR w0 W F0 V N g' S' a w' := by
 refine ⟨hc, hw, h.keep.trans hk hW, h.size, h.defers, fun b k hF => hf b k (h.fext b k hF), fun b k hF => ?_, h.cap, ⟨fun t ti ht hti => by obtain ⟨ti0, h1, h2⟩ := hp t ti ht hti; rw [← h2]; exact h.pin.1 t ti0 ht h1, fun o b ho hb => h.pin.2 o b ho (hq o b ho hb)⟩⟩
 rcases hn b k hF with h1 | h1
 ·exact h.fnew b k h1
 ·exact .inr h1
theorem SR.le (h : SR w0 W F0 V N g S a w) : w0.heap.size ≤ w.heap.size := h.keep.size
theorem SR.share (h : SR w0 W F0 V N g S a w) (ts : List Tag) : SR w0 W F0 V N { g with F := shareF g S ts } (S.share ts) a w := by
 refine h.later (h.core.share ts) ⟨h.wr.box, fun t x ti b ht hti hb => ?_⟩ (Keep.refl (fun _ _ => False) w) (fun _ _ _ h => h.elim) (fun _ _ h => .inl h) (fun b k hF => ?_) (fun t ti _ h => ⟨ti, h, rfl⟩)
 ·rw [share_tag] at ht
  obtain ⟨x0, h1, _⟩ := Option.map_eq_some_iff.1 ht
  exact h.wr.tag t x0 ti b h1 hti hb
 ·rcases hF with hF | ⟨t, _, x, ti, h1, h2, h3, _⟩
  ·exact .inl hF
  ·rcases h.wr.tag t x ti b h1 h2 h3 with h4 | h4
   ·exact .inr (.inl h4)
   ·exact .inr (.inr (h4 k))
theorem SR.newRow (h : SR w0 W F0 V N g S a w) (t : Tag) (ti : TI) (hty : ti.e = t.2.1 ∧ ti.sz = t.2.2) (hk : Keep (fun _ _ => False) w w') (hheap : ∀ (b : Nat) (o : Obj), w.heap[b]? = some o → w'.heap[b]? = some o)
    (hown : w'.ownsRow 0 ti.e ti.sz ti.v ti.n ti.xs) (hone : ∀ u ∈ ti.xs, u.oneCell' = true) (hnew : ∀ b, ti.v.ownBlock = some b → w.heap.size ≤ b) (hpt : 999999 ≤ t.1 → ∃ ti0, g.τ t = some ti0 ∧ ti0.v = ti.v) :
    SR w0 W F0 V N { g with τ := fun t' => if t' = t then some ti else g.τ t' } (S.newTag t true) a w' := by
 refine h.later (h.core.newRow t ti hty hheap hk.size hown hone hnew) ⟨fun o cs b k i hb hμ hi => ?_, fun t' x ti' b ht hti hb => ?_⟩ hk (fun _ _ _ h => h.elim) (fun _ _ h => h) (fun _ _ h => .inl h) (fun t' ti2 hge hti => by
  simp only at hti
  split at hti
  ·rename_i he; subst he; injection hti with hti; subst hti; exact hpt hge
  ·exact ⟨ti2, hti, rfl⟩)
 ·have hb' : (S.only (fun _ => true) (fun y => decide (y ≠ t))).box o = some cs := hb
  rw [only_box] at hb'
  obtain ⟨c0, h1, rfl⟩ := Option.map_eq_some_iff.1 hb'
  exact h.wr.box o c0 b k i h1 hμ (by simpa using hi)
 ·rw [newTag_tag] at ht
  split at ht
  ·rename_i he; subst he
   simp only [if_pos, Option.some.injEq] at hti
   subst hti
   have := hnew b hb
   have := h.le
   exact .inl (by omega)
  ·rename_i hne
   simp only [if_neg hne] at hti
   exact h.wr.tag t' x ti' b ht hti hb
theorem SR.newRowU (h : SR w0 W F0 V N g S a w) (t : Tag) (ti : TI) (F' : Reg) (hty : ti.e = t.2.1 ∧ ti.sz = t.2.2) (hk : Keep (fun b _ => Own g S t b) w w')
    (hown : w'.ownsRow 0 ti.e ti.sz ti.v ti.n ti.xs) (hone : ∀ u ∈ ti.xs, u.oneCell' = true) (hnew : ∀ b, ti.v.ownBlock = some b → w.heap.size ≤ b ∨ Own g S t b)
    (hFF : ∀ b k, g.F b k → F' b k) (hFn : ∀ b k, F' b k → g.F b k ∨ (w.heap.size ≤ b ∧ b < w'.heap.size ∧ ti.v.ownBlock ≠ some b)) (hpt : 999999 ≤ t.1 → ∃ ti0, g.τ t = some ti0 ∧ ti0.v = ti.v) :
    SR w0 W F0 V N { g with τ := fun t' => if t' = t then some ti else g.τ t', F := F' } (S.newTag t true) a w' := by
 have hheap : ∀ (b : Nat) (o : Obj), ¬ Own g S t b → w.heap[b]? = some o → w'.heap[b]? = some o := fun b o hno hb => by
  rcases hk.block b o hb with h1 | ⟨vs, vs', e, rfl, h2, h3, h4⟩ | ⟨-, h2, -⟩
  ·exact h1
  ·have : vs' = vs := Array.ext_getElem? (fun j => h4 j hno)
   rw [h2, this]
  ·exact absurd h2 hno
 have own : ∀ b, Own g S t b → w0.heap.size ≤ b ∨ ∀ i, W b i := fun b ⟨h1, ti0, h2, h3⟩ => h.wr.tag t true ti0 b h1 h2 h3
 refine h.later (h.core.newRowU t ti F' hty hheap hk.size hown hone hnew hFF hFn) ⟨fun o cs b k i hb hμ hi => ?_, fun t' x ti' b ht hti hb => ?_⟩ hk (fun b k hlt ho => by
  rcases own b ho with h1 | h1
  ·omega
  ·exact h1 k) hFF (fun b k hF => by
  rcases hFn b k hF with h1 | h1
  ·exact .inl h1
  ·have := h.le
   exact .inr (.inl (by omega))) (fun t' ti2 hge hti => by
  simp only at hti
  split at hti
  ·rename_i he; subst he; injection hti with hti; subst hti; exact hpt hge
  ·exact ⟨ti2, hti, rfl⟩)
 ·have hb' : (S.only (fun _ => true) (fun y => decide (y ≠ t))).box o = some cs := hb
  rw [only_box] at hb'
  obtain ⟨c0, h1, rfl⟩ := Option.map_eq_some_iff.1 hb'
  exact h.wr.box o c0 b k i h1 hμ (by simpa using hi)
 ·rw [newTag_tag] at ht
  split at ht
  ·rename_i he; subst he
   simp only [if_pos, Option.some.injEq] at hti
   subst hti
   rcases hnew b hb with h1 | h1
   ·have := h.le
    exact .inl (by omega)
   ·exact own b h1
  ·rename_i hne
   simp only [if_neg hne] at hti
   exact h.wr.tag t' x ti' b ht hti hb
theorem SR.newBox (h : SR w0 W F0 V N g S a w) (o : Nat) (cs : List D) (vs : Array Value) (e : TypeId) (hc : Cells g w cs vs) (ho : o < 999999) :
    SR w0 W F0 V N { g with μ := fun o' => if o' = o then some (w.heap.size, 0) else g.μ o' } (S.newBox o (cs.map (D.keep (fun y => decide (y ≠ o)) fun _ => true))) a (w.alloc (.cells vs e (0, 0))) := by
 refine h.later (h.core.newBox o cs vs e hc (Nat.lt_of_lt_of_le ho (by decide))) ⟨fun o' c b k i hb hμ hi => ?_, h.wr.tag⟩ (Keep.alloc (fun _ _ => False) w _) (fun _ _ _ h => h.elim) (fun _ _ h => h) (fun _ _ h => .inl h) (fun t ti _ h => ⟨ti, h, rfl⟩) (fun o' b ho' hb => by
  have : o' ≠ o := by unfold mapB at ho'; omega
  simp only [if_neg this] at hb; exact hb)
 rw [newBox_box] at hb
 split at hb
 ·rename_i he; subst he
  simp only [if_pos, Option.some.injEq, Prod.mk.injEq] at hμ
  have := h.le
  exact .inl (by omega)
 ·rename_i hne
  simp only [if_neg hne] at hμ
  obtain ⟨c0, h1, rfl⟩ := Option.map_eq_some_iff.1 hb
  exact h.wr.box o' c0 b k i h1 hμ (by simpa using hi)
theorem so_nilsl (h : SR w0 W F0 V N g S a w) {o : Oper} {e sz : Nat} {Q : Exit → Act → World → Prop} (hc : compOp P o = some (.nilsl e sz)) (hd : ∀ t, o.dst = some t → t < N) (hv : vstep P (.nilsl e sz) o.dst S K) :
    o.wp P a w (fun a' w' => ∃ g' S', SR w0 W F0 V N g' S' a' w' ∧ K S') Q := by
 have ho := comp_nilsl hc
 unfold Oper.wp
 simp only [execOp, ho, Sem.run_pure, Oper.upon_value]
 simp only [vstep] at hv
 split at hv
 ·rename_i d hdst
  have h1 := h.newRow (w' := w) (d, e, sz) { v := .slice none 0 0, e := e, sz := sz, n := 0, xs := [], shape := .inl ⟨rfl, rfl⟩ } ⟨rfl, rfl⟩ (Keep.refl _ w) (fun _ _ h => h) (World.ownsRow_nil w 0 e sz) (by simp) (fun b hb => by simp [Value.ownBlock] at hb) (fun hge => absurd hge (Nat.not_le.2 (Nat.lt_of_lt_of_le (hd d hdst) h.cap)))
  refine ⟨_, _, h1.put hd ?_, hv⟩
  exact Rep.slT (d, e, sz) [] { v := .slice none 0 0, e := e, sz := sz, n := 0, xs := [], shape := .inl ⟨rfl, rfl⟩ } (if_pos rfl) rfl (fun i e h => by simp at h) (fun i e j d h => by simp at h)
 ·exact hv.elim
theorem so_alloc (h : SR w0 W F0 V N g S a w) {o : Oper} {t : TypeId} {z : List D} {Q : Exit → Act → World → Prop} (hc : compOp P o = some (.alloc t (z.map nilD))) (hd : ∀ t, o.dst = some t → t < N) (hv : vstep P (.alloc t z) o.dst S K) :
    o.wp P a w (fun a' w' => ∃ g' S', SR w0 W F0 V N g' S' a' w' ∧ K S') Q := by
 obtain ⟨ho, i, zv, hi, hz, hzz⟩ := comp_alloc hc
 have hrun : (execOp a.eval o).run P w = .ok (.value (.pointer (some ⟨w.heap.size, 0, none⟩))) (w.alloc (.cells zv.cells t (0, 0))) := by
  simp [execOp, ho, Instr.alloc, zeroValue, typeInfo, hi, hz, newVar, newRow]
 unfold Oper.wp
 rw [hrun, Oper.upon_value]
 simp only [vstep] at hv
 split at hv
 ·rename_i d hdst
  have h1 := h.newBox d z zv.cells t (zero_cells' hzz) (Nat.lt_of_lt_of_le (hd d hdst) h.cap)
  refine ⟨_, _, h1.put hd ?_, hv⟩
  exact Rep.ptr d 0 w.heap.size 0 (if_pos rfl) (Nat.lt_of_lt_of_le (Nat.lt_of_lt_of_le (hd d hdst) h.cap) (by decide))
 ·exact hv.elim
theorem so_box (h : SR w0 W F0 V N g S a w) {o : Oper} {t : TypeId} {sz : Nat} {x : Operand} {Q : Exit → Act → World → Prop} (hc : compOp P o = some (.box t sz x)) (hd : ∀ t, o.dst = some t → t < N) (hv : vstep P (.box t sz x) o.dst S K) :
    o.wp P a w (fun a' w' => ∃ g' S', SR w0 W F0 V N g' S' a' w' ∧ K S') Q := by
 obtain ⟨ho, i, hi, rfl⟩ := comp_box hc
 have hrun : (execOp a.eval o).run P w = .ok (.value (.pointer (some ⟨w.heap.size, 0, none⟩))) (w.alloc (.cells (a.eval x).cells t (0, 0))) := by
  simp [execOp, ho, Instr.box, newVar, newRow]
 unfold Oper.wp
 rw [hrun, Oper.upon_value]
 simp only [vstep] at hv
 split at hv
 ·rename_i d v hdst hx
  split at hv
  ·rename_i ds hcl
   obtain ⟨c1, c2, c3, c4⟩ := cl_sound hcl (h.core.look hx)
   have h1 := h.newBox d ds (a.eval x).cells t ⟨c1, c2⟩ (Nat.lt_of_lt_of_le (hd d hdst) h.cap)
   refine ⟨_, _, h1.put hd ?_, hv.2⟩
   exact Rep.ptr d 0 w.heap.size 0 (if_pos rfl) (Nat.lt_of_lt_of_le (Nat.lt_of_lt_of_le (hd d hdst) h.cap) (by decide))
  ·exact hv.elim
 ·exact hv.elim
theorem live_all {S : St} {ts : List Tag} (h : ts.all (fun t => (S.tag t).isSome) = true) : ∀ t ∈ ts, ∃ x, S.tag t = some x := fun t ht => Option.isSome_iff_exists.1 (List.all_eq_true.1 h t ht)
end Go.Vm
