/- A part of the proof; what is proved stands in the last text. -/
import Derived.Test.YtaoppmjidjdgdaaGreatVD
import Derived.Great.BuildSlice
import Derived.MapKept
import Derived.Maps.RangeRun
import Derived.Still
set_option linter.unusedVariables false
set_option maxRecDepth 2000
namespace Go.Vm
open Go.RowKit
variable {P : Program} {w0 w w' : World} {W F0 : Reg} {V : Pins} {N : Nat} {g g' : Gh} {S : St} {a : Act} {tm : Array Value} {K : St → Prop}
theorem rept_get {α : Type} (xs : List α) (h0 : 0 < xs.length) : ∀ (n i : Nat), i < n * xs.length → (rept xs n)[i]? = xs[i % xs.length]?
 | 0, i, h => by omega
 | n + 1, i, h => by
  simp only [rept]
  by_cases hi : i < xs.length
  ·rw [List.getElem?_append_left hi, Nat.mod_eq_of_lt hi]
  ·rw [Nat.succ_mul] at h
   rw [List.getElem?_append_right (by omega), rept_get xs h0 n _ (by omega), ← Nat.mod_eq_sub_mod (by omega)]
theorem rept_length {α : Type} (xs : List α) : ∀ n, (rept xs n).length = n * xs.length
 | 0 => by simp [rept]
 | n + 1 => by simp [rept, rept_length xs n, Nat.succ_mul, Nat.add_comm]
theorem rept_cells (z : Value) (h0 : 0 < z.cells.size) (len : Nat) : Cells g w (rept (zeroD z) len) ((Array.range (len * z.cells.size)).map (z.cells[· % z.cells.size]!)) := by
 have hz := zero_cells (g := g) (w := w) z
 have hzl : (zeroD z).length = z.cells.size := hz.1.symm
 refine ⟨by rw [rept_length, hzl]; simp, fun i d v hd hv => ?_⟩
 have hi : i < len * z.cells.size := by
  have := (List.getElem?_eq_some_iff.1 hd).1
  rwa [rept_length, hzl] at this
 rw [rept_get _ (by omega) _ _ (by rw [hzl]; exact hi), hzl] at hd
 rw [Array.getElem?_map] at hv
 obtain ⟨j, hj, rfl⟩ := Option.map_eq_some_iff.1 hv
 have : j = i := by
  have h1 : (Array.range (len * z.cells.size))[i]? = some i := by simp [hi]
  rw [h1] at hj; injection hj with hj; exact hj.symm
 subst this
 have hm : j % z.cells.size < z.cells.size := Nat.mod_lt _ h0
 refine hz.2 (j % z.cells.size) d _ hd ?_
 simp [hm]
theorem chunk_length (sz : Nat) : ∀ (n : Nat) (cs : List D), (chunk sz n cs).length = n
 | 0, _ => rfl
 | n + 1, cs => by simp [chunk, chunk_length sz n]
theorem chunk_get (sz : Nat) : ∀ (n : Nat) (cs : List D) (i : Nat) (e : List D), (chunk sz n cs)[i]? = some e → e = (cs.drop (i * sz)).take sz
 | 0, cs, i, e, h => by simp [chunk] at h
 | n + 1, cs, i, e, h => by
  simp only [chunk] at h
  cases i with
  | zero => simp at h; simp [← h]
  | succ i =>
   have := chunk_get sz n (cs.drop sz) i e (by simpa using h)
   rw [this, List.drop_drop, Nat.succ_mul, Nat.add_comm]
theorem run_bslice (t e : TypeId) (len : Nat) (parts : Array (Nat × Value)) (cells : Array Value) (ie : TypeInfo) (z : Value) (hu : P.underlying t = some (.slice e)) (hie : P.info? e = some ie) (hz : ie.zero = some z) (hsmall : len * ie.size ≤ 2 ^ 24)
    (h : Instr.fill (fun i => some (i * ie.size, ie.size)) ((Array.range (len * ie.size)).map (z.cells[· % z.cells.size]!)) parts.toList = some cells) :
    (Instr.buildSlice t len parts).run P w = .ok (.slice (some ⟨w.heap.size, 0, none⟩) len len) (w.alloc (.cells cells e)) := by
 by_cases h0 : len * ie.size = 0
 ·rw [h0] at h
  have r0 : ∀ f : Nat → Value, (Array.range 0).map f = #[] := fun f => Array.eq_empty_of_size_eq_zero (by simp)
  have h' : Instr.fill (fun i => some (i * ie.size, ie.size)) #[] parts.toList = some cells := by rw [r0] at h; exact h
  have h2 : ¬ (len * ie.size > 2 ^ 24) := by omega
  simp only [Instr.buildSlice, run_underlying hu, sizeOf, typeInfo, hie, Sem.run_bind, run_program, Result.andThen_ok, Sem.run_pure, h0, Sem.run_ite]
  simp [r0, h', newRow]
 ·exact run_buildSlice w t e len parts cells ie z hu hie hz (by omega) h0 h
theorem so_bslice (h : SR w0 W F0 V N g S a w) {o : Oper} {e sz len : Nat} {z : List D} {ps : List (Nat × Nat × Operand)} {Q : Exit → Act → World → Prop} (hc : compOp P o = some (.bslice e sz z len ps)) (hd : ∀ t, o.dst = some t → t < N)
    (hv : vstep P (.bslice e sz z len ps) o.dst S K) : o.wp P a w (fun a' w' => ∃ g' S', SR w0 W F0 V N g' S' a' w' ∧ K S') Q := by
 obtain ⟨t, parts, i, zv, ho, hu, hi, hz, rfl, h0, hzs, hbig, rfl, rfl⟩ := comp_bslice hc
 simp only [vstep] at hv
 split at hv
 ·rename_i d cs hdst hfill
  split at hv
  ·rename_i fs hfs
   obtain ⟨hlive, hone, hK⟩ := hv
   have hplace : (parts.toList.map fun p => (p.1 * i.size, i.size, p.2)).length = parts.toList.length ∧ ∀ (q : Nat) (p : Nat × Operand) (r : Nat × Nat × Operand), parts.toList[q]? = some p → (parts.toList.map fun p => (p.1 * i.size, i.size, p.2))[q]? = some r →
       (fun j => some (j * i.size, i.size)) p.1 = some (r.1, r.2.1) ∧ p.2 = r.2.2 := by
    refine ⟨by simp, fun q p r hp hr => ?_⟩
    simp only [List.getElem?_map, hp, Option.map_some, Option.some.injEq] at hr
    subst hr
    exact ⟨rfl, rfl⟩
   obtain ⟨us, e1, e2, e3⟩ := fill_sound h.core (place := fun j => some (j * i.size, i.size)) hplace (hzs ▸ rept_cells zv (by omega) len) hfill
   have hlen : fs.length = len * i.size := by
    have := (frzL_sound (h.core) (ts := tagsL cs) (live_all hlive) cs hfs (fun t ht => ht)).1
    rw [this, ← e2.1, e3]; simp
   have hrun : (execOp a.eval o).run P w = .ok (.value (.slice (some ⟨w.heap.size, 0, none⟩) len len)) (w.alloc (.cells us e (0, 0))) := by
    simp only [execOp, ho, Sem.run_bind]
    rw [run_bslice t e len _ us i zv hu hi hz hbig (by rw [map_parts, ← hzs]; rw [← hzs] at e1; exact e1)]
    rfl
   unfold Oper.wp
   rw [hrun, Oper.upon_value]
   have hs := h.share (tagsL cs)
   have hF := (frzL_sound h.core (ts := tagsL cs) (live_all hlive) cs hfs (fun t ht => ht)).2
   have husz : us.size = len * i.size := by rw [e3]; simp
   let ti : TI := { v := .slice (some ⟨w.heap.size, 0, none⟩) len len, e := e, sz := i.size, n := len, xs := us.toList, shape := .inr ⟨_, _, rfl⟩ }
   have repf : ∀ (q : Nat) (d' : D), fs[q]? = some d' → ∃ u, us[q]? = some u ∧ RepF (shareF g S (tagsL cs)) w d' u := fun q d' hq => by
    have hq1 : q < fs.length := (List.getElem?_eq_some_iff.1 hq).1
    have hq2 : q < us.size := by omega
    have hq3 : q < cs.length := by rw [← e2.1]; omega
    exact ⟨us[q], Array.getElem?_eq_getElem hq2, hF q d' _ hq _ (List.getElem?_eq_getElem hq3) (e2.2 q _ _ (List.getElem?_eq_getElem hq3) (Array.getElem?_eq_getElem hq2))⟩
   have hpre : len ≤ maxLen := by
    have h1 : len * 1 ≤ len * i.size := Nat.mul_le_mul_left _ h0
    have : (2 : Nat) ^ 24 = 16777216 := by decide
    simp only [maxLen]; omega
   have hn := hs.newRow (w' := w.alloc (.cells us e (0, 0))) (d, e, i.size) ti ⟨rfl, rfl⟩ (Keep.alloc _ _ _) (fun b ob hb => by rw [heap_alloc_old w _ b (Array.getElem?_eq_some_iff.1 hb).1]; exact hb)
    ⟨by simp [ti, husz], .inr ⟨w.heap.size, len, us, rfl, Nat.zero_le _, heap_alloc_new w _, Nat.le_refl _, hpre, husz, by simp only [ti]; exact List.take_of_length_le (by simp [husz])⟩⟩
    (fun u hu => by
     obtain ⟨q, hq⟩ := List.getElem?_of_mem hu
     have hq1 : q < fs.length := by have := (List.getElem?_eq_some_iff.1 hq).1; simp [ti] at this; omega
     obtain ⟨u', h1, h2⟩ := repf q _ (List.getElem?_eq_getElem hq1)
     have : u' = u := by
      have : us.toList[q]? = some u := hq
      rw [Array.getElem?_toList, h1] at this; injection this
     subst this
     exact h2.one (List.all_eq_true.1 hone _ (List.getElem_mem hq1)))
    (fun b hb => by simp [ti, Value.ownBlock] at hb; omega) (fun hge => absurd hge (Nat.not_le.2 (Nat.lt_of_lt_of_le (hd d hdst) h.cap)))
   refine ⟨_, _, hn.put hd ?_, hK⟩
   refine Rep.slT (d, e, i.size) _ ti (if_pos rfl) (chunk_length _ _ _) (fun q el hq => ?_) (fun q el j d' hq hj => ?_)
   ·have hq1 : q < len := by have := (List.getElem?_eq_some_iff.1 hq).1; rwa [chunk_length] at this
    have : (q + 1) * i.size ≤ len * i.size := Nat.mul_le_mul_right _ hq1
    rw [Nat.succ_mul] at this
    rw [chunk_get _ _ _ _ _ hq]
    simp [ti]; omega
   ·rw [chunk_get _ _ _ _ _ hq, List.getElem?_take] at hj
    split at hj
    ·rw [List.getElem?_drop] at hj
     obtain ⟨u, h1, h2⟩ := repf _ _ hj
     refine ⟨u, by simp only [ti]; rw [Array.getElem?_toList]; exact h1, h2.mono (fun _ _ h => h) (fun b k hFk => ?_)⟩
     exact World.cell?_of_block (a := ⟨b, k, none⟩) (heap_alloc_old w _ b (hs.core.frz.1 b k hFk))
    ·cases hj
  ·exact hv.elim
 ·exact hv.elim
theorem storeVar_run {t : TypeId} {i : TypeInfo} {b o : Nat} {cur : Array Value} {e : TypeId} {v : Value} (hi : P.info? t = some i) (hsz : v.cells.size = i.size) (hcur : w.heap[b]? = some (.cells cur e (0, 0))) (hfit : o + v.cells.size ≤ cur.size)
    (hone : ∀ u ∈ v.cells.toList, u.oneCell' = true) : (storeVar t ⟨b, o, none⟩ v).run P w = .ok () (w.setRow b (cur.toList.take o ++ v.cells.toList ++ cur.toList.drop (o + v.cells.toList.length)).toArray) := by
 have := run_storeCells_at P b o e v.cells.toList 0 cur w hcur (by simpa using hfit) hone
 simp only [Nat.add_zero] at this
 simp [storeVar, sizeOf, typeInfo, hi, hsz, this]
theorem so_store (h : SR w0 W F0 V N g S a w) {o : Oper} {sz : Nat} {x v : Operand} {Q : Exit → Act → World → Prop} (hc : compOp P o = some (.store sz x v)) (hdn : o.dst = none) (hv : vstep P (.store sz x v) o.dst S K) :
    o.wp P a w (fun a' w' => ∃ g' S', SR w0 W F0 V N g' S' a' w' ∧ K S') Q := by
 obtain ⟨t, i, ho, hi, rfl⟩ := comp_store hc
 have put : ∀ u : Value, a.put o.dst u = a := fun u => by rw [hdn]; rfl
 simp only [vstep] at hv
 split at hv
 ·rename_i bo off d hx hvv
  split at hv
  ·rename_i cs ds hb hcl
   obtain ⟨h1, h2, hK⟩ := hv
   obtain ⟨b, k, hp, hμ, hob⟩ := (h.core.look hx).ptr_inv
   obtain ⟨b', k', vs, e, q1, q2, q3, q4⟩ := h.core.box bo cs hb
   replace q2 := q2.cells hob
   rw [hμ] at q1; injection q1 with q1; injection q1 with q1 q1'; subst q1; subst q1'
   obtain ⟨c1, c2, c3, c4⟩ := cl_sound hcl (h.core.look hvv)
   have hfit : k + off + (a.eval v).cells.size ≤ vs.size := by omega
   have hone : ∀ u ∈ (a.eval v).cells.toList, u.oneCell' = true := fun u hu => by
    obtain ⟨q, hq⟩ := List.getElem?_of_mem hu
    exact c4 q u (by simpa using hq)
   have hst := storeVar_run (P := P) (t := t) hi (by omega) q2 hfit hone
   have hrun : (execOp a.eval o).run P w = .ok .skip (w.setRow b (vs.toList.take (k + off) ++ (a.eval v).cells.toList ++ vs.toList.drop (k + off + (a.eval v).cells.toList.length)).toArray) := by
    simp only [execOp, ho, Instr.storeAt, hp, Instr.sureAddr, Sem.run_bind, Sem.run_pure, Result.andThen_ok, hst]
   unfold Oper.wp
   rw [hrun, Oper.upon_skip, put]
   have hcore := h.core.setBox hb hμ (ds := ds) (us := (a.eval v).cells.toList) (off := off) (by omega) q2 (by simpa using c1) (fun q d' u hq hu => c2 q d' u hq (by simpa using hu)) (by omega) hob
   refine ⟨g, _, h.later hcore ⟨fun o' c b' k' q hb' hμ' hq => ?_, h.wr.tag⟩ (Keep.setRow (W := fun b' k' => b' = b ∧ k ≤ k' ∧ k' < k + cs.length) q2 ?_ (fun k' hk' => ?_)) (fun b' k' hlt hW => ?_) (fun _ _ h => h) (fun _ _ h => .inl h) (fun t' ti2 _ hti2 => ⟨ti2, hti2, rfl⟩), hK⟩
   ·rw [setBox_box] at hb'
    split at hb'
    ·rename_i he; subst he
     injection hb' with hb'; subst hb'
     rw [putCells_length] at hq
     exact h.wr.box o' cs b' k' q hb hμ' hq
    ·exact h.wr.box o' c b' k' q hb' hμ' hq
   ·simp; omega
   ·have hk2 : ¬ (k ≤ k' ∧ k' < k + cs.length) := fun hh => hk' ⟨rfl, hh⟩
    rw [← putCells_row vs.toList (k + off) (a.eval v).cells.toList (by simp; omega)]
    simp only [List.getElem?_toArray]
    rw [putCells_get _ _ _ (by simp; omega), if_neg (by simp; omega)]
    simp
   ·obtain ⟨rfl, hk1, hk2⟩ := hW
    rcases h.wr.box bo cs b' k (k' - k) hb hμ (by omega) with h3 | h3
    ·omega
    ·rwa [show k + (k' - k) = k' by omega] at h3
  ·exact hv.elim
 ·rename_i tg j cs off d hx hvv
  split at hv
  ·rename_i ds hcl
   split at hv
   ·rename_i fs hfs
    obtain ⟨ht, h1, h2, h3, hK⟩ := hv
    have hlive : ∀ t' ∈ tagsL ds, (∃ x, S.tag t' = some x) ∧ t' ≠ tg := fun t' ht' => by
     have := List.all_eq_true.1 h3 t' ht'
     simp only [Bool.and_eq_true, decide_eq_true_eq] at this
     exact ⟨Option.isSome_iff_exists.1 this.1, this.2⟩
    have hlive1 : ∀ t' ∈ tagsL ds, ∃ x, S.tag t' = some x := fun t' ht' => (hlive t' ht').1
    have hr := h.core.look hx
    obtain ⟨c1, c2, c3, c4⟩ := cl_sound hcl (h.core.look hvv)
    obtain ⟨l1, r1⟩ := frzL_sound h.core hlive1 ds hfs (fun t ht => ht)
    generalize hpx : a.eval x = px at hr
    cases hr with
    | fz _ _ hr => cases hr
    | rpT _ _ _ _ ti hti hj hl b n c hv' hr =>
     have hs := h.share (tagsL ds)
     have htag : (S.share (tagsL ds)).tag tg = some true := by
      rw [share_tag, ht]
      have : ¬ tg ∈ tagsL ds := fun hm => (hlive tg hm).2 rfl
      simp [this]
     have hone : ∀ u ∈ (a.eval v).cells.toList, u.oneCell' = true := fun u hu => by
      obtain ⟨q, hq⟩ := List.getElem?_of_mem hu
      exact c4 q u (by simpa using hq)
     obtain ⟨cur, e, hcur, hfit, hcore⟩ := hs.core.setElem (i := j) (off := off) (ds := fs) (us := (a.eval v).cells.toList) htag hti hv' hj (by omega) (by simp; omega) hone (fun q d' u hq hu => by
      have hq1 : q < ds.length := by rw [← l1]; exact (List.getElem?_eq_some_iff.1 hq).1
      exact r1 q d' u hq _ (List.getElem?_eq_getElem hq1) (c2 q _ u (List.getElem?_eq_getElem hq1) (by simpa using hu)))
     have hst := storeVar_run (P := P) (t := t) (v := a.eval v) hi (by omega) hcur (by simpa using hfit) hone
     have hrun : (execOp a.eval o).run P w = .ok .skip (w.setRow b (cur.toList.take (j * ti.sz + off) ++ (a.eval v).cells.toList ++ cur.toList.drop (j * ti.sz + off + (a.eval v).cells.toList.length)).toArray) := by
      simp only [execOp, ho, Instr.storeAt, hpx, Instr.sureAddr, Sem.run_bind, Sem.run_pure, Result.andThen_ok, hst]
     unfold Oper.wp
     rw [hrun, Oper.upon_skip, put]
     have hob : ti.v.ownBlock = some b := by rw [hv']; rfl
     refine ⟨_, _, hs.later hcore ⟨fun o' c' b' k' q hb' hμ' hq => ?_, fun t' x' ti2 b' ht' hti2 hb' => ?_⟩ (Keep.setRow (W := fun b' _ => b' = b) hcur ?_ (fun k' hk' => absurd rfl hk')) (fun b' k' hlt hW => ?_) (fun _ _ h => h) (fun _ _ h => .inl h) (fun t' ti2 _ hti2 => by
      simp only at hti2
      split at hti2
      ·rename_i he; subst he; injection hti2 with hti2; subst hti2; exact ⟨ti, hti, rfl⟩
      ·exact ⟨ti2, hti2, rfl⟩), hK⟩
     ·rw [upd_box] at hb'
      obtain ⟨c0, h4, rfl⟩ := Option.map_eq_some_iff.1 hb'
      exact hs.wr.box o' c0 b' k' q h4 hμ' (by simpa using hq)
     ·have ht2 : (S.share (tagsL ds)).tag t' = some x' := ht'
      simp only at hti2
      split at hti2
      ·rename_i he; subst he
       injection hti2 with hti2; subst hti2
       exact hs.wr.tag t' x' ti b' ht2 hti hb'
      ·exact hs.wr.tag t' x' ti2 b' ht2 hti2 hb'
     ·simp; simp at hfit; omega
     ·subst hW
      rcases hs.wr.tag tg true ti b' htag hti hob with h4 | h4
      ·omega
      ·exact h4 k'
   ·exact hv.elim
  ·exact hv.elim
 ·exact hv.elim
end Go.Vm

namespace Go.Vm
open Go.RowKit
set_option linter.unusedVariables false
variable {P : Program} {w0 w w' : World} {W F0 : Reg} {V : Pins} {N : Nat} {g g' : Gh} {S : St} {a : Act} {tm : Array Value} {K : St → Prop}
theorem lkp_mem {α β : Type} [DecidableEq α] {t : α} {x : β} : ∀ {l : List (α × β)}, lkp t l = some x → (t, x) ∈ l
 | [], h => by simp [lkp] at h
 | (k, v) :: l, h => by
  simp only [lkp] at h
  split at h
  ·rename_i he; subst he; injection h with h; subst h; simp
  ·exact List.mem_cons_of_mem _ (lkp_mem h)
theorem lkp_of_mem {α β : Type} [DecidableEq α] {t : α} {x : β} : ∀ {l : List (α × β)}, (l.map (·.1)).Nodup → (t, x) ∈ l → lkp t l = some x
 | [], _, h => by simp at h
 | (k, v) :: l, hn, h => by
  simp only [List.map_cons, List.nodup_cons] at hn
  simp only [lkp]
  rcases List.mem_cons.1 h with h | h
  ·injection h with h1 h2; subst h1; subst h2; rw [if_pos rfl]
  ·have : t ≠ k := fun e => hn.1 (by rw [← e]; exact List.mem_map.2 ⟨(t, x), h, rfl⟩)
   rw [if_neg this]; exact lkp_of_mem hn.2 h
theorem mem_swap {α β : Type} {l : List (α × β)} {x : α} {y : β} : (y, x) ∈ swap l ↔ (x, y) ∈ l := by
 unfold swap
 rw [List.mem_map]
 constructor
 ·rintro ⟨⟨a, b⟩, h1, h2⟩; injection h2 with h2 h3; simp only at h2 h3; subst h2; subst h3; exact h1
 ·intro h; exact ⟨(x, y), h, rfl⟩
theorem swap_fst {α β : Type} (l : List (α × β)) : (swap l).map (·.1) = l.map (·.2) := by simp [swap, Function.comp_def]
theorem swap_snd {α β : Type} (l : List (α × β)) : (swap l).map (·.2) = l.map (·.1) := by simp [swap, Function.comp_def]
theorem nodup_snd {α β : Type} {l : List (α × β)} {x x' : α} {y : β} (h : (l.map (·.2)).Nodup) (h1 : (x, y) ∈ l) (h2 : (x', y) ∈ l) : x = x' := by
 induction l with
 | nil => simp at h1
 | cons p l ih =>
  simp only [List.map_cons, List.nodup_cons] at h
  rcases List.mem_cons.1 h1 with e1 | e1 <;> rcases List.mem_cons.1 h2 with e2 | e2
  ·rw [← e1] at e2; injection e2 with e2 _; exact e2.symm
  ·exact absurd (List.mem_map.2 ⟨_, e2, by rw [← e1]⟩) h.1
  ·exact absurd (List.mem_map.2 ⟨_, e1, by rw [← e2]⟩) h.1
  ·exact ih h.2 e1 e2
theorem nodup_fst {α β : Type} {l : List (α × β)} {x : α} {y y' : β} (h : (l.map (·.1)).Nodup) (h1 : (x, y) ∈ l) (h2 : (x, y') ∈ l) : y = y' := by
 have e1 := mem_swap.2 h1
 have e2 := mem_swap.2 h2
 exact nodup_snd (l := swap l) (by rw [swap_snd]; exact h) e1 e2
structure LendOk (L : Lend) : Prop where
 far : ∀ o o', (o, o') ∈ L.bs → 1000000 ≤ o' % mapB ∧ o / mapB = o' / mapB
 tag : ∀ t t', (t, t') ∈ L.ts → t.1 ≤ 999998 ∧ t.2 = t'.2 ∧ t'.1 ≤ 999998
 nb : ∀ o' o, (o', o) ∈ L.nb → o' % mapB ≤ 999998 ∧ o % mapB ≤ 999998 ∧ o' / mapB = o / mapB
 nt : ∀ t' t, (t', t) ∈ L.nt → t'.1 ≤ 999998 ∧ t.1 ≤ 999998 ∧ t'.2 = t.2
 b2 : (L.bk.map (·.2)).Nodup
 b1 : (L.bk.map (·.1)).Nodup
 t2 : (L.tk.map (·.2)).Nodup
 t1 : (L.tk.map (·.1)).Nodup
theorem lend_ok {L : Lend} (h : L.ok = true) : LendOk L := by
 simp only [Lend.ok, Bool.and_eq_true, List.all_eq_true, decide_eq_true_eq, Nat.ble_eq] at h
 obtain ⟨⟨⟨⟨⟨⟨⟨h1, h2⟩, h3⟩, h4⟩, h5⟩, h6⟩, h7⟩, h8⟩ := h
 exact ⟨fun o o' hm => ⟨(h1 _ hm).1, (h1 _ hm).2⟩, fun t t' hm => ⟨(h2 _ hm).1.1, (h2 _ hm).1.2, (h2 _ hm).2⟩, fun o' o hm => ⟨(h3 _ hm).1.1, (h3 _ hm).1.2, (h3 _ hm).2⟩, fun t' t hm => ⟨(h4 _ hm).1.1, (h4 _ hm).1.2, (h4 _ hm).2⟩, h5, h6, h7, h8⟩
section
variable {L : Lend}
theorem LendOk.bs1 (h : LendOk L) : (L.bs.map (·.1)).Nodup := by
 have := h.b2
 simp only [Lend.bk, List.map_append, swap_snd] at this
 exact (List.nodup_append.1 this).1
theorem LendOk.bs2 (h : LendOk L) : (L.bs.map (·.2)).Nodup := by
 have := h.b1
 simp only [Lend.bk, List.map_append, swap_fst] at this
 exact (List.nodup_append.1 this).1
theorem LendOk.ts1 (h : LendOk L) : (L.ts.map (·.1)).Nodup := by
 have := h.t2
 simp only [Lend.tk, List.map_append, swap_snd] at this
 exact (List.nodup_append.1 this).1
theorem LendOk.ts2 (h : LendOk L) : (L.ts.map (·.2)).Nodup := by
 have := h.t1
 simp only [Lend.tk, List.map_append, swap_fst] at this
 exact (List.nodup_append.1 this).1
theorem LendOk.nb2 (h : LendOk L) : (L.nb.map (·.2)).Nodup := by
 have := h.b2
 simp only [Lend.bk, List.map_append] at this
 exact (List.nodup_append.1 this).2.1
theorem LendOk.apart (h : LendOk L) {o o' p : Nat} (h1 : (o, o') ∈ L.bs) (h2 : (p, o) ∈ L.nb) : False := by
 have := h.b2
 simp only [Lend.bk, List.map_append, swap_snd] at this
 exact (List.nodup_append.1 this).2.2 o (List.mem_map.2 ⟨_, h1, rfl⟩) o (List.mem_map.2 ⟨_, h2, rfl⟩) rfl
theorem mem_bk {o' o : Nat} : (o', o) ∈ L.bk ↔ (o, o') ∈ L.bs ∨ (o', o) ∈ L.nb := by
 unfold Lend.bk; rw [List.mem_append, mem_swap]
theorem LendOk.kind (h : LendOk L) {o o' : Nat} (hm : (o', o) ∈ L.bk) : o' / mapB = o / mapB := by
 rcases mem_bk.1 hm with hm | hm
 ·exact (h.far _ _ hm).2.symm
 ·exact (h.nb _ _ hm).2.2
theorem mem_tk {o' o : Tag} : (o', o) ∈ L.tk ↔ (o, o') ∈ L.ts ∨ (o', o) ∈ L.nt := by
 unfold Lend.tk; rw [List.mem_append, mem_swap]
def lentW (g : Gh) (S : St) (L : Lend) : Reg := fun b k =>
 (∃ o o' cs k0, (o, o') ∈ L.bs ∧ S.box o = some cs ∧ g.μ o = some (b, k0) ∧ k0 ≤ k ∧ k < k0 + cs.length) ∨ (∃ t t' ti, (t, t') ∈ L.ts ∧ g.τ t = some ti ∧ ti.v.ownBlock = some b)
def lentG (g : Gh) (L : Lend) : Gh := ⟨fun o' => (lkp o' (swap L.bs)).bind g.μ, fun t' => (lkp t' (swap L.ts)).bind g.τ, g.F⟩
theorem lentG_μ (hL : LendOk L) {o o' : Nat} (h : (o, o') ∈ L.bs) : (lentG g L).μ o' = g.μ o := by
 simp only [lentG, lkp_of_mem (by rw [swap_fst]; exact hL.bs2) (mem_swap.2 h), Option.bind_some]
theorem lentG_τ (hL : LendOk L) {o o' : Tag} (h : (o, o') ∈ L.ts) : (lentG g L).τ o' = g.τ o := by
 simp only [lentG, lkp_of_mem (by rw [swap_fst]; exact hL.ts2) (mem_swap.2 h), Option.bind_some]
theorem lent_core (h : Core g S tm w) (hL : LendOk L) {hin : List (Nat × List D)} (hin_ : seenH S L.bs L.ts L.bs = some hin) (hts : ∀ t t', (t, t') ∈ L.ts → S.tag t = some true) {as : List D} {vs : Array Value} (hr : ∀ (i : Nat) (d : D) (v : Value), as[i]? = some d → vs[i]? = some v → Rep g w d v) (hsz : vs.size = as.length) :
    Core (lentG g L) ⟨num 0 (renL (fwd L.bs) (fwd L.ts) as), hin, L.ts.map fun x => (x.2, true)⟩ vs w := by
 have rep : ∀ {d : D} {v : Value}, Rep g w d v → Rep (lentG g L) w (d.ren (fwd L.bs) (fwd L.ts)) v := fun hd =>
  hd.ren (fun o o' b h1 h2 => by rw [lentG_μ hL (lkp_mem h1)]; exact h2) (fun o o' h1 => (hL.far _ _ (lkp_mem h1)).2) (fun t t' ti h1 h2 => by rw [lentG_τ hL (lkp_mem h1)]; exact h2) (fun _ _ h => h) (fun _ _ _ => rfl)
 have unbox : ∀ o' cs', lkp o' hin = some cs' → ∃ o cs, (o, o') ∈ L.bs ∧ S.box o = some cs ∧ cs' = cs.map (D.ren (fwd L.bs) (fwd L.ts)) := fun o' cs' hb => by
  obtain ⟨o, cs, h1, h2, h3⟩ := seenH_at hin_ o' cs' hb
  exact ⟨o, cs, h1, h2, by rw [h3, renL_map]⟩
 have untag : ∀ t' x, lkp t' (L.ts.map fun x => (x.2, true)) = some x → x = true ∧ ∃ t, (t, t') ∈ L.ts := fun t' x hx => by
  obtain ⟨⟨t, t2⟩, h1, h2⟩ := List.mem_map.1 (lkp_mem hx)
  injection h2 with h2 h3; simp only at h2 h3; subst h2
  exact ⟨h3.symm, t, h1⟩
 refine ⟨fun t d hd => ?_, fun o' cs' hb => ?_, fun o' cs' b k i hb hμ hi => ?_, fun o1' o2' c1' c2' b k k' hb1 hb2 hμ1 hμ2 i i' hi hi' he => ?_, fun t' x ht => ?_, fun t' x ti o' cs' b k ht hti hb hμ => ?_, fun t1' x1 ti1 t2' x2 ti2 b h1 h2 h3 h4 h5 h6 => ?_, h.frz⟩
 ·obtain ⟨-, h2⟩ := num_lkp hd
  rw [Nat.sub_zero, renL_map, List.getElem?_map] at h2
  obtain ⟨d0, h3, rfl⟩ := Option.map_eq_some_iff.1 h2
  have ht : t < vs.size := by rw [hsz]; exact (List.getElem?_eq_some_iff.1 h3).1
  have := hr t d0 vs[t] h3 (Array.getElem?_eq_getElem ht)
  rw [Array.getD_eq_getD_getElem?, Array.getElem?_eq_getElem ht]
  exact rep this
 ·obtain ⟨o, cs, h1, h2, rfl⟩ := unbox o' cs' hb
  obtain ⟨b, k, ws, e, h3, h4, h5, h6⟩ := h.box o cs h2
  refine ⟨b, k, ws, e, by rw [lentG_μ hL h1]; exact h3, h4.kind (hL.far _ _ h1).2, by simpa using h5, fun i d u hd hu => ?_⟩
  rw [List.getElem?_map] at hd
  obtain ⟨d0, h7, rfl⟩ := Option.map_eq_some_iff.1 hd
  exact rep (h6 i d0 u h7 hu)
 ·obtain ⟨o, cs, h1, h2, rfl⟩ := unbox o' cs' hb
  rw [lentG_μ hL h1] at hμ
  exact h.boxF o cs b k i h2 hμ (by simpa using hi)
 ·obtain ⟨o1, c1, e1, f1, rfl⟩ := unbox o1' c1' hb1
  obtain ⟨o2, c2, e2, f2, rfl⟩ := unbox o2' c2' hb2
  rw [lentG_μ hL e1] at hμ1
  rw [lentG_μ hL e2] at hμ2
  have := h.boxI o1 o2 c1 c2 b k k' f1 f2 hμ1 hμ2 i i' (by simpa using hi) (by simpa using hi') he
  subst this
  exact nodup_fst hL.bs1 e1 e2
 ·obtain ⟨rfl, t, h1⟩ := untag t' x ht
  obtain ⟨ti, h2, h3⟩ := h.tag t true (hts t t' h1)
  refine ⟨ti, by rw [lentG_τ hL h1]; exact h2, ?_, h3.own, h3.one, h3.out, h3.inn⟩
  rw [← (hL.tag t t' h1).2.1]; exact h3.ty
 ·obtain ⟨rfl, t, h1⟩ := untag t' x ht
  obtain ⟨o, cs, e1, f1, rfl⟩ := unbox o' cs' hb
  rw [lentG_τ hL h1] at hti
  rw [lentG_μ hL e1] at hμ
  exact h.tagB t true ti o cs b k (hts t t' h1) hti f1 hμ
 ·obtain ⟨rfl, t1, e1⟩ := untag t1' x1 h1
  obtain ⟨rfl, t2, e2⟩ := untag t2' x2 h3
  rw [lentG_τ hL e1] at h2
  rw [lentG_τ hL e2] at h4
  have := h.tagI t1 true ti1 t2 true ti2 b (hts _ _ e1) h2 (hts _ _ e2) h4 h5 h6
  subst this
  exact nodup_fst hL.ts1 e1 e2
theorem lent_wr (h : Core g S tm w) (hL : LendOk L) {hin : List (Nat × List D)} (hin_ : seenH S L.bs L.ts L.bs = some hin) (env : List (Nat × D)) (base : Nat) : Wr base (lentW g S L) (lentG g L) ⟨env, hin, L.ts.map fun x => (x.2, true)⟩ := by
 refine ⟨fun o' cs' b k i hb hμ hi => ?_, fun t' x ti b ht hti hb => ?_⟩
 ·obtain ⟨o, cs, h1, h2, h3⟩ := seenH_at hin_ o' cs' hb
  rw [lentG_μ hL h1] at hμ
  rw [h3, renL_map, List.length_map] at hi
  exact .inr (.inl ⟨o, o', cs, k, h1, h2, hμ, by omega, by omega⟩)
 ·obtain ⟨⟨t, t2⟩, h1, h2⟩ := List.mem_map.1 (lkp_mem ht)
  injection h2 with h2 h3; simp only at h2 h3; subst h2
  rw [lentG_τ hL h1] at hti
  exact .inr fun i => .inr ⟨t, t2, ti, h1, hti, hb⟩
theorem lent_all (h : Core g S tm w) {b : Nat} (hall : ∀ i, lentW g S L b i) : ∃ t t' ti, (t, t') ∈ L.ts ∧ g.τ t = some ti ∧ ti.v.ownBlock = some b := by
 have big : ∃ n, ∀ o cs k0, S.box o = some cs → g.μ o = some (b, k0) → k0 + cs.length ≤ n := by
  cases hb : w.heap[b]? with
  | none => exact ⟨0, fun o cs k0 h1 h2 => by
      obtain ⟨b', k', vs, e, q1, q2, _⟩ := h.box o cs h1
      rw [h2] at q1; injection q1 with q1; injection q1 with q1 _; subst q1
      have := q2.lt
      rw [Array.getElem?_eq_getElem this] at hb; cases hb⟩
  | some ob =>
   cases ob with
   | cells vs e f => exact ⟨vs.size, fun o cs k0 h1 h2 => by
       obtain ⟨b', k', vs', e', q1, q2, q3, _⟩ := h.box o cs h1
       rw [h2] at q1; injection q1 with q1; injection q1 with q1 q1'; subst q1; subst q1'
       have ho : o < mapB := Classical.byContradiction fun hn => by
        obtain ⟨-, x, h5, h6, -⟩ := q2.isMap hn
        rw [hb] at h5; injection h5 with h5; subst h5; cases h6
       replace q2 := q2.cells ho
       rw [hb] at q2; injection q2 with q2; injection q2 with q2; subst q2
       exact q3⟩
   | _ => exact ⟨4, fun o cs k0 h1 h2 => by
       obtain ⟨b', k', vs, e, q1, q2, q3, _⟩ := h.box o cs h1
       rw [h2] at q1; injection q1 with q1; injection q1 with q1 q1'; subst q1; subst q1'
       by_cases ho : o < mapB
       ·have := q2.cells ho
        rw [hb] at this; cases this
       ·obtain ⟨⟨rfl, -⟩, x, h5, h6, h7⟩ := q2.isMap ho
        have := virt_size h7
        omega⟩
 obtain ⟨n, hn⟩ := big
 rcases hall n with ⟨o, o', cs, k0, h1, h2, h3, h4, h5⟩ | h1
 ·have := hn o cs k0 h2 h3; omega
 ·exact h1
theorem SR.back (h : SR w0 W F0 V N g S a w) (hL : LendOk L) {hin : List (Nat × List D)} (hin_ : seenH S L.bs L.ts L.bs = some hin) (hts : ∀ t t', (t, t') ∈ L.ts → S.tag t = some true) {r : D} {v : Value} {hp : List (Nat × List D)} {tg : List (Tag × Bool)}
    (hc : Core g' ⟨[(0, r)], hp, tg⟩ #[v] w') (hw : Wr w.heap.size (lentW g S L) g' ⟨[(0, r)], hp, tg⟩) (hk : Keep (lentW g S L) w w') (hne : ∀ o cs, lkp o hp = some cs → cs ≠ []) (hF1 : ∀ b k, g.F b k → g'.F b k)
    (hF2 : ∀ b k, g'.F b k → g.F b k ∨ w.heap.size ≤ b ∨ lentW g S L b k) (hpin : ∀ o b, 999999 ≤ o % mapB → g'.μ o = some b → (lentG g L).μ o = some b) :
    ∃ g2, SR w0 W F0 V N g2 (S.back L hp tg) a w' ∧ Rep g2 w' (r.ren (fwd L.bk) (fwd L.tk)) v := by
 let g2 : Gh := ⟨fun o => match lkp o (swap L.nb) with | some o' => g'.μ o' | none => g.μ o, fun t => match lkp t (swap L.tk) with | some t' => g'.τ t' | none => g.τ t, g'.F⟩
 have e1 : ∀ o' o, (o', o) ∈ L.nb → g2.μ o = g'.μ o' := fun o' o hm => by
  simp only [g2, lkp_of_mem (by rw [swap_fst]; exact hL.nb2) (mem_swap.2 hm)]
 have e2 : ∀ o, (∀ o', (o', o) ∉ L.nb) → g2.μ o = g.μ o := fun o hm => by
  have : lkp o (swap L.nb) = none := by
   cases hl : lkp o (swap L.nb) with
   | none => rfl
   | some o' => exact absurd (mem_swap.1 (lkp_mem hl)) (hm o')
  simp only [g2, this]
 have e3 : ∀ t' t, (t', t) ∈ L.tk → g2.τ t = g'.τ t' := fun t' t hm => by
  simp only [g2, lkp_of_mem (by rw [swap_fst]; exact hL.t2) (mem_swap.2 hm)]
 have e4 : ∀ t, t ∉ L.tk.map (·.2) → g2.τ t = g.τ t := fun t hm => by
  have : lkp t (swap L.tk) = none := by
   cases hl : lkp t (swap L.tk) with
   | none => rfl
   | some t' => exact absurd (List.mem_map.2 ⟨_, mem_swap.1 (lkp_mem hl), rfl⟩) hm
  simp only [g2, this]
 -- a place there is the place here
 have place : ∀ o' o bk, (o', o) ∈ L.bk → g'.μ o' = some bk → g2.μ o = some bk := fun o' o bk hm hb => by
  rcases mem_bk.1 hm with hm | hm
  ·have := hpin o' bk (by have := (hL.far _ _ hm).1; omega) hb
   rw [lentG_μ hL hm] at this
   rw [e2 o (fun p hp => hL.apart hm hp)]; exact this
  ·rw [e1 _ _ hm]; exact hb
 have repT : ∀ {d : D} {v : Value}, Rep g' w' d v → Rep g2 w' (d.ren (fwd L.bk) (fwd L.tk)) v := fun hd =>
  hd.ren (fun o' o b h1 h2 => place o' o b (lkp_mem h1) h2) (fun o' o h1 => hL.kind (lkp_mem h1)) (fun t' t ti h1 h2 => by rw [e3 _ _ (lkp_mem h1)]; exact h2) (fun _ _ h => h) (fun _ _ _ => rfl)
 have notF : ∀ b k, g.F b k → ¬ lentW g S L b k := fun b k hF hW => by
  rcases hW with ⟨o, o', cs, k0, h1, h2, h3, h4, h5⟩ | ⟨t, t', ti, h1, h2, h3⟩
  ·exact h.core.boxF o cs b k0 (k - k0) h2 h3 (by omega) (by rw [show k0 + (k - k0) = k by omega]; exact hF)
  ·obtain ⟨ti', q1, q2⟩ := h.core.tag t true (hts _ _ h1)
   rw [h2] at q1; injection q1 with q1; subst q1
   have := (q2.out b k h3 hF).1; cases this
 have cellF : ∀ b k, g.F b k → w'.cell? ⟨b, k, none⟩ = w.cell? ⟨b, k, none⟩ := fun b k hF => hk.cell (h.core.frz.1 b k hF) (notF b k hF)
 have lat : Later g g2 w w' (notIn (L.nb.map (·.2))) (notIn (L.tk.map (·.2))) := ⟨fun o ho b hb => by
  rw [notIn_iff] at ho
  rw [e2 o (fun o' hm => ho (List.mem_map.2 ⟨_, hm, rfl⟩))]; exact hb, fun t ht ti hti => by
  rw [notIn_iff] at ht
  rw [e4 t ht]; exact hti, hF1, cellF⟩
 -- boxes: come back, or here all the time
 have unbox : ∀ o cs, (S.back L hp tg).box o = some cs → (∃ o' cs', (o', o) ∈ L.bk ∧ lkp o' hp = some cs' ∧ cs = cs'.map (D.ren (fwd L.bk) (fwd L.tk))) ∨
     (o ∉ L.bk.map (·.2) ∧ ∃ c0, S.box o = some c0 ∧ cs = c0.map (D.keep (notIn (L.nb.map (·.2))) (notIn (L.tk.map (·.2))))) := fun o cs hb => by
  rw [back_box] at hb
  cases hl : lkp o (backH hp L.bk L.tk L.bk) with
  | some c =>
   rw [hl] at hb
   simp only [Option.some_or, Option.some.injEq] at hb; subst hb
   obtain ⟨o', cs', h1, h2, h3⟩ := backH_at hl
   exact .inl ⟨o', cs', h1, h2, by rw [h3, renL_map]⟩
  | none =>
   rw [hl] at hb
   simp only [Option.none_or] at hb
   split at hb
   ·rename_i hn
    obtain ⟨c0, h1, h2⟩ := Option.map_eq_some_iff.1 hb
    exact .inr ⟨notIn_iff.1 hn, c0, h1, h2.symm⟩
   ·cases hb
 have untag : ∀ t x, (S.back L hp tg).tag t = some x → (∃ t', (t', t) ∈ L.tk ∧ lkp t' tg = some x) ∨ (t ∉ L.tk.map (·.2) ∧ S.tag t = some x) := fun t x ht => by
  rw [back_tag] at ht
  cases hl : lkp t (backT tg L.tk) with
  | some c =>
   rw [hl] at ht
   simp only [Option.some_or, Option.some.injEq] at ht; subst ht
   exact .inl (backT_at hl)
  | none =>
   rw [hl] at ht
   simp only [Option.none_or] at ht
   split at ht
   ·rename_i hn; exact .inr ⟨notIn_iff.1 hn, ht⟩
   ·cases ht
 have oldμ : ∀ o, o ∉ L.bk.map (·.2) → g2.μ o = g.μ o := fun o ho => e2 o (fun o' hm => ho (List.mem_map.2 ⟨_, mem_bk.2 (.inr hm), rfl⟩))
 have newμ : ∀ o' o cs' bk, (o', o) ∈ L.bk → lkp o' hp = some cs' → g2.μ o = some bk → g'.μ o' = some bk := fun o' o cs' bk hm hl hb => by
  obtain ⟨b', k', vs, e, q1, _⟩ := hc.box o' cs' hl
  rw [place o' o _ hm q1] at hb
  rw [q1, hb]
 -- a cell of a box that stayed is not lent
 have apartB : ∀ o c0 b k i, o ∉ L.bk.map (·.2) → S.box o = some c0 → g.μ o = some (b, k) → i < c0.length → ¬ lentW g S L b (k + i) := fun o c0 b k i ho hb hμ hi hW => by
  rcases hW with ⟨p, p', cs, k0, h1, h2, h3, h4, h5⟩ | ⟨t, t', ti, h1, h2, h3⟩
  ·have := h.core.boxI o p c0 cs b k k0 hb h2 hμ h3 i (k + i - k0) hi (by omega) (by omega)
   subst this
   exact ho (List.mem_map.2 ⟨_, mem_bk.2 (.inl h1), rfl⟩)
  ·exact h.core.tagB t true ti o c0 b k (hts _ _ h1) h2 hb hμ h3
 have apartT : ∀ t x ti b k, t ∉ L.tk.map (·.2) → S.tag t = some x → g.τ t = some ti → ti.v.ownBlock = some b → ¬ lentW g S L b k := fun t x ti b k ht hx hti hb hW => by
  rcases hW with ⟨p, p', cs, k0, h1, h2, h3, h4, h5⟩ | ⟨t2, t', ti2, h1, h2, h3⟩
  ·exact h.core.tagB t x ti p cs b k0 hx hti h2 h3 hb
  ·have := h.core.tagI t x ti t2 true ti2 b hx hti (hts _ _ h1) h2 hb h3
   subst this
   exact ht (List.mem_map.2 ⟨_, mem_tk.2 (.inl h1), rfl⟩)
 have blk : ∀ b (ob : Obj), (∀ k, ¬ lentW g S L b k) → w.heap[b]? = some ob → w'.heap[b]? = some ob := fun b ob hn hb => by
  rcases hk.block b ob hb with h1 | ⟨vs, vs', e, rfl, h2, h3, h4⟩ | ⟨-, h2, -⟩
  ·exact h1
  ·have : vs' = vs := Array.ext_getElem? (fun j => h4 j (hn j))
   rw [h2, this]
  ·exact absurd h2 (hn 0)
 have old_lt : ∀ o c0 b k, S.box o = some c0 → g.μ o = some (b, k) → b < w.heap.size := fun o c0 b k hb hμ => h.core.box_lt hb hμ
 have wrB : ∀ b k, lentW g S L b k → w0.heap.size ≤ b ∨ W b k := fun b k hW => by
  rcases hW with ⟨p, p', cs, k0, h1, h2, h3, h4, h5⟩ | ⟨t, t', ti, h1, h2, h3⟩
  ·have := h.wr.box p cs b k0 (k - k0) h2 h3 (by omega)
   rwa [show k0 + (k - k0) = k by omega] at this
  ·rcases h.wr.tag t true ti b (hts _ _ h1) h2 h3 with h4 | h4
   ·exact .inl h4
   ·exact .inr (h4 k)
 have hle := h.le
 have core : Core g2 (S.back L hp tg) a.tmps w' := by
  refine ⟨fun t d hd => ?_, fun o cs hb => ?_, fun o cs b k i hb hμ hi hFF => ?_, fun o1 o2 c1 c2 b k k' hb1 hb2 hμ1 hμ2 i i' hi hi' he => ?_, fun t x ht => ?_, fun t x ti o cs b k ht hti hb hμ => ?_, fun t1 x1 ti1 t2 x2 ti2 b h1 h2 h3 h4 h5 h6 => ?_, hc.frz⟩
  ·rw [back_get] at hd
   obtain ⟨d0, h1, rfl⟩ := Option.map_eq_some_iff.1 hd
   exact (h.core.env t d0 h1).keep lat
  ·rcases unbox o cs hb with ⟨o', cs', h1, h2, rfl⟩ | ⟨ho, c0, h1, rfl⟩
   ·obtain ⟨b, k, vs, e, q1, q2, q3, q4⟩ := hc.box o' cs' h2
    refine ⟨b, k, vs, e, place o' o _ h1 q1, q2.kind (hL.kind h1), by simpa using q3, fun i d u hd hu => ?_⟩
    rw [List.getElem?_map] at hd
    obtain ⟨d0, h7, rfl⟩ := Option.map_eq_some_iff.1 hd
    exact repT (q4 i d0 u h7 hu)
   ·obtain ⟨b, k, vs, e, q1, q2, q3, q4⟩ := h.core.box o c0 h1
    have key : ∃ vs', Blk w' o b k c0.length vs' e ∧ vs'.size = vs.size ∧ ∀ i, i < c0.length → vs'[k + i]? = vs[k + i]? := by
     by_cases hob : o < mapB
     ·rcases hk.block b _ (q2.cells hob) with h2 | ⟨ws, ws', e', h0, h2, h3, h4⟩ | ⟨h2, -⟩
      ·exact ⟨vs, .of h2 hob, rfl, fun _ _ => rfl⟩
      ·injection h0 with h0 h0'; subst h0; subst h0'
       exact ⟨ws', .of h2 hob, h3, fun i hi => h4 _ (apartB o c0 b k i ho h1 q1 hi)⟩
      ·cases h2
     ·obtain ⟨⟨hk0, hpos⟩, ob, h2, h3, h4⟩ := q2.isMap hob
      refine ⟨vs, q2.keep (fun ob2 h5 => ?_), rfl, fun _ _ => rfl⟩
      rw [h2] at h5; injection h5 with h5; subst h5
      rcases hk.block b _ h2 with h6 | ⟨ws, ws', e', rfl, -⟩ | ⟨-, h6, -⟩
      ·exact h6
      ·cases h3
      ·exact absurd h6 (by have := apartB o c0 b k 0 ho h1 q1 hpos; rwa [hk0] at this)
    obtain ⟨vs', h2, h3, h4⟩ := key
    refine ⟨b, k, vs', e, by rw [oldμ o ho]; exact q1, h2.keep (fun _ h => h), by simp only [List.length_map]; omega, fun i d u hd hu => ?_⟩
    rw [List.getElem?_map] at hd
    obtain ⟨d0, h7, rfl⟩ := Option.map_eq_some_iff.1 hd
    rw [h4 i (List.getElem?_eq_some_iff.1 h7).1] at hu
    exact (q4 i d0 u h7 hu).keep lat
  ·rcases unbox o cs hb with ⟨o', cs', h1, h2, rfl⟩ | ⟨ho, c0, h1, rfl⟩
   ·exact hc.boxF o' cs' b k i h2 (newμ o' o cs' _ h1 h2 hμ) (by simpa using hi) hFF
   ·rw [oldμ o ho] at hμ
    have hi : i < c0.length := by simpa using hi
    rcases hF2 b _ hFF with h3 | h3 | h3
    ·exact h.core.boxF o c0 b k i h1 hμ hi h3
    ·have := old_lt o c0 b k h1 hμ; omega
    ·exact apartB o c0 b k i ho h1 hμ hi h3
  ·have mix : ∀ o1 o2 cs' c0 b k k' i i', (∃ o', (o', o1) ∈ L.bk ∧ lkp o' hp = some cs') → g2.μ o1 = some (b, k) → o2 ∉ L.bk.map (·.2) → S.box o2 = some c0 → g2.μ o2 = some (b, k') → i < cs'.length → i' < c0.length → k + i = k' + i' → False := by
     rintro o1 o2 cs' c0 b k k' i i' ⟨o', h1, h2⟩ hμ1 ho h3 hμ2 hi hi' he
     rw [oldμ o2 ho] at hμ2
     rcases hw.box o' cs' b k i h2 (newμ o' o1 cs' _ h1 h2 hμ1) hi with h4 | h4
     ·have := old_lt o2 c0 b k' h3 hμ2; omega
     ·rw [he] at h4; exact apartB o2 c0 b k' i' ho h3 hμ2 hi' h4
   rcases unbox o1 c1 hb1 with ⟨o1', c1', h1, h2, rfl⟩ | ⟨ho1, d1, h1, rfl⟩ <;> rcases unbox o2 c2 hb2 with ⟨o2', c2', h3, h4, rfl⟩ | ⟨ho2, d2, h3, rfl⟩
   ·have := hc.boxI o1' o2' c1' c2' b k k' h2 h4 (newμ _ _ _ _ h1 h2 hμ1) (newμ _ _ _ _ h3 h4 hμ2) i i' (by simpa using hi) (by simpa using hi') he
    subst this
    exact nodup_fst hL.b1 h1 h3
   ·exact (mix o1 o2 c1' d2 b k k' i i' ⟨o1', h1, h2⟩ hμ1 ho2 h3 hμ2 (by simpa using hi) (by simpa using hi') he).elim
   ·exact (mix o2 o1 c2' d1 b k' k i' i ⟨o2', h3, h4⟩ hμ2 ho1 h1 hμ1 (by simpa using hi') (by simpa using hi) he.symm).elim
   ·rw [oldμ _ ho1] at hμ1
    rw [oldμ _ ho2] at hμ2
    exact h.core.boxI o1 o2 d1 d2 b k k' h1 h3 hμ1 hμ2 i i' (by simpa using hi) (by simpa using hi') he
  ·rcases untag t x ht with ⟨t', h1, h2⟩ | ⟨hn, h1⟩
   ·obtain ⟨ti, q1, q2⟩ := hc.tag t' x h2
    refine ⟨ti, by rw [e3 _ _ h1]; exact q1, ?_, q2.own, q2.one, q2.out, q2.inn⟩
    have : t'.2 = t.2 := by
     rcases mem_tk.1 h1 with h3 | h3
     ·exact (hL.tag _ _ h3).2.1.symm
     ·exact (hL.nt _ _ h3).2.2
    rw [← this]; exact q2.ty
   ·obtain ⟨ti, q1, q2⟩ := h.core.tag t x h1
    refine ⟨ti, by rw [e4 t hn]; exact q1, q2.ty, ?_, q2.one, fun b k hb hFF => ?_, fun b k hb hx hk' => hF1 _ _ (q2.inn b k hb hx hk')⟩
    ·refine ⟨q2.own.1, ?_⟩
     rcases q2.own.2 with h3 | ⟨gg, cap, cur, hv, hz, hh, rest⟩
     ·exact .inl h3
     ·exact .inr ⟨gg, cap, cur, hv, hz, blk gg _ (fun k => apartT t x ti gg k hn h1 q1 (by rw [hv]; rfl)) hh, rest⟩
    ·rcases hF2 b k hFF with h3 | h3 | h3
     ·exact q2.out b k hb h3
     ·have := h.core.own_lt h1 q1 hb; omega
     ·exact absurd h3 (apartT t x ti b k hn h1 q1 hb)
  ·have newT : ∀ t' ti b, lkp t' tg = some x → g'.τ t' = some ti → ti.v.ownBlock = some b → w.heap.size ≤ b ∨ ∃ p p' pi, (p, p') ∈ L.ts ∧ g.τ p = some pi ∧ pi.v.ownBlock = some b := fun t' ti b h2 h3 h4 => by
     rcases hw.tag t' x ti b h2 h3 h4 with h5 | h5
     ·exact .inl h5
     ·exact .inr (lent_all h.core h5)
   intro hown
   rcases untag t x ht with ⟨t', h1, h2⟩ | ⟨hn, h1⟩ <;> rcases unbox o cs hb with ⟨o', cs', h3, h4, rfl⟩ | ⟨ho, c0, h3, rfl⟩
   ·rw [e3 _ _ h1] at hti
    exact hc.tagB t' x ti o' cs' b k h2 hti h4 (newμ _ _ _ _ h3 h4 hμ) hown
   ·rw [e3 _ _ h1] at hti
    rw [oldμ o ho] at hμ
    rcases newT t' ti b h2 hti hown with h5 | ⟨p, p', pi, h5, h6, h7⟩
    ·have := old_lt o c0 b k h3 hμ; omega
    ·exact h.core.tagB p true pi o c0 b k (hts _ _ h5) h6 h3 hμ h7
   ·rw [e4 t hn] at hti
    have hlt := h.core.own_lt h1 hti hown
    have hpos : 0 < cs'.length := List.length_pos_iff.2 (hne o' cs' h4)
    rcases hw.box o' cs' b k 0 h4 (newμ _ _ _ _ h3 h4 hμ) hpos with h5 | h5
    ·omega
    ·exact apartT t x ti b _ hn h1 hti hown h5
   ·rw [e4 t hn] at hti
    rw [oldμ o ho] at hμ
    exact h.core.tagB t x ti o c0 b k h1 hti h3 hμ hown
  ·have mix : ∀ t1 x1 ti1 t2 x2 ti2 b, (∃ t', (t', t1) ∈ L.tk ∧ lkp t' tg = some x1) → g2.τ t1 = some ti1 → ti1.v.ownBlock = some b → t2 ∉ L.tk.map (·.2) → S.tag t2 = some x2 → g2.τ t2 = some ti2 → ti2.v.ownBlock = some b → False := by
     rintro t1 x1 ti1 t2 x2 ti2 b ⟨t', h1, h2⟩ h3 h4 hn h5 h6 h7
     rw [e3 _ _ h1] at h3
     rw [e4 t2 hn] at h6
     have := h.core.own_lt h5 h6 h7
     rcases hw.tag t' x1 ti1 b h2 h3 h4 with h8 | h8
     ·omega
     ·exact apartT t2 x2 ti2 b 0 hn h5 h6 h7 (h8 0)
   rcases untag t1 x1 h1 with ⟨t1', a1, a2⟩ | ⟨n1, a1⟩ <;> rcases untag t2 x2 h3 with ⟨t2', b1, b2⟩ | ⟨n2, b1⟩
   ·rw [e3 _ _ a1] at h2
    rw [e3 _ _ b1] at h4
    have := hc.tagI t1' x1 ti1 t2' x2 ti2 b a2 h2 b2 h4 h5 h6
    subst this
    exact nodup_fst hL.t1 a1 b1
   ·exact (mix t1 x1 ti1 t2 x2 ti2 b ⟨t1', a1, a2⟩ h2 h5 n2 b1 h4 h6).elim
   ·exact (mix t2 x2 ti2 t1 x1 ti1 b ⟨t2', b1, b2⟩ h4 h6 n1 a1 h2 h5).elim
   ·rw [e4 t1 n1] at h2
    rw [e4 t2 n2] at h4
    exact h.core.tagI t1 x1 ti1 t2 x2 ti2 b a1 h2 b1 h4 h5 h6
 have wr : Wr w0.heap.size W g2 (S.back L hp tg) := by
  refine ⟨fun o cs b k i hb hμ hi => ?_, fun t x ti b ht hti hb => ?_⟩
  ·rcases unbox o cs hb with ⟨o', cs', h1, h2, rfl⟩ | ⟨ho, c0, h1, rfl⟩
   ·rcases hw.box o' cs' b k i h2 (newμ _ _ _ _ h1 h2 hμ) (by simpa using hi) with h3 | h3
    ·exact .inl (by omega)
    ·exact wrB b _ h3
   ·rw [oldμ o ho] at hμ
    exact h.wr.box o c0 b k i h1 hμ (by simpa using hi)
  ·rcases untag t x ht with ⟨t', h1, h2⟩ | ⟨hn, h1⟩
   ·rw [e3 _ _ h1] at hti
    rcases hw.tag t' x ti b h2 hti hb with h3 | h3
    ·exact .inl (by omega)
    ·by_cases hb0 : w0.heap.size ≤ b
     ·exact .inl hb0
     ·exact .inr fun i => (wrB b i (h3 i)).resolve_left hb0
   ·rw [e4 t hn] at hti
    exact h.wr.tag t x ti b h1 hti hb
 refine ⟨g2, h.later core wr hk (fun b k hlt hW => (wrB b k hW).resolve_left (by omega)) hF1 (fun b k hF => ?_) (fun t ti ht hti => ?_) (fun o b ho hb => ?_), repT (hc.env 0 r rfl)⟩
 ·rcases hF2 b k hF with h3 | h3 | h3
  ·exact .inl h3
  ·exact .inr (.inl (by omega))
  ·exact .inr (wrB b k h3)
 ·rw [e4 t (fun hm => by
    obtain ⟨⟨t', t2⟩, h1, h2⟩ := List.mem_map.1 hm
    simp only at h2; subst h2
    rcases mem_tk.1 h1 with h3 | h3
    ·have := (hL.tag _ _ h3).1; omega
    ·have := (hL.nt _ _ h3).2.1; omega)] at hti
  exact ⟨ti, hti, rfl⟩
 ·rw [e2 o (fun o' hm => by have := (hL.nb _ _ hm).2.1; omega)] at hb
  exact hb
end
end Go.Vm

namespace Go.Vm
open Go.RowKit
set_option linter.unusedVariables false
variable {P : Program} {w0 w w' : World} {W F0 : Reg} {V : Pins} {N : Nat} {g g' : Gh} {S : St} {a : Act} {tm : Array Value} {K : St → Prop}
theorem SR.reRow' (h : SR w0 W F0 V N g S a w) {t : Tag} {ti : TI} {es' : List (List D)} {us : List Value} {off b c : Nat} (ht : S.tag t = some true) (hti : g.τ t = some ti) (hn : es'.length = ti.n) (hv : ti.v = .slice (some ⟨b, 0, none⟩) ti.n c)
    (hfit : off + us.length ≤ ti.n * ti.sz) (hone : ∀ u ∈ us, u.oneCell' = true) (hl : ∀ (i : Nat) (e : List D), es'[i]? = some e → e.length = ti.sz)
    (hr : ∀ (i : Nat) (e : List D) (j : Nat) (d : D), es'[i]? = some e → e[j]? = some d → ∃ u, (putCells ti.xs off us)[i * ti.sz + j]? = some u ∧ RepF g.F w d u) :
    ∃ cur e, w.heap[b]? = some (.cells cur e (0, 0)) ∧ off + us.length ≤ cur.size ∧ ∃ g', SR w0 W F0 V N g' (S.remake t es') a (w.setRow b (cur.toList.take off ++ us ++ cur.toList.drop (off + us.length)).toArray) ∧
     ∃ ti', g'.τ t = some ti' ∧ ti'.v = ti.v ∧ ti'.sz = ti.sz ∧ ti'.n = ti.n ∧ ∀ (i : Nat) (e : List D) (j : Nat) (d : D), es'[i]? = some e → e[j]? = some d → ∃ u, ti'.xs[i * ti'.sz + j]? = some u ∧ RepF g'.F (w.setRow b (cur.toList.take off ++ us ++ cur.toList.drop (off + us.length)).toArray) d u := by
 obtain ⟨ti0, q1, q2⟩ := h.core.tag t true ht
 rw [hti] at q1; injection q1 with q1; subst q1
 have hb : ti.v.ownBlock = some b := by rw [hv]; rfl
 obtain ⟨cap, cur, hvc, hg, hnc, hcm, hcs, htake⟩ : ∃ cap cur, ti.v = .slice (some ⟨b, 0, none⟩) ti.n cap ∧ w.heap[b]? = some (.cells cur ti.e (0, 0)) ∧ ti.n ≤ cap ∧ cap ≤ maxLen ∧ cur.size = cap * ti.sz ∧ cur.toList.take (ti.n * ti.sz) = ti.xs := by
  rcases q2.own.2 with ⟨h1, _⟩ | ⟨gg, cap, cur, h1, _, h2, h3, h4, h5, h6⟩
  ·rw [hv] at h1; cases h1
  ·have : gg = b := by rw [hv] at h1; injection h1 with h1 _ _; injection h1 with h1; injection h1 with h1; exact h1.symm
   subst this
   exact ⟨cap, cur, h1, h2, h3, h4, h5, h6⟩
 have hcsz : ti.n * ti.sz ≤ cur.size := by rw [hcs]; exact Nat.mul_le_mul_right _ hnc
 have hxl : ti.xs.length = ti.n * ti.sz := q2.own.1
 refine ⟨cur, ti.e, hg, by omega, ?_⟩
 let new := (cur.toList.take off ++ us ++ cur.toList.drop (off + us.length)).toArray
 have hnew : (w.setRow b new).heap[b]? = some (.cells new ti.e (0, 0)) := setRow_heap w b cur new ti.e (0, 0) hg
 have hnsz : new.size = cur.size := by simp [new]; omega
 have hFb : ∀ k, ¬ g.F b k := fun k hF => by have := (q2.out b k hb hF).1; cases this
 have own_b : Own g S t b := ⟨ht, ti, hti, hb⟩
 let ti' : TI := { ti with xs := putCells ti.xs off us }
 have hown' : (w.setRow b new).ownsRow 0 ti'.e ti'.sz ti'.v ti'.n ti'.xs := by
  refine ⟨by simp only [ti', putCells_length]; exact hxl, .inr ⟨b, cap, new, hvc, Nat.zero_le _, hnew, hnc, hcm, by rw [hnsz, hcs], ?_⟩⟩
  show new.toList.take (ti.n * ti.sz) = putCells ti.xs off us
  have hnl : new.toList = putCells cur.toList off us := by rw [putCells_row _ _ _ (by simp; omega)]
  rw [hnl]
  apply List.ext_getElem?
  intro j
  rw [putCells_get _ _ _ (by omega), List.getElem?_take, putCells_get _ _ _ (by simp; omega), ← htake, List.getElem?_take]
  by_cases hj : j < ti.n * ti.sz
  ·simp only [hj, if_true]
  ·simp only [hj, if_false]
   rw [if_neg (by omega)]
 have hone' : ∀ u ∈ ti'.xs, u.oneCell' = true := fun u hu => by
  have : u ∈ putCells ti.xs off us := hu
  rw [putCells_row _ _ _ (by omega)] at this
  simp only [List.mem_append] at this
  rcases this with (h1 | h1) | h1
  ·exact q2.one u (List.mem_of_mem_take h1)
  ·exact hone u h1
  ·exact q2.one u (List.mem_of_mem_drop h1)
 have hk : Keep (fun b' _ => b' = b) w (w.setRow b new) := Keep.setRow hg hnsz (fun k hk => absurd rfl hk)
 have hcellF : ∀ b' k', g.F b' k' → (w.setRow b new).cell? ⟨b', k', none⟩ = w.cell? ⟨b', k', none⟩ := fun b' k' hF =>
  cell_setRow_other w b new ⟨b', k', none⟩ (fun e => hFb k' (e ▸ hF))
 have hn2 := h.newRowU (w' := w.setRow b new) t ti' g.F q2.ty (hk.mono (fun b' _ _ hb' => by subst hb'; exact own_b)) hown' hone' (fun b' hb' => .inr (by
  have : b' = b := by
   have h1 : ti.v.ownBlock = some b' := hb'
   rw [hb] at h1; injection h1 with h1; exact h1.symm
  subst this; exact own_b)) (fun _ _ h => h) (fun _ _ h => .inl h) (fun _ => ⟨ti, hti, rfl⟩)
 refine ⟨_, ⟨Core.remake (es := es') (ti' := ti') hn2.core (if_pos rfl) (fun kk es0 hkk => ?_) (fun kk lo n es0 hkk => ?_) (Rep.slT t es' ti' (if_pos rfl) hn hl (fun i e j d he hd => ?_)), ⟨hn2.wr.box, hn2.wr.tag⟩, hn2.keep, hn2.size, hn2.defers, hn2.fext, hn2.fnew, hn2.cap, hn2.pin⟩, ti', if_pos rfl, rfl, rfl, rfl, fun i e j d he hd => ?_⟩
 ·have hr3 := h.core.env kk _ hkk
  generalize a.tmps.getD kk undef = v3 at hr3 ⊢
  cases hr3 with
  | fz _ _ h0 => cases h0
  | slT _ _ ti3 ht3 _ _ _ => rw [hti] at ht3; injection ht3 with ht3; exact ht3 ▸ rfl
 ·have hr3 := h.core.env kk _ hkk
  generalize a.tmps.getD kk undef = v3 at hr3 ⊢
  cases hr3 with
  | fz _ _ h0 => cases h0
  | part _ _ _ _ ti3 _ hpv ht3 hn3 hlo3 _ _ => rw [hti] at ht3; injection ht3 with ht3; subst ht3; exact ⟨hlo3, hpv⟩
 ·obtain ⟨u, h1, h2⟩ := hr i e j d he hd
  exact ⟨u, h1, h2.mono (fun _ _ h => h) hcellF⟩
 ·obtain ⟨u, h1, h2⟩ := hr i e j d he hd
  exact ⟨u, h1, h2.mono (fun _ _ h => h) hcellF⟩
theorem SR.reRow (h : SR w0 W F0 V N g S a w) {t : Tag} {ti : TI} {es' : List (List D)} {us : List Value} {off b c : Nat} (ht : S.tag t = some true) (hti : g.τ t = some ti) (hn : es'.length = ti.n) (hv : ti.v = .slice (some ⟨b, 0, none⟩) ti.n c)
    (hfit : off + us.length ≤ ti.n * ti.sz) (hone : ∀ u ∈ us, u.oneCell' = true) (hl : ∀ (i : Nat) (e : List D), es'[i]? = some e → e.length = ti.sz)
    (hr : ∀ (i : Nat) (e : List D) (j : Nat) (d : D), es'[i]? = some e → e[j]? = some d → ∃ u, (putCells ti.xs off us)[i * ti.sz + j]? = some u ∧ RepF g.F w d u) :
    ∃ cur e, w.heap[b]? = some (.cells cur e (0, 0)) ∧ off + us.length ≤ cur.size ∧ ∃ g', SR w0 W F0 V N g' (S.remake t es') a (w.setRow b (cur.toList.take off ++ us ++ cur.toList.drop (off + us.length)).toArray) :=
 let ⟨cur, e, h1, h2, g', h3, _⟩ := h.reRow' ht hti hn hv hfit hone hl hr
 ⟨cur, e, h1, h2, g', h3⟩
theorem comp_clr {o : Oper} {sz : Nat} {zero : List D} {x : Operand} (h : compOp P o = some (.xop (.clr sz zero x))) : ∃ t e i zv, o.op = .call { callee := .builtin .clear, args := #[x], argTypes := #[t] } ∧ P.underlying t = some (.slice e) ∧ P.info? e = some i ∧ i.zero = some zv ∧
    i.size = sz ∧ 0 < i.size ∧ zv.cells.size = i.size ∧ zero = zeroD zv := by
 obtain ⟨dst, op, type, pos, after, guard⟩ := o
 cases op
 case call c =>
  obtain ⟨callee, ⟨args⟩, ⟨ts⟩⟩ := c
  cases callee <;> simp only [compOp] at h <;> try (cases h; done)
  rename_i b
  cases b <;> simp only [compB] at h <;> (try (cases h; done)) <;> (repeat' (split at h)) <;> try (cases h; done)
  rename_i hc
  injection h with h; injection h with h; injection h with h1 h2 h3
  subst h1; subst h2; subst h3
  exact ⟨_, _, _, _, rfl, by assumption, by assumption, by assumption, rfl, hc.1, hc.2, rfl⟩
 all_goals (simp only [compOp] at h; (repeat' (split at h)) <;> cases h)
theorem zeroCells_get (z : Array Value) (n i j : Nat) (hi : i < n) (hj : j < z.size) : (Builtin.zeroCells z n).toList[i * z.size + j]? = z[j]? := by
 have hlt : i * z.size + j < n * z.size := by
  have : (i + 1) * z.size ≤ n * z.size := Nat.mul_le_mul_right _ hi
  rw [Nat.succ_mul] at this; omega
 have hm : (i * z.size + j) % z.size = j := by
  rw [Nat.add_comm, Nat.mul_comm, Nat.add_mul_mod_self_left, Nat.mod_eq_of_lt hj]
 unfold Builtin.zeroCells
 rw [Array.getElem?_toList, Array.getElem?_map, Array.getElem?_range, if_pos hlt]
 simp [hm, hj]
theorem so_clr (h : SR w0 W F0 V N g S a w) {o : Oper} {sz : Nat} {zero : List D} {x : Operand} {Q : Exit → Act → World → Prop} (hc : compOp P o = some (.xop (.clr sz zero x))) (hd : ∀ t, o.dst = some t → t < N) (hv : xstep (.clr sz zero x) o.dst S K) :
    o.wp P a w (fun a' w' => ∃ g' S', SR w0 W F0 V N g' S' a' w' ∧ K S') Q := by
 obtain ⟨t, e, i, zv, ho, hu, hi, hz, rfl, h0, hzs, rfl⟩ := comp_clr hc
 simp only [xstep] at hv
 split at hv
 ·rename_i tg lo n es hx
  obtain ⟨ht, hsz, hle, hone, hK⟩ := hv
  have hr := h.core.look hx
  generalize hvx : a.eval x = vx at hr
  cases hr with
  | fz _ _ hr => cases hr
  | part _ _ _ _ ti _ hpv hti hn hlo hl hr =>
   obtain ⟨ti', q1, q2⟩ := h.core.tag tg true ht
   rw [hti] at q1; injection q1 with q1; subst q1
   have hsz' : ti.sz = i.size := q2.ty.2.trans hsz
   have hzl : (zeroD zv).length = i.size := by simp [zeroD, hzs]
   have hzero : (zeroValue e).run P w = .ok zv w := by simp [zeroValue, typeInfo, hi, hz]
   have fin : ∀ w', (Builtin.clear_ #[t] o.type #[vx]).run P w = .ok (.tuple #[]) w' → (∃ g', SR w0 W F0 V N g' (S.remake tg (es.take lo ++ List.replicate n (zeroD zv) ++ es.drop (lo + n))) a w') →
       o.wp P a w (fun a' w' => ∃ g' S', SR w0 W F0 V N g' S' a' w' ∧ K S') Q := fun w' hrun ⟨g', hsr⟩ => by
    have hrunO : (execOp a.eval o).run P w = .ok (.value (.tuple #[])) w' := by
     simp only [execOp, ho, resolve, invoke, builtin, Sem.run_bind, Sem.run_pure, Result.andThen_ok, List.map_toArray, List.map_cons, List.map_nil, hvx, hrun]
    unfold Oper.wp
    rw [hrunO, Oper.upon_value]
    exact ⟨_, _, hsr.put hd (.fz _ _ (.undef _)), hK⟩
   have lenN : (es.take lo ++ List.replicate n (zeroD zv) ++ es.drop (lo + n)).length = ti.n := by simp; omega
   by_cases hn0 : n = 0
   ·-- nothing is turned
    subst hn0
    have hes : es.take lo ++ List.replicate 0 (zeroD zv) ++ es.drop (lo + 0) = es := by simp
    have hrun : (Builtin.clear_ #[t] o.type #[vx]).run P w = .ok (.tuple #[]) w := by
     unfold PartV at hpv
     split at hpv
     ·obtain ⟨p, rfl, -⟩ := hpv
      simp [Builtin.clear_, run_underlying hu]
     ·rw [hpv]; simp [Builtin.clear_, run_underlying hu]
    refine fin w hrun ?_
    rw [hes]
    rcases ti.shape with ⟨hv0, hz0⟩ | ⟨b, c, hv0⟩
    ·have hrem := h.newRowU (w' := w) tg ti g.F q2.ty (Keep.refl _ w) q2.own q2.one (fun b hb => by rw [hv0] at hb; cases hb) (fun _ _ h => h) (fun _ _ h => .inl h) (fun _ => ⟨ti, hti, rfl⟩)
     refine ⟨_, ⟨Core.remake (es := es) (ti' := ti) hrem.core (if_pos rfl) (fun kk es0 hkk => ?_) (fun kk lo n es0 hkk => ?_) (Rep.slT tg es ti (if_pos rfl) hn hl hr), ⟨hrem.wr.box, hrem.wr.tag⟩, hrem.keep, hrem.size, hrem.defers, hrem.fext, hrem.fnew, hrem.cap, hrem.pin⟩⟩
     ·have hr3 := h.core.env kk _ hkk
      generalize a.tmps.getD kk undef = v3 at hr3 ⊢
      cases hr3 with
      | fz _ _ h0 => cases h0
      | slT _ _ ti3 ht3 _ _ _ => rw [hti] at ht3; injection ht3 with ht3; exact ht3 ▸ rfl
     ·have hr3 := h.core.env kk _ hkk
      generalize a.tmps.getD kk undef = v3 at hr3 ⊢
      cases hr3 with
      | fz _ _ h0 => cases h0
      | part _ _ _ _ ti3 _ hpv ht3 hn3 hlo3 _ _ => rw [hti] at ht3; injection ht3 with ht3; subst ht3; exact ⟨hlo3, hpv⟩
    ·have hcells := q2.own
     obtain ⟨cur, e2, hcur, hfit, g', hsr⟩ := h.reRow (es' := es) (us := []) (off := 0) ht hti hn hv0 (by simp) (by simp) hl (fun i e j d he hd => hr i e j d he hd)
     have : w.setRow b (cur.toList.take 0 ++ [] ++ cur.toList.drop (0 + ([] : List Value).length)).toArray = w := by
      simp only [List.take_zero, List.append_nil, List.nil_append, List.length_nil, Nat.zero_add, List.drop_zero, Array.toArray_toList]
      unfold World.setRow
      congr 1
      apply Array.ext_getElem?
      intro k
      rw [Array.getElem?_modify]
      split
      ·rename_i hk; subst hk; rw [hcur]; rfl
      ·rfl
     rw [this] at hsr
     exact ⟨g', hsr⟩
   ·rcases ti.shape with ⟨hv0, hz0⟩ | ⟨b, c, hv0⟩
    ·omega
    ·have hcap : ti.n ≤ c := by
       rcases q2.own.2 with ⟨h1, _⟩ | ⟨gg, cap, cur, h1, _, _, h2, _⟩
       ·rw [hv0] at h1; cases h1
       ·rw [hv0] at h1; injection h1 with _ _ h1; omega
     rw [hv0] at hpv
     obtain ⟨p, rfl, hp⟩ := hpv
     rw [hp (by omega)] at hvx fin
     clear hp
     have hzc : (Builtin.zeroCells zv.cells n).toList.length = n * ti.sz := by rw [hsz', ← hzs]; simp [Builtin.zeroCells]
     have hbound : lo * ti.sz + (Builtin.zeroCells zv.cells n).toList.length ≤ ti.n * ti.sz := by
      rw [hzc, ← Nat.add_mul]; exact Nat.mul_le_mul_right _ hlo
     have hzone : ∀ (j : Nat) (v : Value), zv.cells[j]? = some v → v.oneCell' = true := fun j v hj => by
      have hc0 := zero_cells (g := g) (w := w) zv
      have hjl : j < (zeroD zv).length := by rw [hzl, ← hzs]; exact (Array.getElem?_eq_some_iff.1 hj).1
      exact (hc0.2 j _ v (List.getElem?_eq_getElem hjl) hj).one (List.all_eq_true.1 hone _ (List.getElem_mem hjl))
     have hzrep : ∀ (j : Nat) (d : D) (v : Value), (zeroD zv)[j]? = some d → zv.cells[j]? = some v → RepF g.F w d v := fun j d v hd hv => by
      simp only [zeroD, List.getElem?_map, Option.map_eq_some_iff] at hd
      obtain ⟨c, hc, rfl⟩ := hd
      have : c = v := by
       have h2 : zv.cells.toList[j]? = some v := by simpa using hv
       rw [hc] at h2; injection h2
      subst this
      split
      ·exact .nil
      ·exact .val _
     obtain ⟨cur, e2, hcur, hfit, g', hsr⟩ := h.reRow (es' := es.take lo ++ List.replicate n (zeroD zv) ++ es.drop (lo + n)) (us := (Builtin.zeroCells zv.cells n).toList) (off := lo * ti.sz) ht hti lenN hv0 hbound (fun u hu => by
         simp only [Builtin.zeroCells, Array.toList_map, List.mem_map] at hu
         obtain ⟨q, hq, rfl⟩ := hu
         have hlt : q % zv.cells.size < zv.cells.size := Nat.mod_lt _ (by omega)
         rw [getElem!_pos zv.cells _ hlt]
         exact hzone _ _ (Array.getElem?_eq_getElem hlt)) (fun i0 e0 he => by
         rcases List.mem_append.1 (List.mem_of_getElem? he) with h2 | h2
         ·rcases List.mem_append.1 h2 with h3 | h3
          ·obtain ⟨q, hq⟩ := List.getElem?_of_mem (List.mem_of_mem_take h3)
           exact hl q e0 hq
          ·rw [(List.mem_replicate.1 h3).2, hzl, hsz']
         ·obtain ⟨q, hq⟩ := List.getElem?_of_mem (List.mem_of_mem_drop h2)
          exact hl q e0 hq) (fun i0 e0 j d he hd => by
         have hl1 : (es.take lo).length = lo := by rw [List.length_take]; omega
         have hput : ∀ k, (putCells ti.xs (lo * ti.sz) (Builtin.zeroCells zv.cells n).toList)[k]? = if lo * ti.sz ≤ k ∧ k < lo * ti.sz + n * ti.sz then (Builtin.zeroCells zv.cells n).toList[k - lo * ti.sz]? else ti.xs[k]? := fun k => by
          rw [putCells_get _ _ _ (by rw [q2.own.1]; exact hbound), hzc]
         have hmul : ∀ {p q : Nat}, p < q → p * ti.sz + ti.sz ≤ q * ti.sz := fun {p q} hpq => by
          have : (p + 1) * ti.sz ≤ q * ti.sz := Nat.mul_le_mul_right _ hpq
          rwa [Nat.succ_mul] at this
         have he' := he
         rw [List.append_assoc] at he
         by_cases h1 : i0 < lo
         ·rw [List.getElem?_append_left (by omega), List.getElem?_take, if_pos h1] at he
          have hjl : j < ti.sz := by rw [← hl i0 e0 he]; exact (List.getElem?_eq_some_iff.1 hd).1
          have := hmul h1
          rw [hput, if_neg (by omega)]
          exact hr i0 e0 j d he hd
         ·rw [List.getElem?_append_right (by omega), hl1] at he
          by_cases h2 : i0 - lo < n
          ·rw [List.getElem?_append_left (by simpa using h2), List.getElem?_replicate, if_pos h2] at he
           injection he with he; subst he
           have hjl : j < i.size := by rw [← hzl]; exact (List.getElem?_eq_some_iff.1 hd).1
           have hjz : j < zv.cells.size := by omega
           have e1 : i0 * ti.sz + j = lo * ti.sz + ((i0 - lo) * ti.sz + j) := by
            rw [← Nat.add_assoc, ← Nat.add_mul]; congr 2; omega
           have := hmul h2
           rw [hput, if_pos (by omega), e1, Nat.add_sub_cancel_left]
           have e2 : ti.sz = zv.cells.size := by omega
           rw [e2, zeroCells_get _ _ _ _ h2 hjz]
           exact ⟨_, Array.getElem?_eq_getElem hjz, hzrep j d _ hd (Array.getElem?_eq_getElem hjz)⟩
          ·rw [List.getElem?_append_right (by simpa using h2), List.length_replicate, List.getElem?_drop] at he
           have e1 : lo + n + (i0 - lo - n) = i0 := by omega
           rw [e1] at he
           have := Nat.mul_le_mul_right ti.sz (show lo + n ≤ i0 by omega)
           rw [Nat.add_mul] at this
           rw [hput, if_neg (by omega)]
           exact hr i0 e0 j d he hd)
     refine fin _ ?_ ⟨g', hsr⟩
     have hst := run_storeCells_at P b (lo * ti.sz) e2 (Builtin.zeroCells zv.cells n).toList 0 cur w hcur (by simpa using hfit) (fun u hu => by
      simp only [Builtin.zeroCells, Array.toList_map, List.mem_map] at hu
      obtain ⟨q, hq, rfl⟩ := hu
      have hlt : q % zv.cells.size < zv.cells.size := Nat.mod_lt _ (by omega)
      rw [getElem!_pos zv.cells _ hlt]
      exact hzone _ _ (Array.getElem?_eq_getElem hlt))
     simp only [Nat.add_zero] at hst
     obtain ⟨n', rfl⟩ : ∃ n', n = n' + 1 := ⟨n - 1, by omega⟩
     simp [Builtin.clear_, run_underlying hu, hzero, hst]
 ·exact hv.elim
end Go.Vm

namespace Go.Vm
open Go.RowKit
set_option linter.unusedVariables false
variable {P : Program} {w0 w w' : World} {W F0 : Reg} {V : Pins} {N : Nat} {g g' : Gh} {S : St} {a : Act} {tm : Array Value} {K : St → Prop}
theorem eqVs_len : ∀ {ks : List SK} {xs ys : List Value} {b : Bool}, eqVs ks xs ys = some b → xs.length = ks.length ∧ ys.length = ks.length
 | [], [], [], _, _ => ⟨rfl, rfl⟩
 | [], _ :: _, _, _, h => by simp [eqVs] at h
 | [], [], _ :: _, _, h => by simp [eqVs] at h
 | _ :: _, [], _, _, h => by simp [eqVs] at h
 | _ :: _, _ :: _, [], _, h => by simp [eqVs] at h
 | k :: ks, x :: xs, y :: ys, b, h => by
  simp only [eqVs] at h
  split at h
  ·rename_i p q h1 h2
   have := eqVs_len h2
   simp [this.1, this.2]
  ·cases h
theorem bytes_inj {a b : ByteArray} (h : a.toList = b.toList) : a = b := by
 cases a with | mk a => cases b with | mk b =>
 rw [ByteArray.toList_eq, ByteArray.toList_eq] at h
 congr 1
 exact Array.toList_inj.1 h
theorem eqV_true {k : SK} {a b : Value} (h : eqV k a b = some true) : a = b := by
 cases k <;> cases a <;> cases b <;> simp only [eqV] at h <;> try (cases h; done)
 ·injection h with h; rw [eq_of_beq h]
 ·split at h
  ·rename_i hk; injection h with h; rw [hk, eq_of_beq h]
  ·cases h
 ·injection h with h
  rw [bytes_inj (eq_of_beq h)]
theorem eqVs_true : ∀ {ks : List SK} {xs ys : List Value}, eqVs ks xs ys = some true → xs = ys
 | [], [], [], _ => rfl
 | [], _ :: _, _, h => by simp [eqVs] at h
 | [], [], _ :: _, h => by simp [eqVs] at h
 | _ :: _, [], _, h => by simp [eqVs] at h
 | _ :: _, _ :: _, [], h => by simp [eqVs] at h
 | k :: ks, x :: xs, y :: ys, h => by
  simp only [eqVs] at h
  split at h
  ·rename_i p q h1 h2
   injection h with h
   rw [Bool.and_eq_true] at h
   rw [h.1] at h1; rw [h.2] at h2
   rw [eqV_true h1, eqVs_true h2]
  ·cases h
def eqKeyV (ks : List SK) (v u : Value) : Option Bool := match ks with
 | [k] => eqV k v u
 | _ => match v, u with | .agg xs, .agg ys => eqVs ks xs.toList ys.toList | _, _ => none
theorem eqKeyV_true {ks : List SK} {v u : Value} (h : eqKeyV ks v u = some true) : v = u := by
 unfold eqKeyV at h
 split at h
 ·exact eqV_true h
 ·split at h
  ·rename_i xs ys
   rw [Array.toList_inj.1 (eqVs_true h)]
  ·cases h
theorem eqKey_V {ks : List SK} {a b : D} {v u : Value} {p : Bool} (h : eqKey ks a b = some p) (ha : Rep g w a v) (hb : Rep g w b u) : eqKeyV ks v u = some p := by
 unfold eqKey at h
 unfold eqKeyV
 split at h
 ·split at h
  ·rw [ha.val_inv, hb.val_inv]; exact h
  ·cases h
 ·rename_i hne
  split at h
  ·obtain ⟨vs, rfl, hvs, hv⟩ := ha.agg_inv
   obtain ⟨us, rfl, hus, hu⟩ := hb.agg_inv
   obtain ⟨e1, -, -⟩ := eqDs_vs (vs := vs.toList) (us := us.toList) h (by simpa using hvs) (by simpa using hus) (fun i d v h1 h2 => hv i d v h1 (by simpa using h2)) (fun i d v h1 h2 => hu i d v h1 (by simpa using h2))
   split
   ·exact absurd rfl (hne _)
   ·exact e1
  ·cases h
theorem keyT_cases {t : TypeId} {ks : List SK} (h : keyT P t = some ks) : (∃ k d, ks = [k] ∧ P.underlying t = some d ∧ ((k = .b ∧ d = .bool) ∨ (k = .i ∧ ∃ q, d = .int q) ∨ (k = .s ∧ d = .string))) ∨
    (∃ n e d, P.underlying t = some (.array n e) ∧ P.underlying e = some d ∧ aggD d = false ∧ (∀ m, d ≠ .interface m) ∧ flatT P 20 t = some ks ∧ 2 ≤ ks.length) := by
 unfold keyT at h
 split at h
 ·rename_i hu; injection h with h; exact .inl ⟨.b, _, h.symm, hu, .inl ⟨rfl, rfl⟩⟩
 ·rename_i q hu; injection h with h; exact .inl ⟨.i, _, h.symm, hu, .inr (.inl ⟨rfl, q, rfl⟩)⟩
 ·rename_i hu; injection h with h; exact .inl ⟨.s, _, h.symm, hu, .inr (.inr ⟨rfl, rfl⟩)⟩
 ·rename_i n e hu
  have fin : ∀ d, P.underlying e = some d → aggD d = false → (∀ m, d ≠ .interface m) → (match flatT P 20 t with | some ks => if 2 ≤ ks.length then some ks else none | none => none) = some ks →
      ∃ n e d, P.underlying t = some (.array n e) ∧ P.underlying e = some d ∧ aggD d = false ∧ (∀ m, d ≠ .interface m) ∧ flatT P 20 t = some ks ∧ 2 ≤ ks.length := fun d hd h1 h2 h3 => by
   split at h3
   ·rename_i ks' hf
    split at h3
    ·rename_i hl
     injection h3 with h3; subst h3
     exact ⟨n, e, d, hu, hd, h1, h2, hf, hl⟩
    ·cases h3
   ·cases h3
  split at h
  ·rename_i he; exact .inr (fin _ he rfl (fun m => by simp) h)
  ·rename_i q he; exact .inr (fin _ he rfl (fun m => by simp) h)
  ·rename_i he; exact .inr (fin _ he rfl (fun m => by simp) h)
  ·cases h
 ·cases h
theorem isSome_self {α : Type} {x : Option α} (h : x.isSome = true) : ∃ b, x = some b := Option.isSome_iff_exists.1 h
theorem flat_array {t e : TypeId} {n : Nat} {ks : List SK} {d : TypeDesc} (h : flatT P 20 t = some ks) (hu : P.underlying t = some (.array n e)) (he : P.underlying e = some d) (hd : aggD d = false) :
    ks.length = n ∧ ∃ i, P.info? e = some i ∧ i.size = 1 := by
 rw [show (20 : Nat) = 19 + 1 from rfl, flatT, hu] at h
 dsimp only at h
 split at h
 ·rename_i ks' i it hks hi hit
  split at h
  ·rename_i hc
   injection h with h; subst h
   have hl : ks'.length = 1 := by
    rw [show (19 : Nat) = 18 + 1 from rfl, flatT, he] at hks
    cases d <;> simp only [aggD] at hd <;> (try (cases hd; done)) <;> dsimp only at hks <;> first | (cases hks; done) | (injection hks with hks; subst hks; rfl)
   rw [reps_length, hl]
   exact ⟨Nat.mul_one n, i, hi, by rw [hc.1, hl]⟩
  ·cases h
 ·cases h
theorem run_checkScalar {e : TypeId} {d : TypeDesc} {v : Value} {k : SK} (he : P.underlying e = some d) (hd : aggD d = false) (hi : ∀ m, d ≠ .interface m) (emp : Bool) (n : Nat) : (Instr.checkKey emp (n + 1) e v).run P w = .ok () w := by
 unfold Instr.checkKey
 simp only [Sem.run_bind, run_underlying he, Result.andThen_ok]
 cases d <;> simp only [aggD] at hd <;> first | (cases hd; done) | (exact absurd rfl (hi _)) | skip
 all_goals (cases v <;> rfl)
theorem run_checkKeyV {t : TypeId} {ks : List SK} {v : Value} (hk : keyT P t = some ks) (hv : (eqKeyV ks v v).isSome = true) (emp : Bool) : (Instr.checkKey emp 10000 t v).run P w = .ok () w := by
 rcases keyT_cases hk with ⟨k, d, rfl, hu, hd⟩ | ⟨n, e, d, hu, he, hd, hi, hf, hl⟩
 ·exact run_checkScalar (k := k) hu (by rcases hd with ⟨-, rfl⟩ | ⟨-, q, rfl⟩ | ⟨-, rfl⟩ <;> rfl) (fun m => by rcases hd with ⟨-, rfl⟩ | ⟨-, q, rfl⟩ | ⟨-, rfl⟩ <;> simp) emp 9999
 ·obtain ⟨hn, i, hie, hsz⟩ := flat_array hf hu he hd
  obtain ⟨xs, rfl, hvs⟩ : ∃ xs, v = .agg xs ∧ (eqVs ks xs.toList xs.toList).isSome = true := by
   unfold eqKeyV at hv
   split at hv
   ·simp at hl
   ·cases v <;> first | exact ⟨_, rfl, hv⟩ | (simp at hv; done)
  obtain ⟨b, hb⟩ := isSome_self hvs
  have hxs := (eqVs_len hb).1
  unfold Instr.checkKey
  have hs : (sizeOf e).run P w = .ok 1 w := by simp [sizeOf, typeInfo, hie, hsz]
  have hloop : ∀ l : List Nat, (∀ j ∈ l, j < xs.size) → (do for j in l do { Instr.checkKey emp 9999 e (← part e xs (j * (← sizeOf e))) } : Sem Unit).run P w = .ok () w := fun l => by
   induction l with
   | nil => intro _; rfl
   | cons j l ih =>
    intro hj
    have hp : (part e xs (j * 1)).run P w = .ok (xs[j * 1]'(by have := hj j (by simp); omega)) w := part_scalar he hd (by have := hj j (by simp); omega)
    have hc := run_checkScalar (P := P) (w := w) (k := SK.i) (v := xs[j * 1]'(by have := hj j (by simp); omega)) he hd hi emp 9998
    have := ih (fun j hj' => hj j (by simp [hj']))
    simp only [List.forIn_cons, Sem.run_bind, hs, hp, hc, Result.andThen_ok, Sem.run_pure] at this ⊢
    exact this
  have := hloop (List.range n) (fun j hj => by have := List.mem_range.1 hj; simp at hxs; omega)
  simp only [Sem.run_bind, run_underlying hu, Result.andThen_ok, Std.Legacy.Range.forIn_eq_forIn_range', Std.Legacy.Range.size, Nat.sub_zero, Nat.add_sub_cancel, Nat.div_one]
  rw [← List.range_eq_range']
  simpa only [Sem.run_bind] using this
def findV (ks : List SK) (v : Value) : List MapEntry → Nat → Option (Nat × Value)
 | [], _ => none
 | e :: es, i => if eqKeyV ks v e.key = some true then some (i, e.val) else findV ks v es (i + 1)
def Ents (g : Gh) (w : World) (rows : List (List D)) (es : List MapEntry) : Prop := rows.length = es.length ∧
 ∀ (i : Nat) (r : List D) (e : MapEntry), rows[i]? = some r → es[i]? = some e → r.length = 2 ∧ (∀ d, r[0]? = some d → Rep g w d e.key) ∧ ∀ d, r[1]? = some d → Rep g w d e.val
theorem Ents.tail {r : List D} {rows : List (List D)} {e : MapEntry} {es : List MapEntry} (h : Ents g w (r :: rows) (e :: es)) : Ents g w rows es :=
 ⟨by have := h.1; simpa using this, fun i r e h1 h2 => h.2 (i + 1) r e (by simpa using h1) (by simpa using h2)⟩
theorem Ents.head {r : List D} {rows : List (List D)} {e : MapEntry} {es : List MapEntry} (h : Ents g w (r :: rows) (e :: es)) : ∃ k d, r = [k, d] ∧ Rep g w k e.key ∧ Rep g w d e.val := by
 obtain ⟨h1, h2, h3⟩ := h.2 0 r e rfl rfl
 match r, h1, h2, h3 with
 | [k, d], _, h2, h3 => exact ⟨k, d, rfl, h2 k rfl, h3 d rfl⟩
def CompE (ks : List SK) (kv : Value) : List MapEntry → Prop
 | [] => True
 | e :: es => eqKeyV ks kv e.key = some true ∨ (eqKeyV ks kv e.key = some false ∧ CompE ks kv es)
theorem find_rep {ks : List SK} {kd : D} {kv : Value} (hk : Rep g w kd kv) : ∀ {rows : List (List D)} {es : List MapEntry} {i : Nat} {r : Option (Nat × D)}, Ents g w rows es → findE ks kd rows i = some r →
    CompE ks kv es ∧
    match r with
    | none => findV ks kv es i = none
    | some (j, d) => i ≤ j ∧ ∃ e, es[j - i]? = some e ∧ findV ks kv es i = some (j, e.val) ∧ Rep g w d e.val ∧ kv = e.key
 | [], [], i, r, _, h => by
  simp only [findE, Option.some.injEq] at h; subst h
  exact ⟨trivial, rfl⟩
 | [], e :: es, i, r, h, _ => by have := h.1; simp at this
 | r0 :: rows, [], i, r, h, _ => by have := h.1; simp at this
 | r0 :: rows, e :: es, i, r, h, hf => by
  obtain ⟨k, d, rfl, hrk, hrd⟩ := h.head
  simp only [findE] at hf
  split at hf
  ·rename_i hq
   injection hf with hf; subst hf
   have hv := eqKey_V hq hk hrk
   exact ⟨.inl hv, Nat.le_refl _, e, by simp, by simp [findV, hv], hrd, eqKeyV_true hv⟩
  ·rename_i hq
   have hv := eqKey_V hq hk hrk
   obtain ⟨q1, q2⟩ := find_rep hk h.tail hf
   refine ⟨.inr ⟨hv, q1⟩, ?_⟩
   have hne : ¬ eqKeyV ks kv e.key = some true := by rw [hv]; simp
   cases r with
   | none => simp only at q2 ⊢; rw [findV, if_neg hne]; exact q2
   | some jd =>
    obtain ⟨j, dd⟩ := jd
    obtain ⟨hle, e', h1, h2, h3, h4⟩ := q2
    refine ⟨by omega, e', ?_, ?_, h3, h4⟩
    ·rw [show j - i = (j - (i + 1)) + 1 by omega, List.getElem?_cons_succ]; exact h1
    ·rw [findV, if_neg hne]; exact h2
  ·cases hf
theorem bytes_beq (a b : ByteArray) : (a == b) = (a.toList == b.toList) := by simp [beq_toListBytes]
theorem run_equalAgg {t : TypeId} {d : TypeDesc} {ks : List SK} {vs us : Array Value} {b : Bool} (hf : flatT P 20 t = some ks) (hu : P.underlying t = some d) (hd : aggD d = true) (h : eqVs ks vs.toList us.toList = some b) : (Op.equal t (.agg vs) (.agg us)).run P w = .ok b w := by
 obtain ⟨l1, l2⟩ := eqVs_len h
 simp only [Array.length_toList] at l1 l2
 obtain ⟨i, hi, hsz⟩ := flatT_size hf hu hd
 have seg0 : ∀ (zs : Array Value), zs.size = ks.length → seg zs 0 ks.length = zs.toList := fun zs hz => by simp only [seg, List.drop_zero, ← hz]; exact List.take_of_length_le (by simp)
 obtain ⟨x', y', p1, p2, p3⟩ := eq_flat (P := P) (w := w) 20 t ks hf 9980 vs us 0 b (by omega) (by omega) (by rw [seg0 vs l1, seg0 us l2]; exact h)
 rw [part_agg hu hd hi] at p1 p2
 injection p1 with p1; injection p2 with p2
 rw [hsz, Nat.zero_add] at p1 p2
 have ex : ∀ (zs : Array Value), zs.size = ks.length → zs.extract 0 ks.length = zs := fun zs hz => by rw [← hz]; simp
 rw [ex vs l1] at p1
 rw [ex us l2] at p2
 subst p1; subst p2
 exact p3
theorem run_findKeyV {t : TypeId} {ks : List SK} {kv : Value} {es : List MapEntry} (hk : keyT P t = some ks) (hc : CompE ks kv es) : (Instr.findKey t kv es).run P w = .ok (findV ks kv es 0) w := by
 rcases keyT_cases hk with ⟨k, d, rfl, hu, hd⟩ | ⟨n, e0, d, hu, he, hd, hi, hf, hl⟩
 ·refine MapKept.run_findKey hu ?_
  have same : ∀ u b, eqKeyV [k] kv u = some b → Instr.sameNow d kv u = some b := fun u b h => by
   simp only [eqKeyV] at h
   rcases hd with ⟨rfl, rfl⟩ | ⟨rfl, q, rfl⟩ | ⟨rfl, rfl⟩ <;> cases kv <;> cases u <;> simp only [eqV] at h <;> first | (cases h; done) | exact h | (simp only [Instr.sameNow]; rw [bytes_beq]; exact h)
  have : ∀ (es : List MapEntry) (i : Nat), CompE [k] kv es → Instr.findNow d kv es i = some (findV [k] kv es i) := fun es => by
   induction es with
   | nil => intro i _; rfl
   | cons e es ih =>
    intro i h
    rcases h with h | ⟨h, h'⟩
    ·simp only [Instr.findNow, same _ _ h, findV, h, if_true]
    ·simp only [Instr.findNow, same _ _ h, findV, h, Option.some.injEq, Bool.false_eq_true, if_false]
     exact ih (i + 1) h'
  exact this es 0 hc
 ·have aggs : ∀ u b, eqKeyV ks kv u = some b → ∃ xs ys, kv = .agg xs ∧ u = .agg ys ∧ eqVs ks xs.toList ys.toList = some b := fun u b h => by
    unfold eqKeyV at h
    split at h
    ·simp at hl
    ·split at h
     ·exact ⟨_, _, rfl, rfl, h⟩
     ·cases h
  have ask : ∀ (es : List MapEntry) (i : Nat), CompE ks kv es → (Instr.findAsking t kv es i).run P w = .ok (findV ks kv es i) w := fun es => by
   induction es with
   | nil => intro i _; rfl
   | cons e es ih =>
    intro i h
    have eqr : ∀ b, eqKeyV ks kv e.key = some b → (Op.equal t kv e.key).run P w = .ok b w := fun b h => by
     obtain ⟨xs, ys, h1, h2, h3⟩ := aggs _ _ h
     rw [h1, h2]
     exact run_equalAgg hf hu rfl h3
    rcases h with h | ⟨h, h'⟩
    ·simp only [Instr.findAsking, Sem.run_bind, eqr _ h, Result.andThen_ok, if_true, Sem.run_pure, findV, h]
    ·simp only [Instr.findAsking, Sem.run_bind, eqr _ h, Result.andThen_ok, Bool.false_eq_true, if_false, findV, h, Option.some.injEq]
     exact ih (i + 1) h'
  have hnone : ∀ (e : MapEntry) (es : List MapEntry), Instr.findNow (.array n e0) kv (e :: es) 0 = none := fun e es => by simp only [Instr.findNow, Instr.sameNow]
  cases es with
  | nil => exact MapKept.run_findKey hu rfl
  | cons e es =>
   unfold Instr.findKey
   simp only [Sem.run_bind, run_underlying hu, Result.andThen_ok, hnone]
   exact ask (e :: es) 0 hc
theorem sameBits_one {k : SK} {v : Value} (h : (eqV k v v).isSome = true) (n : Nat) : Instr.sameBits n v v = true := by
 cases k <;> cases v <;> simp only [eqV] at h <;> first | (cases h; done) | (cases n <;> simp [Instr.sameBits, beq_toListBytes])
theorem sameBits_self {ks : List SK} {v : Value} (h : (eqKeyV ks v v).isSome = true) : Instr.sameBits 10000 v v = true := by
 unfold eqKeyV at h
 split at h
 ·exact sameBits_one h _
 ·cases v <;> first | (simp at h; done) | skip
  rename_i xs
  simp only at h
  rw [show (10000 : Nat) = 9999 + 1 from rfl, Instr.sameBits, beq_self_eq_true, Bool.true_and, List.all_eq_true]
  have key : ∀ (ks : List SK) (l : List Value), (eqVs ks l l).isSome = true → ∀ x ∈ l.zip l, Instr.sameBits 9999 x.1 x.2 = true := fun ks l => by
   induction l generalizing ks with
   | nil => intro _ x hx; simp at hx
   | cons a l ih =>
    intro h x hx
    cases ks with
    | nil => simp [eqVs] at h
    | cons k ks =>
     simp only [eqVs] at h
     split at h
     ·rename_i p q h1 h2
      rw [List.zip_cons_cons, List.mem_cons] at hx
      rcases hx with rfl | hx
      ·exact sameBits_one (by rw [h1]; rfl) _
      ·exact ih ks (by rw [h2]; rfl) x hx
     ·simp at h
  intro x hx
  exact key ks xs.toList h x hx
theorem run_keyStays {ks : List SK} {v : Value} (h : (eqKeyV ks v v).isSome = true) : (Instr.keyThatStays v v).run P w = .ok v w := by
 unfold Instr.keyThatStays
 rw [if_pos (sameBits_self h)]
 rfl
end Go.Vm

namespace Go.Vm
open Go.RowKit
set_option linter.unusedVariables false
variable {P : Program} {w0 w w' : World} {W F0 : Reg} {V : Pins} {N : Nat} {g g' : Gh} {S : St} {a : Act} {tm : Array Value} {K : St → Prop}
theorem Blk.kindN {o b k n n' : Nat} {vs : Array Value} {e : TypeId} (h : Blk w o b k n vs e) (hn : n' = n) : Blk w o b k n' vs e := by rw [hn]; exact h
theorem Core.newObj (h : Core g S tm w) (o : Nat) (cs : List D) (vs : Array Value) (e : TypeId) (ob : Obj) (hc : Cells g w cs vs) (hob : Blk (w.alloc ob) o w.heap.size 0 cs.length vs e) :
    Core { g with μ := fun o' => if o' = o then some (w.heap.size, 0) else g.μ o' } (S.newBox o (cs.map (D.keep (fun y => decide (y ≠ o)) fun _ => true))) tm (w.alloc ob) := by
 have h1 := h.dropBox o
 have hheap : ∀ (b : Nat) (ob' : Obj), w.heap[b]? = some ob' → (w.alloc ob).heap[b]? = some ob' := fun b ob' hb => by
  rw [heap_alloc_old w _ b (Array.getElem?_eq_some_iff.1 hb).1]; exact hb
 have hl : Later g { g with μ := fun o' => if o' = o then some (w.heap.size, 0) else g.μ o' } w (w.alloc ob) (fun y => decide (y ≠ o)) (fun _ => true) :=
  ⟨fun o' ho b hb => by
   have : o' ≠ o := by simpa using ho
   show (if o' = o then some (w.heap.size, 0) else g.μ o') = some b
   rw [if_neg this]; exact hb, fun _ _ _ h => h, fun _ _ h => h, fun b k hF => World.cell?_of_block (a := ⟨b, k, none⟩) (heap_alloc_old w _ b (h.frz.1 b k hF))⟩
 have h2 := h1.later hl (fun o' c hb => by
  simp only [St.box, lookup_filter] at hb
  split at hb
  ·cases hb
  ·rename_i hne; simpa using hne) (fun _ _ _ => rfl) hheap (fun b k hF => .inl hF) (fun b k hF => by have := h.frz.1 b k hF; simp; omega)
 have unb : ∀ o' c, o' ≠ o → (S.newBox o (cs.map (D.keep (fun y => decide (y ≠ o)) fun _ => true))).box o' = some c → (({ S with hp := S.hp.filter fun y => decide (y.1 ≠ o) } : St).only (fun y => decide (y ≠ o)) (fun _ => true)).box o' = some c := fun o' c hne hb => by
  rw [newBox_box, if_neg hne] at hb
  rw [only_box]
  show (lkp o' (S.hp.filter fun y => decide (y.1 ≠ o))).map _ = some c
  rw [lookup_filter, if_neg hne]; exact hb
 have blt : ∀ o' c b k, o' ≠ o → (S.newBox o (cs.map (D.keep (fun y => decide (y ≠ o)) fun _ => true))).box o' = some c → g.μ o' = some (b, k) → b < w.heap.size := fun o' c b k hne hb hμ => by
  rw [newBox_box, if_neg hne] at hb
  obtain ⟨c0, hc0, _⟩ := Option.map_eq_some_iff.1 hb
  exact h.box_lt hc0 hμ
 refine ⟨h2.env, fun o' c hb => ?_, fun o' c b k i hb hμ hi hF => ?_, fun o1 o2 c1 c2 b k k' hb1 hb2 hμ1 hμ2 => ?_, h2.tag, fun t x ti o' c b k ht hti hb hμ hown => ?_, h2.tagI, h2.frz⟩
 ·by_cases hne : o' = o
  ·subst hne
   rw [newBox_box, if_pos rfl] at hb
   injection hb with hb; subst hb
   refine ⟨w.heap.size, 0, vs, e, by simp, .kindN hob (by simp), by simp [hc.1], fun i d u hd hu => ?_⟩
   rw [List.getElem?_map] at hd
   obtain ⟨d0, h3, h4⟩ := Option.map_eq_some_iff.1 hd
   subst h4
   exact (hc.2 i d0 u h3 (by simpa using hu)).keep hl
  ·exact h2.box o' c (unb o' c hne hb)
 ·by_cases hne : o' = o
  ·subst hne
   simp only [if_pos, Option.some.injEq, Prod.mk.injEq] at hμ
   have := h.frz.1 b _ hF
   omega
  ·exact h2.boxF o' c b k i (unb o' c hne hb) hμ hi hF
 ·by_cases hn1 : o1 = o
  ·by_cases hn2 : o2 = o
   ·exact fun _ _ _ _ _ => hn1.trans hn2.symm
   ·subst hn1
    simp only [if_pos, Option.some.injEq, Prod.mk.injEq] at hμ1
    simp only [if_neg hn2] at hμ2
    have := blt o2 c2 b k' hn2 hb2 hμ2
    omega
  ·by_cases hn2 : o2 = o
   ·subst hn2
    simp only [if_pos, Option.some.injEq, Prod.mk.injEq] at hμ2
    simp only [if_neg hn1] at hμ1
    have := blt o1 c1 b k hn1 hb1 hμ1
    omega
   ·exact h2.boxI o1 o2 c1 c2 b k k' (unb _ _ hn1 hb1) (unb _ _ hn2 hb2) hμ1 hμ2
 ·by_cases hne : o' = o
  ·subst hne
   simp only [if_pos, Option.some.injEq, Prod.mk.injEq] at hμ
   have := h.own_lt ht hti hown
   omega
  ·exact h2.tagB t x ti o' c b k ht hti (unb o' c hne hb) hμ hown
theorem SR.newObj (h : SR w0 W F0 V N g S a w) (o : Nat) (cs : List D) (vs : Array Value) (e : TypeId) (ob : Obj) (hc : Cells g w cs vs) (hob : Blk (w.alloc ob) o w.heap.size 0 cs.length vs e) (ho : o % mapB < 999999) :
    SR w0 W F0 V N { g with μ := fun o' => if o' = o then some (w.heap.size, 0) else g.μ o' } (S.newBox o (cs.map (D.keep (fun y => decide (y ≠ o)) fun _ => true))) a (w.alloc ob) := by
 refine h.later (h.core.newObj o cs vs e ob hc hob) ⟨fun o' c b k i hb hμ hi => ?_, h.wr.tag⟩ (Keep.alloc (fun _ _ => False) w _) (fun _ _ _ h => h.elim) (fun _ _ h => h) (fun _ _ h => .inl h) (fun t ti _ h => ⟨ti, h, rfl⟩) (fun o' b ho' hb => by
  have : o' ≠ o := fun he => by rw [he] at ho'; omega
  simp only [if_neg this] at hb; exact hb)
 rw [newBox_box] at hb
 split at hb
 ·rename_i he; subst he
  simp only [if_pos, Option.some.injEq, Prod.mk.injEq] at hμ
  have := h.le
  exact .inl (by omega)
 ·rename_i hne
  simp only [if_neg hne] at hμ
  obtain ⟨c0, h1, rfl⟩ := Option.map_eq_some_iff.1 hb
  exact h.wr.box o' c0 b k i h1 hμ (by simpa using hi)
def setB (w : World) (b : Nat) (ob : Obj) : World := { w with heap := w.heap.setIfInBounds b ob }
theorem setB_same {b : Nat} {ob ob' : Obj} (h : w.heap[b]? = some ob) : (setB w b ob').heap[b]? = some ob' := (MapKept.heap_set h).1
theorem setB_other {b b' : Nat} {ob ob' : Obj} (h : w.heap[b]? = some ob) (hne : b' ≠ b) : (setB w b ob').heap[b']? = w.heap[b']? := (MapKept.heap_set h).2 b' hne
theorem map_no_cell {b : Nat} {ob : Obj} (h : w.heap[b]? = some ob) (hm : isMapO ob = true) (k : Nat) : w.cell? ⟨b, k, none⟩ = none := by
 unfold World.cell?
 cases ob <;> first | (cases hm; done) | simp [h]
theorem Core.setMap (h : Core g S tm w) {o : Nat} {cs cs' : List D} {b : Nat} {ob ob' : Obj} {vs' : Array Value} (hb : S.box o = some cs) (hμ : g.μ o = some (b, 0)) (ho : ¬ o < mapB) (hcur : w.heap[b]? = some ob) (hm : isMapO ob = true)
    (hv : virtO o ob' = some vs') (hlen : cs'.length = cs.length) (hpos : 0 < cs.length) (hsz : cs'.length ≤ vs'.size) (hr : ∀ (i : Nat) (d : D) (u : Value), cs'[i]? = some d → vs'[i]? = some u → Rep g w d u) :
    Core g (S.setBox o cs') tm (setB w b ob') := by
 have hnew := setB_same (ob' := ob') hcur
 have hm' := virt_map hv
 have hcellF : ∀ b' k', (setB w b ob').cell? ⟨b', k', none⟩ = w.cell? ⟨b', k', none⟩ := fun b' k' => by
  by_cases hbb : b' = b
  ·subst hbb
   rw [map_no_cell hnew hm', map_no_cell hcur hm]
  ·exact World.cell?_of_block (a := ⟨b', k', none⟩) (setB_other hcur hbb)
 have rep : ∀ {d : D} {v : Value}, Rep g w d v → Rep g (setB w b ob') d v := fun hr => hr.mono' (fun _ _ h => h) (fun _ _ h => h) (fun _ _ h => h) (fun b k _ => hcellF b k)
 refine ⟨fun t d hd => rep (h.env t d hd), fun o' c hb' => ?_, fun o' c b' k' i hb' hμ' hi => ?_, fun o1 o2 c1 c2 b1 k1 k2 hb1 hb2 hμ1 hμ2 => ?_, fun t x ht => ?_, fun t x ti o' c b' k' ht hti hb' hμ' => ?_, h.tagI, fun b' k' hF => by simpa [setB] using h.frz.1 b' k' hF, h.frz.2.mono (fun _ _ h => h) (fun b k _ => hcellF b k)⟩
 ·rw [setBox_box] at hb'
  split at hb'
  ·rename_i he; subst he
   injection hb' with hb'; subst hb'
   exact ⟨b, 0, vs', 0, hμ, .ofMap hnew hv ho (by omega), by omega, fun i d u hd hu => rep (hr i d u hd (by simpa using hu))⟩
  ·rename_i hne
   obtain ⟨b', k', vs, e', q1, q2, q3, q4⟩ := h.box o' c hb'
   have hbb : b' ≠ b := fun hbb => by
    subst hbb
    by_cases ho' : o' < mapB
    ·have := q2.cells ho'
     rw [hcur] at this; injection this with this; rw [this] at hm; cases hm
    ·obtain ⟨⟨h0, hn⟩, -⟩ := q2.isMap ho'
     exact hne (h.boxI o' o c cs b' k' 0 hb' hb q1 hμ 0 0 hn hpos (by omega))
   exact ⟨b', k', vs, e', q1, q2.keep (fun ob h => by rw [setB_other hcur hbb]; exact h), q3, fun i d u hd hu => rep (q4 i d u hd hu)⟩
 ·rw [setBox_box] at hb'
  split at hb'
  ·rename_i he; subst he
   injection hb' with hb'; subst hb'
   exact h.boxF o' cs b' k' i hb hμ' (by omega)
  ·exact h.boxF o' c b' k' i hb' hμ' hi
 ·have len : ∀ o' c, (S.setBox o cs').box o' = some c → ∃ c0, S.box o' = some c0 ∧ c0.length = c.length := fun o' c hb' => by
    rw [setBox_box] at hb'
    split at hb'
    ·rename_i he; subst he
     injection hb' with hb'; subst hb'
     exact ⟨cs, hb, hlen.symm⟩
    ·exact ⟨c, hb', rfl⟩
  obtain ⟨d1, e1, f1⟩ := len o1 c1 hb1
  obtain ⟨d2, e2, f2⟩ := len o2 c2 hb2
  rw [← f1, ← f2]
  exact h.boxI o1 o2 d1 d2 b1 k1 k2 e1 e2 hμ1 hμ2
 ·obtain ⟨ti, q1, q2⟩ := h.tag t x ht
  refine ⟨ti, q1, ⟨q2.ty, ?_, q2.one, q2.out, q2.inn⟩⟩
  refine ⟨q2.own.1, ?_⟩
  rcases q2.own.2 with h3 | ⟨gg, cap, cur', hv, hz, hh, r⟩
  ·exact .inl h3
  ·refine .inr ⟨gg, cap, cur', hv, hz, ?_, r⟩
   have : gg ≠ b := fun e => by rw [e, hcur] at hh; injection hh with hh; rw [hh] at hm; cases hm
   rw [setB_other hcur this]; exact hh
 ·rw [setBox_box] at hb'
  split at hb'
  ·rename_i he; subst he
   exact h.tagB t x ti o' cs b' k' ht hti hb hμ'
  ·exact h.tagB t x ti o' c b' k' ht hti hb' hμ'
theorem Keep.setB {b : Nat} {ob ob' : Obj} (hcur : w.heap[b]? = some ob) (hm : isMapO ob = true) (hm' : isMapO ob' = true) : Keep (fun b' k => b' = b ∧ k = 0) w (setB w b ob') := by
 refine ⟨rfl, rfl, rfl, by simp [Vm.setB], Nat.le_refl _, fun b' o hb => ?_⟩
 by_cases h : b' = b
 ·subst h
  rw [hcur] at hb; injection hb with hb; subst hb
  exact .inr (.inr ⟨hm, ⟨rfl, rfl⟩, ob', setB_same hcur, hm'⟩)
 ·exact .inl (by rw [setB_other hcur h]; exact hb)
theorem SR.setMap (h : SR w0 W F0 V N g S a w) {o : Nat} {cs cs' : List D} {b : Nat} {ob ob' : Obj} {vs' : Array Value} (hb : S.box o = some cs) (hμ : g.μ o = some (b, 0)) (ho : ¬ o < mapB) (hcur : w.heap[b]? = some ob) (hm : isMapO ob = true)
    (hv : virtO o ob' = some vs') (hlen : cs'.length = cs.length) (hpos : 0 < cs.length) (hsz : cs'.length ≤ vs'.size) (hr : ∀ (i : Nat) (d : D) (u : Value), cs'[i]? = some d → vs'[i]? = some u → Rep g w d u) :
    SR w0 W F0 V N g (S.setBox o cs') a (Vm.setB w b ob') := by
 refine h.later (h.core.setMap hb hμ ho hcur hm hv hlen hpos hsz hr) ⟨fun o' c b' k i hb' hμ' hi => ?_, h.wr.tag⟩ (Keep.setB hcur hm (virt_map hv)) (fun b' k hlt hbk => ?_) (fun _ _ h => h) (fun _ _ h => .inl h) (fun t ti _ h => ⟨ti, h, rfl⟩)
 ·rw [setBox_box] at hb'
  split at hb'
  ·rename_i he; subst he
   injection hb' with hb'; subst hb'
   exact h.wr.box o' cs b' k i hb hμ' (by omega)
  ·exact h.wr.box o' c b' k i hb' hμ' hi
 ·obtain ⟨rfl, rfl⟩ := hbk
  rcases h.wr.box o cs b' 0 0 hb hμ hpos with h1 | h1
  ·omega
  ·exact h1
end Go.Vm

namespace Go.Vm
open Go.RowKit
set_option linter.unusedVariables false
variable {P : Program} {w0 w w' : World} {W F0 : Reg} {V : Pins} {N : Nat} {g g' : Gh} {S : St} {a : Act} {tm : Array Value} {K : St → Prop}
theorem mapV_inj {n m : Nat} {us vs : Nat → Nat → Value} (h : mapV n us = mapV m vs) : n = m ∧ ∀ i, i < n → us i 0 = vs i 0 ∧ us i 1 = vs i 1 := by
 unfold mapV at h
 injection h with h
 have h2 := congrArg Array.toList h
 simp only at h2
 have hl := congrArg List.length h2
 simp only [List.length_map, List.length_range] at hl
 subst hl
 refine ⟨rfl, fun i hi => ?_⟩
 have := congrArg (fun l => l[i]?) h2
 simp only [List.getElem?_map, List.getElem?_range hi, Option.map_some, Option.some.injEq, Value.tuple.injEq] at this
 have h3 := congrArg Array.toList this
 simpa using h3
def EntF (F : Reg) (w : World) (rows : List (List D)) (es : List MapEntry) : Prop := rows.length = es.length ∧
 ∀ (i : Nat) (r : List D) (e : MapEntry), rows[i]? = some r → es[i]? = some e → r.length = 2 ∧ (∀ d, r[0]? = some d → RepF F w d e.key) ∧ ∀ d, r[1]? = some d → RepF F w d e.val
theorem EntF.ents {rows : List (List D)} {es : List MapEntry} (h : EntF g.F w rows es) : Ents g w rows es :=
 ⟨h.1, fun i r e h1 h2 => let ⟨a, b, c⟩ := h.2 i r e h1 h2; ⟨a, fun d hd => .fz _ _ (b d hd), fun d hd => .fz _ _ (c d hd)⟩⟩
theorem EntF.mono {F F' : Reg} {rows : List (List D)} {es : List MapEntry} (h : EntF F w rows es) (hF : ∀ b k, F b k → F' b k) : EntF F' w rows es :=
 ⟨h.1, fun i r e h1 h2 => let ⟨a, b, c⟩ := h.2 i r e h1 h2; ⟨a, fun d hd => (b d hd).mono hF (fun _ _ _ => rfl), fun d hd => (c d hd).mono hF (fun _ _ _ => rfl)⟩⟩
def entV (es : Array MapEntry) : Value := mapV es.size (fun i j => if j = 0 then (es[i]?.map (·.key)).getD undef else (es[i]?.map (·.val)).getD undef)
theorem EntF.mpc {F : Reg} {rows : List (List D)} {es : Array MapEntry} (h : EntF F w rows es.toList) : RepF F w (.mpc rows) (entV es) := by
 have hn : es.size = rows.length := by have := h.1; simpa using this.symm
 unfold entV
 rw [hn]
 refine .mpc rows _ (fun i r hr => ?_) (fun i r j d hr hd => ?_)
 ·have hi : i < es.size := by rw [hn]; exact (List.getElem?_eq_some_iff.1 hr).1
  exact (h.2 i r es[i] hr (by simp [hi])).1
 ·have hi : i < es.size := by rw [hn]; exact (List.getElem?_eq_some_iff.1 hr).1
  obtain ⟨h1, h2, h3⟩ := h.2 i r es[i] hr (by simp [hi])
  have hj : j < 2 := by rw [← h1]; exact (List.getElem?_eq_some_iff.1 hd).1
  have hj' : j = 0 ∨ j = 1 := by omega
  rcases hj' with rfl | rfl
  ·simpa [hi] using h2 d hd
  ·simpa [hi] using h3 d hd
theorem EntF.of_mpc {rows : List (List D)} {es : Array MapEntry} (h : Rep g w (.mpc rows) (entV es)) : EntF g.F w rows es.toList := by
 unfold entV at h
 generalize hv : mapV es.size _ = v at h
 cases h with
 | fz _ _ h =>
  cases h with
  | mpc _ us hl hr =>
   obtain ⟨hn, hi⟩ := mapV_inj hv
   refine ⟨by simpa using hn.symm, fun i r e h1 h2 => ?_⟩
   have hlt : i < es.size := by rw [hn]; exact (List.getElem?_eq_some_iff.1 h1).1
   have he : es[i] = e := by simpa [hlt] using h2
   obtain ⟨k0, k1⟩ := hi i hlt
   simp [hlt, he] at k0 k1
   exact ⟨hl i r h1, fun d hd => k0 ▸ hr i r 0 d h1 hd, fun d hd => k1 ▸ hr i r 1 d h1 hd⟩
theorem Core.mapAt (h : Core g S tm w) {o : Nat} {rows : List (List D)} {rest : List D} (hb : S.box o = some (.mpc rows :: rest)) (ho : mapB ≤ o) (hi : o < itB) :
    ∃ b es clk, g.μ o = some (b, 0) ∧ w.heap[b]? = some (.map es clk) ∧ EntF g.F w rows es.toList ∧ (.mpc rows :: rest).length ≤ 3 ∧ wfM es clk = true := by
 obtain ⟨b, k, vs, e, q1, q2, q3, q4⟩ := h.box o _ hb
 obtain ⟨⟨rfl, -⟩, ob, h1, h2, h3⟩ := q2.isMap (by omega)
 cases ob <;> simp only [virtO] at h3 <;> (try (cases h3; done))
 ·rename_i es clk
  split at h3
  ·rename_i hw
   injection h3 with h3; subst h3
   exact ⟨b, es, clk, q1, h1, .of_mpc (q4 0 _ _ rfl rfl), by simpa using q3, hw.2⟩
  ·cases h3
 ·rw [if_pos hi] at h3; cases h3
theorem comp_mkmap {o : Oper} (h : compOp P o = some (.xop .mkmap)) : ∃ t kt e, o.op = .makeMap t none ∧ P.underlying t = some (.map kt e) := by
 obtain ⟨dst, op, type, pos, after, guard⟩ := o
 cases op <;> simp only [compOp] at h <;> (repeat' (split at h)) <;> first
  | (cases h; done)
  | (rename_i r _ _ _ hu hr; cases r with | none => exact ⟨_, _, _, rfl, hu⟩ | some x => simp at hr)
  | (unfold compB at h; (repeat' (split at h)) <;> cases h)
theorem comp_mget {o : Oper} {ks : List SK} {zero : D} {ok : Bool} {m k : Operand} (h : compOp P o = some (.xop (.mget ks zero ok m k))) :
    ∃ t kt e i z, o.op = .lookup t m k ok ∧ P.underlying t = some (.map kt e) ∧ keyT P kt = some ks ∧ P.info? e = some i ∧ i.zero = some z ∧ zero = zeroV z := by
 obtain ⟨dst, op, type, pos, after, guard⟩ := o
 cases op <;> simp only [compOp] at h <;> (repeat' (split at h)) <;> first
  | (cases h; done)
  | (injection h with h; injection h with h; injection h with h1 h2 h3 h4 h5; subst h1; subst h2; subst h3; subst h4; subst h5; exact ⟨_, _, _, _, _, rfl, by assumption, by assumption, by assumption, by assumption, rfl⟩)
  | (unfold compB at h; (repeat' (split at h)) <;> cases h)
theorem comp_mput {o : Oper} {ks : List SK} {m k v : Operand} (h : compOp P o = some (.xop (.mput ks m k v))) :
    ∃ t kt e, o.op = .mapUpdate t m k v ∧ P.underlying t = some (.map kt e) ∧ keyT P kt = some ks := by
 obtain ⟨dst, op, type, pos, after, guard⟩ := o
 cases op <;> simp only [compOp] at h <;> (repeat' (split at h)) <;> first
  | (cases h; done)
  | (injection h with h; injection h with h; injection h with h1 h2 h3 h4; subst h1; subst h2; subst h3; subst h4; exact ⟨_, _, _, rfl, by assumption, by assumption⟩)
  | (unfold compB at h; (repeat' (split at h)) <;> cases h)
theorem comp_mdel {o : Oper} {ks : List SK} {m k : Operand} (h : compOp P o = some (.xop (.mdel ks m k))) :
    ∃ t t2 kt e, o.op = .call { callee := .builtin .delete, args := #[m, k], argTypes := #[t, t2] } ∧ P.underlying t = some (.map kt e) ∧ keyT P kt = some ks := by
 obtain ⟨dst, op, type, pos, after, guard⟩ := o
 cases op
 case call c =>
  obtain ⟨callee, ⟨args⟩, ⟨ts⟩⟩ := c
  cases callee <;> simp only [compOp] at h <;> try (cases h; done)
  rename_i b
  cases b <;> simp only [compB] at h <;> (try (cases h; done)) <;> (repeat' (split at h)) <;> try (cases h; done)
  injection h with h; injection h with h; injection h with h1 h2 h3
  subst h1; subst h2; subst h3
  exact ⟨_, _, _, _, rfl, by assumption, by assumption⟩
 all_goals (simp only [compOp] at h; (repeat' (split at h)) <;> cases h)
theorem comp_mlen {o : Oper} {m : Operand} (h : compOp P o = some (.xop (.mlen m))) :
    ∃ t kt e, o.op = .call { callee := .builtin .len, args := #[m], argTypes := #[t] } ∧ P.underlying t = some (.map kt e) := by
 obtain ⟨dst, op, type, pos, after, guard⟩ := o
 cases op
 case call c =>
  obtain ⟨callee, ⟨args⟩, ⟨ts⟩⟩ := c
  cases callee <;> simp only [compOp] at h <;> try (cases h; done)
  rename_i b
  cases b <;> simp only [compB] at h <;> (try (cases h; done)) <;> (repeat' (split at h)) <;> try (cases h; done)
  injection h with h; injection h with h; injection h with h1
  subst h1
  exact ⟨_, _, _, rfl, by assumption⟩
 all_goals (simp only [compOp] at h; (repeat' (split at h)) <;> cases h)
end Go.Vm

namespace Go.Vm
open Go.RowKit
set_option linter.unusedVariables false
variable {P : Program} {w0 w w' : World} {W F0 : Reg} {V : Pins} {N : Nat} {g g' : Gh} {S : St} {a : Act} {tm : Array Value} {K : St → Prop}
theorem so_mkmap (h : SR w0 W F0 V N g S a w) {o : Oper} {Q : Exit → Act → World → Prop} (hc : compOp P o = some (.xop .mkmap)) (hd : ∀ t, o.dst = some t → t < N) (hv : xstep .mkmap o.dst S K) :
    o.wp P a w (fun a' w' => ∃ g' S', SR w0 W F0 V N g' S' a' w' ∧ K S') Q := by
 obtain ⟨t, kt, e, ho, hu⟩ := comp_mkmap hc
 have hrun : (execOp a.eval o).run P w = .ok (.value (.map (some w.heap.size))) (w.alloc (.map #[] 0)) := by
  simp [execOp, ho, Instr.makeMap]
 unfold Oper.wp
 rw [hrun, Oper.upon_value]
 simp only [xstep] at hv
 split at hv
 ·rename_i d hdst
  have hdN : d < 999999 := Nat.lt_of_lt_of_le (hd d hdst) h.cap
  let vs : Array Value := #[entV #[], .tuple ((#[] : Array MapEntry).map fun e => goInt (e.born : Int)), goInt ((0 : Nat) : Int)]
  have hblk : Blk (w.alloc (.map #[] 0)) (mapB + d) w.heap.size 0 3 vs 0 := by
   refine .ofMap (heap_alloc_new w _) ?_ (by omega) (by omega)
   simp only [virtO]
   rw [if_pos ⟨show mapB + d < itB by unfold mapB itB; omega, rfl⟩]
   rfl
  have hcells : Cells g w [.mpc [], .undef, .undef] vs := ⟨rfl, fun i d v hd hv => by
   match i, hd, hv with
   | 0, hd, hv =>
    simp [vs] at hd hv; subst hd; subst hv
    exact .fz _ _ (EntF.mpc ⟨rfl, fun i r e h1 => by simp at h1⟩)
   | 1, hd, hv => simp at hd; subst hd; exact .fz _ _ (.undef _)
   | 2, hd, hv => simp at hd; subst hd; exact .fz _ _ (.undef _)
   | i + 3, hd, hv => simp at hd⟩
  have h1 := h.newObj (mapB + d) [.mpc [], .undef, .undef] vs 0 (.map #[] 0) hcells hblk (by unfold mapB; omega)
  refine ⟨_, _, h1.put hd ?_, hv⟩
  have : handV (mapB + d) w.heap.size = .map (some w.heap.size) := by
   unfold handV; rw [if_pos (show mapB + d < itB by unfold mapB itB; omega)]
  rw [← this]
  exact Rep.mh (mapB + d) w.heap.size (if_pos rfl) (Nat.le_add_right _ _)
 ·exact hv.elim
theorem zeroV_rep {F : Reg} (z : Value) : RepF F w (zeroV z) z := by
 unfold zeroV
 split
 ·rename_i vs
  have hc := zero_cells (g := ⟨fun _ => none, fun _ => none, F⟩) (w := w) (.agg vs)
  refine .agg _ vs (by rw [← hc.1]; rfl) (fun i d v hd hv => ?_)
  have := hc.2 i d v hd hv
  simp only [zeroD, List.getElem?_map, Option.map_eq_some_iff] at hd
  obtain ⟨c, hc', rfl⟩ := hd
  have e : c = v := by
   have h2 : (Value.agg vs).cells.toList[i]? = some v := by simpa [Value.cells] using hv
   rw [hc'] at h2; injection h2
  subst e
  split
  ·exact .nil
  ·exact .val _
 ·unfold constD
  split
  ·exact .nil
  ·exact .val _
theorem so_mget (h : SR w0 W F0 V N g S a w) {o : Oper} {ks : List SK} {zero : D} {ok : Bool} {m k : Operand} {Q : Exit → Act → World → Prop} (hc : compOp P o = some (.xop (.mget ks zero ok m k))) (hd : ∀ t, o.dst = some t → t < N) (hv : xstep (.mget ks zero ok m k) o.dst S K) :
    o.wp P a w (fun a' w' => ∃ g' S', SR w0 W F0 V N g' S' a' w' ∧ K S') Q := by
 obtain ⟨t, kt, e, i, z, ho, hu, hk, hi, hz, rfl⟩ := comp_mget hc
 simp only [xstep] at hv
 split at hv
 ·rename_i oo kd hm hkd
  split at hv
  ·rename_i es rest hb
   obtain ⟨hit, hself, hv⟩ := hv
   split at hv
   ·rename_i r hf
    obtain ⟨b0, hm1, hm2, hm3⟩ := (h.core.look hm).mh_inv
    have hrk := h.core.look hkd
    obtain ⟨b, ent, clk, q1, q2, q3, -, -⟩ := h.core.mapAt hb hm3 hit
    rw [hm2] at q1; injection q1 with q1; injection q1 with q1 _; subst q1
    have hmv : a.eval m = .map (some b0) := by rw [hm1]; unfold handV; rw [if_pos hit]
    generalize hkv : a.eval k = kv at hrk
    obtain ⟨p, hp⟩ := isSome_self hself
    have hself' : (eqKeyV ks kv kv).isSome = true := by rw [eqKey_V hp hrk hrk]; rfl
    obtain ⟨c1, c2⟩ := find_rep hrk q3.ents hf
    have hzero : (zeroValue e).run P w = .ok z w := by simp [zeroValue, typeInfo, hi, hz]
    have hlook : ∀ fr, findV ks kv ent.toList 0 = fr → (Instr.lookup t (.map (some b0)) kv ok).run P w = .ok (match fr with | some (_, v) => if ok = true then .tuple #[v, .bool true] else v | none => if ok = true then .tuple #[z, .bool false] else z) w := fun fr hfr => by
     unfold Instr.lookup
     simp only [Sem.run_bind, run_underlying hu, Result.andThen_ok, MapKept.run_getObj_map q2, Sem.run_pure, run_checkKeyV hk hself', run_findKeyV hk c1, hfr]
     cases fr with
     | none => cases ok <;> simp [hzero]
     | some x => cases ok <;> simp
    have fin : ∀ d v, (Instr.lookup t (.map (some b0)) kv ok).run P w = .ok v w → Rep g w d v → K (S.put o.dst d) → o.wp P a w (fun a' w' => ∃ g' S', SR w0 W F0 V N g' S' a' w' ∧ K S') Q := fun d v hrun hr hK => by
     have hrunO : (execOp a.eval o).run P w = .ok (.value v) w := by
      simp [execOp, ho, hmv, hkv, hrun]
     unfold Oper.wp
     rw [hrunO, Oper.upon_value]
     exact ⟨_, _, h.put hd hr, hK⟩
    cases r with
    | none =>
     simp only at c2
     refine fin _ _ (hlook _ c2) ?_ hv
     cases ok
     ·exact .fz _ _ (zeroV_rep z)
     ·refine .tup [zeroV z, .val (.bool false)] #[z, .bool false] rfl (fun i d v hd hv => ?_)
      match i, hd, hv with
      | 0, hd, hv => simp at hd hv; subst hd; subst hv; exact .fz _ _ (zeroV_rep _)
      | 1, hd, hv => simp at hd hv; subst hd; subst hv; exact .fz _ _ (.val _)
      | i + 2, hd, hv => simp at hd
    | some jd =>
     obtain ⟨j, dd⟩ := jd
     obtain ⟨-, e', -, h2, h3, -⟩ := c2
     refine fin _ _ (hlook _ h2) ?_ hv
     cases ok
     ·exact h3
     ·refine .tup [dd, .val (.bool true)] #[e'.val, .bool true] rfl (fun i d v hd hv => ?_)
      match i, hd, hv with
      | 0, hd, hv => simp at hd hv; subst hd; subst hv; exact h3
      | 1, hd, hv => simp at hd hv; subst hd; subst hv; exact .fz _ _ (.val _)
      | i + 2, hd, hv => simp at hd
   ·exact hv.elim
  ·exact hv.elim
 ·exact hv.elim
theorem so_mlen (h : SR w0 W F0 V N g S a w) {o : Oper} {m : Operand} {Q : Exit → Act → World → Prop} (hc : compOp P o = some (.xop (.mlen m))) (hd : ∀ t, o.dst = some t → t < N) (hv : xstep (.mlen m) o.dst S K) :
    o.wp P a w (fun a' w' => ∃ g' S', SR w0 W F0 V N g' S' a' w' ∧ K S') Q := by
 obtain ⟨t, kt, e, ho, hu⟩ := comp_mlen hc
 simp only [xstep] at hv
 split at hv
 ·rename_i oo hm
  split at hv
  ·rename_i es rest hb
   obtain ⟨hit, hv⟩ := hv
   obtain ⟨b0, hm1, hm2, hm3⟩ := (h.core.look hm).mh_inv
   obtain ⟨b, ent, clk, q1, q2, q3, -, -⟩ := h.core.mapAt hb hm3 hit
   rw [hm2] at q1; injection q1 with q1; injection q1 with q1 _; subst q1
   have hmv : a.eval m = .map (some b0) := by rw [hm1]; unfold handV; rw [if_pos hit]
   have hlen : es.length = ent.size := by simpa using q3.1
   have hrunO : (execOp a.eval o).run P w = .ok (.value (.int .i64 es.length)) w := by
    simp [execOp, ho, resolve, invoke, builtin, Builtin.len_, run_underlying hu, hmv, MapKept.run_getObj_map q2, hlen, goInt]
   unfold Oper.wp
   rw [hrunO, Oper.upon_value]
   exact ⟨_, _, h.put hd (.fz _ _ (.val _)), hv⟩
  ·exact hv.elim
 ·exact hv.elim
end Go.Vm

namespace Go.Vm
open Go.RowKit
set_option linter.unusedVariables false
variable {P : Program} {w0 w w' : World} {W F0 : Reg} {V : Pins} {N : Nat} {g g' : Gh} {S : St} {a : Act} {tm : Array Value} {K : St → Prop}
theorem comp_slc3 {o : Oper} {sz : Nat} {x mx : Operand} {lo hi : Option Operand} (h : compOp P o = some (.xop (.slc3 sz x lo hi mx))) : ∃ t e i, o.op = .slice t x lo hi (some mx) ∧ P.underlying t = some (.slice e) ∧ P.info? e = some i ∧ i.size = sz := by
 obtain ⟨dst, op, type, pos, after, guard⟩ := o
 cases op <;> simp only [compOp] at h <;> (repeat' (split at h)) <;> first
  | (cases h; done)
  | (injection h with h; injection h with h; injection h with h1 h2 h3 h4 h5; subst h1; subst h2; subst h3; subst h4; subst h5; exact ⟨_, _, _, rfl, by assumption, by assumption, rfl⟩)
  | (unfold compB at h; (repeat' (split at h)) <;> cases h)
theorem so_slc3 (h : SR w0 W F0 V N g S a w) {o : Oper} {sz : Nat} {x mx : Operand} {lo hi : Option Operand} {Q : Exit → Act → World → Prop} (hc : compOp P o = some (.xop (.slc3 sz x lo hi mx))) (hd : ∀ t, o.dst = some t → t < N) (hv : xstep (.slc3 sz x lo hi mx) o.dst S K) :
    o.wp P a w (fun a' w' => ∃ g' S', SR w0 W F0 V N g' S' a' w' ∧ K S') Q := by
 obtain ⟨t, e, i, ho, hu, hi', rfl⟩ := comp_slc3 hc
 simp only [xstep] at hv
 split at hv
 ·rename_i tag es hx
  obtain ⟨hlive, m, q, l, h1, h2, h3, h4, hK⟩ := hv
  obtain ⟨y, rfl⟩ := Option.isSome_iff_exists.1 h2
  have hr := h.core.look hx
  obtain ⟨p, c, hve, hcap⟩ : ∃ p c, a.eval x = .slice p es.length c ∧ es.length ≤ c := by
   generalize a.eval x = v at hr
   cases hr with
   | fz _ _ hr => cases hr with
    | nil => exact ⟨_, _, rfl, Nat.le_refl _⟩
    | emp a c => exact ⟨_, _, rfl, Nat.zero_le _⟩
    | sl b off sz c es us hc => exact ⟨_, _, rfl, hc⟩
   | slT t' _ ti ht hn hl hr =>
    simp only [Option.all_some] at hlive
    obtain ⟨xx, hxx⟩ := Option.isSome_iff_exists.1 hlive
    obtain ⟨ti', q1, q2⟩ := h.core.tag t' xx hxx
    rw [ht] at q1; injection q1 with q1; subst q1
    rcases q2.own.2 with ⟨h1, h2⟩ | ⟨gg, cap, cur, h1, _, _, h2, _⟩
    ·exact ⟨_, _, by rw [h1, hn, h2], by omega⟩
    ·exact ⟨_, _, by rw [h1, hn], by omega⟩
  have b1 := bound_sound (P := P) (w := w) (code := .slice3Acap) h.core h1 hcap
  have b2 := bound_sound (P := P) (w := w) (code := .slice3B) h.core h3 (Nat.le_refl _)
  have hb : (Instr.sliceBounds true es.length c (lo.map a.eval) (some (a.eval y)) (some (a.eval mx))).run P w = .ok (l, q, m) w := by
   unfold Instr.sliceBounds
   cases lo with
   | none => simp only [boundD, Option.some.injEq] at h4; subst h4; simp [b1, b2]
   | some z => simp [b1, b2, bound_sound (P := P) (code := .slice3C) h.core h4 (Nat.le_refl _)]
  have hrun : (Instr.sliceAt t (a.eval x) (lo.map a.eval) ((some y).map a.eval) ((some mx).map a.eval)).run P w = .ok (.slice (if m = l then p else p.map (·.add (l * i.size))) (q - l) (m - l)) w := by
   simp [Instr.sliceAt, Instr.slice, run_underlying hu, hve, hb, sizeOf, typeInfo, hi']
  have hrunO : (execOp a.eval o).run P w = .ok (.value (.slice (if m = l then p else p.map (·.add (l * i.size))) (q - l) (m - l))) w := by
   simp only [execOp, ho]
   exact ev_v hrun
  unfold Oper.wp
  rw [hrunO, Oper.upon_value]
  exact ⟨g, _, h.put hd (.fz _ _ (.undef _)), hK⟩
 ·exact hv.elim
theorem so_appP (h : SR w0 W F0 V N g S a w) {o : Oper} {e sz bytes : Nat} {x y : Operand} {Q : Exit → Act → World → Prop} (hc : compOp P o = some (.append e sz bytes x y)) (hd : ∀ t, o.dst = some t → t < N) (hv : xstep (.appP e sz bytes x y) o.dst S K) :
    o.wp P a w (fun a' w' => ∃ g' S', SR w0 W F0 V N g' S' a' w' ∧ K S') Q := by
 obtain ⟨t, i, zv, ho, hu, hi, hz, rfl, rfl, h0, hzs⟩ := comp_append hc
 simp only [xstep] at hv
 split at hv
 ·rename_i tg lo p es tg2 q n es2 hx hy
  obtain ⟨rfl, rfl, ht, htg, hpos, hpn, hqn, hK⟩ := hv
  have hrx := h.core.look hx
  have hry := h.core.look hy
  generalize hvx : a.eval x = vx at hrx
  generalize hvy : a.eval y = vy at hry
  cases hrx with
  | fz _ _ hr => cases hr
  | part _ _ _ _ ti _ hpx hti hn hlo hl hr =>
  cases hry with
  | fz _ _ hr => cases hr
  | part _ _ _ _ ti2 _ hpy hti2 hn2 hlo2 hl2 hr2 =>
  rw [hti] at hti2; injection hti2 with hti2; subst hti2
  obtain ⟨ti', q1, q2⟩ := h.core.tag _ true ht
  rw [hti] at q1; injection q1 with q1; subst q1
  have hty := q2.ty
  have e1 : ti.e = e := by rw [hty.1, htg]
  have e2 : ti.sz = i.size := by rw [hty.2, htg]
  obtain ⟨b, c, hv0⟩ : ∃ b c, ti.v = .slice (some ⟨b, 0, none⟩) ti.n c := by
   rcases ti.shape with ⟨h1, h2⟩ | h1
   ·omega
   ·exact h1
  have hcap : ti.n ≤ c := by
   rcases q2.own.2 with ⟨h1, _⟩ | ⟨gg, cap, cur, h1, _, _, h2, _⟩
   ·rw [hv0] at h1; cases h1
   ·rw [hv0] at h1; injection h1 with _ _ h1; omega
  have hob : ti.v.ownBlock = some b := by rw [hv0]; rfl
  rw [hv0] at hpx hpy
  obtain ⟨px, rfl, hpx⟩ := hpx
  obtain ⟨py, rfl, hpy⟩ := hpy
  have hxs : ti.xs.length = ti.n * ti.sz := q2.own.1
  have hmul : ∀ {p q : Nat}, p ≤ q → p * ti.sz ≤ q * ti.sz := fun hpq => Nat.mul_le_mul_right _ hpq
  have hmul1 : ∀ {p q : Nat}, p < q → p * ti.sz + ti.sz ≤ q * ti.sz := fun {p q} hpq => by
   have : (p + 1) * ti.sz ≤ q * ti.sz := Nat.mul_le_mul_right _ hpq
   rwa [Nat.succ_mul] at this
  let news := (ti.xs.drop (q * ti.sz)).take (n * ti.sz)
  have hm1 : q * ti.sz + n * ti.sz ≤ ti.n * ti.sz := by rw [← Nat.add_mul]; exact hmul (by omega)
  have hm2 : p * ti.sz + n * ti.sz ≤ ti.n * ti.sz := by rw [← Nat.add_mul]; exact hmul (by omega)
  have hnl : news.length = n * ti.sz := by simp only [news, List.length_take, List.length_drop, hxs]; omega
  have hnget : ∀ k, k < n * ti.sz → news[k]? = ti.xs[q * ti.sz + k]? := fun k hk => by
   simp only [news]
   rw [List.getElem?_take, if_pos hk, List.getElem?_drop]
  have hnone : ∀ u ∈ news, u.oneCell' = true := fun u hu => q2.one u (List.mem_of_mem_drop (List.mem_of_mem_take hu))
  have hsrc : ∀ k u, news[k]? = some u → w.cell? (py.add k) = some u := fun k u hk => by
   have hkl : k < n * ti.sz := by rw [← hnl]; exact (List.getElem?_eq_some_iff.1 hk).1
   have hn0 : 0 < n := by
    rcases Nat.eq_zero_or_pos n with h | h
    ·subst h; simp at hkl
    ·exact h
   rw [hpy (by omega)]
   rw [hnget k hkl] at hk
   have := q2.own.cells hob _ u hk
   rw [Addr.add_lit] at this ⊢
   rw [Nat.add_assoc]
   exact this
  have hpx' : px = ⟨b, 0, none⟩ := by rw [hpx (by omega)]; simp
  subst hpx'
  have lenN : (es.take p ++ (es2.drop q).take n ++ es.drop (p + n)).length = ti.n := by simp; omega
  have hput : ∀ k, (putCells ti.xs (p * ti.sz) news)[k]? = if p * ti.sz ≤ k ∧ k < p * ti.sz + n * ti.sz then news[k - p * ti.sz]? else ti.xs[k]? := fun k => by
   rw [putCells_get _ _ _ (by omega), hnl]
  obtain ⟨cur, e3, hcur, hfit, g', hsr, ti', t1, t2, t3, t4, t5⟩ := h.reRow' (es' := es.take p ++ (es2.drop q).take n ++ es.drop (p + n)) (us := news) (off := p * ti.sz) ht hti lenN hv0 (by omega) hnone (fun j e0 he => by
      rcases List.mem_append.1 (List.mem_of_getElem? he) with h2 | h2
      ·rcases List.mem_append.1 h2 with h3 | h3
       ·obtain ⟨r, hr⟩ := List.getElem?_of_mem (List.mem_of_mem_take h3)
        exact hl r e0 hr
       ·obtain ⟨r, hr⟩ := List.getElem?_of_mem (List.mem_of_mem_drop (List.mem_of_mem_take h3))
        exact hl2 r e0 hr
      ·obtain ⟨r, hr⟩ := List.getElem?_of_mem (List.mem_of_mem_drop h2)
       exact hl r e0 hr) (fun i0 e0 j d he hd' => by
      have hl1 : (es.take p).length = p := by rw [List.length_take]; omega
      have hl3 : ((es2.drop q).take n).length = n := by rw [List.length_take, List.length_drop]; omega
      rw [List.append_assoc] at he
      by_cases h1 : i0 < p
      ·rw [List.getElem?_append_left (by omega), List.getElem?_take, if_pos h1] at he
       have hjl : j < ti.sz := by rw [← hl i0 e0 he]; exact (List.getElem?_eq_some_iff.1 hd').1
       have := hmul1 h1
       rw [hput, if_neg (by omega)]
       exact hr i0 e0 j d he hd'
      ·rw [List.getElem?_append_right (by omega), hl1] at he
       by_cases h2 : i0 - p < n
       ·rw [List.getElem?_append_left (by omega), List.getElem?_take, if_pos h2, List.getElem?_drop] at he
        have hjl : j < ti.sz := by rw [← hl2 _ e0 he]; exact (List.getElem?_eq_some_iff.1 hd').1
        have e4 : i0 * ti.sz + j = p * ti.sz + ((i0 - p) * ti.sz + j) := by
         rw [← Nat.add_assoc, ← Nat.add_mul]; congr 2; omega
        have := hmul1 h2
        rw [hput, if_pos (by omega), e4, Nat.add_sub_cancel_left, hnget _ (by omega)]
        have e5 : q * ti.sz + ((i0 - p) * ti.sz + j) = (q + (i0 - p)) * ti.sz + j := by rw [Nat.add_mul]; omega
        rw [e5]
        exact hr2 _ e0 j d he hd'
       ·rw [List.getElem?_append_right (by omega), hl3, List.getElem?_drop] at he
        have e4 : p + n + (i0 - p - n) = i0 := by omega
        rw [e4] at he
        have := hmul (show p + n ≤ i0 by omega)
        rw [Nat.add_mul] at this
        rw [hput, if_neg (by omega)]
        exact hr i0 e0 j d he hd')
  have e6 : e3 = e := by
   rcases q2.own.2 with ⟨h1, _⟩ | ⟨gg, cap, cur', h1, _, h2, _⟩
   ·rw [hv0] at h1; cases h1
   ·have : gg = b := by rw [hv0] at h1; injection h1 with h1 _ _; injection h1 with h1; injection h1 with h1; exact h1.symm
    subst this
    rw [hcur] at h2; injection h2 with h2; injection h2 with _ h2
    rw [h2, e1]
  subst e6
  have hrun := run_append_room (P := P) w t o.type e3 i hu hi b p (c - 0) cur hcur py n (c - q) news (by rw [hnl, e2]) hsrc hnone (by omega) (by rw [← e2]; exact hfit)
  have hrunO : (execOp a.eval o).run P w = .ok (.value (.slice (some ⟨b, 0, none⟩) (p + n) (c - 0))) (w.setRow b (cur.toList.take (p * i.size) ++ news ++ cur.toList.drop (p * i.size + news.length)).toArray) := by
   simp only [execOp, ho, resolve, invoke, builtin, Sem.run_bind, Sem.run_pure, Result.andThen_ok, List.map_toArray, List.map_cons, List.map_nil, hvx, hvy, hrun]
  unfold Oper.wp
  rw [hrunO, Oper.upon_value, ← e2]
  refine ⟨_, _, hsr.put hd (.part _ 0 (p + n) _ ti' _ ?_ t1 (by rw [lenN, t4]) (by omega) (fun j e0 he => ?_) t5), hK⟩
  ·rw [t2, hv0, t3]
   exact ⟨_, rfl, fun _ => by simp⟩
  ·rw [t3]
   rcases List.mem_append.1 (List.mem_of_getElem? he) with h2 | h2
   ·rcases List.mem_append.1 h2 with h3 | h3
    ·obtain ⟨r, hr⟩ := List.getElem?_of_mem (List.mem_of_mem_take h3)
     exact hl r e0 hr
    ·obtain ⟨r, hr⟩ := List.getElem?_of_mem (List.mem_of_mem_drop (List.mem_of_mem_take h3))
     exact hl2 r e0 hr
   ·obtain ⟨r, hr⟩ := List.getElem?_of_mem (List.mem_of_mem_drop h2)
    exact hl r e0 hr
 ·exact hv.elim
end Go.Vm

namespace Go.Vm
open Go.RowKit
set_option linter.unusedVariables false
variable {P : Program} {w0 w w' : World} {W F0 : Reg} {V : Pins} {N : Nat} {g g' : Gh} {S : St} {a : Act} {tm : Array Value} {K : St → Prop}
theorem key_repF {F : Reg} {ks : List SK} {kd : D} {kv : Value} (h : (eqKey ks kd kd).isSome = true) (hr : Rep g w kd kv) : RepF F w kd kv := by
 unfold eqKey at h
 split at h
 ·cases kd <;> first | (simp at h; done) | skip
  rw [hr.val_inv]; exact .val _
 ·cases kd <;> first | (simp at h; done) | skip
  rename_i ds
  simp only at h
  obtain ⟨vs, rfl, hvs, hv⟩ := hr.agg_inv
  refine .agg ds vs hvs (fun i d v hd hv' => ?_)
  have flat : ∀ (ks : List SK) (ds : List D), (eqDs ks ds ds).isSome = true → ∀ d ∈ ds, ∃ x, d = .val x := fun ks ds => by
   induction ds generalizing ks with
   | nil => intro _ d hd; simp at hd
   | cons a ds ih =>
    intro h d hd
    cases ks with
    | nil => simp [eqDs] at h
    | cons k ks =>
     cases a <;> simp only [eqDs] at h <;> first | (simp at h; done) | skip
     split at h
     ·rename_i p q h1 h2
      rw [List.mem_cons] at hd
      rcases hd with rfl | hd
      ·exact ⟨_, rfl⟩
      ·exact ih ks (by rw [h2]; rfl) d hd
     ·simp at h
  obtain ⟨x, rfl⟩ := flat _ ds h d (List.mem_of_getElem? hd)
  have := hv i _ v hd hv'
  rw [this.val_inv]; exact .val _
theorem EntF.row {F : Reg} {kd fd : D} {e : MapEntry} (hk : RepF F w kd e.key) (hv : RepF F w fd e.val) : ([kd, fd] : List D).length = 2 ∧ (∀ d, ([kd, fd] : List D)[0]? = some d → RepF F w d e.key) ∧ ∀ d, ([kd, fd] : List D)[1]? = some d → RepF F w d e.val :=
 ⟨rfl, fun d hd => by simp at hd; exact hd ▸ hk, fun d hd => by simp at hd; exact hd ▸ hv⟩
theorem EntF.put {F : Reg} {rows : List (List D)} {es : List MapEntry} {kd fd : D} {kv vv : Value} (h : EntF F w rows es) (i : Nat) (hk : RepF F w kd kv) (hv : RepF F w fd vv) : EntF F w (rows.set i [kd, fd]) (es.modify i fun e => { e with key := kv, val := vv }) := by
 refine ⟨by simp [h.1], fun j r e h1 h2 => ?_⟩
 rw [List.getElem?_set] at h1
 rw [List.getElem?_modify] at h2
 by_cases hj : i = j
 ·subst hj
  rw [if_pos rfl] at h1
  split at h1
  ·injection h1 with h1; subst h1
   simp only [if_pos] at h2
   obtain ⟨e0, -, rfl⟩ := Option.map_eq_some_iff.1 h2
   exact EntF.row hk hv
  ·cases h1
 ·rw [if_neg hj] at h1
  simp only [if_neg hj] at h2
  exact h.2 j r e h1 (by simpa using h2)
theorem EntF.push {F : Reg} {rows : List (List D)} {es : List MapEntry} {kd fd : D} {e : MapEntry} (h : EntF F w rows es) (hk : RepF F w kd e.key) (hv : RepF F w fd e.val) : EntF F w (rows ++ [[kd, fd]]) (es ++ [e]) := by
 refine ⟨by simp [h.1], fun j r e' h1 h2 => ?_⟩
 by_cases hj : j < rows.length
 ·rw [List.getElem?_append_left hj] at h1
  rw [List.getElem?_append_left (by rw [← h.1]; exact hj)] at h2
  exact h.2 j r e' h1 h2
 ·rw [List.getElem?_append_right (by omega)] at h1
  rw [List.getElem?_append_right (by rw [← h.1]; omega)] at h2
  have hjj : j - rows.length = 0 := by have := (List.getElem?_eq_some_iff.1 h1).1; simp at this; omega
  rw [hjj] at h1
  rw [← h.1, hjj] at h2
  simp at h1 h2
  subst h1; subst h2
  exact EntF.row hk hv
theorem EntF.erase {F : Reg} {rows : List (List D)} {es : List MapEntry} (h : EntF F w rows es) (i : Nat) : EntF F w (rows.eraseIdx i) (es.eraseIdx i) := by
 refine ⟨by rw [List.length_eraseIdx, List.length_eraseIdx, h.1], fun j r e h1 h2 => ?_⟩
 rw [List.getElem?_eraseIdx] at h1 h2
 split at h1
 ·rename_i hj; rw [if_pos hj] at h2; exact h.2 j r e h1 h2
 ·rename_i hj; rw [if_neg hj] at h2; exact h.2 (j + 1) r e h1 h2
theorem map3 {o clk : Nat} {es : Array MapEntry} {rows : List (List D)} (ho : o < itB) (h : EntF g.F w rows es.toList) (hw : wfM es clk = true) : ∃ vs, virtO o (.map es clk) = some vs ∧ ([.mpc rows, .undef, .undef] : List D).length ≤ vs.size ∧
    ∀ (i : Nat) (d : D) (u : Value), ([.mpc rows, .undef, .undef] : List D)[i]? = some d → vs[i]? = some u → Rep g w d u := by
 refine ⟨_, by simp only [virtO]; exact if_pos ⟨ho, hw⟩, by simp, fun i d u hd hu => ?_⟩
 match i, hd, hu with
 | 0, hd, hu =>
  simp at hd hu; subst hd; subst hu
  exact .fz _ _ h.mpc
 | 1, hd, hu => simp at hd; subst hd; exact .fz _ _ (.undef _)
 | 2, hd, hu => simp at hd; subst hd; exact .fz _ _ (.undef _)
 | i + 3, hd, hu => simp at hd
theorem wfM_iff {es : Array MapEntry} {clk : Nat} : wfM es clk = true ↔ (es.toList.map (·.born)).Nodup ∧ ∀ e ∈ es.toList, e.born < clk := by
 unfold wfM
 rw [Bool.and_eq_true, decide_eq_true_eq, List.all_eq_true]
 simp
theorem wfM_push {es : Array MapEntry} {clk : Nat} {kv vv : Value} (h : wfM es clk = true) : wfM (es.push { key := kv, val := vv, born := clk }) (clk + 1) = true := by
 obtain ⟨h1, h2⟩ := wfM_iff.1 h
 refine wfM_iff.2 ⟨?_, fun e he => ?_⟩
 ·rw [Array.toList_push, List.map_append, List.nodup_append]
  refine ⟨h1, by simp, fun a ha b hb => ?_⟩
  obtain ⟨e, he, rfl⟩ := List.mem_map.1 ha
  simp at hb; subst hb
  have := h2 e he
  omega
 ·rw [Array.toList_push] at he
  rcases List.mem_append.1 he with he | he
  ·have := h2 e he; omega
  ·simp at he; subst he; show clk < clk + 1; omega
theorem wfM_modify {es : Array MapEntry} {clk j : Nat} {kv vv : Value} (h : wfM es clk = true) : wfM (es.modify j fun e => { e with key := kv, val := vv }) clk = true := by
 obtain ⟨h1, h2⟩ := wfM_iff.1 h
 have hm : ((es.modify j fun e => { e with key := kv, val := vv }).toList.map (·.born)) = es.toList.map (·.born) := by
  rw [Array.toList_modify]
  apply List.ext_getElem?
  intro i
  rw [List.getElem?_map, List.getElem?_map, List.getElem?_modify]
  cases es.toList[i]? with
  | none => simp
  | some e => by_cases hj : j = i <;> simp [hj]
 refine wfM_iff.2 ⟨by rw [hm]; exact h1, fun e he => ?_⟩
 have : e.born ∈ (es.modify j fun e => { e with key := kv, val := vv }).toList.map (·.born) := List.mem_map.2 ⟨e, he, rfl⟩
 rw [hm] at this
 obtain ⟨e', he', hb⟩ := List.mem_map.1 this
 rw [← hb]; exact h2 e' he'
theorem wfM_erase {es : Array MapEntry} {clk j : Nat} (h : wfM es clk = true) : wfM (es.eraseIdxIfInBounds j) clk = true := by
 obtain ⟨h1, h2⟩ := wfM_iff.1 h
 have hs : (es.eraseIdxIfInBounds j).toList.Sublist es.toList := by
  unfold Array.eraseIdxIfInBounds
  split
  ·rw [Array.toList_eraseIdx]; exact List.eraseIdx_sublist _ _
  ·exact List.Sublist.refl _
 exact wfM_iff.2 ⟨h1.sublist (hs.map _), fun e he => h2 e (hs.subset he)⟩
theorem so_mput (h : SR w0 W F0 V N g S a w) {o : Oper} {ks : List SK} {m k v : Operand} {Q : Exit → Act → World → Prop} (hc : compOp P o = some (.xop (.mput ks m k v))) (hd : ∀ t, o.dst = some t → t < N) (hv : xstep (.mput ks m k v) o.dst S K) :
    o.wp P a w (fun a' w' => ∃ g' S', SR w0 W F0 V N g' S' a' w' ∧ K S') Q := by
 obtain ⟨t, kt, e, ho, hu, hk⟩ := comp_mput hc
 simp only [xstep] at hv
 split at hv
 ·rename_i oo kd vd hm hkd hvd
  split at hv
  ·rename_i es d1 d2 fd hb hfz
   obtain ⟨hit, hself, hlive, hv⟩ := hv
   split at hv
   ·rename_i r hf
    obtain ⟨b0, hm1, hm2, hm3⟩ := (h.core.look hm).mh_inv
    have hrk := h.core.look hkd
    have hrv := h.core.look hvd
    obtain ⟨b, ent, clk, q1, q2, q3, -, qw⟩ := h.core.mapAt hb hm3 hit
    rw [hm2] at q1; injection q1 with q1; injection q1 with q1 _; subst q1
    have hmv : a.eval m = .map (some b0) := by rw [hm1]; unfold handV; rw [if_pos hit]
    generalize hkv : a.eval k = kv at hrk
    generalize hvv : a.eval v = vv at hrv
    obtain ⟨p, hp⟩ := isSome_self hself
    have hself' : (eqKeyV ks kv kv).isSome = true := by rw [eqKey_V hp hrk hrk]; rfl
    obtain ⟨c1, c2⟩ := find_rep hrk q3.ents hf
    have hlive' : ∀ t ∈ tagsL [vd], ∃ x, S.tag t = some x := fun t ht => Option.isSome_iff_exists.1 (List.all_eq_true.1 hlive t ht)
    have hfv : RepF (shareF g S (tagsL [vd])) w fd vv := (frzL_sound h.core hlive' [vd] hfz (fun t ht => ht)).2 0 fd vv rfl vd rfl hrv
    have hfk : RepF (shareF g S (tagsL [vd])) w kd kv := key_repF hself hrk
    have hsh := h.share (tagsL [vd])
    have q3' := q3.mono (fun b k hF => (.inl hF : shareF g S (tagsL [vd]) b k))
    have hbs : (S.share (tagsL [vd])).box oo = some [.mpc es, d1, d2] := hb
    have fin : ∀ (ent' : Array MapEntry) (clk' : Nat), (Instr.mapUpdate t (.map (some b0)) kv vv).run P w = .ok () (setB w b0 (.map ent' clk')) → EntF (shareF g S (tagsL [vd])) w (putE kd fd es r) ent'.toList → wfM ent' clk' = true →
        o.wp P a w (fun a' w' => ∃ g' S', SR w0 W F0 V N g' S' a' w' ∧ K S') Q := fun ent' clk' hrun he hw => by
     have hrunO : (execOp a.eval o).run P w = .ok .skip (setB w b0 (.map ent' clk')) := by
      simp [execOp, ho, hmv, hkv, hvv, hrun]
     unfold Oper.wp
     rw [hrunO, Oper.upon_skip]
     obtain ⟨vs, v1, v2, v3⟩ := map3 (g := { g with F := shareF g S (tagsL [vd]) }) (w := w) (clk := clk') hit he hw
     exact ⟨_, _, (hsh.setMap hbs hm2 (by omega) q2 rfl v1 (by simp) (by simp) v2 v3).put hd (.fz _ _ (.undef _)), hv⟩
    have upd : (Instr.mapUpdate t (.map (some b0)) kv vv).run P w = (match findV ks kv ent.toList 0 with
        | some (i, _) => (do let key ← Instr.keyThatStays (((ent[i]?).map (fun x : MapEntry => x.key)).getD kv) kv; setObj b0 (.map (ent.modify i fun e : MapEntry => { e with key, val := vv }) clk) : Sem Unit)
        | none => setObj b0 (.map (ent.push { key := kv, val := vv, born := clk }) (clk + 1))).run P w := by
     unfold Instr.mapUpdate
     simp only [Sem.run_bind, run_underlying hu, Result.andThen_ok, MapKept.run_getObj_map q2, run_checkKeyV hk hself', run_findKeyV hk c1]
     cases findV ks kv ent.toList 0 <;> rfl
    cases r with
    | none =>
     simp only at c2
     refine fin (ent.push { key := kv, val := vv, born := clk }) (clk + 1) ?_ ?_ (wfM_push qw)
     ·rw [upd, c2]; exact MapKept.run_setObj_map _ q2
     ·rw [Array.toList_push]; exact q3'.push hfk hfv
    | some jd =>
     obtain ⟨j, dd⟩ := jd
     obtain ⟨-, e', h1, h2, h3, h4⟩ := c2
     rw [Nat.sub_zero] at h1
     refine fin (ent.modify j fun e => { e with key := kv, val := vv }) clk ?_ ?_ (wfM_modify qw)
     ·rw [upd, h2]
      have : ((ent[j]?).map (fun x : MapEntry => x.key)).getD kv = kv := by
       rw [Array.getElem?_toList] at h1
       rw [h1]; exact h4.symm
      simp only [this, Sem.run_bind, run_keyStays hself', Result.andThen_ok]
      exact MapKept.run_setObj_map _ q2
     ·rw [Array.toList_modify]; exact q3'.put j hfk hfv
   ·exact hv.elim
  ·exact hv.elim
 ·exact hv.elim
theorem so_mdel (h : SR w0 W F0 V N g S a w) {o : Oper} {ks : List SK} {m k : Operand} {Q : Exit → Act → World → Prop} (hc : compOp P o = some (.xop (.mdel ks m k))) (hd : ∀ t, o.dst = some t → t < N) (hv : xstep (.mdel ks m k) o.dst S K) :
    o.wp P a w (fun a' w' => ∃ g' S', SR w0 W F0 V N g' S' a' w' ∧ K S') Q := by
 obtain ⟨t, t2, kt, e, ho, hu, hk⟩ := comp_mdel hc
 simp only [xstep] at hv
 split at hv
 ·rename_i oo kd hm hkd
  split at hv
  ·rename_i es d1 d2 hb
   obtain ⟨hit, hself, hv⟩ := hv
   split at hv
   ·rename_i r hf
    obtain ⟨b0, hm1, hm2, hm3⟩ := (h.core.look hm).mh_inv
    have hrk := h.core.look hkd
    obtain ⟨b, ent, clk, q1, q2, q3, -, qw⟩ := h.core.mapAt hb hm3 hit
    rw [hm2] at q1; injection q1 with q1; injection q1 with q1 _; subst q1
    have hmv : a.eval m = .map (some b0) := by rw [hm1]; unfold handV; rw [if_pos hit]
    generalize hkv : a.eval k = kv at hrk
    obtain ⟨p, hp⟩ := isSome_self hself
    have hself' : (eqKeyV ks kv kv).isSome = true := by rw [eqKey_V hp hrk hrk]; rfl
    obtain ⟨c1, c2⟩ := find_rep hrk q3.ents hf
    have fin : ∀ (ent' : Array MapEntry), (Builtin.delete_ #[t, t2] o.type #[.map (some b0), kv]).run P w = .ok (.tuple #[]) (setB w b0 (.map ent' clk)) → EntF g.F w (delE0 es r) ent'.toList → wfM ent' clk = true →
        o.wp P a w (fun a' w' => ∃ g' S', SR w0 W F0 V N g' S' a' w' ∧ K S') Q := fun ent' hrun he hw => by
     have hrunO : (execOp a.eval o).run P w = .ok (.value (.tuple #[])) (setB w b0 (.map ent' clk)) := by
      simp only [execOp, ho, resolve, invoke, builtin, Sem.run_bind, Sem.run_pure, Result.andThen_ok, List.map_toArray, List.map_cons, List.map_nil, hmv, hkv, hrun]
     unfold Oper.wp
     rw [hrunO, Oper.upon_value]
     obtain ⟨vs, v1, v2, v3⟩ := map3 (g := g) (w := w) (clk := clk) hit he hw
     exact ⟨_, _, (h.setMap hb hm2 (by omega) q2 rfl v1 (by simp) (by simp) v2 v3).put hd (.fz _ _ (.undef _)), hv⟩
    have upd : (Builtin.delete_ #[t, t2] o.type #[.map (some b0), kv]).run P w = (match findV ks kv ent.toList 0 with
        | some (i, _) => (do setObj b0 (.map (ent.eraseIdxIfInBounds i) clk); pure (.tuple #[]) : Sem Value)
        | none => (do setObj b0 (.map ent clk); pure (.tuple #[]) : Sem Value)).run P w := by
     unfold Builtin.delete_
     simp only [Sem.run_bind, run_underlying hu, Result.andThen_ok, MapKept.run_getObj_map q2, run_checkKeyV hk hself', run_findKeyV hk c1, List.getElem?_toArray, List.getElem?_cons_zero, List.getElem?_cons_succ]
     cases findV ks kv ent.toList 0 <;> rfl
    cases r with
    | none =>
     simp only at c2
     refine fin ent ?_ q3 qw
     rw [upd, c2]
     simp only [Sem.run_bind, MapKept.run_setObj_map _ q2, Result.andThen_ok, Sem.run_pure, setB]
    | some jd =>
     obtain ⟨j, dd⟩ := jd
     obtain ⟨-, e', h1, h2, h3, h4⟩ := c2
     refine fin (ent.eraseIdxIfInBounds j) ?_ ?_ (wfM_erase qw)
     ·rw [upd, h2]
      simp only [Sem.run_bind, MapKept.run_setObj_map _ q2, Result.andThen_ok, Sem.run_pure, setB]
     ·have : (ent.eraseIdxIfInBounds j).toList = ent.toList.eraseIdx j := by
        unfold Array.eraseIdxIfInBounds
        split
        ·rw [Array.toList_eraseIdx]
        ·rename_i hj; rw [List.eraseIdx_of_length_le (by simpa using hj)]
      rw [this]
      exact q3.erase j
   ·exact hv.elim
  ·exact hv.elim
 ·exact hv.elim
theorem isNilI_eq {x : Operand} (h : isNilI x = true) : x = .const .nilIface := by
 unfold isNilI at h
 split at h
 ·rfl
 ·cases h
theorem comp_isnilI {o : Oper} {neg : Bool} {x : Operand} (h : compOp P o = some (.xop (.isnilI neg x))) : ∃ op t m yt, o.op = .binOp op t x (.const .nilIface) yt ∧ P.underlying t = some (.interface m) ∧ ((op = .eql ∧ neg = false) ∨ (op = .neq ∧ neg = true)) := by
 obtain ⟨dst, op, type, pos, after, guard⟩ := o
 cases op <;> simp only [compOp] at h <;> (repeat' (split at h)) <;> first
  | (cases h; done)
  | (rename_i hu hy _; injection h with h; injection h with h; injection h with h1 h2; subst h1; subst h2; exact ⟨_, _, _, _, congrArg (Op.binOp _ _ _ · _) (isNilI_eq hy), hu, .inl ⟨rfl, rfl⟩⟩)
  | (rename_i hu hy _; injection h with h; injection h with h; injection h with h1 h2; subst h1; subst h2; exact ⟨_, _, _, _, congrArg (Op.binOp _ _ _ · _) (isNilI_eq hy), hu, .inr ⟨rfl, rfl⟩⟩)
  | (unfold compB at h; (repeat' (split at h)) <;> cases h)
theorem so_isnilI (h : SR w0 W F0 V N g S a w) {o : Oper} {neg : Bool} {x : Operand} {Q : Exit → Act → World → Prop} (hc : compOp P o = some (.xop (.isnilI neg x))) (hd : ∀ t, o.dst = some t → t < N) (hv : xstep (.isnilI neg x) o.dst S K) :
    o.wp P a w (fun a' w' => ∃ g' S', SR w0 W F0 V N g' S' a' w' ∧ K S') Q := by
 obtain ⟨op, t, m, yt, ho, hu, hop⟩ := comp_isnilI hc
 simp only [xstep] at hv
 have fin : ∀ v b, a.eval x = v → (v = .nilIface ∧ b = !neg ∨ (∃ t y, v = .iface t y) ∧ b = neg) → K (S.put o.dst (.val (.bool b))) → o.wp P a w (fun a' w' => ∃ g' S', SR w0 W F0 V N g' S' a' w' ∧ K S') Q := fun v b hx hb hK => by
  have hev : a.eval (.const .nilIface) = .nilIface := rfl
  have e1 : (Op.equal t .nilIface .nilIface).run P w = .ok true w := by
   unfold Op.equal Op.maxDepth
   rw [show (10000 : Nat) = 9999 + 1 from rfl, Op.equalIn]
   simp only [Sem.run_bind, run_underlying hu, Result.andThen_ok, Sem.run_pure]
  have e2 : ∀ t' y, (Op.equal t (.iface t' y) .nilIface).run P w = .ok false w := fun t' y => by
   unfold Op.equal Op.maxDepth
   rw [show (10000 : Nat) = 9999 + 1 from rfl, Op.equalIn]
   simp only [Sem.run_bind, run_underlying hu, Result.andThen_ok, Sem.run_pure]
  have g1 : (eqGuard op t x (.const .nilIface) .nilIface .nilIface).run P w = .ok () w := by
   have : eqGuard op t x (.const .nilIface) .nilIface .nilIface = pure () := by cases op <;> cases x <;> rfl
   rw [this]; rfl
  have g2 : ∀ t' y, (eqGuard op t x (.const .nilIface) (.iface t' y) .nilIface).run P w = .ok () w := fun t' y => by
   have : eqGuard op t x (.const .nilIface) (.iface t' y) .nilIface = pure () := by cases op <;> rfl
   rw [this]; rfl
  have hrun : (execOp a.eval o).run P w = .ok (.value (.bool b)) w := by
   rcases hb with ⟨rfl, rfl⟩ | ⟨⟨t', y, rfl⟩, rfl⟩
   ·simp only [execOp, ho, hx, hev, Sem.run_bind, g1, Result.andThen_ok]
    rcases hop with ⟨rfl, rfl⟩ | ⟨rfl, rfl⟩ <;> simp only [binOp, Sem.run_bind, e1, Sem.run_pure, Result.andThen_ok] <;> rfl
   ·simp only [execOp, ho, hx, hev, Sem.run_bind, g2, Result.andThen_ok]
    rcases hop with ⟨rfl, rfl⟩ | ⟨rfl, rfl⟩ <;> simp only [binOp, Sem.run_bind, e2, Sem.run_pure, Result.andThen_ok] <;> rfl
  unfold Oper.wp
  rw [hrun, Oper.upon_value]
  exact ⟨_, _, h.put hd (.fz _ _ (.val _)), hK⟩
 split at hv
 ·rename_i hx
  exact fin _ _ (h.core.look hx).val_inv (.inl ⟨rfl, rfl⟩) hv
 ·rename_i t' y hx
  exact fin _ _ (h.core.look hx).val_inv (.inr ⟨⟨_, _, rfl⟩, rfl⟩) hv
 ·exact hv.elim
theorem only_all0 (S : St) : S.only (fun _ => true) (fun _ => true) = S := by
 have hkeep : ∀ d : D, d.keep (fun _ => true) (fun _ => true) = d := fun d => by simp [D.keep, avoids_all]
 have h1 : ∀ l : List D, l.map (D.keep (fun _ => true) fun _ => true) = l := fun l => by
  rw [List.map_congr_left (g := id) (fun d _ => hkeep d)]; simp
 have h2 : ∀ l : List (Nat × D), (l.map fun x => (x.1, x.2.keep (fun _ => true) fun _ => true)) = l := fun l => by
  induction l with
  | nil => rfl
  | cons x l ih => rw [List.map_cons, ih, hkeep]
 have h3 : ∀ l : List (Nat × List D), (l.map fun x => (x.1, x.2.map (D.keep (fun _ => true) fun _ => true))) = l := fun l => by
  induction l with
  | nil => rfl
  | cons x l ih => rw [List.map_cons, ih, h1]
 simp only [St.only, h2, h3]
theorem keep_id' {po : Nat → Bool} {pt : Tag → Bool} {d : D} (h : d.avoids po pt = true) : d.keep po pt = d := by
 unfold D.keep; rw [if_pos h]
theorem comp_mrange {o : Oper} {m : Operand} (h : compOp P o = some (.xop (.mrange m))) : ∃ t kt e, o.op = .range t m ∧ P.underlying t = some (.map kt e) := by
 obtain ⟨dst, op, type, pos, after, guard⟩ := o
 cases op <;> simp only [compOp] at h <;> (repeat' (split at h)) <;> first
  | (cases h; done)
  | (injection h with h; injection h with h; injection h with h1; subst h1; exact ⟨_, _, _, rfl, by assumption⟩)
  | (unfold compB at h; (repeat' (split at h)) <;> cases h)
theorem comp_mnext {o : Oper} {m : Operand} (h : compOp P o = some (.xop (.mnext m))) : o.op = .next m false := by
 obtain ⟨dst, op, type, pos, after, guard⟩ := o
 cases op <;> simp only [compOp] at h <;> (repeat' (split at h)) <;> first
  | (cases h; done)
  | (rename_i hb; injection h with h; injection h with h; injection h with h1; subst h1; simp at hb; subst hb; rfl)
  | (unfold compB at h; (repeat' (split at h)) <;> cases h)
theorem comp_mentry {o : Oper} {m : Operand} (h : compOp P o = some (.xop (.mentry m))) : o.op = .entry m := by
 obtain ⟨dst, op, type, pos, after, guard⟩ := o
 cases op <;> simp only [compOp] at h <;> (repeat' (split at h)) <;> first
  | (cases h; done)
  | (injection h with h; injection h with h; injection h with h1; subst h1; rfl)
  | (unfold compB at h; (repeat' (split at h)) <;> cases h)
theorem stD_rep {F : Reg} (st : List Nat) (us : Array Value) (h : us.toList = st.map fun (s : Nat) => goInt (s : Int)) : RepF F w (stD st) (.tuple us) := by
 refine .tup _ us (by simpa using congrArg List.length h) (fun i d v hd hv => ?_)
 have hv' : us.toList[i]? = some v := by simpa using hv
 rw [h] at hv'
 rw [List.getElem?_map] at hd hv'
 obtain ⟨s, h1, rfl⟩ := Option.map_eq_some_iff.1 hd
 rw [h1] at hv'
 simp only [Option.map_some, Option.some.injEq] at hv'
 subst hv'
 exact .val _
theorem goInt_inj {m n : Nat} (h : goInt (m : Int) = goInt (n : Int)) : m = n := by
 unfold goInt at h
 injection h with _ h
 omega
theorem stD_inv {st : List Nat} {us : Array Value} (h : Rep g w (stD st) (.tuple us)) : us.toList = st.map fun (s : Nat) => goInt (s : Int) := by
 obtain ⟨vs, h1, h2, h3⟩ := h.tup_inv
 injection h1 with h1; subst h1
 apply List.ext_getElem?
 intro i
 rw [List.getElem?_map]
 cases hs : st[i]? with
 | none =>
  have : st.length ≤ i := List.getElem?_eq_none_iff.1 hs
  simp at h2
  simp; omega
 | some s =>
  have hi : i < us.size := by rw [h2]; simpa using (List.getElem?_eq_some_iff.1 hs).1
  have := h3 i (.val (goInt (s : Int))) us[i] (by simp [hs]) (Array.getElem?_eq_getElem hi)
  rw [Array.getElem?_toList, Array.getElem?_eq_getElem hi, this.val_inv]
  rfl
theorem born_st {es : Array MapEntry} {st : List Nat} (h : (es.map fun e => goInt (e.born : Int)).toList = st.map fun (s : Nat) => goInt (s : Int)) : es.toList.map (·.born) = st := by
 rw [Array.toList_map] at h
 apply List.ext_getElem?
 intro i
 have := congrArg (fun l => l[i]?) h
 simp only [List.getElem?_map] at this ⊢
 cases he : es.toList[i]? with
 | none => rw [he] at this; cases hs : st[i]? with
  | none => rfl
  | some s => rw [hs] at this; cases this
 | some e => rw [he] at this; cases hs : st[i]? with
  | none => rw [hs] at this; cases this
  | some s =>
   rw [hs] at this
   simp only [Option.map_some, Option.some.injEq] at this ⊢
   exact goInt_inj this
theorem Core.mapAt3 (h : Core g S tm w) {o c : Nat} {rows : List (List D)} {st : List Nat} (hb : S.box o = some [.mpc rows, stD st, .val (goInt (c : Int))]) (ho : mapB ≤ o) (hi : o < itB) :
    ∃ b es, g.μ o = some (b, 0) ∧ w.heap[b]? = some (.map es c) ∧ EntF g.F w rows es.toList ∧ wfM es c = true ∧ es.toList.map (·.born) = st := by
 obtain ⟨b, k, vs, e, q1, q2, q3, q4⟩ := h.box o _ hb
 obtain ⟨⟨rfl, -⟩, ob, h1, h2, h3⟩ := q2.isMap (by omega)
 cases ob <;> simp only [virtO] at h3 <;> (try (cases h3; done))
 ·rename_i es clk
  split at h3
  ·rename_i hw
   injection h3 with h3; subst h3
   have e2 := q4 2 _ _ rfl rfl
   have hc : clk = c := goInt_inj e2.val_inv
   subst hc
   exact ⟨b, es, q1, h1, .of_mpc (q4 0 _ _ rfl rfl), hw.2, born_st (stD_inv (q4 1 _ _ rfl rfl))⟩
  ·cases h3
 ·rw [if_pos hi] at h3; cases h3
theorem Core.itAt (h : Core g S tm w) {i o c c' : Nat} {seen : List Nat} (hb : S.box i = some [.mh o, stD seen, .val (goInt (c : Int)), .val (goInt (c' : Int))]) (hi : itB ≤ i) :
    ∃ b m sn, g.μ i = some (b, 0) ∧ w.heap[b]? = some (.mapIter m c sn c') ∧ Rep g w (.mh o) (.map m) ∧ sn.toList = seen := by
 obtain ⟨b, k, vs, e, q1, q2, q3, q4⟩ := h.box i _ hb
 obtain ⟨⟨rfl, -⟩, ob, h1, h2, h3⟩ := q2.isMap (by unfold mapB itB at *; omega)
 cases ob <;> simp only [virtO] at h3 <;> (try (cases h3; done))
 ·split at h3
  ·rename_i hw; unfold itB at *; omega
  ·cases h3
 ·rename_i m since seen' stepped
  rw [if_neg (by omega)] at h3
  injection h3 with h3; subst h3
  have e2 := goInt_inj (q4 2 _ _ rfl rfl).val_inv
  have e3 := goInt_inj (q4 3 _ _ rfl rfl).val_inv
  subst e2; subst e3
  refine ⟨b, m, seen', q1, h1, q4 0 _ _ rfl rfl, ?_⟩
  have := stD_inv (q4 1 _ _ rfl rfl)
  rw [Array.toList_map] at this
  apply List.ext_getElem?
  intro j
  have h5 := congrArg (fun l => l[j]?) this
  simp only [List.getElem?_map] at h5
  cases ha : seen'.toList[j]? with
  | none => rw [ha] at h5; cases hs : seen[j]? with
   | none => rfl
   | some s => rw [hs] at h5; cases h5
  | some x => rw [ha] at h5; cases hs : seen[j]? with
   | none => rw [hs] at h5; cases h5
   | some s =>
    rw [hs] at h5
    simp only [Option.map_some, Option.some.injEq] at h5
    rw [goInt_inj h5]
theorem setB_id {b : Nat} {ob : Obj} (h : w.heap[b]? = some ob) : setB w b ob = w := by
 have : w.heap.setIfInBounds b ob = w.heap := by
  apply Array.ext_getElem?
  intro k
  rw [Array.getElem?_setIfInBounds]
  split
  ·rename_i hk; subst hk
   rw [if_pos (Array.getElem?_eq_some_iff.1 h).1]; exact h.symm
  ·rfl
 show { w with heap := w.heap.setIfInBounds b ob } = w
 rw [this]
theorem SR.drew0 (h : SR w0 W F0 V N g S a w) (n : Nat) (hn : w.drawn ≤ n) : SR w0 W F0 V N g S a { w with drawn := n } := by
 have hl : Later g g w { w with drawn := n } (fun _ => true) (fun _ => true) := ⟨fun _ _ _ h => h, fun _ _ _ h => h, fun _ _ h => h, fun b k hF => rfl⟩
 have hc := h.core.later hl (fun _ _ _ => rfl) (fun _ _ _ => rfl) (fun b ob hb => hb) (fun b k hF => .inl hF) (fun b k hF => h.core.frz.1 b k hF)
 rw [only_all0] at hc
 exact h.later hc h.wr (Keep.drew (fun _ _ => False) w n hn) (fun _ _ _ h => h.elim) (fun _ _ h => h) (fun _ _ h => .inl h) (fun t ti _ h => ⟨ti, h, rfl⟩)
theorem born_at {es : Array MapEntry} {st : List Nat} (hs : es.toList.map (·.born) = st) {j : Nat} {e : MapEntry} (h : es.toList[j]? = some e) : st[j]? = some e.born := by
 rw [← hs, List.getElem?_map, h]; rfl
theorem so_mrange (h : SR w0 W F0 V N g S a w) {o : Oper} {m : Operand} {Q : Exit → Act → World → Prop} (hc : compOp P o = some (.xop (.mrange m))) (hd : ∀ t, o.dst = some t → t < N) (hv : xstep (.mrange m) o.dst S K) :
    o.wp P a w (fun a' w' => ∃ g' S', SR w0 W F0 V N g' S' a' w' ∧ K S') Q := by
 obtain ⟨t, kt, e, ho, hu⟩ := comp_mrange hc
 simp only [xstep] at hv
 split at hv
 ·rename_i oo d hm hdst
  split at hv
  ·rename_i es d1 d2 hb
   obtain ⟨hit, hv⟩ := hv
   obtain ⟨b0, hm1, hm2, hm3⟩ := (h.core.look hm).mh_inv
   obtain ⟨b, ent, clk, q1, q2, q3, -, qw⟩ := h.core.mapAt hb hm3 hit
   rw [hm2] at q1; injection q1 with q1; injection q1 with q1 _; subst q1
   have hmv : a.eval m = .map (some b0) := by rw [hm1]; unfold handV; rw [if_pos hit]
   obtain ⟨w1, w2⟩ := wfM_iff.1 qw
   have hdN : d < 999999 := Nat.lt_of_lt_of_le (hd d hdst) h.cap
   have hrunO : (execOp a.eval o).run P w = .ok (.value (.pointer (some ⟨w.heap.size, 0, none⟩))) (w.alloc (.mapIter (some b0) clk #[] clk)) := by
    simp only [execOp, ho, hmv]
    exact ev_v (run_range_map w t kt e b0 ent clk hu q2)
   have hlen : (ent.toList.map (·.born)).length = es.length := by rw [List.length_map]; exact q3.1.symm
   have hK := hv (ent.toList.map (·.born)) clk hlen w1
   generalize hst : ent.toList.map (·.born) = st at hK
   have v1 : virtO oo (.map ent clk) = some #[entV ent, .tuple (ent.map fun e => goInt (e.born : Int)), goInt (clk : Int)] := by
    simp only [virtO]; exact if_pos ⟨hit, qw⟩
   have hs1 := h.setMap (cs' := [.mpc es, stD st, .val (goInt (clk : Int))]) hb hm2 (by omega) q2 rfl v1 rfl (by simp) (by simp) (fun i d u hd hu => by
    match i, hd, hu with
    | 0, hd, hu => simp at hd hu; subst hd; subst hu; exact .fz _ _ q3.mpc
    | 1, hd, hu =>
     simp at hd hu; subst hd; subst hu
     refine .fz _ _ (stD_rep st _ ?_)
     rw [← hst, Array.toList_map, List.map_map]; rfl
    | 2, hd, hu => simp at hd hu; subst hd; subst hu; exact .fz _ _ (.val _)
    | i + 3, hd, hu => simp at hd)
   rw [setB_id q2] at hs1
   have hrm : Rep g w (.mh oo) (.map (some b0)) := by
    have := h.core.look hm
    rwa [hmv] at this
   have hcells : Cells g w [.mh oo, stD [], .val (goInt (clk : Int)), .val (goInt (clk : Int))] #[.map (some b0), .tuple ((#[] : Array Nat).map fun (n : Nat) => goInt (n : Int)), goInt (clk : Int), goInt (clk : Int)] := ⟨rfl, fun i d v hd hv => by
    match i, hd, hv with
    | 0, hd, hv => simp at hd hv; subst hd; subst hv; exact hrm
    | 1, hd, hv => simp at hd hv; subst hd; subst hv; exact .fz _ _ (stD_rep [] _ rfl)
    | 2, hd, hv => simp at hd hv; subst hd; subst hv; exact .fz _ _ (.val _)
    | 3, hd, hv => simp at hd hv; subst hd; subst hv; exact .fz _ _ (.val _)
    | i + 4, hd, hv => simp at hd⟩
   have hblk : Blk (w.alloc (.mapIter (some b0) clk #[] clk)) (itB + d) w.heap.size 0 4 #[.map (some b0), .tuple ((#[] : Array Nat).map fun (n : Nat) => goInt (n : Int)), goInt (clk : Int), goInt (clk : Int)] 0 := by
    refine .ofMap (heap_alloc_new w _) ?_ (by unfold mapB itB; omega) (by omega)
    simp only [virtO]
    rw [if_neg (by omega)]
   have h2 := hs1.newObj (itB + d) _ _ 0 (.mapIter (some b0) clk #[] clk) hcells hblk (by unfold mapB itB; omega)
   have hkeep : ([.mh oo, stD [], .val (goInt (clk : Int)), .val (goInt (clk : Int))] : List D).map (D.keep (fun y => decide (y ≠ itB + d)) fun _ => true) = [.mh oo, stD [], .val (goInt (clk : Int)), .val (goInt (clk : Int))] := by
    have hne : decide (oo ≠ itB + d) = true := by rw [decide_eq_true_eq]; omega
    simp only [List.map_cons, List.map_nil]
    rw [keep_id' (by simpa [D.avoids] using hne), keep_id' (by rfl), keep_id' (by rfl)]
   rw [hkeep] at h2
   unfold Oper.wp
   rw [hrunO, Oper.upon_value]
   refine ⟨_, _, h2.put hd ?_, hK⟩
   have : handV (itB + d) w.heap.size = .pointer (some ⟨w.heap.size, 0, none⟩) := by
    unfold handV; rw [if_neg (by omega)]
   rw [← this]
   exact Rep.mh (itB + d) w.heap.size (if_pos rfl) (by unfold mapB itB; omega)
  ·exact hv.elim
 ·exact hv.elim
theorem so_mnext (h : SR w0 W F0 V N g S a w) {o : Oper} {it : Operand} {Q : Exit → Act → World → Prop} (hc : compOp P o = some (.xop (.mnext it))) (hd : ∀ t, o.dst = some t → t < N) (hv : xstep (.mnext it) o.dst S K) :
    o.wp P a w (fun a' w' => ∃ g' S', SR w0 W F0 V N g' S' a' w' ∧ K S') Q := by
 have ho := comp_mnext hc
 simp only [xstep] at hv
 split at hv
 ·rename_i i hm
  obtain ⟨oo, c, es, seen, st, hi, hoi, hbi, hbo, hend, hmore⟩ := hv
  obtain ⟨b0, hm1, hm2, hm3⟩ := (h.core.look hm).mh_inv
  obtain ⟨bi, mo, sn, r1, r2, r3, r4⟩ := h.core.itAt hbi hi
  rw [hm2] at r1; injection r1 with r1; injection r1 with r1 _; subst r1
  obtain ⟨bm, hr1, hr2, hr3⟩ := r3.mh_inv
  have hmo : mo = some bm := by
   have : handV oo bm = .map (some bm) := by unfold handV; rw [if_pos hoi]
   rw [this] at hr1; injection hr1
  subst hmo
  obtain ⟨bm', ent, q1, q2, q3, qw, qs⟩ := h.core.mapAt3 hbo hr3 hoi
  rw [hr2] at q1; injection q1 with q1; injection q1 with q1 _; subst q1
  obtain ⟨w1, w2⟩ := wfM_iff.1 qw
  have hmv : a.eval it = .pointer (some ⟨b0, 0, none⟩) := by rw [hm1]; unfold handV; rw [if_neg (by omega)]
  have hnot : ¬ i < mapB := by unfold mapB itB at *; omega
  rcases run_next_at (P := P) w o.type b0 bm c c sn ent c r2 q2 w2 (Nat.le_refl _) with ⟨h0, hrun⟩ | ⟨e, he, w', hw', hrun⟩
  ·have hrunO : (execOp a.eval o).run P w = .ok (.value (.tuple #[.bool false])) w := by
     simp only [execOp, ho, hmv]
     exact ev_v hrun
   unfold Oper.wp
   rw [hrunO, Oper.upon_value]
   refine ⟨_, _, h.put hd (.fz _ _ (.tup _ #[.bool false] rfl (fun j d v hd hv => ?_))), hend fun s hs => ?_⟩
   ·match j, hd, hv with
    | 0, hd, hv => simp at hd hv; subst hd; subst hv; exact .val _
    | j + 1, hd, hv => simp at hd
   ·rw [← qs] at hs
    obtain ⟨e, he, rfl⟩ := List.mem_map.1 hs
    apply Classical.byContradiction
    intro hns
    have hm : e ∈ (Go.leftOf ent sn).toList := by
     unfold Go.leftOf
     rw [Array.toList_filter, List.mem_filter]
     refine ⟨he, ?_⟩
     have : e.born ∉ sn := fun hm => hns (by rw [← r4]; exact Array.mem_def.1 hm)
     simpa using this
    have : 0 < (Go.leftOf ent sn).toList.length := List.length_pos_of_mem hm
    rw [Array.length_toList] at this
    omega
  ·have hsr : SR w0 W F0 V N g S a w' := by
     rcases hw' with rfl | rfl
     ·exact h
     ·exact h.drew0 _ (Nat.le_succ _)
   have hheap : w'.heap = w.heap := by rcases hw' with rfl | rfl <;> rfl
   have hrunO : (execOp a.eval o).run P w = .ok (.value (.tuple #[.bool true, e.key, e.val])) (setB w' b0 (.mapIter (some bm) c (sn.push e.born) c)) := by
    simp only [execOp, ho, hmv]
    exact ev_v hrun
   have hin : e ∈ ent.toList ∧ e.born ∉ seen := by
    unfold Go.leftOf at he
    rw [Array.toList_filter, List.mem_filter] at he
    refine ⟨he.1, fun hm => ?_⟩
    have h2 := he.2
    have : e.born ∈ sn := by rw [Array.mem_def, r4]; exact hm
    simp [this] at h2
   obtain ⟨j, hj⟩ := List.getElem?_of_mem hin.1
   have hjl : j < es.length := by rw [q3.1]; exact (List.getElem?_eq_some_iff.1 hj).1
   have hK := hmore j e.born hjl (born_at qs hj) hin.2
   have hcur : w'.heap[b0]? = some (.mapIter (some bm) c sn c) := by rw [hheap]; exact r2
   have hrm : Rep g w' (.mh oo) (.map (some bm)) := by
    have : handV oo bm = .map (some bm) := by unfold handV; rw [if_pos hoi]
    rw [← this]; exact Rep.mh oo bm hr2 hr3
   have v1 : virtO i (.mapIter (some bm) c (sn.push e.born) c) = some #[.map (some bm), .tuple ((sn.push e.born).map fun (n : Nat) => goInt (n : Int)), goInt (c : Int), goInt (c : Int)] := by
    simp only [virtO]; rw [if_neg (by omega)]
   have hs1 := hsr.setMap (cs' := [.mh oo, stD (seen ++ [e.born]), .val (goInt (c : Int)), .val (goInt (c : Int))]) hbi hm2 hnot hcur rfl v1 rfl (by simp) (by simp) (fun q d u hd hu => by
    match q, hd, hu with
    | 0, hd, hu => simp at hd hu; subst hd; subst hu; exact hrm
    | 1, hd, hu =>
     simp only [List.getElem?_cons_succ, List.getElem?_cons_zero, Option.some.injEq] at hd
     have hu' : Value.tuple ((sn.push e.born).map fun (n : Nat) => goInt (n : Int)) = u := by simpa using hu
     subst hd; subst hu'
     refine .fz _ _ (stD_rep _ _ ?_)
     rw [Array.toList_map, Array.toList_push, r4]
    | 2, hd, hu => simp at hd hu; subst hd; subst hu; exact .fz _ _ (.val _)
    | 3, hd, hu => simp at hd hu; subst hd; subst hu; exact .fz _ _ (.val _)
    | q + 4, hd, hu => simp at hd)
   unfold Oper.wp
   rw [hrunO, Oper.upon_value]
   refine ⟨_, _, hs1.put hd ?_, hK⟩
   refine .fz _ _ (.tup _ #[.bool true, e.key, e.val] rfl (fun j d v hd hv => ?_))
   match j, hd, hv with
   | 0, hd, hv => simp at hd hv; subst hd; subst hv; exact .val _
   | 1, hd, hv => simp at hd hv; subst hd; exact .undef _
   | 2, hd, hv => simp at hd hv; subst hd; exact .undef _
   | j + 3, hd, hv => simp at hd
 ·exact hv.elim
theorem so_mentry (h : SR w0 W F0 V N g S a w) {o : Oper} {it : Operand} {Q : Exit → Act → World → Prop} (hc : compOp P o = some (.xop (.mentry it))) (hd : ∀ t, o.dst = some t → t < N) (hv : xstep (.mentry it) o.dst S K) :
    o.wp P a w (fun a' w' => ∃ g' S', SR w0 W F0 V N g' S' a' w' ∧ K S') Q := by
 have ho := comp_mentry hc
 simp only [xstep] at hv
 split at hv
 ·rename_i i hm
  obtain ⟨oo, c, es, seen, st, j, s, r, hi, hoi, hbi, hbo, hst, hes, hnd, hK⟩ := hv
  obtain ⟨b0, hm1, hm2, hm3⟩ := (h.core.look hm).mh_inv
  obtain ⟨bi, mo, sn, r1, r2, r3, r4⟩ := h.core.itAt hbi hi
  rw [hm2] at r1; injection r1 with r1; injection r1 with r1 _; subst r1
  obtain ⟨bm, hr1, hr2, hr3⟩ := r3.mh_inv
  have hmo : mo = some bm := by
   have : handV oo bm = .map (some bm) := by unfold handV; rw [if_pos hoi]
   rw [this] at hr1; injection hr1
  subst hmo
  obtain ⟨bm', ent, q1, q2, q3, qw, qs⟩ := h.core.mapAt3 hbo hr3 hoi
  rw [hr2] at q1; injection q1 with q1; injection q1 with q1 _; subst q1
  obtain ⟨w1, w2⟩ := wfM_iff.1 qw
  have hmv : a.eval it = .pointer (some ⟨b0, 0, none⟩) := by rw [hm1]; unfold handV; rw [if_neg (by omega)]
  have hsn : sn = seen.toArray.push s := by
   apply Array.toList_inj.1
   rw [r4, Array.toList_push]
  subst hsn
  have hj : ∃ e, ent.toList[j]? = some e ∧ e.born = s := by
   rw [← qs, List.getElem?_map] at hst
   obtain ⟨e, h1, h2⟩ := Option.map_eq_some_iff.1 hst
   exact ⟨e, h1, h2⟩
  obtain ⟨e, he, rfl⟩ := hj
  obtain ⟨l2, k0, k1⟩ := q3.2 j r e hes he
  have hrun := run_entry_at (P := P) w b0 bm c seen.toArray ent c e r2 q2 (List.mem_of_getElem? he) w1
  have hrunO : (execOp a.eval o).run P w = .ok (.value (.tuple #[e.key, e.val])) w := by
   simp only [execOp, ho, hmv]
   exact ev_v hrun
  unfold Oper.wp
  rw [hrunO, Oper.upon_value]
  refine ⟨_, _, h.put hd (.fz _ _ (.tup _ #[e.key, e.val] (by simp [l2]) (fun q d v hd hv => ?_))), hK⟩
  match q, hd, hv with
  | 0, hd, hv => simp at hv; subst hv; exact k0 d hd
  | 1, hd, hv => simp at hv; subst hv; exact k1 d hd
  | q + 2, hd, hv => simp at hv
 ·exact hv.elim
theorem so_xop (h : SR w0 W F0 V N g S a w) {o : Oper} {k : XOp} {Q : Exit → Act → World → Prop} (hc : compOp P o = some (MOp.strip (.xop k))) (hd : ∀ t, o.dst = some t → t < N) (hv : xstep k o.dst S K) :
    o.wp P a w (fun a' w' => ∃ g' S', SR w0 W F0 V N g' S' a' w' ∧ K S') Q := by
 cases k with
 | clr sz zero x => exact so_clr h hc hd hv
 | mkmap => exact so_mkmap h hc hd hv
 | mget ks zero ok m k => exact so_mget h hc hd hv
 | mput ks m k v => exact so_mput h hc hd hv
 | mdel ks m k => exact so_mdel h hc hd hv
 | mlen m => exact so_mlen h hc hd hv
 | isnilI neg x => exact so_isnilI h hc hd hv
 | slc3 sz x lo hi mx => exact so_slc3 h hc hd hv
 | appP e sz bytes x y => exact so_appP h hc hd hv
 | mrange m => exact so_mrange h hc hd hv
 | mnext it => exact so_mnext h hc hd hv
 | mentry it => exact so_mentry h hc hd hv
end Go.Vm

namespace Go.Vm
open Go.RowKit
variable {P : Program} {w0 w w' : World} {W F0 : Reg} {V : Pins} {N : Nat} {g g' : Gh} {S : St} {a : Act} {tm : Array Value} {K : St → Prop}
theorem so_append (h : SR w0 W F0 V N g S a w) {o : Oper} {e sz bytes : Nat} {x y : Operand} {Q : Exit → Act → World → Prop} (hc : compOp P o = some (.append e sz bytes x y)) (hd : ∀ t, o.dst = some t → t < N) (hv : vstep P (.append e sz bytes x y) o.dst S K) :
    o.wp P a w (fun a' w' => ∃ g' S', SR w0 W F0 V N g' S' a' w' ∧ K S') Q := by
 obtain ⟨t, i, zv, ho, hu, hi, hz, rfl, rfl, h0, hzs⟩ := comp_append hc
 simp only [vstep] at hv
 split at hv
 ·rename_i tg es tag ys hx hy
  obtain ⟨htg, hpn, hl1, hl2, hes, hys, hb1, hb2, hK⟩ := hv
  obtain ⟨d0, e0, s0⟩ := tg
  have hpn := Nat.le_of_ble_eq_true hpn
  simp only [Prod.mk.injEq] at htg
  obtain ⟨rfl, rfl⟩ := htg
  obtain ⟨xx, htx⟩ := Option.isSome_iff_exists.1 hl1
  obtain ⟨ti, q1, q2⟩ := h.core.tag _ xx htx
  have hrx := h.core.look hx
  generalize hvx : a.eval x = vx at hrx
  cases hrx with
  | fz _ _ hr => cases hr
  | slT _ _ ti2 ht2 hn hlen hr =>
   rw [q1] at ht2; injection ht2 with ht2; subst ht2
   obtain ⟨e1, e2⟩ := q2.ty
   simp only at e1 e2
   have hown := q2.own
   rw [e1, e2] at hown
   have hmax : ti.n + ys.length ≤ maxLen := by simp only [maxLen]; omega
   have hsrc := src_cells h.core (h.core.look hy) (fun t' ht' => by
    subst ht'
    simp only [Option.all_some] at hl2
    exact Option.isSome_iff_exists.1 hl2) hys h0
   have fin : ∀ (v' : Value) (w' : World) (news : List Value), (Builtin.append_ #[t, t] o.type #[ti.v, a.eval y]).run P w = .ok v' w' → w'.ownsRow 0 e0 i.size v' (ti.n + ys.length) (ti.xs ++ news) → (w.grownBy w' ti.v.ownBlock ∧ w.drawn ≤ w'.drawn) →
       ((∀ b, v'.ownBlock = some b → w.heap.size ≤ b) ∧ (∀ b, ti.v.ownBlock = some b → w'.heap[b]? = w.heap[b]?) ∨
        ∃ b cur cur', ti.v.ownBlock = some b ∧ v'.ownBlock = some b ∧ w.heap[b]? = some (.cells cur e0 (0, 0)) ∧ w'.heap[b]? = some (.cells cur' e0 (0, 0)) ∧ cur'.size = cur.size) →
       news.length = ys.length * i.size → (∀ u ∈ news, u.oneCell' = true) → (∀ (q : Nat) (z : List D) (j : Nat) (d : D), ys[q]? = some z → z[j]? = some d → ∃ u, news[q * i.size + j]? = some u ∧ RepF g.F w d u) →
       o.wp P a w (fun a' w' => ∃ g' S', SR w0 W F0 V N g' S' a' w' ∧ K S') Q := by
    intro v' w' news hrun hown' ⟨hg, hdr⟩ hcase hnl hno hnr
    let ti' : TI := { v := v', e := e0, sz := i.size, n := ti.n + ys.length, xs := ti.xs ++ news, shape := own_shape hown' }
    have hcase2 : (∀ b, ti'.v.ownBlock = some b → w.heap.size ≤ b) ∧ (∀ b, ti.v.ownBlock = some b → w'.heap[b]? = w.heap[b]?) ∨ ti'.v.ownBlock = ti.v.ownBlock := by
     rcases hcase with h1 | ⟨b, cur, cur', h1, h2, _⟩
     ·exact .inl h1
     ·exact .inr (h2.trans h1.symm)
    obtain ⟨hcore, hlat⟩ := h.core.grow (ti' := ti') htx q1 ⟨rfl, rfl⟩ hown' (fun u hu => by
     rcases List.mem_append.1 hu with hu | hu
     ·exact q2.one u hu
     ·exact hno u hu) hg (fun j hj => by
      rw [e2] at hj
      exact List.getElem?_append_left (by rw [hown.1]; exact hj)) (by simp only [ti', e2]; exact Nat.mul_le_mul_right _ (by omega)) hcase2
    have hrunO : (execOp a.eval o).run P w = .ok (.value v') w' := by
     simp only [execOp, ho, resolve, invoke, builtin, Sem.run_bind, Sem.run_pure, Result.andThen_ok, List.map_toArray, List.map_cons, List.map_nil, hvx, hrun]
    unfold Oper.wp
    rw [hrunO, Oper.upon_value]
    have hsr := h.later hcore ⟨fun o' c b k q hb hμ hq => by
        rw [only_box] at hb
        obtain ⟨c0, h1, rfl⟩ := Option.map_eq_some_iff.1 hb
        exact h.wr.box o' c0 b k q h1 hμ (by simpa using hq), fun t' x' ti2 b ht' hti2 hb => by
        have ht2 : S.tag t' = some x' := ht'
        simp only at hti2
        split at hti2
        ·rename_i he; subst he
         injection hti2 with hti2; subst hti2
         rcases hcase with ⟨h1, _⟩ | ⟨b', cur, cur', h1, h2, _⟩
         ·have := h1 b hb
          have := h.le
          exact .inl (by omega)
         ·have : b' = b := by
            have : v'.ownBlock = some b := hb
            rw [h2] at this; injection this
          subst this
          exact h.wr.tag _ _ ti b' htx q1 h1
        ·exact h.wr.tag t' x' ti2 b ht2 hti2 hb⟩ (Keep.grown (W := fun b _ => ti.v.ownBlock = some b) hg hdr (fun b hb => by
         rcases hcase with ⟨_, h1⟩ | ⟨b', cur, cur', h1, h2, h3, h4, h5⟩
         ·exact .inl (h1 b hb).symm
         ·rw [h1] at hb; injection hb with hb; subst hb
          exact .inr ⟨cur, cur', e0, h3, h4, h5, fun k hk => absurd h1 hk⟩)) (fun b k hlt hW => by
         rcases h.wr.tag _ _ ti b htx q1 hW with h1 | h1
         ·omega
         ·exact h1 k) (fun b k hF => .inl hF) (fun b k hF => by
         rcases hF with hF | ⟨_, h1, _⟩
         ·exact .inl hF
         ·rcases hcase with ⟨h2, _⟩ | ⟨b', cur, cur', h2, h3, _⟩
          ·have := h2 b h1
           have := h.le
           exact .inr (.inl (by omega))
          ·have : b' = b := by
             have : v'.ownBlock = some b := h1
             rw [h3] at this; injection this
           subst this
           rcases h.wr.tag _ _ ti b' htx q1 h2 with h4 | h4
           ·exact .inr (.inl h4)
           ·exact .inr (.inr (h4 k))) (fun t' ti2 hge hti2 => by
         simp only at hti2
         split at hti2
         ·rename_i he; subst he; exact absurd hge (Nat.not_le.2 (Nat.lt_of_le_of_lt hpn (by decide)))
         ·exact ⟨ti2, hti2, rfl⟩)
    refine ⟨_, _, hsr.put hd ?_, hK⟩
    refine Rep.slT (d0, e0, i.size) _ ti' (if_pos rfl) (by simp [ti', hn]) (fun q z hz => ?_) (fun q z j d hz hj => ?_)
    ·rw [List.getElem?_append] at hz
     split at hz
     ·exact hes z (List.mem_of_getElem? hz)
     ·exact hys z (List.mem_of_getElem? hz)
    ·rw [List.getElem?_append] at hz
     split at hz
     ·rename_i hq
      obtain ⟨u, h1, h2⟩ := hr q z j d hz hj
      rw [e2] at h1
      refine ⟨u, ?_, h2.mono (fun _ _ h => .inl h) hlat.cell⟩
      show (ti.xs ++ news)[q * i.size + j]? = some u
      rw [List.getElem?_append_left (List.getElem?_eq_some_iff.1 h1).1]; exact h1
     ·rename_i hq
      obtain ⟨u, h1, h2⟩ := hnr _ z j d hz hj
      refine ⟨u, ?_, h2.mono (fun _ _ h => .inl h) hlat.cell⟩
      show (ti.xs ++ news)[q * i.size + j]? = some u
      have hxl : ti.xs.length = es.length * i.size := by rw [hown.1, hn]
      have : q * i.size + j = ti.xs.length + ((q - es.length) * i.size + j) := by
       rw [hxl, ← Nat.add_assoc, ← Nat.add_mul]; congr 2; omega
      rw [this, List.getElem?_append_right (by omega), Nat.add_sub_cancel_left]; exact h1
   rcases hsrc with ⟨hv0, rfl⟩ | ⟨ad, c, news, hv1, hnl, hnc, hno, hnr⟩
   ·refine fin ti.v w [] (by rw [hv0]; exact run_append_owned_none (P := P) (w := w) 0 t o.type e0 i i.size hu hi ti.v ti.n ti.xs hown) (by simpa using hown) ⟨⟨rfl, rfl, rfl, Nat.le_refl _, fun _ _ _ => rfl⟩, Nat.le_refl _⟩ ?_ (by simp) (by simp) (fun q z j d hz => by simp at hz)
    cases hob : ti.v.ownBlock with
    | none => exact .inl ⟨fun b hb => by simp at hb, fun b hb => by simp at hb⟩
    | some b =>
     rcases hown.2 with ⟨h1, _⟩ | ⟨gg, cap, cur, h1, _, h2, _⟩
     ·rw [h1] at hob; simp [Value.ownBlock] at hob
     ·have : gg = b := by rw [h1] at hob; simpa [Value.ownBlock] using hob
      subst this
      exact .inr ⟨gg, cur, cur, rfl, rfl, h2, h2, rfl⟩
   ·obtain ⟨v', w', hrun, hown', hg, hcase⟩ := run_append (P := P) (w := w) t o.type e0 i zv i.size i.bytes hu hi hz rfl rfl hzs h0 ti.v ti.n ti.xs hown ad ys.length c news hnl hnc hno hmax (by rw [← hn]; exact hb2)
    exact fin v' w' news (by rw [hv1]; exact hrun) hown' hg hcase hnl hno hnr
 ·exact hv.elim
theorem args_rep {vs us : Array Value} {first ds caps : List D} {args : Array Operand} (c1 : Cells g w first vs) (c2 : Cells g w caps us) (l1 : (args.map a.eval).size = ds.length) (r1 : ∀ (i : Nat) (d : D) (v : Value), ds[i]? = some d → (args.map a.eval)[i]? = some v → Rep g w d v) :
    (vs ++ (args.map a.eval) ++ us).size = (first ++ ds ++ caps).length ∧ ∀ (i : Nat) (d : D) (v : Value), (first ++ ds ++ caps)[i]? = some d → (vs ++ (args.map a.eval) ++ us)[i]? = some v → Rep g w d v := by
 refine ⟨by simp only [Array.size_append, l1, c1.1, c2.1, List.length_append], fun i d v hd' hv' => ?_⟩
 rw [List.append_assoc] at hd'
 rw [Array.append_assoc] at hv'
 rw [List.getElem?_append] at hd'
 rw [Array.getElem?_append] at hv'
 rw [c1.1] at hv'
 split at hd'
 ·rename_i hlt
  rw [if_pos hlt] at hv'
  exact c1.2 i d v hd' hv'
 ·rename_i hlt
  rw [if_neg hlt] at hv'
  rw [List.getElem?_append] at hd'
  rw [Array.getElem?_append] at hv'
  rw [l1] at hv'
  split at hd'
  ·rename_i hlt2
   rw [if_pos hlt2] at hv'
   exact r1 _ d v hd' hv'
  ·rename_i hlt2
   rw [if_neg hlt2] at hv'
   exact c2.2 _ d v hd' hv'
theorem call_enter (h : SR w0 W F0 V N g S a w) {o : Oper} {f : Operand} {args : List Operand} (hc : compOp P o = some (.call f args .pure)) {k : FuncId} {first caps ds : List D} (hf : look S f = some (.fn k first caps)) (hargs : looks S args = some ds)
    (hfn : ∃ fn, P.funcs[k]? = some fn ∧ (fn.name == "runtime.NumGoroutine") = false ∧ fn.body.isNone = false) :
    ∃ vs : Array Value, (execOp a.eval o).run P w = .ok (.enter k vs) w ∧ vs.size = (first ++ ds ++ caps).length ∧ ∀ (i : Nat) (d : D) (v : Value), (first ++ ds ++ caps)[i]? = some d → vs[i]? = some v → Rep g w d v := by
 obtain ⟨c, ho, hcal, rfl⟩ := comp_call hc
 obtain ⟨fn, hfn, hname, hbody⟩ := hfn
 obtain ⟨vs, us, hfv, c1, c2⟩ := (h.core.look hf).fn_inv
 obtain ⟨l1, r1⟩ := looks_sound h.core hargs
 obtain ⟨h1, h2⟩ := args_rep (g := g) (w := w) (a := a) (args := c.args) c1 c2 (by simpa using l1) (fun i d v hd hv => r1 i d v hd (by simpa using hv))
 refine ⟨vs ++ (c.args.map a.eval) ++ us, ?_, h1, h2⟩
 simp only [execOp, ho, resolve, hcal, hfv, Deferred.ofValue, Sem.run_bind, Sem.run_pure, Result.andThen_ok, invoke, callFunc, run_program, hfn, hname, hbody, Bool.false_eq_true, if_false, Array.append_assoc]
theorem exactL_rep : ∀ (xs : List Operand) (ds : List D), (∀ (i : Nat) (d : D) (x : Operand), ds[i]? = some d → xs[i]? = some x → Rep g w d (a.eval x)) → xs.length = ds.length → (exactL xs ds).length = ds.length ∧ ∀ (i : Nat) (d : D) (x : Operand), (exactL xs ds)[i]? = some d → xs[i]? = some x → Rep g w d (a.eval x)
 | [], [], h, _ => ⟨rfl, h⟩
 | [], _ :: _, _, hl => by simp at hl
 | _ :: _, [], _, hl => by simp at hl
 | x :: xs, d :: ds, h, hl => by
  obtain ⟨h1, h2⟩ := exactL_rep xs ds (fun i d' x' hd hx => h (i + 1) d' x' (by simpa using hd) (by simpa using hx)) (by simpa using hl)
  refine ⟨by simp [exactL, h1], fun i d' x' hd hx => ?_⟩
  cases i with
  | zero =>
   simp only [exactL, List.getElem?_cons_zero, Option.some.injEq] at hd hx
   subst hd; subst hx
   have := h 0 d x rfl rfl
   cases x with
   | const v => exact .fz _ _ (.val _)
   | _ => exact this
  | succ i => exact h2 i d' x' (by simpa [exactL] using hd) (by simpa using hx)
theorem call_enterV (h : SR w0 W F0 V N g S a w) {o : Oper} {f : Operand} {args : List Operand} (hc : compOp P o = some (.call f args .pure)) {k : FuncId} {first caps ds : List D} (hf : look S f = some (.fn k first caps)) (hargs : looks S args = some ds)
    (hfn : ∃ fn, P.funcs[k]? = some fn ∧ (fn.name == "runtime.NumGoroutine") = false ∧ fn.body.isNone = false) :
    ∃ vs : Array Value, (execOp a.eval o).run P w = .ok (.enter k vs) w ∧ vs.size = (first ++ exactL args ds ++ caps).length ∧ ∀ (i : Nat) (d : D) (v : Value), (first ++ exactL args ds ++ caps)[i]? = some d → vs[i]? = some v → Rep g w d v := by
 obtain ⟨c, ho, hcal, rfl⟩ := comp_call hc
 obtain ⟨fn, hfn, hname, hbody⟩ := hfn
 obtain ⟨vs, us, hfv, c1, c2⟩ := (h.core.look hf).fn_inv
 obtain ⟨l1, r1⟩ := looks_sound h.core hargs
 have hlen : c.args.toList.length = ds.length := by simpa using l1
 obtain ⟨l2, r2⟩ := exactL_rep (g := g) (w := w) (a := a) c.args.toList ds (fun i d x hd hx => r1 i d _ hd (by simp [hx])) hlen
 obtain ⟨h1, h2⟩ := args_rep (g := g) (w := w) (a := a) (args := c.args) (ds := exactL c.args.toList ds) c1 c2 (by rw [l2]; simpa using l1) (fun i d v hd hv => by
  rw [Array.getElem?_map] at hv
  obtain ⟨x, hx, rfl⟩ := Option.map_eq_some_iff.1 hv
  exact r2 i d x hd (by simpa using hx))
 refine ⟨vs ++ (c.args.map a.eval) ++ us, ?_, h1, h2⟩
 simp only [execOp, ho, resolve, hcal, hfv, Deferred.ofValue, Sem.run_bind, Sem.run_pure, Result.andThen_ok, invoke, callFunc, run_program, hfn, hname, hbody, Bool.false_eq_true, if_false, Array.append_assoc]
theorem heap_kept {w w' : World} (hk : Keep (fun _ _ => False) w w') (b : Nat) (ob : Obj) (hb : w.heap[b]? = some ob) : w'.heap[b]? = some ob := by
 rcases hk.block b ob hb with h1 | ⟨x1, x2, ee, rfl, h2, h3, h4⟩
 ·exact h1
 ·have : x2 = x1 := Array.ext_getElem? (fun j => h4 j (fun hf => hf))
  rw [h2, this]
 ·rename_i h; exact h.2.1.elim
theorem only_all' (S : St) : S.only (fun _ => true) (fun _ => true) = S := by
 have hkeep : ∀ d : D, d.keep (fun _ => true) (fun _ => true) = d := fun d => by simp [D.keep, avoids_all]
 have h1 : ∀ l : List D, l.map (D.keep (fun _ => true) fun _ => true) = l := fun l => by
  rw [List.map_congr_left (g := id) (fun d _ => hkeep d)]; simp
 have h2 : ∀ l : List (Nat × D), (l.map fun x => (x.1, x.2.keep (fun _ => true) fun _ => true)) = l := fun l => by
  induction l with
  | nil => rfl
  | cons x l ih => rw [List.map_cons, ih, hkeep]
 have h3 : ∀ l : List (Nat × List D), (l.map fun x => (x.1, x.2.map (D.keep (fun _ => true) fun _ => true))) = l := fun l => by
  induction l with
  | nil => rfl
  | cons x l ih => rw [List.map_cons, ih, h1]
 simp only [St.only, h2, h3]
theorem SR.grown (h : SR w0 W F0 V N g S a w) (hk : Keep (fun _ _ => False) w w') :
    SR w0 W F0 V N { g with F := fun b j => g.F b j ∨ (w.heap.size ≤ b ∧ b < w'.heap.size) } S a w' := by
 have hlat : Later g { g with F := fun b j => g.F b j ∨ (w.heap.size ≤ b ∧ b < w'.heap.size) } w w' (fun _ => true) (fun _ => true) := ⟨fun _ _ _ h => h, fun _ _ _ h => h, fun _ _ h => .inl h, fun b j hF => hk.cell (h.core.frz.1 b j hF) (fun hf => hf)⟩
 have hcore := h.core.later hlat (fun _ _ _ => rfl) (fun _ _ _ => rfl) (heap_kept hk) (fun b j hF => by
  rcases hF with hF | hF
  ·exact .inl hF
  ·exact .inr hF.1) (fun b j hF => by
  rcases hF with hF | hF
  ·have := h.core.frz.1 b j hF
   have := hk.size
   omega
  ·exact hF.2)
 have hkeep : ∀ d : D, d.keep (fun _ => true) (fun _ => true) = d := fun d => by simp [D.keep, avoids_all]
 have honly : S.only (fun _ => true) (fun _ => true) = S := by
  have h1 : ∀ l : List D, l.map (D.keep (fun _ => true) fun _ => true) = l := fun l => by
   rw [List.map_congr_left (g := id) (fun d _ => hkeep d)]; simp
  have h2 : ∀ l : List (Nat × D), (l.map fun x => (x.1, x.2.keep (fun _ => true) fun _ => true)) = l := fun l => by
   induction l with
   | nil => rfl
   | cons x l ih => rw [List.map_cons, ih, hkeep]
  have h3 : ∀ l : List (Nat × List D), (l.map fun x => (x.1, x.2.map (D.keep (fun _ => true) fun _ => true))) = l := fun l => by
   induction l with
   | nil => rfl
   | cons x l ih => rw [List.map_cons, ih, h1]
  simp only [St.only, h2, h3]
 rw [honly] at hcore
 refine h.later hcore ⟨h.wr.box, h.wr.tag⟩ hk (fun _ _ _ h => h.elim) (fun _ _ h => .inl h) (fun b j hF => by
  rcases hF with hF | hF
  ·exact .inl hF
  ·have := h.le
   exact .inr (.inl (by omega))) (fun t ti _ h => ⟨ti, h, rfl⟩)
theorem SR.passed (h : SR w0 W F0 V N g S a w) (hk : Keep (fun _ _ => False) w w') : SR w0 W F0 V N g S a w' := by
 have hblk : ∀ (b : Nat) (o : Obj), w.heap[b]? = some o → w'.heap[b]? = some o := fun b o hb => by
  rcases hk.block b o hb with h1 | ⟨us, us', e, h0, h1, h2, h3⟩
  ·exact h1
  ·have : us' = us := by
     apply Array.ext_getElem?
     intro k
     exact h3 k (fun h => h)
   rw [h1, h0, this]
  ·rename_i h; exact h.2.1.elim
 have hl : Later g g w w' (fun _ => true) (fun _ => true) := ⟨fun _ _ _ h => h, fun _ _ _ h => h, fun _ _ h => h, fun b k hF => by
  have hb := h.core.frz.1 b k hF
  exact World.cell?_of_block (a := ⟨b, k, none⟩) (by rw [hblk b _ (Array.getElem?_eq_getElem hb), Array.getElem?_eq_getElem hb])⟩
 have hcore := h.core.later hl (fun _ _ _ => rfl) (fun _ _ _ => rfl) hblk (fun b k hF => .inl hF) (fun b k hF => Nat.lt_of_lt_of_le (h.core.frz.1 b k hF) hk.size)
 rw [only_all'] at hcore
 exact h.later hcore ⟨h.wr.box, h.wr.tag⟩ hk (fun _ _ _ h => h.elim) (fun _ _ h => h) (fun _ _ h => .inl h) (fun t ti _ h => ⟨ti, h, rfl⟩)
theorem frz_args (h : SR w0 W F0 V N g S a w) {ds fs : List D} (hfs : frzL ds = some fs) (hl1 : ∀ t ∈ tagsL ds, ∃ x, S.tag t = some x) {vs : Array Value} (hsz : vs.size = ds.length) (hr : ∀ (i : Nat) (d : D) (v : Value), ds[i]? = some d → vs[i]? = some v → Rep g w d v) :
    vs.size = fs.length ∧ ∀ (i : Nat) (d : D) (v : Value), fs[i]? = some d → vs[i]? = some v → RepF (shareF g S (tagsL ds)) w d v := by
 obtain ⟨l2, r2⟩ := frzL_sound h.core hl1 _ hfs (fun t ht => ht)
 refine ⟨by rw [hsz, l2], fun i d v hd' hv' => ?_⟩
 have hi : i < ds.length := by rw [← l2]; exact (List.getElem?_eq_some_iff.1 hd').1
 exact r2 i d v hd' _ (List.getElem?_eq_getElem hi) (hr i _ v (List.getElem?_eq_getElem hi) hv')
theorem seenH_share (sh : List Tag) (bs0 : List (Nat × Nat)) (ts : List (Tag × Tag)) : ∀ (bs : List (Nat × Nat)) (S : St), seenH (S.share sh) bs0 ts bs = seenH S bs0 ts bs
 | [], _ => rfl
 | (o, o') :: r, S => by
  simp only [seenH, seenH_share sh bs0 ts r S]
  rfl
theorem lendA_sound {sh : List Tag} (h : Core g S tm w) (hlive : ∀ t ∈ sh, ∃ x, S.tag t = some x) {hs : List Tag} : ∀ (ds : List D) {as : List D} {s : List Tag}, lendA hs ds = some (as, s) → (∀ t ∈ s, t ∈ sh) →
    as.length = ds.length ∧ ∀ (i : Nat) (e : D) (v : Value), as[i]? = some e → ∀ d, ds[i]? = some d → Rep g w d v → Rep { g with F := shareF g S sh } w e v
 | [], as, s, hl, _ => by
  simp only [lendA, Option.some.injEq, Prod.mk.injEq] at hl
  obtain ⟨rfl, rfl⟩ := hl
  exact ⟨rfl, fun i e v he => by simp at he⟩
 | d :: ds, as, s, hl, hs' => by
  simp only [lendA] at hl
  split at hl
  ·rename_i xs ts hx
   have keep : ∀ {d : D} {v : Value}, Rep g w d v → Rep { g with F := shareF g S sh } w d v := fun hr => hr.mono' (fun _ _ h => h) (fun _ _ h => h) (fun _ _ h => .inl h) (fun _ _ _ => rfl)
   split at hl
   ·simp only [Option.some.injEq, Prod.mk.injEq] at hl
    obtain ⟨rfl, rfl⟩ := hl
    obtain ⟨l1, r1⟩ := lendA_sound h hlive ds hx hs'
    refine ⟨by simp [l1], fun i e v he d' hd' hr => ?_⟩
    cases i with
    | zero => simp at he hd'; subst he; subst hd'; exact keep hr
    | succ i => exact r1 i e v (by simpa using he) d' (by simpa using hd') hr
   ·split at hl
    ·rename_i x hfx
     simp only [Option.some.injEq, Prod.mk.injEq] at hl
     obtain ⟨rfl, rfl⟩ := hl
     obtain ⟨l1, r1⟩ := lendA_sound h hlive ds hx (fun t ht => hs' t (by simp [ht]))
     refine ⟨by simp [l1], fun i e v he d' hd' hr => ?_⟩
     cases i with
     | zero => simp at he hd'; subst he; subst hd'; exact .fz _ _ (frz_sound h hlive _ hr (fun t ht => hs' t (by simp [ht])) hfx)
     | succ i => exact r1 i e v (by simpa using he) d' (by simpa using hd') hr
    ·cases hl
  ·cases hl
theorem so_call (h : SR w0 W F0 V N g S a w) {o : Oper} {f : Operand} {args : List Operand} {md : CM} {Q : Exit → Act → World → Prop} (hc : compOp P o = some (.call f args .pure)) (hd : ∀ t, o.dst = some t → t < N) (hv : vstep P (.call f args md) o.dst S K) :
    o.wp P a w (fun a' w' => ∃ g' S', SR w0 W F0 V N g' S' a' w' ∧ K S') Q := by
 simp only [vstep] at hv
 split at hv
 ·rename_i k first caps ds hf hargs
  cases md with
  | pure =>
   simp only at hv
   split at hv
   ·rename_i fs hfs
    obtain ⟨hlive, hfn, hcalls⟩ := hv
    have hl1 := live_all hlive
    obtain ⟨vs, hrun, hsz, hr⟩ := call_enter h hc hf hargs hfn
    obtain ⟨e1, e2⟩ := frz_args h hfs hl1 hsz hr
    unfold Oper.wp
    rw [hrun, Oper.upon_enter]
    have hs := h.share (tagsL (first ++ ds ++ caps))
    refine (hcalls _ w vs hs.core.frz e1 e2).mono fun e w' ⟨r, v, he, hK, hr, hk⟩ => ?_
    subst he
    exact ⟨_, _, (hs.grown hk).put hd (.fz _ _ hr), hK⟩
   ·exact hv.elim
  | fresh e sz =>
   simp only at hv
   split at hv
   ·rename_i d fs hdst hfs
    obtain ⟨hlive, hfn, hcalls⟩ := hv
    have hl1 := live_all hlive
    obtain ⟨vs, hrun, hsz, hr⟩ := call_enter h hc hf hargs hfn
    obtain ⟨e1, e2⟩ := frz_args h hfs hl1 hsz hr
    unfold Oper.wp
    rw [hrun, Oper.upon_enter]
    have hs := h.share (tagsL (first ++ ds ++ caps))
    refine (hcalls _ w vs hs.core.frz e1 e2).mono fun en w' ⟨es, v, xs, he, hK, hown, hone, hnew, hk, hlen, hcont⟩ => ?_
    subst he
    have hn := hs.newRowU (w' := w') (d, e, sz) { v := v, e := e, sz := sz, n := es.length, xs := xs, shape := own_shape hown } (fun b j => shareF g S (tagsL (first ++ ds ++ caps)) b j ∨ (w.heap.size ≤ b ∧ b < w'.heap.size ∧ v.ownBlock ≠ some b)) ⟨rfl, rfl⟩
     (hk.mono (fun _ _ _ h => h.elim)) hown hone (fun b hb => .inl (hnew b hb)) (fun _ _ h => .inl h) (fun _ _ h => h) (fun hge => absurd hge (Nat.not_le.2 (Nat.lt_of_lt_of_le (hd d hdst) h.cap)))
    refine ⟨_, _, hn.put hd ?_, hK⟩
    exact Rep.slT (d, e, sz) es { v := v, e := e, sz := sz, n := es.length, xs := xs, shape := own_shape hown } (if_pos rfl) rfl hlen hcont
   ·exact hv.elim
  | freshV e sz =>
   simp only at hv
   split at hv
   ·rename_i d fs hdst hfs
    obtain ⟨hlive, hfn, hcalls⟩ := hv
    have hl1 := live_all hlive
    obtain ⟨vs, hrun, hsz, hr⟩ := call_enterV h hc hf hargs hfn
    obtain ⟨e1, e2⟩ := frz_args h hfs hl1 hsz hr
    unfold Oper.wp
    rw [hrun, Oper.upon_enter]
    have hs := h.share (tagsL (first ++ exactL args ds ++ caps))
    refine (hcalls _ w vs hs.core.frz e1 e2).mono fun en w' ⟨es, v, xs, he, hK, hown, hone, hnew, hk, hlen, hcont⟩ => ?_
    subst he
    have hn := hs.newRowU (w' := w') (d, e, sz) { v := v, e := e, sz := sz, n := es.length, xs := xs, shape := own_shape hown } (fun b j => shareF g S (tagsL (first ++ exactL args ds ++ caps)) b j ∨ (w.heap.size ≤ b ∧ b < w'.heap.size ∧ v.ownBlock ≠ some b)) ⟨rfl, rfl⟩
     (hk.mono (fun _ _ _ h => h.elim)) hown hone (fun b hb => .inl (hnew b hb)) (fun _ _ h => .inl h) (fun _ _ h => h) (fun hge => absurd hge (Nat.not_le.2 (Nat.lt_of_lt_of_le (hd d hdst) h.cap)))
    refine ⟨_, _, hn.put hd ?_, hK⟩
    exact Rep.slT (d, e, sz) es { v := v, e := e, sz := sz, n := es.length, xs := xs, shape := own_shape hown } (if_pos rfl) rfl hlen hcont
   ·exact hv.elim
  | turn =>
   simp only at hv
   split at hv
   ·rename_i t es rest hall
    split at hv
    ·rename_i fs hfs
     obtain ⟨htag, hlive, hfn, hcalls⟩ := hv
     have hlive' : ∀ t' ∈ tagsL rest, (∃ x, S.tag t' = some x) ∧ t' ≠ t := fun t' ht' => by
      have := List.all_eq_true.1 hlive t' ht'
      simp only [Bool.and_eq_true, decide_eq_true_eq] at this
      exact ⟨Option.isSome_iff_exists.1 this.1, this.2⟩
     obtain ⟨vs, hrun, hsz, hr⟩ := call_enter h hc hf hargs hfn
     rw [hall] at hsz hr
     obtain ⟨v0, vs', rfl⟩ : ∃ v0 vs', vs = #[v0] ++ vs' := by
      have h0 : 0 < vs.size := by rw [hsz]; simp
      refine ⟨vs[0], (vs.toList.tail).toArray, ?_⟩
      apply Array.ext'
      simp only [Array.toList_append]
      have : vs.toList ≠ [] := by
       intro e
       have e' := congrArg List.length e
       rw [Array.length_toList] at e'
       simp at e'
       rw [e'] at h0
       simp at h0
      obtain ⟨x, l, hx⟩ := List.exists_cons_of_ne_nil this
      have h00 : vs[0] = x := by
       have : vs.toList[0]'(by simpa using h0) = x := by simp [hx]
       simpa using this
      rw [hx, h00]; rfl
     have hr0 : Rep g w (.sl (some t) es) v0 := hr 0 _ v0 rfl (by rw [Array.getElem?_append_left Nat.zero_lt_one]; rfl)
     have hrr : ∀ (i : Nat) (d : D) (v : Value), rest[i]? = some d → vs'[i]? = some v → Rep g w d v := fun i d v hd' hv' => hr (i + 1) d v (by simpa using hd') (by
      rw [Array.getElem?_append_right (Nat.le_add_left 1 i)]; exact hv')
     have hsz' : vs'.size = rest.length := by
      simp only [Array.size_append, List.length_cons] at hsz
      have : (#[v0] : Array Value).size = 1 := rfl
      omega
     obtain ⟨e1, e2⟩ := frz_args h hfs (fun t' ht' => (hlive' t' ht').1) hsz' hrr
     have hs := h.share (tagsL rest)
     have htag' : (S.share (tagsL rest)).tag t = some true := by
      rw [share_tag, htag]
      have : ¬ t ∈ tagsL rest := fun hm => (hlive' t hm).2 rfl
      simp [this]
     obtain ⟨ti, q1, q2⟩ := hs.core.tag t true htag'
     cases hr0 with
     | fz _ _ hr0 => cases hr0
     | slT _ _ ti2 ht2 hn hlen hcont =>
      have q1' : g.τ t = some ti := q1
      rw [q1'] at ht2; injection ht2 with ht2; subst ht2
      obtain ⟨ty1, ty2⟩ := q2.ty
      have hown := q2.own
      rw [ty1, ty2, ← hn] at hown
      unfold Oper.wp
      rw [hrun, Oper.upon_enter]
      have own_b : ∀ b, ti.v.ownBlock = some b → Own { g with F := shareF g S (tagsL rest) } (S.share (tagsL rest)) t b := fun b hb => ⟨htag', ti, q1, hb⟩
      refine (hcalls (shareF g S (tagsL rest)) w ti.v ti.xs vs' hs.core.frz hown q2.one (fun b hb j => (hs.core.own_apart (own_b b hb)).1 j) (fun i l hl => by rw [← ty2]; exact hlen i l hl)
       (fun i l j d hl hd' => by
        obtain ⟨u, hu, hru⟩ := hcont i l j d hl hd'
        exact ⟨u, by rw [← ty2]; exact hu, hru.mono (fun _ _ h => .inl h) (fun _ _ _ => rfl)⟩) e1 e2).mono fun en w' ⟨es', r, u, xs', he, hK, hru, hlen', hown', hone', hk, hl', hcont'⟩ => ?_
      subst he
      let ti' : TI := { v := ti.v, e := t.2.1, sz := t.2.2, n := es'.length, xs := xs', shape := own_shape hown' }
      have hn2 := hs.newRowU (w' := w') t ti' (fun b j => shareF g S (tagsL rest) b j ∨ (w.heap.size ≤ b ∧ b < w'.heap.size)) ⟨rfl, rfl⟩
       (hk.mono (fun b _ _ hb => own_b b hb)) hown' hone' (fun b hb => .inr (own_b b hb)) (fun _ _ h => .inl h) (fun b j hF => by
        rcases hF with hF | hF
        ·exact .inl hF
        ·refine .inr ⟨hF.1, hF.2, fun hb => ?_⟩
         have := (q2.own.lt b hb).2
         omega) (fun _ => ⟨ti, q1, rfl⟩)
      have hrep : Rep { g with τ := fun t' => if t' = t then some ti' else g.τ t', F := fun b j => shareF g S (tagsL rest) b j ∨ (w.heap.size ≤ b ∧ b < w'.heap.size) } w' (.sl (some t) es') ti'.v :=
       Rep.slT t es' ti' (if_pos rfl) rfl hl' hcont'
      have hrem := Core.remake (es := es') (ti' := ti') hn2.core (if_pos rfl) (fun kk es0 hkk => by
       have hr3 := hs.core.env kk _ hkk
       generalize a.tmps.getD kk undef = v3 at hr3 ⊢
       cases hr3 with
       | fz _ _ h0 => cases h0
       | slT _ _ ti3 ht3 _ _ _ =>
        have : g.τ t = some ti3 := ht3
        rw [q1'] at this; injection this with this
        exact this ▸ rfl) (fun kk lo n es0 hkk => by
       have hr3 := hs.core.env kk _ hkk
       generalize a.tmps.getD kk undef = v3 at hr3 ⊢
       cases hr3 with
       | fz _ _ h0 => cases h0
       | part _ _ _ _ ti3 _ hpv ht3 hn3 hlo3 _ _ =>
        have : g.τ t = some ti3 := ht3
        rw [q1'] at this; injection this with this
        subst this
        refine ⟨?_, by show PartV lo n t.2.2 ti.v _; rw [← ty2]; exact hpv⟩
        show lo + n ≤ es'.length
        rw [hlen', hn]; exact hlo3) hrep
      have hsr : SR w0 W F0 V N { g with τ := fun t' => if t' = t then some ti' else g.τ t', F := fun b j => shareF g S (tagsL rest) b j ∨ (w.heap.size ≤ b ∧ b < w'.heap.size) } ((S.share (tagsL rest)).remake t es') a w' :=
       ⟨hrem, ⟨hn2.wr.box, hn2.wr.tag⟩, hn2.keep, hn2.size, hn2.defers, hn2.fext, hn2.fnew, hn2.cap, hn2.pin⟩
      exact ⟨_, _, hsr.put hd (.fz _ _ hru), hK⟩
    ·exact hv.elim
   ·exact hv.elim
  | take =>
   simp only at hv
   split at hv
   ·rename_i t es rest hall
    split at hv
    ·rename_i fs hfs
     obtain ⟨htag, hlive, hfn, hcalls⟩ := hv
     have hlive' : ∀ t' ∈ tagsL rest, (∃ x, S.tag t' = some x) ∧ t' ≠ t := fun t' ht' => by
      have := List.all_eq_true.1 hlive t' ht'
      simp only [Bool.and_eq_true, decide_eq_true_eq] at this
      exact ⟨Option.isSome_iff_exists.1 this.1, this.2⟩
     obtain ⟨vs, hrun, hsz, hr⟩ := call_enter h hc hf hargs hfn
     rw [hall] at hsz hr
     obtain ⟨v0, vs', rfl⟩ : ∃ v0 vs', vs = #[v0] ++ vs' := by
      have h0 : 0 < vs.size := by rw [hsz]; simp
      refine ⟨vs[0], (vs.toList.tail).toArray, ?_⟩
      apply Array.ext'
      simp only [Array.toList_append]
      have : vs.toList ≠ [] := by
       intro e
       have e' := congrArg List.length e
       rw [Array.length_toList] at e'
       simp at e'
       rw [e'] at h0
       simp at h0
      obtain ⟨x, l, hx⟩ := List.exists_cons_of_ne_nil this
      have h00 : vs[0] = x := by
       have : vs.toList[0]'(by simpa using h0) = x := by simp [hx]
       simpa using this
      rw [hx, h00]; rfl
     have hr0 : Rep g w (.sl (some t) es) v0 := hr 0 _ v0 rfl (by rw [Array.getElem?_append_left Nat.zero_lt_one]; rfl)
     have hrr : ∀ (i : Nat) (d : D) (v : Value), rest[i]? = some d → vs'[i]? = some v → Rep g w d v := fun i d v hd' hv' => hr (i + 1) d v (by simpa using hd') (by
      rw [Array.getElem?_append_right (Nat.le_add_left 1 i)]; exact hv')
     have hsz' : vs'.size = rest.length := by
      simp only [Array.size_append, List.length_cons] at hsz
      have : (#[v0] : Array Value).size = 1 := rfl
      omega
     obtain ⟨e1, e2⟩ := frz_args h hfs (fun t' ht' => (hlive' t' ht').1) hsz' hrr
     have hs := h.share (tagsL rest)
     have htag' : (S.share (tagsL rest)).tag t = some true := by
      rw [share_tag, htag]
      have : ¬ t ∈ tagsL rest := fun hm => (hlive' t hm).2 rfl
      simp [this]
     obtain ⟨ti, q1, q2⟩ := hs.core.tag t true htag'
     cases hr0 with
     | fz _ _ hr0 => cases hr0
     | slT _ _ ti2 ht2 hn hlen hcont =>
      have q1' : g.τ t = some ti := q1
      rw [q1'] at ht2; injection ht2 with ht2; subst ht2
      obtain ⟨ty1, ty2⟩ := q2.ty
      have hown := q2.own
      rw [ty1, ty2, ← hn] at hown
      unfold Oper.wp
      rw [hrun, Oper.upon_enter]
      have own_b : ∀ b, ti.v.ownBlock = some b → Own { g with F := shareF g S (tagsL rest) } (S.share (tagsL rest)) t b := fun b hb => ⟨htag', ti, q1, hb⟩
      refine (hcalls (shareF g S (tagsL rest)) w ti.v ti.xs vs' hs.core.frz hown q2.one (fun b hb j => (hs.core.own_apart (own_b b hb)).1 j) (fun i l hl => by rw [← ty2]; exact hlen i l hl)
       (fun i l j d hl hd' => by
        obtain ⟨u, hu, hru⟩ := hcont i l j d hl hd'
        exact ⟨u, by rw [← ty2]; exact hu, hru.mono (fun _ _ h => .inl h) (fun _ _ _ => rfl)⟩) e1 e2).mono fun en w' ⟨es', r, u, xs', he, hK, hru, hlen', hown', hone', hk, hl', hcont'⟩ => ?_
      subst he
      let ti' : TI := { v := ti.v, e := t.2.1, sz := t.2.2, n := es'.length, xs := xs', shape := own_shape hown' }
      have hn2 := hs.newRowU (w' := w') t ti' (fun b j => shareF g S (tagsL rest) b j ∨ (w.heap.size ≤ b ∧ b < w'.heap.size)) ⟨rfl, rfl⟩
       (hk.mono (fun b _ _ hb => own_b b hb)) hown' hone' (fun b hb => .inr (own_b b hb)) (fun _ _ h => .inl h) (fun b j hF => by
        rcases hF with hF | hF
        ·exact .inl hF
        ·refine .inr ⟨hF.1, hF.2, fun hb => ?_⟩
         have := (q2.own.lt b hb).2
         omega) (fun _ => ⟨ti, q1, rfl⟩)
      have hrep : Rep { g with τ := fun t' => if t' = t then some ti' else g.τ t', F := fun b j => shareF g S (tagsL rest) b j ∨ (w.heap.size ≤ b ∧ b < w'.heap.size) } w' (.sl (some t) es') ti'.v :=
       Rep.slT t es' ti' (if_pos rfl) rfl hl' hcont'
      have hrem := Core.remake (es := es') (ti' := ti') hn2.core (if_pos rfl) (fun kk es0 hkk => by
       have hr3 := hs.core.env kk _ hkk
       generalize a.tmps.getD kk undef = v3 at hr3 ⊢
       cases hr3 with
       | fz _ _ h0 => cases h0
       | slT _ _ ti3 ht3 _ _ _ =>
        have : g.τ t = some ti3 := ht3
        rw [q1'] at this; injection this with this
        exact this ▸ rfl) (fun kk lo n es0 hkk => by
       have hr3 := hs.core.env kk _ hkk
       generalize a.tmps.getD kk undef = v3 at hr3 ⊢
       cases hr3 with
       | fz _ _ h0 => cases h0
       | part _ _ _ _ ti3 _ hpv ht3 hn3 hlo3 _ _ =>
        have : g.τ t = some ti3 := ht3
        rw [q1'] at this; injection this with this
        subst this
        refine ⟨?_, by show PartV lo n t.2.2 ti.v _; rw [← ty2]; exact hpv⟩
        show lo + n ≤ es'.length
        rw [hlen', hn]; exact hlo3) hrep
      have htagR : ((S.share (tagsL rest)).remake t es').tag t = some true := by
       show ((S.share (tagsL rest)).newTag t true).tag t = some true
       rw [newTag_tag, if_pos rfl]
      have hsr : SR w0 W F0 V N { g with τ := fun t' => if t' = t then some ti' else g.τ t', F := fun b j => shareF g S (tagsL rest) b j ∨ (w.heap.size ≤ b ∧ b < w'.heap.size) } ((S.share (tagsL rest)).remake t es') a w' :=
       ⟨hrem, ⟨hn2.wr.box, hn2.wr.tag⟩, hn2.keep, hn2.size, hn2.defers, hn2.fext, hn2.fnew, hn2.cap, hn2.pin⟩
      have hsh := hsr.share [t]
      refine ⟨_, _, hsh.put hd (.fz _ _ (hru.mono (fun b j hbj => ?_) (fun _ _ _ => rfl))), hK⟩
      rcases hbj with hbj | hbj | ⟨hb1, hb2⟩
      ·exact .inl (.inl hbj)
      ·exact .inl (.inr hbj)
      ·exact .inr ⟨t, List.mem_singleton.2 rfl, true, ti', htagR, if_pos rfl, hb1, hb2⟩
    ·exact hv.elim
   ·exact hv.elim
  | obj bs ts nb nt =>
   simp only [objP] at hv
   split at hv
   ·rename_i as sh hlend
    split at hv
    ·rename_i hin hin_
     obtain ⟨hok, htag, hsh, hfn, hcalls⟩ := hv
     have hL := lend_ok hok
     obtain ⟨vs, hrun, hsz, hr⟩ := call_enter h hc hf hargs hfn
     have hsh' : ∀ t ∈ sh, (∃ x, S.tag t = some x) ∧ t ∉ ts.map (·.1) := fun t ht => by
      have := List.all_eq_true.1 hsh t ht
      simp only [Bool.and_eq_true] at this
      exact ⟨Option.isSome_iff_exists.1 this.1, notIn_iff.1 this.2⟩
     have hs := h.share sh
     have hts : ∀ t t', (t, t') ∈ ts → (S.share sh).tag t = some true := fun t t' hm => by
      have h1 : S.tag t = some true := by
       have := List.all_eq_true.1 htag _ hm
       simpa using this
      have h2 : ¬ t ∈ sh := fun hm' => (hsh' t hm').2 (List.mem_map.2 ⟨_, hm, rfl⟩)
      rw [share_tag, h1]
      simp [h2]
     obtain ⟨l1, r1⟩ := lendA_sound h.core (fun t ht => (hsh' t ht).1) _ hlend (fun t ht => ht)
     have hin2 : seenH (S.share sh) bs ts bs = some hin := by rw [← hin_]; exact seenH_share _ _ _ _ _
     unfold Oper.wp
     rw [hrun, Oper.upon_enter]
     have hr2 : ∀ (i : Nat) (d : D) (v : Value), as[i]? = some d → vs[i]? = some v → Rep { g with F := shareF g S sh } w d v := fun i d v hd' hv' => by
      have hi : i < (first ++ ds ++ caps).length := by rw [← l1]; exact (List.getElem?_eq_some_iff.1 hd').1
      exact r1 i d v hd' _ (List.getElem?_eq_getElem hi) (hr i _ v (List.getElem?_eq_getElem hi) hv')
     have hcore := lent_core (L := ⟨bs, ts, nb, nt⟩) hs.core hL hin2 hts hr2 (by rw [hsz, l1])
     refine (hcalls (lentW { g with F := shareF g S sh } (S.share sh) ⟨bs, ts, nb, nt⟩) w _ vs (by rw [hsz, l1]) hcore (lent_wr hs.core hL hin2 _ _) (fun t ti ht hti => ?_)).mono fun en w' ⟨g', r, v, hp, tg, he, hK, hc', hw', hk', hne, hF1, hF2, hpin⟩ => ?_
     ·simp only [lentG] at hti
      cases hl : lkp t (swap ts) with
      | none => rw [hl] at hti; cases hti
      | some t0 =>
       have := (hL.tag _ _ (mem_swap.1 (lkp_mem hl))).2.2
       omega
     ·subst he
      obtain ⟨g2, h1, h2⟩ := hs.back hL hin2 hts hc' hw' hk' hne hF1 hF2 hpin
      exact ⟨_, _, h1.put hd h2, hK⟩
    ·exact hv.elim
   ·exact hv.elim
  | lend =>
   simp only at hv
   split at hv
   ·rename_i fs hfs
    obtain ⟨hlive, hfn, hcalls⟩ := hv
    have hl1 := live_all hlive
    obtain ⟨vs, hrun, hsz, hr⟩ := call_enter h hc hf hargs hfn
    obtain ⟨e1, e2⟩ := frz_args h hfs hl1 hsz hr
    unfold Oper.wp
    rw [hrun, Oper.upon_enter]
    have hs := h.share (tagsL (first ++ ds ++ caps))
    refine (hcalls _ w vs hs.core.frz e1 e2).mono fun e w' ⟨r, v, he, ⟨hp, hK⟩, hr, hk⟩ => ?_
    subst he
    exact ⟨_, _, (h.passed hk).put hd (.fz _ _ (hr.plain hp)), hK⟩
   ·exact hv.elim
  | copy e sz =>
   simp only at hv
   split at hv
   ·rename_i d t es hdst hall
    obtain ⟨hty, hlv, hcopy, hK⟩ := hv
    obtain ⟨x, hx⟩ := Option.isSome_iff_exists.1 hlv
    obtain ⟨ti, q1, q2⟩ := h.core.tag t x hx
    have hsz0 : ti.sz = sz := by rw [q2.ty.2, hty]
    have he0 : ti.e = e := by rw [q2.ty.1, hty]
    have hxs := q2.own.1
    let raw : List (List Value) := (List.range ti.n).map fun i => (List.range sz).map fun j => ti.xs.getD (i * sz + j) undef
    have rawget : ∀ i, i < ti.n → raw[i]? = some ((List.range sz).map fun j => ti.xs.getD (i * sz + j) undef) := fun i hi => by simp [raw, hi]
    have rawlen : ∀ l ∈ raw, l.length = sz := fun l hl => by
     obtain ⟨i, -, rfl⟩ := List.mem_map.1 hl
     simp
    have rawn : raw.length = ti.n := by simp [raw]
    have xat : ∀ i j, i < ti.n → j < sz → i * sz + j < ti.xs.length := fun i j hi hj => by
     have h1 : ti.xs.length = ti.n * sz := by rw [hxs, hsz0]
     rw [h1]
     have : (i + 1) * sz ≤ ti.n * sz := Nat.mul_le_mul_right _ hi
     rw [Nat.succ_mul] at this
     omega
    have rawone : ∀ l ∈ raw, ∀ u ∈ l, u.oneCell' = true := fun l hl u hu => by
     obtain ⟨i, hi, rfl⟩ := List.mem_map.1 hl
     obtain ⟨j, hj, rfl⟩ := List.mem_map.1 hu
     have := xat i j (List.mem_range.1 hi) (List.mem_range.1 hj)
     rw [List.getD_eq_getElem?_getD, List.getElem?_eq_getElem this]
     exact q2.one _ (List.getElem_mem this)
    obtain ⟨vs, hrun, hsz, hr⟩ := call_enter h hc hf hargs hcopy.1
    rw [hall] at hsz hr
    have hs1 : vs.size = 1 := by simpa using hsz
    have hv0 : vs[0]? = some vs[0] := Array.getElem?_eq_getElem (by omega)
    have hr0 := hr 0 (.sl (some t) es) vs[0] rfl hv0
    generalize hvv : vs[0] = v0 at hr0 hv0
    cases hr0 with
    | fz _ _ hr0 => cases hr0
    | slT _ _ ti2 ht2 hn hlen hcont =>
     rw [q1] at ht2; injection ht2 with ht2; subst ht2
     have hrawD : Rep g w (.sl (some t) (raw.map fun l => l.map D.val)) ti.v := by
      refine .slT t _ ti q1 (by rw [List.length_map, rawn]) (fun i l hl => ?_) (fun i l j d hl hd' => ?_)
      ·rw [List.getElem?_map] at hl
       obtain ⟨l0, h1, rfl⟩ := Option.map_eq_some_iff.1 hl
       rw [List.length_map, hsz0]
       exact rawlen l0 (List.mem_of_getElem? h1)
      ·rw [List.getElem?_map] at hl
       obtain ⟨l0, h1, rfl⟩ := Option.map_eq_some_iff.1 hl
       have hi : i < ti.n := by rw [← rawn]; exact (List.getElem?_eq_some_iff.1 h1).1
       rw [rawget i hi] at h1
       injection h1 with h1; subst h1
       rw [List.getElem?_map, List.getElem?_map] at hd'
       have hj : j < sz := by
        apply Classical.byContradiction
        intro hj
        rw [List.getElem?_eq_none (by simp; omega)] at hd'
        cases hd'
       rw [List.getElem?_range hj] at hd'
       simp only [Option.map_some, Option.some.injEq] at hd'
       subst hd'
       refine ⟨_, ?_, .val _⟩
       have := xat i j hi hj
       rw [hsz0, List.getElem?_eq_getElem this, List.getD_eq_getElem?_getD, List.getElem?_eq_getElem this]; rfl
     have hs := h.share [t]
     have hfz : RepF (shareF g S [t]) w (.sl none (raw.map fun l => l.map D.val)) ti.v := frz_sound h.core (fun t' ht' => by rw [List.mem_singleton.1 ht']; exact ⟨x, hx⟩) _ hrawD (fun t' ht' => by simpa [D.tags] using ht') rfl
     unfold Oper.wp
     rw [hrun, Oper.upon_enter]
     refine ((hcopy.2 raw (by rw [rawn, hn]) rawlen rawone).2 (shareF g S [t]) w vs hs.core.frz (by simpa using hs1) (fun i d v hd' hv' => ?_)).mono fun en w' ⟨es', v, xs, he, hR, hown, hone, hnew, hk, hlen', hcont'⟩ => ?_
     ·cases i with
      | zero =>
       simp at hd'; subst hd'
       rw [hv0] at hv'; injection hv' with hv'; subst hv'
       exact hfz
      | succ i => simp at hd'
     subst he; subst hR
     have hnn : (raw.map fun l => l.map D.val).length = es.length := by rw [List.length_map, rawn, hn]
     rw [hnn] at hown
     have hn := h.newRowU (w' := w') (d, e, sz) { v := v, e := e, sz := sz, n := es.length, xs := xs, shape := own_shape hown } g.F ⟨rfl, rfl⟩
      (hk.mono (fun _ _ _ h => h.elim)) hown hone (fun b hb => .inl (hnew b hb)) (fun _ _ h => h) (fun _ _ h => .inl h) (fun hge => absurd hge (Nat.not_le.2 (Nat.lt_of_lt_of_le (hd d hdst) h.cap)))
     refine ⟨_, _, hn.put hd ?_, hK⟩
     refine Rep.slT (d, e, sz) es { v := v, e := e, sz := sz, n := es.length, xs := xs, shape := own_shape hown } (if_pos rfl) rfl (fun i l hl => by rw [hlen i l hl, hsz0]) (fun i l j d0 hl hd' => ?_)
     obtain ⟨u, hu1, hu2⟩ := hcont i l j d0 hl hd'
     have hj : j < sz := by rw [← hsz0, ← hlen i l hl]; exact (List.getElem?_eq_some_iff.1 hd').1
     have hi : i < ti.n := by
      have : i < es.length := (List.getElem?_eq_some_iff.1 hl).1
      omega
     have hrw := rawget i hi
     obtain ⟨u', hu3, hu4⟩ := hcont' i _ j (.val (ti.xs.getD (i * sz + j) undef)) (by rw [List.getElem?_map, hrw]; rfl) (by rw [List.getElem?_map, List.getElem?_map, List.getElem?_range hj]; rfl)
     have hux : u' = u := by
      have e1 : u' = ti.xs.getD (i * sz + j) undef := by cases hu4; rfl
      rw [hsz0] at hu1
      rw [e1, List.getD_eq_getElem?_getD, hu1]; rfl
     subst hux
     exact ⟨_, hu3, hu2.mono (fun _ _ h => h) (fun b k hF => hk.cell (h.core.frz.1 b k hF) (fun h => h))⟩
   ·exact hv.elim
 ·exact hv.elim
theorem run_equal_slice_nil' {t e : TypeId} (hu : P.underlying t = some (.slice e)) (p : Option Addr) (n c : Nat) : (Op.equal t (.slice p n c) (.slice none 0 0)).run P w = .ok p.isNone w := by
 show (Op.equalIn (9999 + 1) t (.slice p n c) (.slice none 0 0)).run P w = _
 generalize 9999 = k
 cases p <;> simp [Op.equalIn, run_underlying hu]
theorem so_isnil (h : SR w0 W F0 V N g S a w) {o : Oper} {neg : Bool} {x : Operand} {Q : Exit → Act → World → Prop} (hc : compOp P o = some (.isnil neg x)) (hd : ∀ t, o.dst = some t → t < N) (hv : vstep P (.isnil neg x) o.dst S K) :
    o.wp P a w (fun a' w' => ∃ g' S', SR w0 W F0 V N g' S' a' w' ∧ K S') Q := by
 obtain ⟨op, t, e, yt, ho, hu, hop⟩ := comp_isnil hc
 simp only [vstep] at hv
 split at hv
 ·rename_i tag es hx
  have hr := h.core.look hx
  have hv' : ∃ p n c, a.eval x = .slice p n c ∧ (p.isNone = true → es = []) := by
   generalize a.eval x = v at hr
   cases hr with
   | fz _ _ hr => cases hr with
    | nil => exact ⟨_, _, _, rfl, fun _ => rfl⟩
    | emp a c => exact ⟨_, _, _, rfl, fun h => by cases h⟩
    | sl => exact ⟨_, _, _, rfl, fun h => by cases h⟩
   | slT t' _ ti ht hn hl hr =>
    rcases ti.shape with ⟨h1, h2⟩ | ⟨b, c, h1⟩
    ·exact ⟨_, _, _, h1, fun _ => List.eq_nil_of_length_eq_zero (by omega)⟩
    ·exact ⟨_, _, _, h1, fun h => by cases h⟩
  obtain ⟨p, n, c, hev, hes⟩ := hv'
  have hrun : (execOp a.eval o).run P w = .ok (.value (.bool (p.isNone != neg))) w := by
   have hnil : a.eval (.const (.slice none 0 0)) = .slice none 0 0 := rfl
   rcases hop with ⟨rfl, rfl⟩ | ⟨rfl, rfl⟩
   ·have hg : (eqGuard .eql t x (.const (.slice none 0 0)) (.slice p n c) (.slice none 0 0)).run P w = .ok () w := rfl
    simp only [execOp, ho, hev, hnil, Sem.run_bind, hg, Result.andThen_ok, binOp, run_equal_slice_nil' hu, Sem.run_pure, Bool.bne_false]
   ·have hg : (eqGuard .neq t x (.const (.slice none 0 0)) (.slice p n c) (.slice none 0 0)).run P w = .ok () w := rfl
    simp only [execOp, ho, hev, hnil, Sem.run_bind, hg, Result.andThen_ok, binOp, run_equal_slice_nil' hu, Sem.run_pure, Bool.bne_true]
  unfold Oper.wp
  rw [hrun, Oper.upon_value]
  exact ⟨_, _, h.put hd (.fz _ _ (.val _)), hv.2 _ hes⟩
 ·exact hv.elim
theorem vstep_sound (h : SR w0 W F0 V N g S a w) {o : Oper} {m : MOp} {Q : Exit → Act → World → Prop} (hc : compOp P o = some m.strip) (hd : ∀ t, o.dst = some t → t < N) (hst : ∀ sz x v, m = .store sz x v → o.dst = none) (hv : vstep P m o.dst S K) :
    o.wp P a w (fun a' w' => ∃ g' S', SR w0 W F0 V N g' S' a' w' ∧ K S') Q := by
 have pure : compOp P o = some m → (match pop S m with | some d => K (S.put o.dst d) | none => False) → o.wp P a w (fun a' w' => ∃ g' S', SR w0 W F0 V N g' S' a' w' ∧ K S') Q := fun hc hv => by
  split at hv
  ·rename_i d hp
   obtain ⟨v, hrun, hr⟩ := pop_sound h.core hc hp
   unfold Oper.wp
   rw [hrun, Oper.upon_value]
   exact ⟨g, _, h.put hd hr, hv⟩
  ·exact hv.elim
 cases m
 case build z ps =>
  simp only [vstep] at hv
  split at hv
  ·rename_i d hp
   obtain ⟨v, hrun, hr⟩ := build_sound h.core hc hp
   unfold Oper.wp
   rw [hrun, Oper.upon_value]
   exact ⟨g, _, h.put hd hr, hv⟩
  ·exact hv.elim
 case nilsl e sz => exact so_nilsl h hc hd hv
 case alloc t z => exact so_alloc h hc hd hv
 case box t sz x => exact so_box h hc hd hv
 case bslice e sz z len ps => exact so_bslice h hc hd hv
 case store sz x v => exact so_store h hc (hst _ _ _ rfl) hv
 case append e sz bytes x y => exact so_append h hc hd hv
 case call f args md => exact so_call h hc hd hv
 case isnil neg x => exact so_isnil h hc hd hv
 case xop k => exact so_xop h hc hd hv
 all_goals exact pure hc hv
end Go.Vm

namespace Go.Vm
open Go.RowKit
variable {P : Program} {w0 w w' : World} {W F0 : Reg} {V : Pins} {N : Nat} {g g' : Gh} {S S' : St} {a : Act} {tm : Array Value} {K : St → Prop}
def MO.strip (m : MO) : MO := { m with op := m.op.strip }
def want (S : St) : Option (Nat × Bool) → Option Bool
 | none => some true
 | some (t, b) => match S.get t with
  | some (.val (.bool c)) => some (c == b)
  | some (.val (.tuple _)) => some false
  | _ => none
def evOps (P : Program) : List MO → St → (St → Prop) → Prop
 | [], S, K => K S
 | o :: rest, S, K => match want S o.guard with
  | some true => vstep P o.op o.dst S fun S' => evOps P rest S' K
  | some false => evOps P rest (S.put o.dst (.val undef)) K
  | none => False
def compOps (P : Program) (ops : Array Oper) : List Oper → Option (List MO)
 | [] => some []
 | o :: l => match compO P ops o, compOps P ops l with
  | some m, some ms => some (m :: ms)
  | _, _ => none
def dstOk (N : Nat) (m : MO) : Bool := m.dst.all (fun t => decide (t < N)) && (match m.op with | .store .. => m.dst.isNone | _ => true)
theorem compO_spec {ops : Array Oper} {o : Oper} {m : MO} (h : compO P ops o = some m) : compOb P o = m.op ∧ m.dst = o.dst ∧
    ((o.guard = none ∧ m.guard = none) ∨ ∃ j b go t, o.guard = some (j, b) ∧ ops[j]? = some go ∧ go.dst = some t ∧ m.guard = some (t, b)) := by
 unfold compO at h
 split at h
 ·rename_i hg
  injection h with h; subst h
  exact ⟨rfl, rfl, .inl ⟨hg, rfl⟩⟩
 ·rename_i j b hg
  split at h
  ·rename_i go hgo
   split at h
   ·rename_i t ht
    injection h with h; subst h
    exact ⟨rfl, rfl, .inr ⟨j, b, go, t, hg, hgo, ht, rfl⟩⟩
   ·cases h
  ·cases h
theorem strip_bad {m : MOp} (h : m.strip = .bad) : m = .bad := by
 cases m <;> first | rfl | (cases h; done) | (rename_i k; cases k <;> cases h)
theorem want_sound (h : Core g S a.tmps w) {ops : Array Oper} {o : Oper} {m : MO} (hc : compO P ops o = some m) {c : Bool} (hw : want S m.guard = some c) : Region.wanted o (yielded ops a.tmps) = c := by
 obtain ⟨h1, h2, h3⟩ := compO_spec hc
 rcases h3 with ⟨hg, hm⟩ | ⟨j, b, go, t, hg, hgo, ht, hm⟩
 ·rw [hm] at hw
  simp only [want, Option.some.injEq] at hw
  simp [Region.wanted, hg, hw]
 ·rw [hm] at hw
  simp only [want] at hw
  have hy : yielded ops a.tmps j = match a.tmps[t]? with | some (.bool c) => some c | _ => none := by
   simp only [yielded, hgo, Option.bind_some, ht]
   cases a.tmps[t]? with
   | none => rfl
   | some v => cases v <;> rfl
  split at hw
  ·rename_i c' hget
   have hv := (h.env t _ hget).val_inv
   rw [Array.getD_eq_getD_getElem?] at hv
   injection hw with hw
   cases hq : a.tmps[t]? with
   | none => rw [hq] at hv; simp [undef] at hv
   | some v =>
    rw [hq] at hv
    simp only [Option.getD_some] at hv
    subst hv
    rw [hq] at hy
    simp only [Region.wanted, hg, hy, ← hw]
    cases c' <;> cases b <;> rfl
  ·rename_i vs hget
   have hv := (h.env t _ hget).val_inv
   rw [Array.getD_eq_getD_getElem?] at hv
   injection hw with hw
   have : yielded ops a.tmps j = none := by
    rw [hy]
    cases hq : a.tmps[t]? with
    | none => rfl
    | some v =>
     rw [hq] at hv
     simp only [Option.getD_some] at hv
     subst hv
     rfl
   simp only [Region.wanted, hg, this, ← hw]
   rfl
  ·cases hw
theorem dst_ok {m : MO} (h : dstOk N m = true) : (∀ t, m.dst = some t → t < N) ∧ (∀ sz x v, m.op = .store sz x v → m.dst = none) := by
 simp only [dstOk, Bool.and_eq_true] at h
 refine ⟨fun t ht => ?_, fun sz x v hm => ?_⟩
 ·have := h.1
  rw [ht] at this
  simpa using this
 ·have := h.2
  rw [hm] at this
  simpa using this
theorem evOp_sound (h : SR w0 W F0 V N g S a w) {ops : Array Oper} {Q : Exit → Act → World → Prop} {i : Nat} {o : Oper} {m : MO} (hi : ops[i]? = some o) (hc : compO P ops o = some m.strip) (hd : dstOk N m = true)
    (hv : match want S m.guard with | some true => vstep P m.op m.dst S K | some false => K (S.put m.dst (.val undef)) | none => False) :
    wpOp P ops Q i (fun a' w' => ∃ g' S', SR w0 W F0 V N g' S' a' w' ∧ K S') a w := by
 obtain ⟨h1, h2, h3⟩ := compO_spec hc
 replace h2 : m.dst = o.dst := h2
 obtain ⟨d1, d2⟩ := dst_ok hd
 unfold wpOp
 simp only [hi]
 split at hv
 ·rename_i hw
  have := want_sound (m := m.strip) h.core hc hw
  simp only [this, if_true]
  left
  rw [h2] at hv d1
  by_cases hb : m.op = .bad
  ·rw [hb] at hv; exact hv.elim
  ·exact vstep_sound h (compOb_some h1 (fun e => hb (strip_bad e))) d1 (fun sz x v hm => by rw [← h2]; exact d2 sz x v hm) hv
 ·rename_i hw
  have := want_sound (m := m.strip) h.core hc hw
  simp only [this, Bool.false_eq_true, if_false]
  rw [h2] at hv d1
  exact ⟨g, _, h.put d1 (.fz _ _ (.val _)), hv⟩
 ·exact hv.elim
theorem compOps_get0 {ops : Array Oper} : ∀ {l : List Oper} {ms : List MO}, compOps P ops l = some ms → ms.length = l.length ∧ ∀ (i : Nat) (o : Oper) (m : MO), l[i]? = some o → ms[i]? = some m → compO P ops o = some m
 | [], ms, h => by
  simp only [compOps, Option.some.injEq] at h; subst h
  exact ⟨rfl, fun i o m ho => by simp at ho⟩
 | o :: l, ms, h => by
  simp only [compOps] at h
  split at h
  ·rename_i m ms' h1 h2
   injection h with h; subst h
   obtain ⟨e1, e2⟩ := compOps_get0 h2
   refine ⟨by simp [e1], fun i o' m' ho hm => ?_⟩
   cases i with
   | zero => simp at ho hm; subst ho; subst hm; exact h1
   | succ i => exact e2 i o' m' (by simpa using ho) (by simpa using hm)
  ·cases h
theorem compOps_get {ops : Array Oper} {l : List Oper} {ms : List MO} (h : compOps P ops l = some (ms.map MO.strip)) : ms.length = l.length ∧ ∀ (i : Nat) (o : Oper) (m : MO), l[i]? = some o → ms[i]? = some m → compO P ops o = some m.strip := by
 obtain ⟨h1, h2⟩ := compOps_get0 h
 exact ⟨by simpa using h1, fun i o m ho hm => h2 i o m.strip ho (by simp [hm])⟩
theorem ops_sound {ops : Array Oper} {Q : Exit → Act → World → Prop} {ms : List MO} (hc : compOps P ops ops.toList = some (ms.map MO.strip)) (hd : ms.all (dstOk N) = true) : ∀ (n k : Nat) (g : Gh) (S : St) (a : Act) (w : World), k + n = ops.size → SR w0 W F0 V N g S a w →
    evOps P (ms.drop k) S K → (∀ g' S' a' w', SR w0 W F0 V N g' S' a' w' → K S' → Q .normal a' w') → wpOps P ops Q (List.range' k n) a w := by
 obtain ⟨hl, hget⟩ := compOps_get hc
 intro n
 induction n with
 | zero =>
  intro k g S a w hk hS hv hQ
  have : ms.drop k = [] := List.drop_of_length_le (by simp at hl; omega)
  rw [this] at hv
  exact hQ g S a w hS hv
 | succ n ih =>
  intro k g S a w hk hS hv hQ
  have hkl : k < ms.length := by simp at hl; omega
  have hko : k < ops.size := by omega
  rw [List.drop_eq_getElem_cons hkl] at hv
  simp only [evOps] at hv
  rw [List.range'_succ, wpOps_cons]
  have hcm := hget k ops[k] ms[k] (by simp [hko]) (List.getElem?_eq_getElem hkl)
  have := evOp_sound (P := P) (ops := ops) (Q := Q) (K := fun S' => evOps P (ms.drop (k + 1)) S' K) hS (Array.getElem?_eq_getElem hko) hcm (List.all_eq_true.1 hd _ (List.getElem_mem hkl)) hv
  exact wpOp_mono (fun a' w' ⟨g', S', h1, h2⟩ => ih (k + 1) g' S' a' w' (by omega) h1 h2 hQ) this
theorem reg_sound {id : Nat} {ops : Array Oper} {Q : Exit → Act → World → Prop} {ms : List MO} (hc : compOps P ops ops.toList = some (ms.map MO.strip)) (hd : ms.all (dstOk N) = true) (hS : SR w0 W F0 V N g S a w) (hv : evOps P ms S K)
    (hQ : ∀ g' S' a' w', SR w0 W F0 V N g' S' a' w' → K S' → Q .normal a' w') : (Code.region id ops false).wp P Q a w := by
 refine wp_region ?_
 rw [List.range_eq_range']
 exact ops_sound hc hd ops.size 0 g S a w (by omega) hS (by simpa using hv) hQ
end Go.Vm

namespace Go.Vm
open Go.RowKit
variable {P : Program} {w0 w w' : World} {W F0 : Reg} {V : Pins} {N : Nat} {g g' : Gh} {S S' : St} {a : Act} {tm : Array Value} {K : St → Prop}
def XOp.reads : XOp → List Operand
 | .clr _ _ x => [x]
 | .slc3 _ x lo hi mx => x :: mx :: (lo.toList ++ hi.toList)
 | .appP _ _ _ x y => [x, y]
 | .mkmap => []
 | .mget _ _ _ m k => [m, k]
 | .mput _ m k v => [m, k, v]
 | .mdel _ m k => [m, k]
 | .mlen m => [m]
 | .isnilI _ x => [x]
 | .mrange x => [x]
 | .mnext x => [x]
 | .mentry x => [x]
def MOp.reads : MOp → List Operand
 | .mov x | .movS x | .load _ x | .un _ x | .conv _ x | .faddr _ x | .fld _ _ x | .lenS x | .lenL x | .ext x _ | .nilck x | .b2s x | .r2s x | .box _ _ x | .isnil _ x => [x]
 | .bin _ x y | .binB _ x y | .binP _ x y | .eqs _ _ x y | .iaddrS _ x y | .iaddrA _ _ x y | .idxA _ _ _ x y | .idxS x y | .store _ x y | .append _ _ _ x y => [x, y]
 | .pick c x y => [c, x, y]
 | .build _ ps | .bslice _ _ _ _ ps => ps.map fun p => p.2.2
 | .slcS x lo hi | .slc _ x lo hi | .slcA _ x lo hi => x :: (lo.toList ++ hi.toList)
 | .minmax _ xs => xs
 | .mkfn _ x y => x ++ y
 | .call f xs _ => f :: xs
 | .alloc _ _ | .nilsl _ _ | .bad => []
 | .xop k => k.reads
structure Alike (S S' : St) (xs : List Operand) : Prop where
 look : ∀ x ∈ xs, look S x = look S' x
 hp : S.hp = S'.hp
 tg : S.tg = S'.tg
theorem Alike.sub {xs ys : List Operand} (h : Alike S S' xs) (hs : ∀ y ∈ ys, y ∈ xs) : Alike S S' ys := ⟨fun y hy => h.look y (hs y hy), h.hp, h.tg⟩
theorem Alike.box {xs : List Operand} (h : Alike S S' xs) (o : Nat) : S.box o = S'.box o := by simp [St.box, h.hp]
theorem Alike.tag {xs : List Operand} (h : Alike S S' xs) (t : Tag) : S.tag t = S'.tag t := by simp [St.tag, h.tg]
theorem Alike.looks : ∀ {xs : List Operand}, Alike S S' xs → Vm.looks S xs = Vm.looks S' xs
 | [], _ => rfl
 | x :: xs, h => by
  simp only [Vm.looks]
  rw [h.look x (by simp), Alike.looks (h.sub (fun y hy => by simp [hy]))]
theorem Alike.fill : ∀ {ps : List (Nat × Nat × Operand)} (_ : Alike S S' (ps.map fun p => p.2.2)) (cs : List D), fillD S cs ps = fillD S' cs ps
 | [], _, _ => rfl
 | (off, sz, x) :: ps, h, cs => by
  simp only [fillD]
  rw [h.look x (by simp)]
  have := Alike.fill (ps := ps) (h.sub (fun y hy => by simp at hy ⊢; exact .inr hy))
  split
  ·split
   ·split
    ·exact this _
    ·rfl
   ·rfl
  ·rfl
theorem Alike.bound {xs : List Operand} (h : Alike S S' xs) {x : Option Operand} (hx : ∀ y, x = some y → y ∈ xs) (dflt top : Nat) : boundD S dflt top x = boundD S' dflt top x := by
 cases x with
 | none => rfl
 | some y => simp only [boundD]; rw [h.look y (hx y rfl)]
theorem Alike.part {xs : List Operand} (h : Alike S S' xs) {lo hi : Option Operand} (h1 : ∀ y, hi = some y → y ∈ xs) (h2 : ∀ y, lo = some y → y ∈ xs) (sz : Nat) (t : Tag) (lo0 n : Nat) (es : List (List D)) : partD S sz lo hi t lo0 n es = partD S' sz lo hi t lo0 n es := by
 have hlive : S.live (some (t, 0)) = S'.live (some (t, 0)) := by simp only [St.live]; congr 1; funext y; rw [h.tag]
 unfold partD
 rw [hlive, h.bound h1]
 split
 ·split
  ·rw [h.bound h2]
  ·rfl
 ·rfl
theorem Alike.pop {m : MOp} (h : Alike S S' m.reads) : Vm.pop S m = Vm.pop S' m := by
 cases m <;> simp only [Vm.pop] <;> simp only [MOp.reads] at h
 case build z ps => rw [h.fill]
 case slcS x lo hi =>
  rw [h.look x (by simp)]
  split
  ·rename_i d hd
   simp only [slcSD]
   split
   ·rw [h.bound (x := hi) (fun y hy => by subst hy; simp)]
    split
    ·rw [h.bound (x := lo) (fun y hy => by subst hy; simp)]
    ·rfl
   ·rfl
  ·rfl
 case slc sz x lo hi =>
  rw [h.look x (by simp)]
  split
  ·rename_i d hd
   simp only [slcD]
   split
   ·exact h.part (fun y hy => by subst hy; simp) (fun y hy => by subst hy; simp) _ _ _ _ _
   ·exact h.part (fun y hy => by subst hy; simp) (fun y hy => by subst hy; simp) _ _ _ _ _
   ·rw [h.bound (x := hi) (fun y hy => by subst hy; simp)]
    split
    ·split
     ·rw [h.bound (x := lo) (fun y hy => by subst hy; simp)]
     ·rfl
    ·rfl
   ·rfl
  ·rfl
 case slcA n x lo hi =>
  rw [h.look x (by simp)]
  split
  ·rename_i d hd
   simp only [slcAD]
   split
   ·rw [h.bound (x := hi) (fun y hy => by subst hy; simp)]
    split
    ·split
     ·rw [h.bound (x := lo) (fun y hy => by subst hy; simp)]
     ·rfl
    ·rfl
   ·rfl
  ·rfl
 case minmax mx xs => rw [h.looks]
 case mkfn f x y => rw [(h.sub (ys := x) (fun z hz => by simp [hz])).looks, (h.sub (ys := y) (fun z hz => by simp [hz])).looks]
 case load sz x =>
  rw [h.look x (by simp)]
  split
  ·rename_i d hd
   simp only [loadD]
   split
   ·rw [h.box]
   ·have : ∀ own, S.live own = S'.live own := fun own => by simp only [St.live]; congr 1; funext y; rw [h.tag]
    rw [this]
   ·rfl
  ·rfl
 case b2s x =>
  rw [h.look x (by simp)]
  split
  ·rename_i d hd
   simp only [b2sD]
   split
   ·have : ∀ own, S.live own = S'.live own := fun own => by simp only [St.live]; congr 1; funext y; rw [h.tag]
    rw [this]
   ·rfl
  ·rfl
 all_goals first
  | rfl
  | (rw [h.look _ List.mem_cons_self, h.look _ (List.mem_cons_of_mem _ List.mem_cons_self), h.look _ (List.mem_cons_of_mem _ (List.mem_cons_of_mem _ List.mem_cons_self))]; done)
  | (rw [h.look _ List.mem_cons_self, h.look _ (List.mem_cons_of_mem _ List.mem_cons_self)]; done)
  | (rw [h.look _ List.mem_cons_self]; done)
def QV (P : Program) (m : MOp) (S : St) (d : D) : Prop :=
 match m with
 | .nilsl _ _ => d = .sl none []
 | .bslice _ sz zero len parts => ∃ cs fs, fillD S (rept zero len) parts = some cs ∧ frzL cs = some fs ∧ tagsL cs = [] ∧ fs.all D.one = true ∧ d = .sl none (chunk sz len fs)
 | .call f args md => (match md with | .pure => True | _ => False) ∧ ∃ k first caps ds fs, look S f = some (.fn k first caps) ∧ looks S args = some ds ∧ frzL (first ++ ds ++ caps) = some fs ∧ tagsL (first ++ ds ++ caps) = [] ∧ PureAt P k fs fun r => r = d
 | m => pop S m = some d
theorem QV.alike {m : MOp} {d : D} (h : QV P m S d) (ha : Alike S S' m.reads) : QV P m S' d := by
 cases m <;> simp only [QV] at h ⊢ <;> first
  | (rw [← ha.pop]; exact h)
  | exact h
  | (obtain ⟨cs, fs, h1, h2⟩ := h; exact ⟨cs, fs, by rw [← Alike.fill (by simpa [MOp.reads] using ha)]; exact h1, h2⟩)
  | (obtain ⟨h0, k, first, caps, ds, fs, h1, h2, h3⟩ := h
     simp only [MOp.reads] at ha
     exact ⟨h0, k, first, caps, ds, fs, by rw [← ha.look _ (by simp)]; exact h1, by rw [← (ha.sub (fun y hy => by simp [hy])).looks]; exact h2, h3⟩)
theorem only_all (S : St) : S.only (fun _ => true) (fun _ => true) = S := by
 have hkeep : ∀ d : D, d.keep (fun _ => true) (fun _ => true) = d := fun d => by simp [D.keep, avoids_all]
 have h1 : ∀ l : List D, l.map (D.keep (fun _ => true) fun _ => true) = l := fun l => by
  rw [List.map_congr_left (g := id) (fun d _ => hkeep d)]; simp
 have h2 : ∀ l : List (Nat × D), (l.map fun x => (x.1, x.2.keep (fun _ => true) fun _ => true)) = l := fun l => by
  induction l with
  | nil => rfl
  | cons x l ih => rw [List.map_cons, ih, hkeep]
 have h3 : ∀ l : List (Nat × List D), (l.map fun x => (x.1, x.2.map (D.keep (fun _ => true) fun _ => true))) = l := fun l => by
  induction l with
  | nil => rfl
  | cons x l ih => rw [List.map_cons, ih, h1]
 simp only [St.only, h2, h3]
theorem share_nil (S : St) : S.share [] = S := by
 have h : ∀ l : List (Tag × Bool), (l.map fun y => (y.1, y.2 && !([] : List Tag).contains y.1)) = l := fun l => by
  induction l with
  | nil => rfl
  | cons x l ih => rw [List.map_cons, ih]; simp
 simp only [St.share, h]
theorem SR.newF (h : SR w0 W F0 V N g S a w) (vs : Array Value) (e : TypeId) :
    SR w0 W F0 V N { g with F := fun b k => g.F b k ∨ b = w.heap.size } S a (w.alloc (.cells vs e (0, 0))) := by
 have hl : Later g { g with F := fun b k => g.F b k ∨ b = w.heap.size } w (w.alloc (.cells vs e (0, 0))) (fun _ => true) (fun _ => true) :=
  ⟨fun _ _ _ h => h, fun _ _ _ h => h, fun _ _ h => .inl h, fun b k hF => World.cell?_of_block (a := ⟨b, k, none⟩) (heap_alloc_old w _ b (h.core.frz.1 b k hF))⟩
 have hc := h.core.later hl (fun _ _ _ => rfl) (fun _ _ _ => rfl) (fun b ob hb => by rw [heap_alloc_old w _ b (Array.getElem?_eq_some_iff.1 hb).1]; exact hb) (fun b k hF => by
  rcases hF with hF | hF
  ·exact .inl hF
  ·exact .inr (by omega)) (fun b k hF => by
  rcases hF with hF | hF
  ·have := h.core.frz.1 b k hF; simp; omega
  ·simp; omega)
 rw [only_all] at hc
 refine h.later hc ⟨h.wr.box, h.wr.tag⟩ (Keep.alloc (fun _ _ => False) w _) (fun _ _ _ h => h.elim) (fun _ _ h => .inl h) (fun b k hF => ?_) (fun t ti _ h => ⟨ti, h, rfl⟩)
 rcases hF with hF | hF
 ·exact .inl hF
 ·have := h.le
  exact .inr (.inl (by omega))
theorem q_sound (h : SR w0 W F0 V N g S a w) {o : Oper} {m : MOp} {d : D} {Q : Exit → Act → World → Prop} (hcb : compOb P o = m.strip) (hd : ∀ t, o.dst = some t → t < N) (hq : QV P m S d) :
    o.wp P a w (fun a' w' => ∃ g', SR w0 W F0 V N g' (S.put o.dst d) a' w') Q := by
 have hnb : m ≠ .bad := by rintro rfl; simp [QV, pop] at hq
 have hc := compOb_some hcb (fun e => hnb (strip_bad e))
 have pure : compOp P o = some m → pop S m = some d → o.wp P a w (fun a' w' => ∃ g', SR w0 W F0 V N g' (S.put o.dst d) a' w') Q := fun hc hp => by
  obtain ⟨v, hrun, hr⟩ := pop_sound h.core hc hp
  unfold Oper.wp
  rw [hrun, Oper.upon_value]
  exact ⟨g, h.put hd hr⟩
 cases m
 case build z ps =>
  obtain ⟨v, hrun, hr⟩ := build_sound h.core hc (show pop S (.build z ps) = some d from hq)
  unfold Oper.wp
  rw [hrun, Oper.upon_value]
  exact ⟨g, h.put hd hr⟩
 case nilsl e sz =>
  simp only [QV] at hq; subst hq
  have ho := comp_nilsl hc
  unfold Oper.wp
  simp only [execOp, ho, Sem.run_pure, Oper.upon_value]
  exact ⟨g, h.put hd (.fz _ _ .nil)⟩
 case call f args md =>
  simp only [QV] at hq
  obtain ⟨hmd, k, first, caps, ds, fs, h1, h2, h3, h4, h5⟩ := hq
  have : md = .pure := by cases md <;> simp_all
  subst this
  have := so_call (md := .pure) (K := fun S' => S' = S.put o.dst d) (Q := Q) h hc hd (by
   simp only [vstep, h1, h2, h3]
   refine ⟨by rw [h4]; rfl, h5.mono fun r hr => ?_⟩
   rw [h4, share_nil, hr])
  exact Oper.wp_mono (fun a' w' ⟨g', S', e1, e2⟩ => ⟨g', e2 ▸ e1⟩) this
 case bslice e sz z len ps =>
  simp only [QV] at hq
  obtain ⟨cs, fs, hfill, hfs, htags, hone, rfl⟩ := hq
  obtain ⟨t, parts, i, zv, ho, hu, hi, hz, rfl, h0, hzs, hbig, rfl, rfl⟩ := comp_bslice hc
  have hplace : (parts.toList.map fun p => (p.1 * i.size, i.size, p.2)).length = parts.toList.length ∧ ∀ (q : Nat) (p : Nat × Operand) (r : Nat × Nat × Operand), parts.toList[q]? = some p → (parts.toList.map fun p => (p.1 * i.size, i.size, p.2))[q]? = some r →
      (fun j => some (j * i.size, i.size)) p.1 = some (r.1, r.2.1) ∧ p.2 = r.2.2 := by
   refine ⟨by simp, fun q p r hp hr => ?_⟩
   simp only [List.getElem?_map, hp, Option.map_some, Option.some.injEq] at hr
   subst hr
   exact ⟨rfl, rfl⟩
  obtain ⟨us, e1, e2, e3⟩ := fill_sound h.core (place := fun j => some (j * i.size, i.size)) hplace (hzs ▸ rept_cells zv (by omega) len) hfill
  obtain ⟨l1, hF⟩ := frzL_sound (h.core) (ts := []) (fun t ht => by simp at ht) cs hfs (fun t ht => by rw [htags] at ht; exact ht)
  have hlen : fs.length = len * i.size := by rw [l1, ← e2.1, e3]; simp
  have husz : us.size = len * i.size := by rw [e3]; simp
  have hrun : (execOp a.eval o).run P w = .ok (.value (.slice (some ⟨w.heap.size, 0, none⟩) len len)) (w.alloc (.cells us e (0, 0))) := by
   simp only [execOp, ho, Sem.run_bind]
   rw [run_bslice t e len _ us i zv hu hi hz hbig (by rw [map_parts, ← hzs]; rw [← hzs] at e1; exact e1)]
   rfl
  unfold Oper.wp
  rw [hrun, Oper.upon_value]
  have hn := h.newF us e
  refine ⟨_, hn.put hd (.fz _ _ ?_)⟩
  have repf : ∀ (q : Nat) (d' : D), fs[q]? = some d' → ∃ u, us[q]? = some u ∧ RepF g.F w d' u := fun q d' hq => by
   have hq1 : q < fs.length := (List.getElem?_eq_some_iff.1 hq).1
   have hq2 : q < us.size := by omega
   have hq3 : q < cs.length := by rw [← e2.1]; omega
   refine ⟨us[q], Array.getElem?_eq_getElem hq2, (hF q d' _ hq _ (List.getElem?_eq_getElem hq3) (e2.2 q _ _ (List.getElem?_eq_getElem hq3) (Array.getElem?_eq_getElem hq2))).mono (fun b k hFk => ?_) (fun _ _ _ => rfl)⟩
   rcases hFk with h6 | ⟨t', ht', _⟩
   ·exact h6
   ·simp at ht'
  have hlt : ∀ q j, q < (chunk i.size len fs).length → j < i.size → 0 + q * i.size + j < us.size := fun q j hq hj => by
   rw [chunk_length] at hq
   have : (q + 1) * i.size ≤ len * i.size := Nat.mul_le_mul_right _ hq
   rw [Nat.succ_mul] at this; omega
  have := RepF.sl (F := fun b k => g.F b k ∨ b = w.heap.size) (w := w.alloc (.cells us e (0, 0))) w.heap.size 0 i.size len (chunk i.size len fs) (fun q j => us.getD (0 + q * i.size + j) undef) (by rw [chunk_length]; exact Nat.le_refl _)
   (fun q el hq => by
    have hq1 : q < len := by have := (List.getElem?_eq_some_iff.1 hq).1; rwa [chunk_length] at this
    have : (q + 1) * i.size ≤ len * i.size := Nat.mul_le_mul_right _ hq1
    rw [Nat.succ_mul] at this
    rw [chunk_get _ _ _ _ _ hq]
    simp; omega)
   (fun q j hq hj => .inr rfl)
   (fun q j hq hj => by
    have := hlt q j hq hj
    rw [cell_of_row _ _ _ us e (0, 0) (heap_alloc_new w _), Array.getElem?_eq_getElem this, Array.getD_eq_getD_getElem?, Array.getElem?_eq_getElem this]; rfl)
   (fun q j hq hj => by
    have h7 := hlt q j hq hj
    have h8 : 0 + q * i.size + j < fs.length := by omega
    obtain ⟨u, h9, h10⟩ := repf _ _ (List.getElem?_eq_getElem h8)
    rw [Array.getD_eq_getD_getElem?, h9]
    exact h10.one (List.all_eq_true.1 hone _ (List.getElem_mem h8)))
   (fun q el j d' hq hj => by
    rw [chunk_get _ _ _ _ _ hq, List.getElem?_take] at hj
    split at hj
    ·rw [List.getElem?_drop] at hj
     obtain ⟨u, h9, h10⟩ := repf _ _ hj
     rw [Nat.zero_add, Array.getD_eq_getD_getElem?, h9]
     exact h10.mono (fun _ _ h => .inl h) (fun b k hFk => World.cell?_of_block (a := ⟨b, k, none⟩) (heap_alloc_old w _ b (h.core.frz.1 b k hFk)))
    ·cases hj)
  rw [chunk_length] at this
  exact this
 case alloc t z => simp [QV, pop] at hq
 case xop k => simp [QV, pop] at hq
 all_goals exact pure hc hq
end Go.Vm
