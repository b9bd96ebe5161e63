/- A part of the proof; what is proved stands in the last text. -/
import Derived.Test.YtcclggbngikppaaGreatDoorVD
import Derived.Great.BuildSlice
import Derived.Still
set_option linter.unusedVariables false
set_option maxRecDepth 2000
namespace Go.Vm
open Go.RowKit
variable {P : Program} {w0 w w' : World} {W F0 : Reg} {V : Pins} {N : Nat} {g g' : Gh} {S : St} {a : Act} {tm : Array Value} {K : St → Prop}
theorem rept_get {α : Type} (xs : List α) (h0 : 0 < xs.length) : ∀ (n i : Nat), i < n * xs.length → (rept xs n)[i]? = xs[i % xs.length]?
 | 0, i, h => by omega
 | n + 1, i, h => by
  simp only [rept]
  by_cases hi : i < xs.length
  ·rw [List.getElem?_append_left hi, Nat.mod_eq_of_lt hi]
  ·rw [Nat.succ_mul] at h
   rw [List.getElem?_append_right (by omega), rept_get xs h0 n _ (by omega), ← Nat.mod_eq_sub_mod (by omega)]
theorem rept_length {α : Type} (xs : List α) : ∀ n, (rept xs n).length = n * xs.length
 | 0 => by simp [rept]
 | n + 1 => by simp [rept, rept_length xs n, Nat.succ_mul, Nat.add_comm]
theorem rept_cells (z : Value) (h0 : 0 < z.cells.size) (len : Nat) : Cells g w (rept (zeroD z) len) ((Array.range (len * z.cells.size)).map (z.cells[· % z.cells.size]!)) := by
 have hz := zero_cells (g := g) (w := w) z
 have hzl : (zeroD z).length = z.cells.size := hz.1.symm
 refine ⟨by rw [rept_length, hzl]; simp, fun i d v hd hv => ?_⟩
 have hi : i < len * z.cells.size := by
  have := (List.getElem?_eq_some_iff.1 hd).1
  rwa [rept_length, hzl] at this
 rw [rept_get _ (by omega) _ _ (by rw [hzl]; exact hi), hzl] at hd
 rw [Array.getElem?_map] at hv
 obtain ⟨j, hj, rfl⟩ := Option.map_eq_some_iff.1 hv
 have : j = i := by
  have h1 : (Array.range (len * z.cells.size))[i]? = some i := by simp [hi]
  rw [h1] at hj; injection hj with hj; exact hj.symm
 subst this
 have hm : j % z.cells.size < z.cells.size := Nat.mod_lt _ h0
 refine hz.2 (j % z.cells.size) d _ hd ?_
 simp [hm]
theorem chunk_length (sz : Nat) : ∀ (n : Nat) (cs : List D), (chunk sz n cs).length = n
 | 0, _ => rfl
 | n + 1, cs => by simp [chunk, chunk_length sz n]
theorem chunk_get (sz : Nat) : ∀ (n : Nat) (cs : List D) (i : Nat) (e : List D), (chunk sz n cs)[i]? = some e → e = (cs.drop (i * sz)).take sz
 | 0, cs, i, e, h => by simp [chunk] at h
 | n + 1, cs, i, e, h => by
  simp only [chunk] at h
  cases i with
  | zero => simp at h; simp [← h]
  | succ i =>
   have := chunk_get sz n (cs.drop sz) i e (by simpa using h)
   rw [this, List.drop_drop, Nat.succ_mul, Nat.add_comm]
theorem run_bslice (t e : TypeId) (len : Nat) (parts : Array (Nat × Value)) (cells : Array Value) (ie : TypeInfo) (z : Value) (hu : P.underlying t = some (.slice e)) (hie : P.info? e = some ie) (hz : ie.zero = some z) (hsmall : len * ie.size ≤ 2 ^ 24)
    (h : Instr.fill (fun i => some (i * ie.size, ie.size)) ((Array.range (len * ie.size)).map (z.cells[· % z.cells.size]!)) parts.toList = some cells) :
    (Instr.buildSlice t len parts).run P w = .ok (.slice (some ⟨w.heap.size, 0, none⟩) len len) (w.alloc (.cells cells e)) := by
 by_cases h0 : len * ie.size = 0
 ·rw [h0] at h
  have r0 : ∀ f : Nat → Value, (Array.range 0).map f = #[] := fun f => Array.eq_empty_of_size_eq_zero (by simp)
  have h' : Instr.fill (fun i => some (i * ie.size, ie.size)) #[] parts.toList = some cells := by rw [r0] at h; exact h
  have h2 : ¬ (len * ie.size > 2 ^ 24) := by omega
  simp only [Instr.buildSlice, run_underlying hu, sizeOf, typeInfo, hie, Sem.run_bind, run_program, Result.andThen_ok, Sem.run_pure, h0, Sem.run_ite]
  simp [r0, h', newRow]
 ·exact run_buildSlice w t e len parts cells ie z hu hie hz (by omega) h0 h
theorem so_bslice (h : SR w0 W F0 V N g S a w) {o : Oper} {e sz len : Nat} {z : List D} {ps : List (Nat × Nat × Operand)} {Q : Exit → Act → World → Prop} (hc : compOp P o = some (.bslice e sz z len ps)) (hd : ∀ t, o.dst = some t → t < N)
    (hv : vstep P (.bslice e sz z len ps) o.dst S K) : o.wp P a w (fun a' w' => ∃ g' S', SR w0 W F0 V N g' S' a' w' ∧ K S') Q := by
 obtain ⟨t, parts, i, zv, ho, hu, hi, hz, rfl, h0, hzs, hbig, rfl, rfl⟩ := comp_bslice hc
 simp only [vstep] at hv
 split at hv
 ·rename_i d cs hdst hfill
  split at hv
  ·rename_i fs hfs
   obtain ⟨hlive, hone, hK⟩ := hv
   have hplace : (parts.toList.map fun p => (p.1 * i.size, i.size, p.2)).length = parts.toList.length ∧ ∀ (q : Nat) (p : Nat × Operand) (r : Nat × Nat × Operand), parts.toList[q]? = some p → (parts.toList.map fun p => (p.1 * i.size, i.size, p.2))[q]? = some r →
       (fun j => some (j * i.size, i.size)) p.1 = some (r.1, r.2.1) ∧ p.2 = r.2.2 := by
    refine ⟨by simp, fun q p r hp hr => ?_⟩
    simp only [List.getElem?_map, hp, Option.map_some, Option.some.injEq] at hr
    subst hr
    exact ⟨rfl, rfl⟩
   obtain ⟨us, e1, e2, e3⟩ := fill_sound h.core (place := fun j => some (j * i.size, i.size)) hplace (hzs ▸ rept_cells zv (by omega) len) hfill
   have hlen : fs.length = len * i.size := by
    have := (frzL_sound (h.core) (ts := tagsL cs) (live_all hlive) cs hfs (fun t ht => ht)).1
    rw [this, ← e2.1, e3]; simp
   have hrun : (execOp a.eval o).run P w = .ok (.value (.slice (some ⟨w.heap.size, 0, none⟩) len len)) (w.alloc (.cells us e (0, 0))) := by
    simp only [execOp, ho, Sem.run_bind]
    rw [run_bslice t e len _ us i zv hu hi hz hbig (by rw [map_parts, ← hzs]; rw [← hzs] at e1; exact e1)]
    rfl
   unfold Oper.wp
   rw [hrun, Oper.upon_value]
   have hs := h.share (tagsL cs)
   have hF := (frzL_sound h.core (ts := tagsL cs) (live_all hlive) cs hfs (fun t ht => ht)).2
   have husz : us.size = len * i.size := by rw [e3]; simp
   let ti : TI := { v := .slice (some ⟨w.heap.size, 0, none⟩) len len, e := e, sz := i.size, n := len, xs := us.toList, shape := .inr ⟨_, _, rfl⟩ }
   have repf : ∀ (q : Nat) (d' : D), fs[q]? = some d' → ∃ u, us[q]? = some u ∧ RepF (shareF g S (tagsL cs)) w d' u := fun q d' hq => by
    have hq1 : q < fs.length := (List.getElem?_eq_some_iff.1 hq).1
    have hq2 : q < us.size := by omega
    have hq3 : q < cs.length := by rw [← e2.1]; omega
    exact ⟨us[q], Array.getElem?_eq_getElem hq2, hF q d' _ hq _ (List.getElem?_eq_getElem hq3) (e2.2 q _ _ (List.getElem?_eq_getElem hq3) (Array.getElem?_eq_getElem hq2))⟩
   have hpre : len ≤ maxLen := by
    have h1 : len * 1 ≤ len * i.size := Nat.mul_le_mul_left _ h0
    have : (2 : Nat) ^ 24 = 16777216 := by decide
    simp only [maxLen]; omega
   have hn := hs.newRow (w' := w.alloc (.cells us e (0, 0))) (d, e, i.size) ti ⟨rfl, rfl⟩ (Keep.alloc _ _ _) (fun b ob hb => by rw [heap_alloc_old w _ b (Array.getElem?_eq_some_iff.1 hb).1]; exact hb)
    ⟨by simp [ti, husz], .inr ⟨w.heap.size, len, us, rfl, Nat.zero_le _, heap_alloc_new w _, Nat.le_refl _, hpre, husz, by simp only [ti]; exact List.take_of_length_le (by simp [husz])⟩⟩
    (fun u hu => by
     obtain ⟨q, hq⟩ := List.getElem?_of_mem hu
     have hq1 : q < fs.length := by have := (List.getElem?_eq_some_iff.1 hq).1; simp [ti] at this; omega
     obtain ⟨u', h1, h2⟩ := repf q _ (List.getElem?_eq_getElem hq1)
     have : u' = u := by
      have : us.toList[q]? = some u := hq
      rw [Array.getElem?_toList, h1] at this; injection this
     subst this
     exact h2.one (List.all_eq_true.1 hone _ (List.getElem_mem hq1)))
    (fun b hb => by simp [ti, Value.ownBlock] at hb; omega) (fun hge => absurd hge (Nat.not_le.2 (Nat.lt_of_lt_of_le (hd d hdst) h.cap)))
   refine ⟨_, _, hn.put hd ?_, hK⟩
   refine Rep.slT (d, e, i.size) _ ti (if_pos rfl) (chunk_length _ _ _) (fun q el hq => ?_) (fun q el j d' hq hj => ?_)
   ·have hq1 : q < len := by have := (List.getElem?_eq_some_iff.1 hq).1; rwa [chunk_length] at this
    have : (q + 1) * i.size ≤ len * i.size := Nat.mul_le_mul_right _ hq1
    rw [Nat.succ_mul] at this
    rw [chunk_get _ _ _ _ _ hq]
    simp [ti]; omega
   ·rw [chunk_get _ _ _ _ _ hq, List.getElem?_take] at hj
    split at hj
    ·rw [List.getElem?_drop] at hj
     obtain ⟨u, h1, h2⟩ := repf _ _ hj
     refine ⟨u, by simp only [ti]; rw [Array.getElem?_toList]; exact h1, h2.mono (fun _ _ h => h) (fun b k hFk => ?_)⟩
     exact World.cell?_of_block (a := ⟨b, k, none⟩) (heap_alloc_old w _ b (hs.core.frz.1 b k hFk))
    ·cases hj
  ·exact hv.elim
 ·exact hv.elim
theorem storeVar_run {t : TypeId} {i : TypeInfo} {b o : Nat} {cur : Array Value} {e : TypeId} {v : Value} (hi : P.info? t = some i) (hsz : v.cells.size = i.size) (hcur : w.heap[b]? = some (.cells cur e (0, 0))) (hfit : o + v.cells.size ≤ cur.size)
    (hone : ∀ u ∈ v.cells.toList, u.oneCell' = true) : (storeVar t ⟨b, o, none⟩ v).run P w = .ok () (w.setRow b (cur.toList.take o ++ v.cells.toList ++ cur.toList.drop (o + v.cells.toList.length)).toArray) := by
 have := run_storeCells_at P b o e v.cells.toList 0 cur w hcur (by simpa using hfit) hone
 simp only [Nat.add_zero] at this
 simp [storeVar, sizeOf, typeInfo, hi, hsz, this]
theorem so_store (h : SR w0 W F0 V N g S a w) {o : Oper} {sz : Nat} {x v : Operand} {Q : Exit → Act → World → Prop} (hc : compOp P o = some (.store sz x v)) (hdn : o.dst = none) (hv : vstep P (.store sz x v) o.dst S K) :
    o.wp P a w (fun a' w' => ∃ g' S', SR w0 W F0 V N g' S' a' w' ∧ K S') Q := by
 obtain ⟨t, i, ho, hi, rfl⟩ := comp_store hc
 have put : ∀ u : Value, a.put o.dst u = a := fun u => by rw [hdn]; rfl
 simp only [vstep] at hv
 split at hv
 ·rename_i bo off d hx hvv
  split at hv
  ·rename_i cs ds hb hcl
   obtain ⟨h1, h2, hK⟩ := hv
   obtain ⟨b, k, hp, hμ, hob⟩ := (h.core.look hx).ptr_inv
   obtain ⟨b', k', vs, e, q1, q2, q3, q4⟩ := h.core.box bo cs hb
   replace q2 := q2.cells hob
   rw [hμ] at q1; injection q1 with q1; injection q1 with q1 q1'; subst q1; subst q1'
   obtain ⟨c1, c2, c3, c4⟩ := cl_sound hcl (h.core.look hvv)
   have hfit : k + off + (a.eval v).cells.size ≤ vs.size := by omega
   have hone : ∀ u ∈ (a.eval v).cells.toList, u.oneCell' = true := fun u hu => by
    obtain ⟨q, hq⟩ := List.getElem?_of_mem hu
    exact c4 q u (by simpa using hq)
   have hst := storeVar_run (P := P) (t := t) hi (by omega) q2 hfit hone
   have hrun : (execOp a.eval o).run P w = .ok .skip (w.setRow b (vs.toList.take (k + off) ++ (a.eval v).cells.toList ++ vs.toList.drop (k + off + (a.eval v).cells.toList.length)).toArray) := by
    simp only [execOp, ho, Instr.storeAt, hp, Instr.sureAddr, Sem.run_bind, Sem.run_pure, Result.andThen_ok, hst]
   unfold Oper.wp
   rw [hrun, Oper.upon_skip, put]
   have hcore := h.core.setBox hb hμ (ds := ds) (us := (a.eval v).cells.toList) (off := off) (by omega) q2 (by simpa using c1) (fun q d' u hq hu => c2 q d' u hq (by simpa using hu)) (by omega) hob
   refine ⟨g, _, h.later hcore ⟨fun o' c b' k' q hb' hμ' hq => ?_, h.wr.tag⟩ (Keep.setRow (W := fun b' k' => b' = b ∧ k ≤ k' ∧ k' < k + cs.length) q2 ?_ (fun k' hk' => ?_)) (fun b' k' hlt hW => ?_) (fun _ _ h => h) (fun _ _ h => .inl h) (fun t' ti2 _ hti2 => ⟨ti2, hti2, rfl⟩), hK⟩
   ·rw [setBox_box] at hb'
    split at hb'
    ·rename_i he; subst he
     injection hb' with hb'; subst hb'
     rw [putCells_length] at hq
     exact h.wr.box o' cs b' k' q hb hμ' hq
    ·exact h.wr.box o' c b' k' q hb' hμ' hq
   ·simp; omega
   ·have hk2 : ¬ (k ≤ k' ∧ k' < k + cs.length) := fun hh => hk' ⟨rfl, hh⟩
    rw [← putCells_row vs.toList (k + off) (a.eval v).cells.toList (by simp; omega)]
    simp only [List.getElem?_toArray]
    rw [putCells_get _ _ _ (by simp; omega), if_neg (by simp; omega)]
    simp
   ·obtain ⟨rfl, hk1, hk2⟩ := hW
    rcases h.wr.box bo cs b' k (k' - k) hb hμ (by omega) with h3 | h3
    ·omega
    ·rwa [show k + (k' - k) = k' by omega] at h3
  ·exact hv.elim
 ·rename_i tg j cs off d hx hvv
  split at hv
  ·rename_i ds hcl
   split at hv
   ·rename_i fs hfs
    obtain ⟨ht, h1, h2, h3, hK⟩ := hv
    have hlive : ∀ t' ∈ tagsL ds, (∃ x, S.tag t' = some x) ∧ t' ≠ tg := fun t' ht' => by
     have := List.all_eq_true.1 h3 t' ht'
     simp only [Bool.and_eq_true, decide_eq_true_eq] at this
     exact ⟨Option.isSome_iff_exists.1 this.1, this.2⟩
    have hlive1 : ∀ t' ∈ tagsL ds, ∃ x, S.tag t' = some x := fun t' ht' => (hlive t' ht').1
    have hr := h.core.look hx
    obtain ⟨c1, c2, c3, c4⟩ := cl_sound hcl (h.core.look hvv)
    obtain ⟨l1, r1⟩ := frzL_sound h.core hlive1 ds hfs (fun t ht => ht)
    generalize hpx : a.eval x = px at hr
    cases hr with
    | fz _ _ hr => cases hr
    | rpT _ _ _ _ ti hti hj hl b n c hv' hr =>
     have hs := h.share (tagsL ds)
     have htag : (S.share (tagsL ds)).tag tg = some true := by
      rw [share_tag, ht]
      have : ¬ tg ∈ tagsL ds := fun hm => (hlive tg hm).2 rfl
      simp [this]
     have hone : ∀ u ∈ (a.eval v).cells.toList, u.oneCell' = true := fun u hu => by
      obtain ⟨q, hq⟩ := List.getElem?_of_mem hu
      exact c4 q u (by simpa using hq)
     obtain ⟨cur, e, hcur, hfit, hcore⟩ := hs.core.setElem (i := j) (off := off) (ds := fs) (us := (a.eval v).cells.toList) htag hti hv' hj (by omega) (by simp; omega) hone (fun q d' u hq hu => by
      have hq1 : q < ds.length := by rw [← l1]; exact (List.getElem?_eq_some_iff.1 hq).1
      exact r1 q d' u hq _ (List.getElem?_eq_getElem hq1) (c2 q _ u (List.getElem?_eq_getElem hq1) (by simpa using hu)))
     have hst := storeVar_run (P := P) (t := t) (v := a.eval v) hi (by omega) hcur (by simpa using hfit) hone
     have hrun : (execOp a.eval o).run P w = .ok .skip (w.setRow b (cur.toList.take (j * ti.sz + off) ++ (a.eval v).cells.toList ++ cur.toList.drop (j * ti.sz + off + (a.eval v).cells.toList.length)).toArray) := by
      simp only [execOp, ho, Instr.storeAt, hpx, Instr.sureAddr, Sem.run_bind, Sem.run_pure, Result.andThen_ok, hst]
     unfold Oper.wp
     rw [hrun, Oper.upon_skip, put]
     have hob : ti.v.ownBlock = some b := by rw [hv']; rfl
     refine ⟨_, _, hs.later hcore ⟨fun o' c' b' k' q hb' hμ' hq => ?_, fun t' x' ti2 b' ht' hti2 hb' => ?_⟩ (Keep.setRow (W := fun b' _ => b' = b) hcur ?_ (fun k' hk' => absurd rfl hk')) (fun b' k' hlt hW => ?_) (fun _ _ h => h) (fun _ _ h => .inl h) (fun t' ti2 _ hti2 => by
      simp only at hti2
      split at hti2
      ·rename_i he; subst he; injection hti2 with hti2; subst hti2; exact ⟨ti, hti, rfl⟩
      ·exact ⟨ti2, hti2, rfl⟩), hK⟩
     ·rw [upd_box] at hb'
      obtain ⟨c0, h4, rfl⟩ := Option.map_eq_some_iff.1 hb'
      exact hs.wr.box o' c0 b' k' q h4 hμ' (by simpa using hq)
     ·have ht2 : (S.share (tagsL ds)).tag t' = some x' := ht'
      simp only at hti2
      split at hti2
      ·rename_i he; subst he
       injection hti2 with hti2; subst hti2
       exact hs.wr.tag t' x' ti b' ht2 hti hb'
      ·exact hs.wr.tag t' x' ti2 b' ht2 hti2 hb'
     ·simp; simp at hfit; omega
     ·subst hW
      rcases hs.wr.tag tg true ti b' htag hti hob with h4 | h4
      ·omega
      ·exact h4 k'
   ·exact hv.elim
  ·exact hv.elim
 ·exact hv.elim
end Go.Vm

namespace Go.Vm
open Go.RowKit
set_option linter.unusedVariables false
variable {P : Program} {w0 w w' : World} {W F0 : Reg} {V : Pins} {N : Nat} {g g' : Gh} {S : St} {a : Act} {tm : Array Value} {K : St → Prop}
theorem lkp_mem {α β : Type} [DecidableEq α] {t : α} {x : β} : ∀ {l : List (α × β)}, lkp t l = some x → (t, x) ∈ l
 | [], h => by simp [lkp] at h
 | (k, v) :: l, h => by
  simp only [lkp] at h
  split at h
  ·rename_i he; subst he; injection h with h; subst h; simp
  ·exact List.mem_cons_of_mem _ (lkp_mem h)
theorem lkp_of_mem {α β : Type} [DecidableEq α] {t : α} {x : β} : ∀ {l : List (α × β)}, (l.map (·.1)).Nodup → (t, x) ∈ l → lkp t l = some x
 | [], _, h => by simp at h
 | (k, v) :: l, hn, h => by
  simp only [List.map_cons, List.nodup_cons] at hn
  simp only [lkp]
  rcases List.mem_cons.1 h with h | h
  ·injection h with h1 h2; subst h1; subst h2; rw [if_pos rfl]
  ·have : t ≠ k := fun e => hn.1 (by rw [← e]; exact List.mem_map.2 ⟨(t, x), h, rfl⟩)
   rw [if_neg this]; exact lkp_of_mem hn.2 h
theorem mem_swap {α β : Type} {l : List (α × β)} {x : α} {y : β} : (y, x) ∈ swap l ↔ (x, y) ∈ l := by
 unfold swap
 rw [List.mem_map]
 constructor
 ·rintro ⟨⟨a, b⟩, h1, h2⟩; injection h2 with h2 h3; simp only at h2 h3; subst h2; subst h3; exact h1
 ·intro h; exact ⟨(x, y), h, rfl⟩
theorem swap_fst {α β : Type} (l : List (α × β)) : (swap l).map (·.1) = l.map (·.2) := by simp [swap, Function.comp_def]
theorem swap_snd {α β : Type} (l : List (α × β)) : (swap l).map (·.2) = l.map (·.1) := by simp [swap, Function.comp_def]
theorem nodup_snd {α β : Type} {l : List (α × β)} {x x' : α} {y : β} (h : (l.map (·.2)).Nodup) (h1 : (x, y) ∈ l) (h2 : (x', y) ∈ l) : x = x' := by
 induction l with
 | nil => simp at h1
 | cons p l ih =>
  simp only [List.map_cons, List.nodup_cons] at h
  rcases List.mem_cons.1 h1 with e1 | e1 <;> rcases List.mem_cons.1 h2 with e2 | e2
  ·rw [← e1] at e2; injection e2 with e2 _; exact e2.symm
  ·exact absurd (List.mem_map.2 ⟨_, e2, by rw [← e1]⟩) h.1
  ·exact absurd (List.mem_map.2 ⟨_, e1, by rw [← e2]⟩) h.1
  ·exact ih h.2 e1 e2
theorem nodup_fst {α β : Type} {l : List (α × β)} {x : α} {y y' : β} (h : (l.map (·.1)).Nodup) (h1 : (x, y) ∈ l) (h2 : (x, y') ∈ l) : y = y' := by
 have e1 := mem_swap.2 h1
 have e2 := mem_swap.2 h2
 exact nodup_snd (l := swap l) (by rw [swap_snd]; exact h) e1 e2
structure LendOk (L : Lend) : Prop where
 far : ∀ o o', (o, o') ∈ L.bs → 1000000 ≤ o' % mapB ∧ o / mapB = o' / mapB
 tag : ∀ t t', (t, t') ∈ L.ts → t.1 ≤ 999998 ∧ t.2 = t'.2 ∧ t'.1 ≤ 999998
 nb : ∀ o' o, (o', o) ∈ L.nb → o' % mapB ≤ 999998 ∧ o % mapB ≤ 999998 ∧ o' / mapB = o / mapB
 nt : ∀ t' t, (t', t) ∈ L.nt → t'.1 ≤ 999998 ∧ t.1 ≤ 999998 ∧ t'.2 = t.2
 b2 : (L.bk.map (·.2)).Nodup
 b1 : (L.bk.map (·.1)).Nodup
 t2 : (L.tk.map (·.2)).Nodup
 t1 : (L.tk.map (·.1)).Nodup
theorem lend_ok {L : Lend} (h : L.ok = true) : LendOk L := by
 simp only [Lend.ok, Bool.and_eq_true, List.all_eq_true, decide_eq_true_eq, Nat.ble_eq] at h
 obtain ⟨⟨⟨⟨⟨⟨⟨h1, h2⟩, h3⟩, h4⟩, h5⟩, h6⟩, h7⟩, h8⟩ := h
 exact ⟨fun o o' hm => ⟨(h1 _ hm).1, (h1 _ hm).2⟩, fun t t' hm => ⟨(h2 _ hm).1.1, (h2 _ hm).1.2, (h2 _ hm).2⟩, fun o' o hm => ⟨(h3 _ hm).1.1, (h3 _ hm).1.2, (h3 _ hm).2⟩, fun t' t hm => ⟨(h4 _ hm).1.1, (h4 _ hm).1.2, (h4 _ hm).2⟩, h5, h6, h7, h8⟩
section
variable {L : Lend}
theorem LendOk.bs1 (h : LendOk L) : (L.bs.map (·.1)).Nodup := by
 have := h.b2
 simp only [Lend.bk, List.map_append, swap_snd] at this
 exact (List.nodup_append.1 this).1
theorem LendOk.bs2 (h : LendOk L) : (L.bs.map (·.2)).Nodup := by
 have := h.b1
 simp only [Lend.bk, List.map_append, swap_fst] at this
 exact (List.nodup_append.1 this).1
theorem LendOk.ts1 (h : LendOk L) : (L.ts.map (·.1)).Nodup := by
 have := h.t2
 simp only [Lend.tk, List.map_append, swap_snd] at this
 exact (List.nodup_append.1 this).1
theorem LendOk.ts2 (h : LendOk L) : (L.ts.map (·.2)).Nodup := by
 have := h.t1
 simp only [Lend.tk, List.map_append, swap_fst] at this
 exact (List.nodup_append.1 this).1
theorem LendOk.nb2 (h : LendOk L) : (L.nb.map (·.2)).Nodup := by
 have := h.b2
 simp only [Lend.bk, List.map_append] at this
 exact (List.nodup_append.1 this).2.1
theorem LendOk.apart (h : LendOk L) {o o' p : Nat} (h1 : (o, o') ∈ L.bs) (h2 : (p, o) ∈ L.nb) : False := by
 have := h.b2
 simp only [Lend.bk, List.map_append, swap_snd] at this
 exact (List.nodup_append.1 this).2.2 o (List.mem_map.2 ⟨_, h1, rfl⟩) o (List.mem_map.2 ⟨_, h2, rfl⟩) rfl
theorem mem_bk {o' o : Nat} : (o', o) ∈ L.bk ↔ (o, o') ∈ L.bs ∨ (o', o) ∈ L.nb := by
 unfold Lend.bk; rw [List.mem_append, mem_swap]
theorem LendOk.kind (h : LendOk L) {o o' : Nat} (hm : (o', o) ∈ L.bk) : o' / mapB = o / mapB := by
 rcases mem_bk.1 hm with hm | hm
 ·exact (h.far _ _ hm).2.symm
 ·exact (h.nb _ _ hm).2.2
theorem mem_tk {o' o : Tag} : (o', o) ∈ L.tk ↔ (o, o') ∈ L.ts ∨ (o', o) ∈ L.nt := by
 unfold Lend.tk; rw [List.mem_append, mem_swap]
def lentW (g : Gh) (S : St) (L : Lend) : Reg := fun b k =>
 (∃ o o' cs k0, (o, o') ∈ L.bs ∧ S.box o = some cs ∧ g.μ o = some (b, k0) ∧ k0 ≤ k ∧ k < k0 + cs.length) ∨ (∃ t t' ti, (t, t') ∈ L.ts ∧ g.τ t = some ti ∧ ti.v.ownBlock = some b)
def lentG (g : Gh) (L : Lend) : Gh := ⟨fun o' => (lkp o' (swap L.bs)).bind g.μ, fun t' => (lkp t' (swap L.ts)).bind g.τ, g.F⟩
theorem lentG_μ (hL : LendOk L) {o o' : Nat} (h : (o, o') ∈ L.bs) : (lentG g L).μ o' = g.μ o := by
 simp only [lentG, lkp_of_mem (by rw [swap_fst]; exact hL.bs2) (mem_swap.2 h), Option.bind_some]
theorem lentG_τ (hL : LendOk L) {o o' : Tag} (h : (o, o') ∈ L.ts) : (lentG g L).τ o' = g.τ o := by
 simp only [lentG, lkp_of_mem (by rw [swap_fst]; exact hL.ts2) (mem_swap.2 h), Option.bind_some]
theorem lent_core (h : Core g S tm w) (hL : LendOk L) {hin : List (Nat × List D)} (hin_ : seenH S L.bs L.ts L.bs = some hin) (hts : ∀ t t', (t, t') ∈ L.ts → S.tag t = some true) {as : List D} {vs : Array Value} (hr : ∀ (i : Nat) (d : D) (v : Value), as[i]? = some d → vs[i]? = some v → Rep g w d v) (hsz : vs.size = as.length) :
    Core (lentG g L) ⟨num 0 (renL (fwd L.bs) (fwd L.ts) as), hin, L.ts.map fun x => (x.2, true)⟩ vs w := by
 have rep : ∀ {d : D} {v : Value}, Rep g w d v → Rep (lentG g L) w (d.ren (fwd L.bs) (fwd L.ts)) v := fun hd =>
  hd.ren (fun o o' b h1 h2 => by rw [lentG_μ hL (lkp_mem h1)]; exact h2) (fun o o' h1 => (hL.far _ _ (lkp_mem h1)).2) (fun t t' ti h1 h2 => by rw [lentG_τ hL (lkp_mem h1)]; exact h2) (fun _ _ h => h) (fun _ _ _ => rfl)
 have unbox : ∀ o' cs', lkp o' hin = some cs' → ∃ o cs, (o, o') ∈ L.bs ∧ S.box o = some cs ∧ cs' = cs.map (D.ren (fwd L.bs) (fwd L.ts)) := fun o' cs' hb => by
  obtain ⟨o, cs, h1, h2, h3⟩ := seenH_at hin_ o' cs' hb
  exact ⟨o, cs, h1, h2, by rw [h3, renL_map]⟩
 have untag : ∀ t' x, lkp t' (L.ts.map fun x => (x.2, true)) = some x → x = true ∧ ∃ t, (t, t') ∈ L.ts := fun t' x hx => by
  obtain ⟨⟨t, t2⟩, h1, h2⟩ := List.mem_map.1 (lkp_mem hx)
  injection h2 with h2 h3; simp only at h2 h3; subst h2
  exact ⟨h3.symm, t, h1⟩
 refine ⟨fun t d hd => ?_, fun o' cs' hb => ?_, fun o' cs' b k i hb hμ hi => ?_, fun o1' o2' c1' c2' b k k' hb1 hb2 hμ1 hμ2 i i' hi hi' he => ?_, fun t' x ht => ?_, fun t' x ti o' cs' b k ht hti hb hμ => ?_, fun t1' x1 ti1 t2' x2 ti2 b h1 h2 h3 h4 h5 h6 => ?_, h.frz⟩
 ·obtain ⟨-, h2⟩ := num_lkp hd
  rw [Nat.sub_zero, renL_map, List.getElem?_map] at h2
  obtain ⟨d0, h3, rfl⟩ := Option.map_eq_some_iff.1 h2
  have ht : t < vs.size := by rw [hsz]; exact (List.getElem?_eq_some_iff.1 h3).1
  have := hr t d0 vs[t] h3 (Array.getElem?_eq_getElem ht)
  rw [Array.getD_eq_getD_getElem?, Array.getElem?_eq_getElem ht]
  exact rep this
 ·obtain ⟨o, cs, h1, h2, rfl⟩ := unbox o' cs' hb
  obtain ⟨b, k, ws, e, h3, h4, h5, h6⟩ := h.box o cs h2
  refine ⟨b, k, ws, e, by rw [lentG_μ hL h1]; exact h3, h4.kind (hL.far _ _ h1).2, by simpa using h5, fun i d u hd hu => ?_⟩
  rw [List.getElem?_map] at hd
  obtain ⟨d0, h7, rfl⟩ := Option.map_eq_some_iff.1 hd
  exact rep (h6 i d0 u h7 hu)
 ·obtain ⟨o, cs, h1, h2, rfl⟩ := unbox o' cs' hb
  rw [lentG_μ hL h1] at hμ
  exact h.boxF o cs b k i h2 hμ (by simpa using hi)
 ·obtain ⟨o1, c1, e1, f1, rfl⟩ := unbox o1' c1' hb1
  obtain ⟨o2, c2, e2, f2, rfl⟩ := unbox o2' c2' hb2
  rw [lentG_μ hL e1] at hμ1
  rw [lentG_μ hL e2] at hμ2
  have := h.boxI o1 o2 c1 c2 b k k' f1 f2 hμ1 hμ2 i i' (by simpa using hi) (by simpa using hi') he
  subst this
  exact nodup_fst hL.bs1 e1 e2
 ·obtain ⟨rfl, t, h1⟩ := untag t' x ht
  obtain ⟨ti, h2, h3⟩ := h.tag t true (hts t t' h1)
  refine ⟨ti, by rw [lentG_τ hL h1]; exact h2, ?_, h3.own, h3.one, h3.out, h3.inn⟩
  rw [← (hL.tag t t' h1).2.1]; exact h3.ty
 ·obtain ⟨rfl, t, h1⟩ := untag t' x ht
  obtain ⟨o, cs, e1, f1, rfl⟩ := unbox o' cs' hb
  rw [lentG_τ hL h1] at hti
  rw [lentG_μ hL e1] at hμ
  exact h.tagB t true ti o cs b k (hts t t' h1) hti f1 hμ
 ·obtain ⟨rfl, t1, e1⟩ := untag t1' x1 h1
  obtain ⟨rfl, t2, e2⟩ := untag t2' x2 h3
  rw [lentG_τ hL e1] at h2
  rw [lentG_τ hL e2] at h4
  have := h.tagI t1 true ti1 t2 true ti2 b (hts _ _ e1) h2 (hts _ _ e2) h4 h5 h6
  subst this
  exact nodup_fst hL.ts1 e1 e2
theorem lent_wr (h : Core g S tm w) (hL : LendOk L) {hin : List (Nat × List D)} (hin_ : seenH S L.bs L.ts L.bs = some hin) (env : List (Nat × D)) (base : Nat) : Wr base (lentW g S L) (lentG g L) ⟨env, hin, L.ts.map fun x => (x.2, true)⟩ := by
 refine ⟨fun o' cs' b k i hb hμ hi => ?_, fun t' x ti b ht hti hb => ?_⟩
 ·obtain ⟨o, cs, h1, h2, h3⟩ := seenH_at hin_ o' cs' hb
  rw [lentG_μ hL h1] at hμ
  rw [h3, renL_map, List.length_map] at hi
  exact .inr (.inl ⟨o, o', cs, k, h1, h2, hμ, by omega, by omega⟩)
 ·obtain ⟨⟨t, t2⟩, h1, h2⟩ := List.mem_map.1 (lkp_mem ht)
  injection h2 with h2 h3; simp only at h2 h3; subst h2
  rw [lentG_τ hL h1] at hti
  exact .inr fun i => .inr ⟨t, t2, ti, h1, hti, hb⟩
theorem lent_all (h : Core g S tm w) {b : Nat} (hall : ∀ i, lentW g S L b i) : ∃ t t' ti, (t, t') ∈ L.ts ∧ g.τ t = some ti ∧ ti.v.ownBlock = some b := by
 have big : ∃ n, ∀ o cs k0, S.box o = some cs → g.μ o = some (b, k0) → k0 + cs.length ≤ n := by
  cases hb : w.heap[b]? with
  | none => exact ⟨0, fun o cs k0 h1 h2 => by
      obtain ⟨b', k', vs, e, q1, q2, _⟩ := h.box o cs h1
      rw [h2] at q1; injection q1 with q1; injection q1 with q1 _; subst q1
      have := q2.lt
      rw [Array.getElem?_eq_getElem this] at hb; cases hb⟩
  | some ob =>
   cases ob with
   | cells vs e f => exact ⟨vs.size, fun o cs k0 h1 h2 => by
       obtain ⟨b', k', vs', e', q1, q2, q3, _⟩ := h.box o cs h1
       rw [h2] at q1; injection q1 with q1; injection q1 with q1 q1'; subst q1; subst q1'
       have ho : o < mapB := Classical.byContradiction fun hn => by
        obtain ⟨-, x, h5, h6, -⟩ := q2.isMap hn
        rw [hb] at h5; injection h5 with h5; subst h5; cases h6
       replace q2 := q2.cells ho
       rw [hb] at q2; injection q2 with q2; injection q2 with q2; subst q2
       exact q3⟩
   | _ => exact ⟨4, fun o cs k0 h1 h2 => by
       obtain ⟨b', k', vs, e, q1, q2, q3, _⟩ := h.box o cs h1
       rw [h2] at q1; injection q1 with q1; injection q1 with q1 q1'; subst q1; subst q1'
       by_cases ho : o < mapB
       ·have := q2.cells ho
        rw [hb] at this; cases this
       ·obtain ⟨⟨rfl, -⟩, x, h5, h6, h7⟩ := q2.isMap ho
        have := virt_size h7
        omega⟩
 obtain ⟨n, hn⟩ := big
 rcases hall n with ⟨o, o', cs, k0, h1, h2, h3, h4, h5⟩ | h1
 ·have := hn o cs k0 h2 h3; omega
 ·exact h1
theorem SR.back (h : SR w0 W F0 V N g S a w) (hL : LendOk L) {hin : List (Nat × List D)} (hin_ : seenH S L.bs L.ts L.bs = some hin) (hts : ∀ t t', (t, t') ∈ L.ts → S.tag t = some true) {r : D} {v : Value} {hp : List (Nat × List D)} {tg : List (Tag × Bool)}
    (hc : Core g' ⟨[(0, r)], hp, tg⟩ #[v] w') (hw : Wr w.heap.size (lentW g S L) g' ⟨[(0, r)], hp, tg⟩) (hk : Keep (lentW g S L) w w') (hne : ∀ o cs, lkp o hp = some cs → cs ≠ []) (hF1 : ∀ b k, g.F b k → g'.F b k)
    (hF2 : ∀ b k, g'.F b k → g.F b k ∨ w.heap.size ≤ b ∨ lentW g S L b k) (hpin : ∀ o b, 999999 ≤ o % mapB → g'.μ o = some b → (lentG g L).μ o = some b) :
    ∃ g2, SR w0 W F0 V N g2 (S.back L hp tg) a w' ∧ Rep g2 w' (r.ren (fwd L.bk) (fwd L.tk)) v := by
 let g2 : Gh := ⟨fun o => match lkp o (swap L.nb) with | some o' => g'.μ o' | none => g.μ o, fun t => match lkp t (swap L.tk) with | some t' => g'.τ t' | none => g.τ t, g'.F⟩
 have e1 : ∀ o' o, (o', o) ∈ L.nb → g2.μ o = g'.μ o' := fun o' o hm => by
  simp only [g2, lkp_of_mem (by rw [swap_fst]; exact hL.nb2) (mem_swap.2 hm)]
 have e2 : ∀ o, (∀ o', (o', o) ∉ L.nb) → g2.μ o = g.μ o := fun o hm => by
  have : lkp o (swap L.nb) = none := by
   cases hl : lkp o (swap L.nb) with
   | none => rfl
   | some o' => exact absurd (mem_swap.1 (lkp_mem hl)) (hm o')
  simp only [g2, this]
 have e3 : ∀ t' t, (t', t) ∈ L.tk → g2.τ t = g'.τ t' := fun t' t hm => by
  simp only [g2, lkp_of_mem (by rw [swap_fst]; exact hL.t2) (mem_swap.2 hm)]
 have e4 : ∀ t, t ∉ L.tk.map (·.2) → g2.τ t = g.τ t := fun t hm => by
  have : lkp t (swap L.tk) = none := by
   cases hl : lkp t (swap L.tk) with
   | none => rfl
   | some t' => exact absurd (List.mem_map.2 ⟨_, mem_swap.1 (lkp_mem hl), rfl⟩) hm
  simp only [g2, this]
 -- a place there is the place here
 have place : ∀ o' o bk, (o', o) ∈ L.bk → g'.μ o' = some bk → g2.μ o = some bk := fun o' o bk hm hb => by
  rcases mem_bk.1 hm with hm | hm
  ·have := hpin o' bk (by have := (hL.far _ _ hm).1; omega) hb
   rw [lentG_μ hL hm] at this
   rw [e2 o (fun p hp => hL.apart hm hp)]; exact this
  ·rw [e1 _ _ hm]; exact hb
 have repT : ∀ {d : D} {v : Value}, Rep g' w' d v → Rep g2 w' (d.ren (fwd L.bk) (fwd L.tk)) v := fun hd =>
  hd.ren (fun o' o b h1 h2 => place o' o b (lkp_mem h1) h2) (fun o' o h1 => hL.kind (lkp_mem h1)) (fun t' t ti h1 h2 => by rw [e3 _ _ (lkp_mem h1)]; exact h2) (fun _ _ h => h) (fun _ _ _ => rfl)
 have notF : ∀ b k, g.F b k → ¬ lentW g S L b k := fun b k hF hW => by
  rcases hW with ⟨o, o', cs, k0, h1, h2, h3, h4, h5⟩ | ⟨t, t', ti, h1, h2, h3⟩
  ·exact h.core.boxF o cs b k0 (k - k0) h2 h3 (by omega) (by rw [show k0 + (k - k0) = k by omega]; exact hF)
  ·obtain ⟨ti', q1, q2⟩ := h.core.tag t true (hts _ _ h1)
   rw [h2] at q1; injection q1 with q1; subst q1
   have := (q2.out b k h3 hF).1; cases this
 have cellF : ∀ b k, g.F b k → w'.cell? ⟨b, k, none⟩ = w.cell? ⟨b, k, none⟩ := fun b k hF => hk.cell (h.core.frz.1 b k hF) (notF b k hF)
 have lat : Later g g2 w w' (notIn (L.nb.map (·.2))) (notIn (L.tk.map (·.2))) := ⟨fun o ho b hb => by
  rw [notIn_iff] at ho
  rw [e2 o (fun o' hm => ho (List.mem_map.2 ⟨_, hm, rfl⟩))]; exact hb, fun t ht ti hti => by
  rw [notIn_iff] at ht
  rw [e4 t ht]; exact hti, hF1, cellF⟩
 -- boxes: come back, or here all the time
 have unbox : ∀ o cs, (S.back L hp tg).box o = some cs → (∃ o' cs', (o', o) ∈ L.bk ∧ lkp o' hp = some cs' ∧ cs = cs'.map (D.ren (fwd L.bk) (fwd L.tk))) ∨
     (o ∉ L.bk.map (·.2) ∧ ∃ c0, S.box o = some c0 ∧ cs = c0.map (D.keep (notIn (L.nb.map (·.2))) (notIn (L.tk.map (·.2))))) := fun o cs hb => by
  rw [back_box] at hb
  cases hl : lkp o (backH hp L.bk L.tk L.bk) with
  | some c =>
   rw [hl] at hb
   simp only [Option.some_or, Option.some.injEq] at hb; subst hb
   obtain ⟨o', cs', h1, h2, h3⟩ := backH_at hl
   exact .inl ⟨o', cs', h1, h2, by rw [h3, renL_map]⟩
  | none =>
   rw [hl] at hb
   simp only [Option.none_or] at hb
   split at hb
   ·rename_i hn
    obtain ⟨c0, h1, h2⟩ := Option.map_eq_some_iff.1 hb
    exact .inr ⟨notIn_iff.1 hn, c0, h1, h2.symm⟩
   ·cases hb
 have untag : ∀ t x, (S.back L hp tg).tag t = some x → (∃ t', (t', t) ∈ L.tk ∧ lkp t' tg = some x) ∨ (t ∉ L.tk.map (·.2) ∧ S.tag t = some x) := fun t x ht => by
  rw [back_tag] at ht
  cases hl : lkp t (backT tg L.tk) with
  | some c =>
   rw [hl] at ht
   simp only [Option.some_or, Option.some.injEq] at ht; subst ht
   exact .inl (backT_at hl)
  | none =>
   rw [hl] at ht
   simp only [Option.none_or] at ht
   split at ht
   ·rename_i hn; exact .inr ⟨notIn_iff.1 hn, ht⟩
   ·cases ht
 have oldμ : ∀ o, o ∉ L.bk.map (·.2) → g2.μ o = g.μ o := fun o ho => e2 o (fun o' hm => ho (List.mem_map.2 ⟨_, mem_bk.2 (.inr hm), rfl⟩))
 have newμ : ∀ o' o cs' bk, (o', o) ∈ L.bk → lkp o' hp = some cs' → g2.μ o = some bk → g'.μ o' = some bk := fun o' o cs' bk hm hl hb => by
  obtain ⟨b', k', vs, e, q1, _⟩ := hc.box o' cs' hl
  rw [place o' o _ hm q1] at hb
  rw [q1, hb]
 -- a cell of a box that stayed is not lent
 have apartB : ∀ o c0 b k i, o ∉ L.bk.map (·.2) → S.box o = some c0 → g.μ o = some (b, k) → i < c0.length → ¬ lentW g S L b (k + i) := fun o c0 b k i ho hb hμ hi hW => by
  rcases hW with ⟨p, p', cs, k0, h1, h2, h3, h4, h5⟩ | ⟨t, t', ti, h1, h2, h3⟩
  ·have := h.core.boxI o p c0 cs b k k0 hb h2 hμ h3 i (k + i - k0) hi (by omega) (by omega)
   subst this
   exact ho (List.mem_map.2 ⟨_, mem_bk.2 (.inl h1), rfl⟩)
  ·exact h.core.tagB t true ti o c0 b k (hts _ _ h1) h2 hb hμ h3
 have apartT : ∀ t x ti b k, t ∉ L.tk.map (·.2) → S.tag t = some x → g.τ t = some ti → ti.v.ownBlock = some b → ¬ lentW g S L b k := fun t x ti b k ht hx hti hb hW => by
  rcases hW with ⟨p, p', cs, k0, h1, h2, h3, h4, h5⟩ | ⟨t2, t', ti2, h1, h2, h3⟩
  ·exact h.core.tagB t x ti p cs b k0 hx hti h2 h3 hb
  ·have := h.core.tagI t x ti t2 true ti2 b hx hti (hts _ _ h1) h2 hb h3
   subst this
   exact ht (List.mem_map.2 ⟨_, mem_tk.2 (.inl h1), rfl⟩)
 have blk : ∀ b (ob : Obj), (∀ k, ¬ lentW g S L b k) → w.heap[b]? = some ob → w'.heap[b]? = some ob := fun b ob hn hb => by
  rcases hk.block b ob hb with h1 | ⟨vs, vs', e, rfl, h2, h3, h4⟩ | ⟨-, h2, -⟩
  ·exact h1
  ·have : vs' = vs := Array.ext_getElem? (fun j => h4 j (hn j))
   rw [h2, this]
  ·exact absurd h2 (hn 0)
 have old_lt : ∀ o c0 b k, S.box o = some c0 → g.μ o = some (b, k) → b < w.heap.size := fun o c0 b k hb hμ => h.core.box_lt hb hμ
 have wrB : ∀ b k, lentW g S L b k → w0.heap.size ≤ b ∨ W b k := fun b k hW => by
  rcases hW with ⟨p, p', cs, k0, h1, h2, h3, h4, h5⟩ | ⟨t, t', ti, h1, h2, h3⟩
  ·have := h.wr.box p cs b k0 (k - k0) h2 h3 (by omega)
   rwa [show k0 + (k - k0) = k by omega] at this
  ·rcases h.wr.tag t true ti b (hts _ _ h1) h2 h3 with h4 | h4
   ·exact .inl h4
   ·exact .inr (h4 k)
 have hle := h.le
 have core : Core g2 (S.back L hp tg) a.tmps w' := by
  refine ⟨fun t d hd => ?_, fun o cs hb => ?_, fun o cs b k i hb hμ hi hFF => ?_, fun o1 o2 c1 c2 b k k' hb1 hb2 hμ1 hμ2 i i' hi hi' he => ?_, fun t x ht => ?_, fun t x ti o cs b k ht hti hb hμ => ?_, fun t1 x1 ti1 t2 x2 ti2 b h1 h2 h3 h4 h5 h6 => ?_, hc.frz⟩
  ·rw [back_get] at hd
   obtain ⟨d0, h1, rfl⟩ := Option.map_eq_some_iff.1 hd
   exact (h.core.env t d0 h1).keep lat
  ·rcases unbox o cs hb with ⟨o', cs', h1, h2, rfl⟩ | ⟨ho, c0, h1, rfl⟩
   ·obtain ⟨b, k, vs, e, q1, q2, q3, q4⟩ := hc.box o' cs' h2
    refine ⟨b, k, vs, e, place o' o _ h1 q1, q2.kind (hL.kind h1), by simpa using q3, fun i d u hd hu => ?_⟩
    rw [List.getElem?_map] at hd
    obtain ⟨d0, h7, rfl⟩ := Option.map_eq_some_iff.1 hd
    exact repT (q4 i d0 u h7 hu)
   ·obtain ⟨b, k, vs, e, q1, q2, q3, q4⟩ := h.core.box o c0 h1
    have key : ∃ vs', Blk w' o b k c0.length vs' e ∧ vs'.size = vs.size ∧ ∀ i, i < c0.length → vs'[k + i]? = vs[k + i]? := by
     by_cases hob : o < mapB
     ·rcases hk.block b _ (q2.cells hob) with h2 | ⟨ws, ws', e', h0, h2, h3, h4⟩ | ⟨h2, -⟩
      ·exact ⟨vs, .of h2 hob, rfl, fun _ _ => rfl⟩
      ·injection h0 with h0 h0'; subst h0; subst h0'
       exact ⟨ws', .of h2 hob, h3, fun i hi => h4 _ (apartB o c0 b k i ho h1 q1 hi)⟩
      ·cases h2
     ·obtain ⟨⟨hk0, hpos⟩, ob, h2, h3, h4⟩ := q2.isMap hob
      refine ⟨vs, q2.keep (fun ob2 h5 => ?_), rfl, fun _ _ => rfl⟩
      rw [h2] at h5; injection h5 with h5; subst h5
      rcases hk.block b _ h2 with h6 | ⟨ws, ws', e', rfl, -⟩ | ⟨-, h6, -⟩
      ·exact h6
      ·cases h3
      ·exact absurd h6 (by have := apartB o c0 b k 0 ho h1 q1 hpos; rwa [hk0] at this)
    obtain ⟨vs', h2, h3, h4⟩ := key
    refine ⟨b, k, vs', e, by rw [oldμ o ho]; exact q1, h2.keep (fun _ h => h), by simp only [List.length_map]; omega, fun i d u hd hu => ?_⟩
    rw [List.getElem?_map] at hd
    obtain ⟨d0, h7, rfl⟩ := Option.map_eq_some_iff.1 hd
    rw [h4 i (List.getElem?_eq_some_iff.1 h7).1] at hu
    exact (q4 i d0 u h7 hu).keep lat
  ·rcases unbox o cs hb with ⟨o', cs', h1, h2, rfl⟩ | ⟨ho, c0, h1, rfl⟩
   ·exact hc.boxF o' cs' b k i h2 (newμ o' o cs' _ h1 h2 hμ) (by simpa using hi) hFF
   ·rw [oldμ o ho] at hμ
    have hi : i < c0.length := by simpa using hi
    rcases hF2 b _ hFF with h3 | h3 | h3
    ·exact h.core.boxF o c0 b k i h1 hμ hi h3
    ·have := old_lt o c0 b k h1 hμ; omega
    ·exact apartB o c0 b k i ho h1 hμ hi h3
  ·have mix : ∀ o1 o2 cs' c0 b k k' i i', (∃ o', (o', o1) ∈ L.bk ∧ lkp o' hp = some cs') → g2.μ o1 = some (b, k) → o2 ∉ L.bk.map (·.2) → S.box o2 = some c0 → g2.μ o2 = some (b, k') → i < cs'.length → i' < c0.length → k + i = k' + i' → False := by
     rintro o1 o2 cs' c0 b k k' i i' ⟨o', h1, h2⟩ hμ1 ho h3 hμ2 hi hi' he
     rw [oldμ o2 ho] at hμ2
     rcases hw.box o' cs' b k i h2 (newμ o' o1 cs' _ h1 h2 hμ1) hi with h4 | h4
     ·have := old_lt o2 c0 b k' h3 hμ2; omega
     ·rw [he] at h4; exact apartB o2 c0 b k' i' ho h3 hμ2 hi' h4
   rcases unbox o1 c1 hb1 with ⟨o1', c1', h1, h2, rfl⟩ | ⟨ho1, d1, h1, rfl⟩ <;> rcases unbox o2 c2 hb2 with ⟨o2', c2', h3, h4, rfl⟩ | ⟨ho2, d2, h3, rfl⟩
   ·have := hc.boxI o1' o2' c1' c2' b k k' h2 h4 (newμ _ _ _ _ h1 h2 hμ1) (newμ _ _ _ _ h3 h4 hμ2) i i' (by simpa using hi) (by simpa using hi') he
    subst this
    exact nodup_fst hL.b1 h1 h3
   ·exact (mix o1 o2 c1' d2 b k k' i i' ⟨o1', h1, h2⟩ hμ1 ho2 h3 hμ2 (by simpa using hi) (by simpa using hi') he).elim
   ·exact (mix o2 o1 c2' d1 b k' k i' i ⟨o2', h3, h4⟩ hμ2 ho1 h1 hμ1 (by simpa using hi') (by simpa using hi) he.symm).elim
   ·rw [oldμ _ ho1] at hμ1
    rw [oldμ _ ho2] at hμ2
    exact h.core.boxI o1 o2 d1 d2 b k k' h1 h3 hμ1 hμ2 i i' (by simpa using hi) (by simpa using hi') he
  ·rcases untag t x ht with ⟨t', h1, h2⟩ | ⟨hn, h1⟩
   ·obtain ⟨ti, q1, q2⟩ := hc.tag t' x h2
    refine ⟨ti, by rw [e3 _ _ h1]; exact q1, ?_, q2.own, q2.one, q2.out, q2.inn⟩
    have : t'.2 = t.2 := by
     rcases mem_tk.1 h1 with h3 | h3
     ·exact (hL.tag _ _ h3).2.1.symm
     ·exact (hL.nt _ _ h3).2.2
    rw [← this]; exact q2.ty
   ·obtain ⟨ti, q1, q2⟩ := h.core.tag t x h1
    refine ⟨ti, by rw [e4 t hn]; exact q1, q2.ty, ?_, q2.one, fun b k hb hFF => ?_, fun b k hb hx hk' => hF1 _ _ (q2.inn b k hb hx hk')⟩
    ·refine ⟨q2.own.1, ?_⟩
     rcases q2.own.2 with h3 | ⟨gg, cap, cur, hv, hz, hh, rest⟩
     ·exact .inl h3
     ·exact .inr ⟨gg, cap, cur, hv, hz, blk gg _ (fun k => apartT t x ti gg k hn h1 q1 (by rw [hv]; rfl)) hh, rest⟩
    ·rcases hF2 b k hFF with h3 | h3 | h3
     ·exact q2.out b k hb h3
     ·have := h.core.own_lt h1 q1 hb; omega
     ·exact absurd h3 (apartT t x ti b k hn h1 q1 hb)
  ·have newT : ∀ t' ti b, lkp t' tg = some x → g'.τ t' = some ti → ti.v.ownBlock = some b → w.heap.size ≤ b ∨ ∃ p p' pi, (p, p') ∈ L.ts ∧ g.τ p = some pi ∧ pi.v.ownBlock = some b := fun t' ti b h2 h3 h4 => by
     rcases hw.tag t' x ti b h2 h3 h4 with h5 | h5
     ·exact .inl h5
     ·exact .inr (lent_all h.core h5)
   intro hown
   rcases untag t x ht with ⟨t', h1, h2⟩ | ⟨hn, h1⟩ <;> rcases unbox o cs hb with ⟨o', cs', h3, h4, rfl⟩ | ⟨ho, c0, h3, rfl⟩
   ·rw [e3 _ _ h1] at hti
    exact hc.tagB t' x ti o' cs' b k h2 hti h4 (newμ _ _ _ _ h3 h4 hμ) hown
   ·rw [e3 _ _ h1] at hti
    rw [oldμ o ho] at hμ
    rcases newT t' ti b h2 hti hown with h5 | ⟨p, p', pi, h5, h6, h7⟩
    ·have := old_lt o c0 b k h3 hμ; omega
    ·exact h.core.tagB p true pi o c0 b k (hts _ _ h5) h6 h3 hμ h7
   ·rw [e4 t hn] at hti
    have hlt := h.core.own_lt h1 hti hown
    have hpos : 0 < cs'.length := List.length_pos_iff.2 (hne o' cs' h4)
    rcases hw.box o' cs' b k 0 h4 (newμ _ _ _ _ h3 h4 hμ) hpos with h5 | h5
    ·omega
    ·exact apartT t x ti b _ hn h1 hti hown h5
   ·rw [e4 t hn] at hti
    rw [oldμ o ho] at hμ
    exact h.core.tagB t x ti o c0 b k h1 hti h3 hμ hown
  ·have mix : ∀ t1 x1 ti1 t2 x2 ti2 b, (∃ t', (t', t1) ∈ L.tk ∧ lkp t' tg = some x1) → g2.τ t1 = some ti1 → ti1.v.ownBlock = some b → t2 ∉ L.tk.map (·.2) → S.tag t2 = some x2 → g2.τ t2 = some ti2 → ti2.v.ownBlock = some b → False := by
     rintro t1 x1 ti1 t2 x2 ti2 b ⟨t', h1, h2⟩ h3 h4 hn h5 h6 h7
     rw [e3 _ _ h1] at h3
     rw [e4 t2 hn] at h6
     have := h.core.own_lt h5 h6 h7
     rcases hw.tag t' x1 ti1 b h2 h3 h4 with h8 | h8
     ·omega
     ·exact apartT t2 x2 ti2 b 0 hn h5 h6 h7 (h8 0)
   rcases untag t1 x1 h1 with ⟨t1', a1, a2⟩ | ⟨n1, a1⟩ <;> rcases untag t2 x2 h3 with ⟨t2', b1, b2⟩ | ⟨n2, b1⟩
   ·rw [e3 _ _ a1] at h2
    rw [e3 _ _ b1] at h4
    have := hc.tagI t1' x1 ti1 t2' x2 ti2 b a2 h2 b2 h4 h5 h6
    subst this
    exact nodup_fst hL.t1 a1 b1
   ·exact (mix t1 x1 ti1 t2 x2 ti2 b ⟨t1', a1, a2⟩ h2 h5 n2 b1 h4 h6).elim
   ·exact (mix t2 x2 ti2 t1 x1 ti1 b ⟨t2', b1, b2⟩ h4 h6 n1 a1 h2 h5).elim
   ·rw [e4 t1 n1] at h2
    rw [e4 t2 n2] at h4
    exact h.core.tagI t1 x1 ti1 t2 x2 ti2 b a1 h2 b1 h4 h5 h6
 have wr : Wr w0.heap.size W g2 (S.back L hp tg) := by
  refine ⟨fun o cs b k i hb hμ hi => ?_, fun t x ti b ht hti hb => ?_⟩
  ·rcases unbox o cs hb with ⟨o', cs', h1, h2, rfl⟩ | ⟨ho, c0, h1, rfl⟩
   ·rcases hw.box o' cs' b k i h2 (newμ _ _ _ _ h1 h2 hμ) (by simpa using hi) with h3 | h3
    ·exact .inl (by omega)
    ·exact wrB b _ h3
   ·rw [oldμ o ho] at hμ
    exact h.wr.box o c0 b k i h1 hμ (by simpa using hi)
  ·rcases untag t x ht with ⟨t', h1, h2⟩ | ⟨hn, h1⟩
   ·rw [e3 _ _ h1] at hti
    rcases hw.tag t' x ti b h2 hti hb with h3 | h3
    ·exact .inl (by omega)
    ·by_cases hb0 : w0.heap.size ≤ b
     ·exact .inl hb0
     ·exact .inr fun i => (wrB b i (h3 i)).resolve_left hb0
   ·rw [e4 t hn] at hti
    exact h.wr.tag t x ti b h1 hti hb
 refine ⟨g2, h.later core wr hk (fun b k hlt hW => (wrB b k hW).resolve_left (by omega)) hF1 (fun b k hF => ?_) (fun t ti ht hti => ?_) (fun o b ho hb => ?_), repT (hc.env 0 r rfl)⟩
 ·rcases hF2 b k hF with h3 | h3 | h3
  ·exact .inl h3
  ·exact .inr (.inl (by omega))
  ·exact .inr (wrB b k h3)
 ·rw [e4 t (fun hm => by
    obtain ⟨⟨t', t2⟩, h1, h2⟩ := List.mem_map.1 hm
    simp only at h2; subst h2
    rcases mem_tk.1 h1 with h3 | h3
    ·have := (hL.tag _ _ h3).1; omega
    ·have := (hL.nt _ _ h3).2.1; omega)] at hti
  exact ⟨ti, hti, rfl⟩
 ·rw [e2 o (fun o' hm => by have := (hL.nb _ _ hm).2.1; omega)] at hb
  exact hb
end
end Go.Vm

namespace Go.Vm
open Go.RowKit
set_option linter.unusedVariables false
variable {P : Program} {w0 w w' : World} {W F0 : Reg} {V : Pins} {N : Nat} {g g' : Gh} {S : St} {a : Act} {tm : Array Value} {K : St → Prop}
theorem SR.reRow (h : SR w0 W F0 V N g S a w) {t : Tag} {ti : TI} {es' : List (List D)} {us : List Value} {off b c : Nat} (ht : S.tag t = some true) (hti : g.τ t = some ti) (hn : es'.length = ti.n) (hv : ti.v = .slice (some ⟨b, 0, none⟩) ti.n c)
    (hfit : off + us.length ≤ ti.n * ti.sz) (hone : ∀ u ∈ us, u.oneCell' = true) (hl : ∀ (i : Nat) (e : List D), es'[i]? = some e → e.length = ti.sz)
    (hr : ∀ (i : Nat) (e : List D) (j : Nat) (d : D), es'[i]? = some e → e[j]? = some d → ∃ u, (putCells ti.xs off us)[i * ti.sz + j]? = some u ∧ RepF g.F w d u) :
    ∃ cur e, w.heap[b]? = some (.cells cur e (0, 0)) ∧ off + us.length ≤ cur.size ∧ ∃ g', SR w0 W F0 V N g' (S.remake t es') a (w.setRow b (cur.toList.take off ++ us ++ cur.toList.drop (off + us.length)).toArray) := by
 obtain ⟨ti0, q1, q2⟩ := h.core.tag t true ht
 rw [hti] at q1; injection q1 with q1; subst q1
 have hb : ti.v.ownBlock = some b := by rw [hv]; rfl
 obtain ⟨cap, cur, hvc, hg, hnc, hcm, hcs, htake⟩ : ∃ cap cur, ti.v = .slice (some ⟨b, 0, none⟩) ti.n cap ∧ w.heap[b]? = some (.cells cur ti.e (0, 0)) ∧ ti.n ≤ cap ∧ cap ≤ maxLen ∧ cur.size = cap * ti.sz ∧ cur.toList.take (ti.n * ti.sz) = ti.xs := by
  rcases q2.own.2 with ⟨h1, _⟩ | ⟨gg, cap, cur, h1, _, h2, h3, h4, h5, h6⟩
  ·rw [hv] at h1; cases h1
  ·have : gg = b := by rw [hv] at h1; injection h1 with h1 _ _; injection h1 with h1; injection h1 with h1; exact h1.symm
   subst this
   exact ⟨cap, cur, h1, h2, h3, h4, h5, h6⟩
 have hcsz : ti.n * ti.sz ≤ cur.size := by rw [hcs]; exact Nat.mul_le_mul_right _ hnc
 have hxl : ti.xs.length = ti.n * ti.sz := q2.own.1
 refine ⟨cur, ti.e, hg, by omega, ?_⟩
 let new := (cur.toList.take off ++ us ++ cur.toList.drop (off + us.length)).toArray
 have hnew : (w.setRow b new).heap[b]? = some (.cells new ti.e (0, 0)) := setRow_heap w b cur new ti.e (0, 0) hg
 have hnsz : new.size = cur.size := by simp [new]; omega
 have hFb : ∀ k, ¬ g.F b k := fun k hF => by have := (q2.out b k hb hF).1; cases this
 have own_b : Own g S t b := ⟨ht, ti, hti, hb⟩
 let ti' : TI := { ti with xs := putCells ti.xs off us }
 have hown' : (w.setRow b new).ownsRow 0 ti'.e ti'.sz ti'.v ti'.n ti'.xs := by
  refine ⟨by simp only [ti', putCells_length]; exact hxl, .inr ⟨b, cap, new, hvc, Nat.zero_le _, hnew, hnc, hcm, by rw [hnsz, hcs], ?_⟩⟩
  show new.toList.take (ti.n * ti.sz) = putCells ti.xs off us
  have hnl : new.toList = putCells cur.toList off us := by rw [putCells_row _ _ _ (by simp; omega)]
  rw [hnl]
  apply List.ext_getElem?
  intro j
  rw [putCells_get _ _ _ (by omega), List.getElem?_take, putCells_get _ _ _ (by simp; omega), ← htake, List.getElem?_take]
  by_cases hj : j < ti.n * ti.sz
  ·simp only [hj, if_true]
  ·simp only [hj, if_false]
   rw [if_neg (by omega)]
 have hone' : ∀ u ∈ ti'.xs, u.oneCell' = true := fun u hu => by
  have : u ∈ putCells ti.xs off us := hu
  rw [putCells_row _ _ _ (by omega)] at this
  simp only [List.mem_append] at this
  rcases this with (h1 | h1) | h1
  ·exact q2.one u (List.mem_of_mem_take h1)
  ·exact hone u h1
  ·exact q2.one u (List.mem_of_mem_drop h1)
 have hk : Keep (fun b' _ => b' = b) w (w.setRow b new) := Keep.setRow hg hnsz (fun k hk => absurd rfl hk)
 have hcellF : ∀ b' k', g.F b' k' → (w.setRow b new).cell? ⟨b', k', none⟩ = w.cell? ⟨b', k', none⟩ := fun b' k' hF =>
  cell_setRow_other w b new ⟨b', k', none⟩ (fun e => hFb k' (e ▸ hF))
 have hn2 := h.newRowU (w' := w.setRow b new) t ti' g.F q2.ty (hk.mono (fun b' _ _ hb' => by subst hb'; exact own_b)) hown' hone' (fun b' hb' => .inr (by
  have : b' = b := by
   have h1 : ti.v.ownBlock = some b' := hb'
   rw [hb] at h1; injection h1 with h1; exact h1.symm
  subst this; exact own_b)) (fun _ _ h => h) (fun _ _ h => .inl h) (fun _ => ⟨ti, hti, rfl⟩)
 refine ⟨_, ⟨Core.remake (es := es') (ti' := ti') hn2.core (if_pos rfl) (fun kk es0 hkk => ?_) (fun kk lo n es0 hkk => ?_) (Rep.slT t es' ti' (if_pos rfl) hn hl (fun i e j d he hd => ?_)), ⟨hn2.wr.box, hn2.wr.tag⟩, hn2.keep, hn2.size, hn2.defers, hn2.fext, hn2.fnew, hn2.cap, hn2.pin⟩⟩
 ·have hr3 := h.core.env kk _ hkk
  generalize a.tmps.getD kk undef = v3 at hr3 ⊢
  cases hr3 with
  | fz _ _ h0 => cases h0
  | slT _ _ ti3 ht3 _ _ _ => rw [hti] at ht3; injection ht3 with ht3; exact ht3 ▸ rfl
 ·have hr3 := h.core.env kk _ hkk
  generalize a.tmps.getD kk undef = v3 at hr3 ⊢
  cases hr3 with
  | fz _ _ h0 => cases h0
  | part _ _ _ _ ti3 _ hpv ht3 hn3 hlo3 _ _ => rw [hti] at ht3; injection ht3 with ht3; subst ht3; exact ⟨hlo3, hpv⟩
 ·obtain ⟨u, h1, h2⟩ := hr i e j d he hd
  exact ⟨u, h1, h2.mono (fun _ _ h => h) hcellF⟩
theorem comp_clr {o : Oper} {sz : Nat} {zero : List D} {x : Operand} (h : compOp P o = some (.xop (.clr sz zero x))) : ∃ t e i zv, o.op = .call { callee := .builtin .clear, args := #[x], argTypes := #[t] } ∧ P.underlying t = some (.slice e) ∧ P.info? e = some i ∧ i.zero = some zv ∧
    i.size = sz ∧ 0 < i.size ∧ zv.cells.size = i.size ∧ zero = zeroD zv := by
 obtain ⟨dst, op, type, pos, after, guard⟩ := o
 cases op
 case call c =>
  obtain ⟨callee, ⟨args⟩, ⟨ts⟩⟩ := c
  cases callee <;> simp only [compOp] at h <;> try (cases h; done)
  rename_i b
  cases b <;> simp only [compB] at h <;> (try (cases h; done)) <;> (repeat' (split at h)) <;> try (cases h; done)
  rename_i hc
  injection h with h; injection h with h; injection h with h1 h2 h3
  subst h1; subst h2; subst h3
  exact ⟨_, _, _, _, rfl, by assumption, by assumption, by assumption, rfl, hc.1, hc.2, rfl⟩
 all_goals (simp only [compOp] at h; (repeat' (split at h)) <;> cases h)
theorem zeroCells_get (z : Array Value) (n i j : Nat) (hi : i < n) (hj : j < z.size) : (Builtin.zeroCells z n).toList[i * z.size + j]? = z[j]? := by
 have hlt : i * z.size + j < n * z.size := by
  have : (i + 1) * z.size ≤ n * z.size := Nat.mul_le_mul_right _ hi
  rw [Nat.succ_mul] at this; omega
 have hm : (i * z.size + j) % z.size = j := by
  rw [Nat.add_comm, Nat.mul_comm, Nat.add_mul_mod_self_left, Nat.mod_eq_of_lt hj]
 unfold Builtin.zeroCells
 rw [Array.getElem?_toList, Array.getElem?_map, Array.getElem?_range, if_pos hlt]
 simp [hm, hj]
theorem so_clr (h : SR w0 W F0 V N g S a w) {o : Oper} {sz : Nat} {zero : List D} {x : Operand} {Q : Exit → Act → World → Prop} (hc : compOp P o = some (.xop (.clr sz zero x))) (hd : ∀ t, o.dst = some t → t < N) (hv : xstep (.clr sz zero x) o.dst S K) :
    o.wp P a w (fun a' w' => ∃ g' S', SR w0 W F0 V N g' S' a' w' ∧ K S') Q := by
 obtain ⟨t, e, i, zv, ho, hu, hi, hz, rfl, h0, hzs, rfl⟩ := comp_clr hc
 simp only [xstep] at hv
 split at hv
 ·rename_i tg lo n es hx
  obtain ⟨ht, hsz, hle, hone, hK⟩ := hv
  have hr := h.core.look hx
  generalize hvx : a.eval x = vx at hr
  cases hr with
  | fz _ _ hr => cases hr
  | part _ _ _ _ ti _ hpv hti hn hlo hl hr =>
   obtain ⟨ti', q1, q2⟩ := h.core.tag tg true ht
   rw [hti] at q1; injection q1 with q1; subst q1
   have hsz' : ti.sz = i.size := q2.ty.2.trans hsz
   have hzl : (zeroD zv).length = i.size := by simp [zeroD, hzs]
   have hzero : (zeroValue e).run P w = .ok zv w := by simp [zeroValue, typeInfo, hi, hz]
   have fin : ∀ w', (Builtin.clear_ #[t] o.type #[vx]).run P w = .ok (.tuple #[]) w' → (∃ g', SR w0 W F0 V N g' (S.remake tg (es.take lo ++ List.replicate n (zeroD zv) ++ es.drop (lo + n))) a w') →
       o.wp P a w (fun a' w' => ∃ g' S', SR w0 W F0 V N g' S' a' w' ∧ K S') Q := fun w' hrun ⟨g', hsr⟩ => by
    have hrunO : (execOp a.eval o).run P w = .ok (.value (.tuple #[])) w' := by
     simp only [execOp, ho, resolve, invoke, builtin, Sem.run_bind, Sem.run_pure, Result.andThen_ok, List.map_toArray, List.map_cons, List.map_nil, hvx, hrun]
    unfold Oper.wp
    rw [hrunO, Oper.upon_value]
    exact ⟨_, _, hsr.put hd (.fz _ _ (.undef _)), hK⟩
   have lenN : (es.take lo ++ List.replicate n (zeroD zv) ++ es.drop (lo + n)).length = ti.n := by simp; omega
   by_cases hn0 : n = 0
   ·-- nothing is turned
    subst hn0
    have hes : es.take lo ++ List.replicate 0 (zeroD zv) ++ es.drop (lo + 0) = es := by simp
    have hrun : (Builtin.clear_ #[t] o.type #[vx]).run P w = .ok (.tuple #[]) w := by
     unfold PartV at hpv
     split at hpv
     ·obtain ⟨p, rfl, -⟩ := hpv
      simp [Builtin.clear_, run_underlying hu]
     ·rw [hpv]; simp [Builtin.clear_, run_underlying hu]
    refine fin w hrun ?_
    rw [hes]
    rcases ti.shape with ⟨hv0, hz0⟩ | ⟨b, c, hv0⟩
    ·have hrem := h.newRowU (w' := w) tg ti g.F q2.ty (Keep.refl _ w) q2.own q2.one (fun b hb => by rw [hv0] at hb; cases hb) (fun _ _ h => h) (fun _ _ h => .inl h) (fun _ => ⟨ti, hti, rfl⟩)
     refine ⟨_, ⟨Core.remake (es := es) (ti' := ti) hrem.core (if_pos rfl) (fun kk es0 hkk => ?_) (fun kk lo n es0 hkk => ?_) (Rep.slT tg es ti (if_pos rfl) hn hl hr), ⟨hrem.wr.box, hrem.wr.tag⟩, hrem.keep, hrem.size, hrem.defers, hrem.fext, hrem.fnew, hrem.cap, hrem.pin⟩⟩
     ·have hr3 := h.core.env kk _ hkk
      generalize a.tmps.getD kk undef = v3 at hr3 ⊢
      cases hr3 with
      | fz _ _ h0 => cases h0
      | slT _ _ ti3 ht3 _ _ _ => rw [hti] at ht3; injection ht3 with ht3; exact ht3 ▸ rfl
     ·have hr3 := h.core.env kk _ hkk
      generalize a.tmps.getD kk undef = v3 at hr3 ⊢
      cases hr3 with
      | fz _ _ h0 => cases h0
      | part _ _ _ _ ti3 _ hpv ht3 hn3 hlo3 _ _ => rw [hti] at ht3; injection ht3 with ht3; subst ht3; exact ⟨hlo3, hpv⟩
    ·have hcells := q2.own
     obtain ⟨cur, e2, hcur, hfit, g', hsr⟩ := h.reRow (es' := es) (us := []) (off := 0) ht hti hn hv0 (by simp) (by simp) hl (fun i e j d he hd => hr i e j d he hd)
     have : w.setRow b (cur.toList.take 0 ++ [] ++ cur.toList.drop (0 + ([] : List Value).length)).toArray = w := by
      simp only [List.take_zero, List.append_nil, List.nil_append, List.length_nil, Nat.zero_add, List.drop_zero, Array.toArray_toList]
      unfold World.setRow
      congr 1
      apply Array.ext_getElem?
      intro k
      rw [Array.getElem?_modify]
      split
      ·rename_i hk; subst hk; rw [hcur]; rfl
      ·rfl
     rw [this] at hsr
     exact ⟨g', hsr⟩
   ·rcases ti.shape with ⟨hv0, hz0⟩ | ⟨b, c, hv0⟩
    ·omega
    ·have hcap : ti.n ≤ c := by
       rcases q2.own.2 with ⟨h1, _⟩ | ⟨gg, cap, cur, h1, _, _, h2, _⟩
       ·rw [hv0] at h1; cases h1
       ·rw [hv0] at h1; injection h1 with _ _ h1; omega
     rw [hv0] at hpv
     obtain ⟨p, rfl, hp⟩ := hpv
     rw [hp (by omega)] at hvx fin
     clear hp
     have hzc : (Builtin.zeroCells zv.cells n).toList.length = n * ti.sz := by rw [hsz', ← hzs]; simp [Builtin.zeroCells]
     have hbound : lo * ti.sz + (Builtin.zeroCells zv.cells n).toList.length ≤ ti.n * ti.sz := by
      rw [hzc, ← Nat.add_mul]; exact Nat.mul_le_mul_right _ hlo
     have hzone : ∀ (j : Nat) (v : Value), zv.cells[j]? = some v → v.oneCell' = true := fun j v hj => by
      have hc0 := zero_cells (g := g) (w := w) zv
      have hjl : j < (zeroD zv).length := by rw [hzl, ← hzs]; exact (Array.getElem?_eq_some_iff.1 hj).1
      exact (hc0.2 j _ v (List.getElem?_eq_getElem hjl) hj).one (List.all_eq_true.1 hone _ (List.getElem_mem hjl))
     have hzrep : ∀ (j : Nat) (d : D) (v : Value), (zeroD zv)[j]? = some d → zv.cells[j]? = some v → RepF g.F w d v := fun j d v hd hv => by
      simp only [zeroD, List.getElem?_map, Option.map_eq_some_iff] at hd
      obtain ⟨c, hc, rfl⟩ := hd
      have : c = v := by
       have h2 : zv.cells.toList[j]? = some v := by simpa using hv
       rw [hc] at h2; injection h2
      subst this
      split
      ·exact .nil
      ·exact .val _
     obtain ⟨cur, e2, hcur, hfit, g', hsr⟩ := h.reRow (es' := es.take lo ++ List.replicate n (zeroD zv) ++ es.drop (lo + n)) (us := (Builtin.zeroCells zv.cells n).toList) (off := lo * ti.sz) ht hti lenN hv0 hbound (fun u hu => by
         simp only [Builtin.zeroCells, Array.toList_map, List.mem_map] at hu
         obtain ⟨q, hq, rfl⟩ := hu
         have hlt : q % zv.cells.size < zv.cells.size := Nat.mod_lt _ (by omega)
         rw [getElem!_pos zv.cells _ hlt]
         exact hzone _ _ (Array.getElem?_eq_getElem hlt)) (fun i0 e0 he => by
         rcases List.mem_append.1 (List.mem_of_getElem? he) with h2 | h2
         ·rcases List.mem_append.1 h2 with h3 | h3
          ·obtain ⟨q, hq⟩ := List.getElem?_of_mem (List.mem_of_mem_take h3)
           exact hl q e0 hq
          ·rw [(List.mem_replicate.1 h3).2, hzl, hsz']
         ·obtain ⟨q, hq⟩ := List.getElem?_of_mem (List.mem_of_mem_drop h2)
          exact hl q e0 hq) (fun i0 e0 j d he hd => by
         have hl1 : (es.take lo).length = lo := by rw [List.length_take]; omega
         have hput : ∀ k, (putCells ti.xs (lo * ti.sz) (Builtin.zeroCells zv.cells n).toList)[k]? = if lo * ti.sz ≤ k ∧ k < lo * ti.sz + n * ti.sz then (Builtin.zeroCells zv.cells n).toList[k - lo * ti.sz]? else ti.xs[k]? := fun k => by
          rw [putCells_get _ _ _ (by rw [q2.own.1]; exact hbound), hzc]
         have hmul : ∀ {p q : Nat}, p < q → p * ti.sz + ti.sz ≤ q * ti.sz := fun {p q} hpq => by
          have : (p + 1) * ti.sz ≤ q * ti.sz := Nat.mul_le_mul_right _ hpq
          rwa [Nat.succ_mul] at this
         have he' := he
         rw [List.append_assoc] at he
         by_cases h1 : i0 < lo
         ·rw [List.getElem?_append_left (by omega), List.getElem?_take, if_pos h1] at he
          have hjl : j < ti.sz := by rw [← hl i0 e0 he]; exact (List.getElem?_eq_some_iff.1 hd).1
          have := hmul h1
          rw [hput, if_neg (by omega)]
          exact hr i0 e0 j d he hd
         ·rw [List.getElem?_append_right (by omega), hl1] at he
          by_cases h2 : i0 - lo < n
          ·rw [List.getElem?_append_left (by simpa using h2), List.getElem?_replicate, if_pos h2] at he
           injection he with he; subst he
           have hjl : j < i.size := by rw [← hzl]; exact (List.getElem?_eq_some_iff.1 hd).1
           have hjz : j < zv.cells.size := by omega
           have e1 : i0 * ti.sz + j = lo * ti.sz + ((i0 - lo) * ti.sz + j) := by
            rw [← Nat.add_assoc, ← Nat.add_mul]; congr 2; omega
           have := hmul h2
           rw [hput, if_pos (by omega), e1, Nat.add_sub_cancel_left]
           have e2 : ti.sz = zv.cells.size := by omega
           rw [e2, zeroCells_get _ _ _ _ h2 hjz]
           exact ⟨_, Array.getElem?_eq_getElem hjz, hzrep j d _ hd (Array.getElem?_eq_getElem hjz)⟩
          ·rw [List.getElem?_append_right (by simpa using h2), List.length_replicate, List.getElem?_drop] at he
           have e1 : lo + n + (i0 - lo - n) = i0 := by omega
           rw [e1] at he
           have := Nat.mul_le_mul_right ti.sz (show lo + n ≤ i0 by omega)
           rw [Nat.add_mul] at this
           rw [hput, if_neg (by omega)]
           exact hr i0 e0 j d he hd)
     refine fin _ ?_ ⟨g', hsr⟩
     have hst := run_storeCells_at P b (lo * ti.sz) e2 (Builtin.zeroCells zv.cells n).toList 0 cur w hcur (by simpa using hfit) (fun u hu => by
      simp only [Builtin.zeroCells, Array.toList_map, List.mem_map] at hu
      obtain ⟨q, hq, rfl⟩ := hu
      have hlt : q % zv.cells.size < zv.cells.size := Nat.mod_lt _ (by omega)
      rw [getElem!_pos zv.cells _ hlt]
      exact hzone _ _ (Array.getElem?_eq_getElem hlt))
     simp only [Nat.add_zero] at hst
     obtain ⟨n', rfl⟩ : ∃ n', n = n' + 1 := ⟨n - 1, by omega⟩
     simp [Builtin.clear_, run_underlying hu, hzero, hst]
 ·exact hv.elim
theorem so_xop (h : SR w0 W F0 V N g S a w) {o : Oper} {k : XOp} {Q : Exit → Act → World → Prop} (hc : compOp P o = some (.xop k)) (hd : ∀ t, o.dst = some t → t < N) (hv : xstep k o.dst S K) :
    o.wp P a w (fun a' w' => ∃ g' S', SR w0 W F0 V N g' S' a' w' ∧ K S') Q := by
 cases k with
 | clr sz zero x => exact so_clr h hc hd hv
 | _ => exact hv.elim
end Go.Vm

namespace Go.Vm
open Go.RowKit
variable {P : Program} {w0 w w' : World} {W F0 : Reg} {V : Pins} {N : Nat} {g g' : Gh} {S : St} {a : Act} {tm : Array Value} {K : St → Prop}
theorem so_append (h : SR w0 W F0 V N g S a w) {o : Oper} {e sz bytes : Nat} {x y : Operand} {Q : Exit → Act → World → Prop} (hc : compOp P o = some (.append e sz bytes x y)) (hd : ∀ t, o.dst = some t → t < N) (hv : vstep P (.append e sz bytes x y) o.dst S K) :
    o.wp P a w (fun a' w' => ∃ g' S', SR w0 W F0 V N g' S' a' w' ∧ K S') Q := by
 obtain ⟨t, i, zv, ho, hu, hi, hz, rfl, rfl, h0, hzs⟩ := comp_append hc
 simp only [vstep] at hv
 split at hv
 ·rename_i tg es tag ys hx hy
  obtain ⟨htg, hpn, hl1, hl2, hes, hys, hb1, hb2, hK⟩ := hv
  obtain ⟨d0, e0, s0⟩ := tg
  have hpn := Nat.le_of_ble_eq_true hpn
  simp only [Prod.mk.injEq] at htg
  obtain ⟨rfl, rfl⟩ := htg
  obtain ⟨xx, htx⟩ := Option.isSome_iff_exists.1 hl1
  obtain ⟨ti, q1, q2⟩ := h.core.tag _ xx htx
  have hrx := h.core.look hx
  generalize hvx : a.eval x = vx at hrx
  cases hrx with
  | fz _ _ hr => cases hr
  | slT _ _ ti2 ht2 hn hlen hr =>
   rw [q1] at ht2; injection ht2 with ht2; subst ht2
   obtain ⟨e1, e2⟩ := q2.ty
   simp only at e1 e2
   have hown := q2.own
   rw [e1, e2] at hown
   have hmax : ti.n + ys.length ≤ maxLen := by simp only [maxLen]; omega
   have hsrc := src_cells h.core (h.core.look hy) (fun t' ht' => by
    subst ht'
    simp only [Option.all_some] at hl2
    exact Option.isSome_iff_exists.1 hl2) hys h0
   have fin : ∀ (v' : Value) (w' : World) (news : List Value), (Builtin.append_ #[t, t] o.type #[ti.v, a.eval y]).run P w = .ok v' w' → w'.ownsRow 0 e0 i.size v' (ti.n + ys.length) (ti.xs ++ news) → (w.grownBy w' ti.v.ownBlock ∧ w.drawn ≤ w'.drawn) →
       ((∀ b, v'.ownBlock = some b → w.heap.size ≤ b) ∧ (∀ b, ti.v.ownBlock = some b → w'.heap[b]? = w.heap[b]?) ∨
        ∃ b cur cur', ti.v.ownBlock = some b ∧ v'.ownBlock = some b ∧ w.heap[b]? = some (.cells cur e0 (0, 0)) ∧ w'.heap[b]? = some (.cells cur' e0 (0, 0)) ∧ cur'.size = cur.size) →
       news.length = ys.length * i.size → (∀ u ∈ news, u.oneCell' = true) → (∀ (q : Nat) (z : List D) (j : Nat) (d : D), ys[q]? = some z → z[j]? = some d → ∃ u, news[q * i.size + j]? = some u ∧ RepF g.F w d u) →
       o.wp P a w (fun a' w' => ∃ g' S', SR w0 W F0 V N g' S' a' w' ∧ K S') Q := by
    intro v' w' news hrun hown' ⟨hg, hdr⟩ hcase hnl hno hnr
    let ti' : TI := { v := v', e := e0, sz := i.size, n := ti.n + ys.length, xs := ti.xs ++ news, shape := own_shape hown' }
    have hcase2 : (∀ b, ti'.v.ownBlock = some b → w.heap.size ≤ b) ∧ (∀ b, ti.v.ownBlock = some b → w'.heap[b]? = w.heap[b]?) ∨ ti'.v.ownBlock = ti.v.ownBlock := by
     rcases hcase with h1 | ⟨b, cur, cur', h1, h2, _⟩
     ·exact .inl h1
     ·exact .inr (h2.trans h1.symm)
    obtain ⟨hcore, hlat⟩ := h.core.grow (ti' := ti') htx q1 ⟨rfl, rfl⟩ hown' (fun u hu => by
     rcases List.mem_append.1 hu with hu | hu
     ·exact q2.one u hu
     ·exact hno u hu) hg (fun j hj => by
      rw [e2] at hj
      exact List.getElem?_append_left (by rw [hown.1]; exact hj)) (by simp only [ti', e2]; exact Nat.mul_le_mul_right _ (by omega)) hcase2
    have hrunO : (execOp a.eval o).run P w = .ok (.value v') w' := by
     simp only [execOp, ho, resolve, invoke, builtin, Sem.run_bind, Sem.run_pure, Result.andThen_ok, List.map_toArray, List.map_cons, List.map_nil, hvx, hrun]
    unfold Oper.wp
    rw [hrunO, Oper.upon_value]
    have hsr := h.later hcore ⟨fun o' c b k q hb hμ hq => by
        rw [only_box] at hb
        obtain ⟨c0, h1, rfl⟩ := Option.map_eq_some_iff.1 hb
        exact h.wr.box o' c0 b k q h1 hμ (by simpa using hq), fun t' x' ti2 b ht' hti2 hb => by
        have ht2 : S.tag t' = some x' := ht'
        simp only at hti2
        split at hti2
        ·rename_i he; subst he
         injection hti2 with hti2; subst hti2
         rcases hcase with ⟨h1, _⟩ | ⟨b', cur, cur', h1, h2, _⟩
         ·have := h1 b hb
          have := h.le
          exact .inl (by omega)
         ·have : b' = b := by
            have : v'.ownBlock = some b := hb
            rw [h2] at this; injection this
          subst this
          exact h.wr.tag _ _ ti b' htx q1 h1
        ·exact h.wr.tag t' x' ti2 b ht2 hti2 hb⟩ (Keep.grown (W := fun b _ => ti.v.ownBlock = some b) hg hdr (fun b hb => by
         rcases hcase with ⟨_, h1⟩ | ⟨b', cur, cur', h1, h2, h3, h4, h5⟩
         ·exact .inl (h1 b hb).symm
         ·rw [h1] at hb; injection hb with hb; subst hb
          exact .inr ⟨cur, cur', e0, h3, h4, h5, fun k hk => absurd h1 hk⟩)) (fun b k hlt hW => by
         rcases h.wr.tag _ _ ti b htx q1 hW with h1 | h1
         ·omega
         ·exact h1 k) (fun b k hF => .inl hF) (fun b k hF => by
         rcases hF with hF | ⟨_, h1, _⟩
         ·exact .inl hF
         ·rcases hcase with ⟨h2, _⟩ | ⟨b', cur, cur', h2, h3, _⟩
          ·have := h2 b h1
           have := h.le
           exact .inr (.inl (by omega))
          ·have : b' = b := by
             have : v'.ownBlock = some b := h1
             rw [h3] at this; injection this
           subst this
           rcases h.wr.tag _ _ ti b' htx q1 h2 with h4 | h4
           ·exact .inr (.inl h4)
           ·exact .inr (.inr (h4 k))) (fun t' ti2 hge hti2 => by
         simp only at hti2
         split at hti2
         ·rename_i he; subst he; exact absurd hge (Nat.not_le.2 (Nat.lt_of_le_of_lt hpn (by decide)))
         ·exact ⟨ti2, hti2, rfl⟩)
    refine ⟨_, _, hsr.put hd ?_, hK⟩
    refine Rep.slT (d0, e0, i.size) _ ti' (if_pos rfl) (by simp [ti', hn]) (fun q z hz => ?_) (fun q z j d hz hj => ?_)
    ·rw [List.getElem?_append] at hz
     split at hz
     ·exact hes z (List.mem_of_getElem? hz)
     ·exact hys z (List.mem_of_getElem? hz)
    ·rw [List.getElem?_append] at hz
     split at hz
     ·rename_i hq
      obtain ⟨u, h1, h2⟩ := hr q z j d hz hj
      rw [e2] at h1
      refine ⟨u, ?_, h2.mono (fun _ _ h => .inl h) hlat.cell⟩
      show (ti.xs ++ news)[q * i.size + j]? = some u
      rw [List.getElem?_append_left (List.getElem?_eq_some_iff.1 h1).1]; exact h1
     ·rename_i hq
      obtain ⟨u, h1, h2⟩ := hnr _ z j d hz hj
      refine ⟨u, ?_, h2.mono (fun _ _ h => .inl h) hlat.cell⟩
      show (ti.xs ++ news)[q * i.size + j]? = some u
      have hxl : ti.xs.length = es.length * i.size := by rw [hown.1, hn]
      have : q * i.size + j = ti.xs.length + ((q - es.length) * i.size + j) := by
       rw [hxl, ← Nat.add_assoc, ← Nat.add_mul]; congr 2; omega
      rw [this, List.getElem?_append_right (by omega), Nat.add_sub_cancel_left]; exact h1
   rcases hsrc with ⟨hv0, rfl⟩ | ⟨ad, c, news, hv1, hnl, hnc, hno, hnr⟩
   ·refine fin ti.v w [] (by rw [hv0]; exact run_append_owned_none (P := P) (w := w) 0 t o.type e0 i i.size hu hi ti.v ti.n ti.xs hown) (by simpa using hown) ⟨⟨rfl, rfl, rfl, Nat.le_refl _, fun _ _ _ => rfl⟩, Nat.le_refl _⟩ ?_ (by simp) (by simp) (fun q z j d hz => by simp at hz)
    cases hob : ti.v.ownBlock with
    | none => exact .inl ⟨fun b hb => by simp at hb, fun b hb => by simp at hb⟩
    | some b =>
     rcases hown.2 with ⟨h1, _⟩ | ⟨gg, cap, cur, h1, _, h2, _⟩
     ·rw [h1] at hob; simp [Value.ownBlock] at hob
     ·have : gg = b := by rw [h1] at hob; simpa [Value.ownBlock] using hob
      subst this
      exact .inr ⟨gg, cur, cur, rfl, rfl, h2, h2, rfl⟩
   ·obtain ⟨v', w', hrun, hown', hg, hcase⟩ := run_append (P := P) (w := w) t o.type e0 i zv i.size i.bytes hu hi hz rfl rfl hzs h0 ti.v ti.n ti.xs hown ad ys.length c news hnl hnc hno hmax (by rw [← hn]; exact hb2)
    exact fin v' w' news (by rw [hv1]; exact hrun) hown' hg hcase hnl hno hnr
 ·exact hv.elim
theorem args_rep {vs us : Array Value} {first ds caps : List D} {args : Array Operand} (c1 : Cells g w first vs) (c2 : Cells g w caps us) (l1 : (args.map a.eval).size = ds.length) (r1 : ∀ (i : Nat) (d : D) (v : Value), ds[i]? = some d → (args.map a.eval)[i]? = some v → Rep g w d v) :
    (vs ++ (args.map a.eval) ++ us).size = (first ++ ds ++ caps).length ∧ ∀ (i : Nat) (d : D) (v : Value), (first ++ ds ++ caps)[i]? = some d → (vs ++ (args.map a.eval) ++ us)[i]? = some v → Rep g w d v := by
 refine ⟨by simp only [Array.size_append, l1, c1.1, c2.1, List.length_append], fun i d v hd' hv' => ?_⟩
 rw [List.append_assoc] at hd'
 rw [Array.append_assoc] at hv'
 rw [List.getElem?_append] at hd'
 rw [Array.getElem?_append] at hv'
 rw [c1.1] at hv'
 split at hd'
 ·rename_i hlt
  rw [if_pos hlt] at hv'
  exact c1.2 i d v hd' hv'
 ·rename_i hlt
  rw [if_neg hlt] at hv'
  rw [List.getElem?_append] at hd'
  rw [Array.getElem?_append] at hv'
  rw [l1] at hv'
  split at hd'
  ·rename_i hlt2
   rw [if_pos hlt2] at hv'
   exact r1 _ d v hd' hv'
  ·rename_i hlt2
   rw [if_neg hlt2] at hv'
   exact c2.2 _ d v hd' hv'
theorem call_enter (h : SR w0 W F0 V N g S a w) {o : Oper} {f : Operand} {args : List Operand} (hc : compOp P o = some (.call f args .pure)) {k : FuncId} {first caps ds : List D} (hf : look S f = some (.fn k first caps)) (hargs : looks S args = some ds)
    (hfn : ∃ fn, P.funcs[k]? = some fn ∧ (fn.name == "runtime.NumGoroutine") = false ∧ fn.body.isNone = false) :
    ∃ vs : Array Value, (execOp a.eval o).run P w = .ok (.enter k vs) w ∧ vs.size = (first ++ ds ++ caps).length ∧ ∀ (i : Nat) (d : D) (v : Value), (first ++ ds ++ caps)[i]? = some d → vs[i]? = some v → Rep g w d v := by
 obtain ⟨c, ho, hcal, rfl⟩ := comp_call hc
 obtain ⟨fn, hfn, hname, hbody⟩ := hfn
 obtain ⟨vs, us, hfv, c1, c2⟩ := (h.core.look hf).fn_inv
 obtain ⟨l1, r1⟩ := looks_sound h.core hargs
 obtain ⟨h1, h2⟩ := args_rep (g := g) (w := w) (a := a) (args := c.args) c1 c2 (by simpa using l1) (fun i d v hd hv => r1 i d v hd (by simpa using hv))
 refine ⟨vs ++ (c.args.map a.eval) ++ us, ?_, h1, h2⟩
 simp only [execOp, ho, resolve, hcal, hfv, Deferred.ofValue, Sem.run_bind, Sem.run_pure, Result.andThen_ok, invoke, callFunc, run_program, hfn, hname, hbody, Bool.false_eq_true, if_false, Array.append_assoc]
theorem exactL_rep : ∀ (xs : List Operand) (ds : List D), (∀ (i : Nat) (d : D) (x : Operand), ds[i]? = some d → xs[i]? = some x → Rep g w d (a.eval x)) → xs.length = ds.length → (exactL xs ds).length = ds.length ∧ ∀ (i : Nat) (d : D) (x : Operand), (exactL xs ds)[i]? = some d → xs[i]? = some x → Rep g w d (a.eval x)
 | [], [], h, _ => ⟨rfl, h⟩
 | [], _ :: _, _, hl => by simp at hl
 | _ :: _, [], _, hl => by simp at hl
 | x :: xs, d :: ds, h, hl => by
  obtain ⟨h1, h2⟩ := exactL_rep xs ds (fun i d' x' hd hx => h (i + 1) d' x' (by simpa using hd) (by simpa using hx)) (by simpa using hl)
  refine ⟨by simp [exactL, h1], fun i d' x' hd hx => ?_⟩
  cases i with
  | zero =>
   simp only [exactL, List.getElem?_cons_zero, Option.some.injEq] at hd hx
   subst hd; subst hx
   have := h 0 d x rfl rfl
   cases x with
   | const v => exact .fz _ _ (.val _)
   | _ => exact this
  | succ i => exact h2 i d' x' (by simpa [exactL] using hd) (by simpa using hx)
theorem call_enterV (h : SR w0 W F0 V N g S a w) {o : Oper} {f : Operand} {args : List Operand} (hc : compOp P o = some (.call f args .pure)) {k : FuncId} {first caps ds : List D} (hf : look S f = some (.fn k first caps)) (hargs : looks S args = some ds)
    (hfn : ∃ fn, P.funcs[k]? = some fn ∧ (fn.name == "runtime.NumGoroutine") = false ∧ fn.body.isNone = false) :
    ∃ vs : Array Value, (execOp a.eval o).run P w = .ok (.enter k vs) w ∧ vs.size = (first ++ exactL args ds ++ caps).length ∧ ∀ (i : Nat) (d : D) (v : Value), (first ++ exactL args ds ++ caps)[i]? = some d → vs[i]? = some v → Rep g w d v := by
 obtain ⟨c, ho, hcal, rfl⟩ := comp_call hc
 obtain ⟨fn, hfn, hname, hbody⟩ := hfn
 obtain ⟨vs, us, hfv, c1, c2⟩ := (h.core.look hf).fn_inv
 obtain ⟨l1, r1⟩ := looks_sound h.core hargs
 have hlen : c.args.toList.length = ds.length := by simpa using l1
 obtain ⟨l2, r2⟩ := exactL_rep (g := g) (w := w) (a := a) c.args.toList ds (fun i d x hd hx => r1 i d _ hd (by simp [hx])) hlen
 obtain ⟨h1, h2⟩ := args_rep (g := g) (w := w) (a := a) (args := c.args) (ds := exactL c.args.toList ds) c1 c2 (by rw [l2]; simpa using l1) (fun i d v hd hv => by
  rw [Array.getElem?_map] at hv
  obtain ⟨x, hx, rfl⟩ := Option.map_eq_some_iff.1 hv
  exact r2 i d x hd (by simpa using hx))
 refine ⟨vs ++ (c.args.map a.eval) ++ us, ?_, h1, h2⟩
 simp only [execOp, ho, resolve, hcal, hfv, Deferred.ofValue, Sem.run_bind, Sem.run_pure, Result.andThen_ok, invoke, callFunc, run_program, hfn, hname, hbody, Bool.false_eq_true, if_false, Array.append_assoc]
theorem heap_kept {w w' : World} (hk : Keep (fun _ _ => False) w w') (b : Nat) (ob : Obj) (hb : w.heap[b]? = some ob) : w'.heap[b]? = some ob := by
 rcases hk.block b ob hb with h1 | ⟨x1, x2, ee, rfl, h2, h3, h4⟩
 ·exact h1
 ·have : x2 = x1 := Array.ext_getElem? (fun j => h4 j (fun hf => hf))
  rw [h2, this]
 ·rename_i h; exact h.2.1.elim
theorem only_all' (S : St) : S.only (fun _ => true) (fun _ => true) = S := by
 have hkeep : ∀ d : D, d.keep (fun _ => true) (fun _ => true) = d := fun d => by simp [D.keep, avoids_all]
 have h1 : ∀ l : List D, l.map (D.keep (fun _ => true) fun _ => true) = l := fun l => by
  rw [List.map_congr_left (g := id) (fun d _ => hkeep d)]; simp
 have h2 : ∀ l : List (Nat × D), (l.map fun x => (x.1, x.2.keep (fun _ => true) fun _ => true)) = l := fun l => by
  induction l with
  | nil => rfl
  | cons x l ih => rw [List.map_cons, ih, hkeep]
 have h3 : ∀ l : List (Nat × List D), (l.map fun x => (x.1, x.2.map (D.keep (fun _ => true) fun _ => true))) = l := fun l => by
  induction l with
  | nil => rfl
  | cons x l ih => rw [List.map_cons, ih, h1]
 simp only [St.only, h2, h3]
theorem SR.grown (h : SR w0 W F0 V N g S a w) (hk : Keep (fun _ _ => False) w w') :
    SR w0 W F0 V N { g with F := fun b j => g.F b j ∨ (w.heap.size ≤ b ∧ b < w'.heap.size) } S a w' := by
 have hlat : Later g { g with F := fun b j => g.F b j ∨ (w.heap.size ≤ b ∧ b < w'.heap.size) } w w' (fun _ => true) (fun _ => true) := ⟨fun _ _ _ h => h, fun _ _ _ h => h, fun _ _ h => .inl h, fun b j hF => hk.cell (h.core.frz.1 b j hF) (fun hf => hf)⟩
 have hcore := h.core.later hlat (fun _ _ _ => rfl) (fun _ _ _ => rfl) (heap_kept hk) (fun b j hF => by
  rcases hF with hF | hF
  ·exact .inl hF
  ·exact .inr hF.1) (fun b j hF => by
  rcases hF with hF | hF
  ·have := h.core.frz.1 b j hF
   have := hk.size
   omega
  ·exact hF.2)
 have hkeep : ∀ d : D, d.keep (fun _ => true) (fun _ => true) = d := fun d => by simp [D.keep, avoids_all]
 have honly : S.only (fun _ => true) (fun _ => true) = S := by
  have h1 : ∀ l : List D, l.map (D.keep (fun _ => true) fun _ => true) = l := fun l => by
   rw [List.map_congr_left (g := id) (fun d _ => hkeep d)]; simp
  have h2 : ∀ l : List (Nat × D), (l.map fun x => (x.1, x.2.keep (fun _ => true) fun _ => true)) = l := fun l => by
   induction l with
   | nil => rfl
   | cons x l ih => rw [List.map_cons, ih, hkeep]
  have h3 : ∀ l : List (Nat × List D), (l.map fun x => (x.1, x.2.map (D.keep (fun _ => true) fun _ => true))) = l := fun l => by
   induction l with
   | nil => rfl
   | cons x l ih => rw [List.map_cons, ih, h1]
  simp only [St.only, h2, h3]
 rw [honly] at hcore
 refine h.later hcore ⟨h.wr.box, h.wr.tag⟩ hk (fun _ _ _ h => h.elim) (fun _ _ h => .inl h) (fun b j hF => by
  rcases hF with hF | hF
  ·exact .inl hF
  ·have := h.le
   exact .inr (.inl (by omega))) (fun t ti _ h => ⟨ti, h, rfl⟩)
theorem SR.passed (h : SR w0 W F0 V N g S a w) (hk : Keep (fun _ _ => False) w w') : SR w0 W F0 V N g S a w' := by
 have hblk : ∀ (b : Nat) (o : Obj), w.heap[b]? = some o → w'.heap[b]? = some o := fun b o hb => by
  rcases hk.block b o hb with h1 | ⟨us, us', e, h0, h1, h2, h3⟩
  ·exact h1
  ·have : us' = us := by
     apply Array.ext_getElem?
     intro k
     exact h3 k (fun h => h)
   rw [h1, h0, this]
  ·rename_i h; exact h.2.1.elim
 have hl : Later g g w w' (fun _ => true) (fun _ => true) := ⟨fun _ _ _ h => h, fun _ _ _ h => h, fun _ _ h => h, fun b k hF => by
  have hb := h.core.frz.1 b k hF
  exact World.cell?_of_block (a := ⟨b, k, none⟩) (by rw [hblk b _ (Array.getElem?_eq_getElem hb), Array.getElem?_eq_getElem hb])⟩
 have hcore := h.core.later hl (fun _ _ _ => rfl) (fun _ _ _ => rfl) hblk (fun b k hF => .inl hF) (fun b k hF => Nat.lt_of_lt_of_le (h.core.frz.1 b k hF) hk.size)
 rw [only_all'] at hcore
 exact h.later hcore ⟨h.wr.box, h.wr.tag⟩ hk (fun _ _ _ h => h.elim) (fun _ _ h => h) (fun _ _ h => .inl h) (fun t ti _ h => ⟨ti, h, rfl⟩)
theorem frz_args (h : SR w0 W F0 V N g S a w) {ds fs : List D} (hfs : frzL ds = some fs) (hl1 : ∀ t ∈ tagsL ds, ∃ x, S.tag t = some x) {vs : Array Value} (hsz : vs.size = ds.length) (hr : ∀ (i : Nat) (d : D) (v : Value), ds[i]? = some d → vs[i]? = some v → Rep g w d v) :
    vs.size = fs.length ∧ ∀ (i : Nat) (d : D) (v : Value), fs[i]? = some d → vs[i]? = some v → RepF (shareF g S (tagsL ds)) w d v := by
 obtain ⟨l2, r2⟩ := frzL_sound h.core hl1 _ hfs (fun t ht => ht)
 refine ⟨by rw [hsz, l2], fun i d v hd' hv' => ?_⟩
 have hi : i < ds.length := by rw [← l2]; exact (List.getElem?_eq_some_iff.1 hd').1
 exact r2 i d v hd' _ (List.getElem?_eq_getElem hi) (hr i _ v (List.getElem?_eq_getElem hi) hv')
theorem seenH_share (sh : List Tag) (bs0 : List (Nat × Nat)) (ts : List (Tag × Tag)) : ∀ (bs : List (Nat × Nat)) (S : St), seenH (S.share sh) bs0 ts bs = seenH S bs0 ts bs
 | [], _ => rfl
 | (o, o') :: r, S => by
  simp only [seenH, seenH_share sh bs0 ts r S]
  rfl
theorem lendA_sound {sh : List Tag} (h : Core g S tm w) (hlive : ∀ t ∈ sh, ∃ x, S.tag t = some x) {hs : List Tag} : ∀ (ds : List D) {as : List D} {s : List Tag}, lendA hs ds = some (as, s) → (∀ t ∈ s, t ∈ sh) →
    as.length = ds.length ∧ ∀ (i : Nat) (e : D) (v : Value), as[i]? = some e → ∀ d, ds[i]? = some d → Rep g w d v → Rep { g with F := shareF g S sh } w e v
 | [], as, s, hl, _ => by
  simp only [lendA, Option.some.injEq, Prod.mk.injEq] at hl
  obtain ⟨rfl, rfl⟩ := hl
  exact ⟨rfl, fun i e v he => by simp at he⟩
 | d :: ds, as, s, hl, hs' => by
  simp only [lendA] at hl
  split at hl
  ·rename_i xs ts hx
   have keep : ∀ {d : D} {v : Value}, Rep g w d v → Rep { g with F := shareF g S sh } w d v := fun hr => hr.mono' (fun _ _ h => h) (fun _ _ h => h) (fun _ _ h => .inl h) (fun _ _ _ => rfl)
   split at hl
   ·simp only [Option.some.injEq, Prod.mk.injEq] at hl
    obtain ⟨rfl, rfl⟩ := hl
    obtain ⟨l1, r1⟩ := lendA_sound h hlive ds hx hs'
    refine ⟨by simp [l1], fun i e v he d' hd' hr => ?_⟩
    cases i with
    | zero => simp at he hd'; subst he; subst hd'; exact keep hr
    | succ i => exact r1 i e v (by simpa using he) d' (by simpa using hd') hr
   ·split at hl
    ·rename_i x hfx
     simp only [Option.some.injEq, Prod.mk.injEq] at hl
     obtain ⟨rfl, rfl⟩ := hl
     obtain ⟨l1, r1⟩ := lendA_sound h hlive ds hx (fun t ht => hs' t (by simp [ht]))
     refine ⟨by simp [l1], fun i e v he d' hd' hr => ?_⟩
     cases i with
     | zero => simp at he hd'; subst he; subst hd'; exact .fz _ _ (frz_sound h hlive _ hr (fun t ht => hs' t (by simp [ht])) hfx)
     | succ i => exact r1 i e v (by simpa using he) d' (by simpa using hd') hr
    ·cases hl
  ·cases hl
theorem so_call (h : SR w0 W F0 V N g S a w) {o : Oper} {f : Operand} {args : List Operand} {md : CM} {Q : Exit → Act → World → Prop} (hc : compOp P o = some (.call f args .pure)) (hd : ∀ t, o.dst = some t → t < N) (hv : vstep P (.call f args md) o.dst S K) :
    o.wp P a w (fun a' w' => ∃ g' S', SR w0 W F0 V N g' S' a' w' ∧ K S') Q := by
 simp only [vstep] at hv
 split at hv
 ·rename_i k first caps ds hf hargs
  cases md with
  | pure =>
   simp only at hv
   split at hv
   ·rename_i fs hfs
    obtain ⟨hlive, hfn, hcalls⟩ := hv
    have hl1 := live_all hlive
    obtain ⟨vs, hrun, hsz, hr⟩ := call_enter h hc hf hargs hfn
    obtain ⟨e1, e2⟩ := frz_args h hfs hl1 hsz hr
    unfold Oper.wp
    rw [hrun, Oper.upon_enter]
    have hs := h.share (tagsL (first ++ ds ++ caps))
    refine (hcalls _ w vs hs.core.frz e1 e2).mono fun e w' ⟨r, v, he, hK, hr, hk⟩ => ?_
    subst he
    exact ⟨_, _, (hs.grown hk).put hd (.fz _ _ hr), hK⟩
   ·exact hv.elim
  | fresh e sz =>
   simp only at hv
   split at hv
   ·rename_i d fs hdst hfs
    obtain ⟨hlive, hfn, hcalls⟩ := hv
    have hl1 := live_all hlive
    obtain ⟨vs, hrun, hsz, hr⟩ := call_enter h hc hf hargs hfn
    obtain ⟨e1, e2⟩ := frz_args h hfs hl1 hsz hr
    unfold Oper.wp
    rw [hrun, Oper.upon_enter]
    have hs := h.share (tagsL (first ++ ds ++ caps))
    refine (hcalls _ w vs hs.core.frz e1 e2).mono fun en w' ⟨es, v, xs, he, hK, hown, hone, hnew, hk, hlen, hcont⟩ => ?_
    subst he
    have hn := hs.newRowU (w' := w') (d, e, sz) { v := v, e := e, sz := sz, n := es.length, xs := xs, shape := own_shape hown } (fun b j => shareF g S (tagsL (first ++ ds ++ caps)) b j ∨ (w.heap.size ≤ b ∧ b < w'.heap.size ∧ v.ownBlock ≠ some b)) ⟨rfl, rfl⟩
     (hk.mono (fun _ _ _ h => h.elim)) hown hone (fun b hb => .inl (hnew b hb)) (fun _ _ h => .inl h) (fun _ _ h => h) (fun hge => absurd hge (Nat.not_le.2 (Nat.lt_of_lt_of_le (hd d hdst) h.cap)))
    refine ⟨_, _, hn.put hd ?_, hK⟩
    exact Rep.slT (d, e, sz) es { v := v, e := e, sz := sz, n := es.length, xs := xs, shape := own_shape hown } (if_pos rfl) rfl hlen hcont
   ·exact hv.elim
  | freshV e sz =>
   simp only at hv
   split at hv
   ·rename_i d fs hdst hfs
    obtain ⟨hlive, hfn, hcalls⟩ := hv
    have hl1 := live_all hlive
    obtain ⟨vs, hrun, hsz, hr⟩ := call_enterV h hc hf hargs hfn
    obtain ⟨e1, e2⟩ := frz_args h hfs hl1 hsz hr
    unfold Oper.wp
    rw [hrun, Oper.upon_enter]
    have hs := h.share (tagsL (first ++ exactL args ds ++ caps))
    refine (hcalls _ w vs hs.core.frz e1 e2).mono fun en w' ⟨es, v, xs, he, hK, hown, hone, hnew, hk, hlen, hcont⟩ => ?_
    subst he
    have hn := hs.newRowU (w' := w') (d, e, sz) { v := v, e := e, sz := sz, n := es.length, xs := xs, shape := own_shape hown } (fun b j => shareF g S (tagsL (first ++ exactL args ds ++ caps)) b j ∨ (w.heap.size ≤ b ∧ b < w'.heap.size ∧ v.ownBlock ≠ some b)) ⟨rfl, rfl⟩
     (hk.mono (fun _ _ _ h => h.elim)) hown hone (fun b hb => .inl (hnew b hb)) (fun _ _ h => .inl h) (fun _ _ h => h) (fun hge => absurd hge (Nat.not_le.2 (Nat.lt_of_lt_of_le (hd d hdst) h.cap)))
    refine ⟨_, _, hn.put hd ?_, hK⟩
    exact Rep.slT (d, e, sz) es { v := v, e := e, sz := sz, n := es.length, xs := xs, shape := own_shape hown } (if_pos rfl) rfl hlen hcont
   ·exact hv.elim
  | turn =>
   simp only at hv
   split at hv
   ·rename_i t es rest hall
    split at hv
    ·rename_i fs hfs
     obtain ⟨htag, hlive, hfn, hcalls⟩ := hv
     have hlive' : ∀ t' ∈ tagsL rest, (∃ x, S.tag t' = some x) ∧ t' ≠ t := fun t' ht' => by
      have := List.all_eq_true.1 hlive t' ht'
      simp only [Bool.and_eq_true, decide_eq_true_eq] at this
      exact ⟨Option.isSome_iff_exists.1 this.1, this.2⟩
     obtain ⟨vs, hrun, hsz, hr⟩ := call_enter h hc hf hargs hfn
     rw [hall] at hsz hr
     obtain ⟨v0, vs', rfl⟩ : ∃ v0 vs', vs = #[v0] ++ vs' := by
      have h0 : 0 < vs.size := by rw [hsz]; simp
      refine ⟨vs[0], (vs.toList.tail).toArray, ?_⟩
      apply Array.ext'
      simp only [Array.toList_append]
      have : vs.toList ≠ [] := by
       intro e
       have e' := congrArg List.length e
       rw [Array.length_toList] at e'
       simp at e'
       rw [e'] at h0
       simp at h0
      obtain ⟨x, l, hx⟩ := List.exists_cons_of_ne_nil this
      have h00 : vs[0] = x := by
       have : vs.toList[0]'(by simpa using h0) = x := by simp [hx]
       simpa using this
      rw [hx, h00]; rfl
     have hr0 : Rep g w (.sl (some t) es) v0 := hr 0 _ v0 rfl (by rw [Array.getElem?_append_left Nat.zero_lt_one]; rfl)
     have hrr : ∀ (i : Nat) (d : D) (v : Value), rest[i]? = some d → vs'[i]? = some v → Rep g w d v := fun i d v hd' hv' => hr (i + 1) d v (by simpa using hd') (by
      rw [Array.getElem?_append_right (Nat.le_add_left 1 i)]; exact hv')
     have hsz' : vs'.size = rest.length := by
      simp only [Array.size_append, List.length_cons] at hsz
      have : (#[v0] : Array Value).size = 1 := rfl
      omega
     obtain ⟨e1, e2⟩ := frz_args h hfs (fun t' ht' => (hlive' t' ht').1) hsz' hrr
     have hs := h.share (tagsL rest)
     have htag' : (S.share (tagsL rest)).tag t = some true := by
      rw [share_tag, htag]
      have : ¬ t ∈ tagsL rest := fun hm => (hlive' t hm).2 rfl
      simp [this]
     obtain ⟨ti, q1, q2⟩ := hs.core.tag t true htag'
     cases hr0 with
     | fz _ _ hr0 => cases hr0
     | slT _ _ ti2 ht2 hn hlen hcont =>
      have q1' : g.τ t = some ti := q1
      rw [q1'] at ht2; injection ht2 with ht2; subst ht2
      obtain ⟨ty1, ty2⟩ := q2.ty
      have hown := q2.own
      rw [ty1, ty2, ← hn] at hown
      unfold Oper.wp
      rw [hrun, Oper.upon_enter]
      have own_b : ∀ b, ti.v.ownBlock = some b → Own { g with F := shareF g S (tagsL rest) } (S.share (tagsL rest)) t b := fun b hb => ⟨htag', ti, q1, hb⟩
      refine (hcalls (shareF g S (tagsL rest)) w ti.v ti.xs vs' hs.core.frz hown q2.one (fun b hb j => (hs.core.own_apart (own_b b hb)).1 j) (fun i l hl => by rw [← ty2]; exact hlen i l hl)
       (fun i l j d hl hd' => by
        obtain ⟨u, hu, hru⟩ := hcont i l j d hl hd'
        exact ⟨u, by rw [← ty2]; exact hu, hru.mono (fun _ _ h => .inl h) (fun _ _ _ => rfl)⟩) e1 e2).mono fun en w' ⟨es', r, u, xs', he, hK, hru, hlen', hown', hone', hk, hl', hcont'⟩ => ?_
      subst he
      let ti' : TI := { v := ti.v, e := t.2.1, sz := t.2.2, n := es'.length, xs := xs', shape := own_shape hown' }
      have hn2 := hs.newRowU (w' := w') t ti' (fun b j => shareF g S (tagsL rest) b j ∨ (w.heap.size ≤ b ∧ b < w'.heap.size)) ⟨rfl, rfl⟩
       (hk.mono (fun b _ _ hb => own_b b hb)) hown' hone' (fun b hb => .inr (own_b b hb)) (fun _ _ h => .inl h) (fun b j hF => by
        rcases hF with hF | hF
        ·exact .inl hF
        ·refine .inr ⟨hF.1, hF.2, fun hb => ?_⟩
         have := (q2.own.lt b hb).2
         omega) (fun _ => ⟨ti, q1, rfl⟩)
      have hrep : Rep { g with τ := fun t' => if t' = t then some ti' else g.τ t', F := fun b j => shareF g S (tagsL rest) b j ∨ (w.heap.size ≤ b ∧ b < w'.heap.size) } w' (.sl (some t) es') ti'.v :=
       Rep.slT t es' ti' (if_pos rfl) rfl hl' hcont'
      have hrem := Core.remake (es := es') (ti' := ti') hn2.core (if_pos rfl) (fun kk es0 hkk => by
       have hr3 := hs.core.env kk _ hkk
       generalize a.tmps.getD kk undef = v3 at hr3 ⊢
       cases hr3 with
       | fz _ _ h0 => cases h0
       | slT _ _ ti3 ht3 _ _ _ =>
        have : g.τ t = some ti3 := ht3
        rw [q1'] at this; injection this with this
        exact this ▸ rfl) (fun kk lo n es0 hkk => by
       have hr3 := hs.core.env kk _ hkk
       generalize a.tmps.getD kk undef = v3 at hr3 ⊢
       cases hr3 with
       | fz _ _ h0 => cases h0
       | part _ _ _ _ ti3 _ hpv ht3 hn3 hlo3 _ _ =>
        have : g.τ t = some ti3 := ht3
        rw [q1'] at this; injection this with this
        subst this
        refine ⟨?_, by show PartV lo n t.2.2 ti.v _; rw [← ty2]; exact hpv⟩
        show lo + n ≤ es'.length
        rw [hlen', hn]; exact hlo3) hrep
      have hsr : SR w0 W F0 V N { g with τ := fun t' => if t' = t then some ti' else g.τ t', F := fun b j => shareF g S (tagsL rest) b j ∨ (w.heap.size ≤ b ∧ b < w'.heap.size) } ((S.share (tagsL rest)).remake t es') a w' :=
       ⟨hrem, ⟨hn2.wr.box, hn2.wr.tag⟩, hn2.keep, hn2.size, hn2.defers, hn2.fext, hn2.fnew, hn2.cap, hn2.pin⟩
      exact ⟨_, _, hsr.put hd (.fz _ _ hru), hK⟩
    ·exact hv.elim
   ·exact hv.elim
  | take =>
   simp only at hv
   split at hv
   ·rename_i t es rest hall
    split at hv
    ·rename_i fs hfs
     obtain ⟨htag, hlive, hfn, hcalls⟩ := hv
     have hlive' : ∀ t' ∈ tagsL rest, (∃ x, S.tag t' = some x) ∧ t' ≠ t := fun t' ht' => by
      have := List.all_eq_true.1 hlive t' ht'
      simp only [Bool.and_eq_true, decide_eq_true_eq] at this
      exact ⟨Option.isSome_iff_exists.1 this.1, this.2⟩
     obtain ⟨vs, hrun, hsz, hr⟩ := call_enter h hc hf hargs hfn
     rw [hall] at hsz hr
     obtain ⟨v0, vs', rfl⟩ : ∃ v0 vs', vs = #[v0] ++ vs' := by
      have h0 : 0 < vs.size := by rw [hsz]; simp
      refine ⟨vs[0], (vs.toList.tail).toArray, ?_⟩
      apply Array.ext'
      simp only [Array.toList_append]
      have : vs.toList ≠ [] := by
       intro e
       have e' := congrArg List.length e
       rw [Array.length_toList] at e'
       simp at e'
       rw [e'] at h0
       simp at h0
      obtain ⟨x, l, hx⟩ := List.exists_cons_of_ne_nil this
      have h00 : vs[0] = x := by
       have : vs.toList[0]'(by simpa using h0) = x := by simp [hx]
       simpa using this
      rw [hx, h00]; rfl
     have hr0 : Rep g w (.sl (some t) es) v0 := hr 0 _ v0 rfl (by rw [Array.getElem?_append_left Nat.zero_lt_one]; rfl)
     have hrr : ∀ (i : Nat) (d : D) (v : Value), rest[i]? = some d → vs'[i]? = some v → Rep g w d v := fun i d v hd' hv' => hr (i + 1) d v (by simpa using hd') (by
      rw [Array.getElem?_append_right (Nat.le_add_left 1 i)]; exact hv')
     have hsz' : vs'.size = rest.length := by
      simp only [Array.size_append, List.length_cons] at hsz
      have : (#[v0] : Array Value).size = 1 := rfl
      omega
     obtain ⟨e1, e2⟩ := frz_args h hfs (fun t' ht' => (hlive' t' ht').1) hsz' hrr
     have hs := h.share (tagsL rest)
     have htag' : (S.share (tagsL rest)).tag t = some true := by
      rw [share_tag, htag]
      have : ¬ t ∈ tagsL rest := fun hm => (hlive' t hm).2 rfl
      simp [this]
     obtain ⟨ti, q1, q2⟩ := hs.core.tag t true htag'
     cases hr0 with
     | fz _ _ hr0 => cases hr0
     | slT _ _ ti2 ht2 hn hlen hcont =>
      have q1' : g.τ t = some ti := q1
      rw [q1'] at ht2; injection ht2 with ht2; subst ht2
      obtain ⟨ty1, ty2⟩ := q2.ty
      have hown := q2.own
      rw [ty1, ty2, ← hn] at hown
      unfold Oper.wp
      rw [hrun, Oper.upon_enter]
      have own_b : ∀ b, ti.v.ownBlock = some b → Own { g with F := shareF g S (tagsL rest) } (S.share (tagsL rest)) t b := fun b hb => ⟨htag', ti, q1, hb⟩
      refine (hcalls (shareF g S (tagsL rest)) w ti.v ti.xs vs' hs.core.frz hown q2.one (fun b hb j => (hs.core.own_apart (own_b b hb)).1 j) (fun i l hl => by rw [← ty2]; exact hlen i l hl)
       (fun i l j d hl hd' => by
        obtain ⟨u, hu, hru⟩ := hcont i l j d hl hd'
        exact ⟨u, by rw [← ty2]; exact hu, hru.mono (fun _ _ h => .inl h) (fun _ _ _ => rfl)⟩) e1 e2).mono fun en w' ⟨es', r, u, xs', he, hK, hru, hlen', hown', hone', hk, hl', hcont'⟩ => ?_
      subst he
      let ti' : TI := { v := ti.v, e := t.2.1, sz := t.2.2, n := es'.length, xs := xs', shape := own_shape hown' }
      have hn2 := hs.newRowU (w' := w') t ti' (fun b j => shareF g S (tagsL rest) b j ∨ (w.heap.size ≤ b ∧ b < w'.heap.size)) ⟨rfl, rfl⟩
       (hk.mono (fun b _ _ hb => own_b b hb)) hown' hone' (fun b hb => .inr (own_b b hb)) (fun _ _ h => .inl h) (fun b j hF => by
        rcases hF with hF | hF
        ·exact .inl hF
        ·refine .inr ⟨hF.1, hF.2, fun hb => ?_⟩
         have := (q2.own.lt b hb).2
         omega) (fun _ => ⟨ti, q1, rfl⟩)
      have hrep : Rep { g with τ := fun t' => if t' = t then some ti' else g.τ t', F := fun b j => shareF g S (tagsL rest) b j ∨ (w.heap.size ≤ b ∧ b < w'.heap.size) } w' (.sl (some t) es') ti'.v :=
       Rep.slT t es' ti' (if_pos rfl) rfl hl' hcont'
      have hrem := Core.remake (es := es') (ti' := ti') hn2.core (if_pos rfl) (fun kk es0 hkk => by
       have hr3 := hs.core.env kk _ hkk
       generalize a.tmps.getD kk undef = v3 at hr3 ⊢
       cases hr3 with
       | fz _ _ h0 => cases h0
       | slT _ _ ti3 ht3 _ _ _ =>
        have : g.τ t = some ti3 := ht3
        rw [q1'] at this; injection this with this
        exact this ▸ rfl) (fun kk lo n es0 hkk => by
       have hr3 := hs.core.env kk _ hkk
       generalize a.tmps.getD kk undef = v3 at hr3 ⊢
       cases hr3 with
       | fz _ _ h0 => cases h0
       | part _ _ _ _ ti3 _ hpv ht3 hn3 hlo3 _ _ =>
        have : g.τ t = some ti3 := ht3
        rw [q1'] at this; injection this with this
        subst this
        refine ⟨?_, by show PartV lo n t.2.2 ti.v _; rw [← ty2]; exact hpv⟩
        show lo + n ≤ es'.length
        rw [hlen', hn]; exact hlo3) hrep
      have htagR : ((S.share (tagsL rest)).remake t es').tag t = some true := by
       show ((S.share (tagsL rest)).newTag t true).tag t = some true
       rw [newTag_tag, if_pos rfl]
      have hsr : SR w0 W F0 V N { g with τ := fun t' => if t' = t then some ti' else g.τ t', F := fun b j => shareF g S (tagsL rest) b j ∨ (w.heap.size ≤ b ∧ b < w'.heap.size) } ((S.share (tagsL rest)).remake t es') a w' :=
       ⟨hrem, ⟨hn2.wr.box, hn2.wr.tag⟩, hn2.keep, hn2.size, hn2.defers, hn2.fext, hn2.fnew, hn2.cap, hn2.pin⟩
      have hsh := hsr.share [t]
      refine ⟨_, _, hsh.put hd (.fz _ _ (hru.mono (fun b j hbj => ?_) (fun _ _ _ => rfl))), hK⟩
      rcases hbj with hbj | hbj | ⟨hb1, hb2⟩
      ·exact .inl (.inl hbj)
      ·exact .inl (.inr hbj)
      ·exact .inr ⟨t, List.mem_singleton.2 rfl, true, ti', htagR, if_pos rfl, hb1, hb2⟩
    ·exact hv.elim
   ·exact hv.elim
  | obj bs ts nb nt =>
   simp only [objP] at hv
   split at hv
   ·rename_i as sh hlend
    split at hv
    ·rename_i hin hin_
     obtain ⟨hok, htag, hsh, hfn, hcalls⟩ := hv
     have hL := lend_ok hok
     obtain ⟨vs, hrun, hsz, hr⟩ := call_enter h hc hf hargs hfn
     have hsh' : ∀ t ∈ sh, (∃ x, S.tag t = some x) ∧ t ∉ ts.map (·.1) := fun t ht => by
      have := List.all_eq_true.1 hsh t ht
      simp only [Bool.and_eq_true] at this
      exact ⟨Option.isSome_iff_exists.1 this.1, notIn_iff.1 this.2⟩
     have hs := h.share sh
     have hts : ∀ t t', (t, t') ∈ ts → (S.share sh).tag t = some true := fun t t' hm => by
      have h1 : S.tag t = some true := by
       have := List.all_eq_true.1 htag _ hm
       simpa using this
      have h2 : ¬ t ∈ sh := fun hm' => (hsh' t hm').2 (List.mem_map.2 ⟨_, hm, rfl⟩)
      rw [share_tag, h1]
      simp [h2]
     obtain ⟨l1, r1⟩ := lendA_sound h.core (fun t ht => (hsh' t ht).1) _ hlend (fun t ht => ht)
     have hin2 : seenH (S.share sh) bs ts bs = some hin := by rw [← hin_]; exact seenH_share _ _ _ _ _
     unfold Oper.wp
     rw [hrun, Oper.upon_enter]
     have hr2 : ∀ (i : Nat) (d : D) (v : Value), as[i]? = some d → vs[i]? = some v → Rep { g with F := shareF g S sh } w d v := fun i d v hd' hv' => by
      have hi : i < (first ++ ds ++ caps).length := by rw [← l1]; exact (List.getElem?_eq_some_iff.1 hd').1
      exact r1 i d v hd' _ (List.getElem?_eq_getElem hi) (hr i _ v (List.getElem?_eq_getElem hi) hv')
     have hcore := lent_core (L := ⟨bs, ts, nb, nt⟩) hs.core hL hin2 hts hr2 (by rw [hsz, l1])
     refine (hcalls (lentW { g with F := shareF g S sh } (S.share sh) ⟨bs, ts, nb, nt⟩) w _ vs (by rw [hsz, l1]) hcore (lent_wr hs.core hL hin2 _ _) (fun t ti ht hti => ?_)).mono fun en w' ⟨g', r, v, hp, tg, he, hK, hc', hw', hk', hne, hF1, hF2, hpin⟩ => ?_
     ·simp only [lentG] at hti
      cases hl : lkp t (swap ts) with
      | none => rw [hl] at hti; cases hti
      | some t0 =>
       have := (hL.tag _ _ (mem_swap.1 (lkp_mem hl))).2.2
       omega
     ·subst he
      obtain ⟨g2, h1, h2⟩ := hs.back hL hin2 hts hc' hw' hk' hne hF1 hF2 hpin
      exact ⟨_, _, h1.put hd h2, hK⟩
    ·exact hv.elim
   ·exact hv.elim
  | lend =>
   simp only at hv
   split at hv
   ·rename_i fs hfs
    obtain ⟨hlive, hfn, hcalls⟩ := hv
    have hl1 := live_all hlive
    obtain ⟨vs, hrun, hsz, hr⟩ := call_enter h hc hf hargs hfn
    obtain ⟨e1, e2⟩ := frz_args h hfs hl1 hsz hr
    unfold Oper.wp
    rw [hrun, Oper.upon_enter]
    have hs := h.share (tagsL (first ++ ds ++ caps))
    refine (hcalls _ w vs hs.core.frz e1 e2).mono fun e w' ⟨r, v, he, ⟨hp, hK⟩, hr, hk⟩ => ?_
    subst he
    exact ⟨_, _, (h.passed hk).put hd (.fz _ _ (hr.plain hp)), hK⟩
   ·exact hv.elim
 ·exact hv.elim
theorem run_equal_slice_nil' {t e : TypeId} (hu : P.underlying t = some (.slice e)) (p : Option Addr) (n c : Nat) : (Op.equal t (.slice p n c) (.slice none 0 0)).run P w = .ok p.isNone w := by
 show (Op.equalIn (9999 + 1) t (.slice p n c) (.slice none 0 0)).run P w = _
 generalize 9999 = k
 cases p <;> simp [Op.equalIn, run_underlying hu]
theorem so_isnil (h : SR w0 W F0 V N g S a w) {o : Oper} {neg : Bool} {x : Operand} {Q : Exit → Act → World → Prop} (hc : compOp P o = some (.isnil neg x)) (hd : ∀ t, o.dst = some t → t < N) (hv : vstep P (.isnil neg x) o.dst S K) :
    o.wp P a w (fun a' w' => ∃ g' S', SR w0 W F0 V N g' S' a' w' ∧ K S') Q := by
 obtain ⟨op, t, e, yt, ho, hu, hop⟩ := comp_isnil hc
 simp only [vstep] at hv
 split at hv
 ·rename_i tag es hx
  have hr := h.core.look hx
  have hv' : ∃ p n c, a.eval x = .slice p n c ∧ (p.isNone = true → es = []) := by
   generalize a.eval x = v at hr
   cases hr with
   | fz _ _ hr => cases hr with
    | nil => exact ⟨_, _, _, rfl, fun _ => rfl⟩
    | emp a c => exact ⟨_, _, _, rfl, fun h => by cases h⟩
    | sl => exact ⟨_, _, _, rfl, fun h => by cases h⟩
   | slT t' _ ti ht hn hl hr =>
    rcases ti.shape with ⟨h1, h2⟩ | ⟨b, c, h1⟩
    ·exact ⟨_, _, _, h1, fun _ => List.eq_nil_of_length_eq_zero (by omega)⟩
    ·exact ⟨_, _, _, h1, fun h => by cases h⟩
  obtain ⟨p, n, c, hev, hes⟩ := hv'
  have hrun : (execOp a.eval o).run P w = .ok (.value (.bool (p.isNone != neg))) w := by
   have hnil : a.eval (.const (.slice none 0 0)) = .slice none 0 0 := rfl
   rcases hop with ⟨rfl, rfl⟩ | ⟨rfl, rfl⟩
   ·have hg : (eqGuard .eql t x (.const (.slice none 0 0)) (.slice p n c) (.slice none 0 0)).run P w = .ok () w := rfl
    simp only [execOp, ho, hev, hnil, Sem.run_bind, hg, Result.andThen_ok, binOp, run_equal_slice_nil' hu, Sem.run_pure, Bool.bne_false]
   ·have hg : (eqGuard .neq t x (.const (.slice none 0 0)) (.slice p n c) (.slice none 0 0)).run P w = .ok () w := rfl
    simp only [execOp, ho, hev, hnil, Sem.run_bind, hg, Result.andThen_ok, binOp, run_equal_slice_nil' hu, Sem.run_pure, Bool.bne_true]
  unfold Oper.wp
  rw [hrun, Oper.upon_value]
  exact ⟨_, _, h.put hd (.fz _ _ (.val _)), hv.2 _ hes⟩
 ·exact hv.elim
def MOp.strip : MOp → MOp
 | .call f args _ => .call f args .pure
 | .alloc t z => .alloc t (z.map nilD)
 | .build z ps => .build (z.map nilD) ps
 | m => m
theorem vstep_sound (h : SR w0 W F0 V N g S a w) {o : Oper} {m : MOp} {Q : Exit → Act → World → Prop} (hc : compOp P o = some m.strip) (hd : ∀ t, o.dst = some t → t < N) (hst : ∀ sz x v, m = .store sz x v → o.dst = none) (hv : vstep P m o.dst S K) :
    o.wp P a w (fun a' w' => ∃ g' S', SR w0 W F0 V N g' S' a' w' ∧ K S') Q := by
 have pure : compOp P o = some m → (match pop S m with | some d => K (S.put o.dst d) | none => False) → o.wp P a w (fun a' w' => ∃ g' S', SR w0 W F0 V N g' S' a' w' ∧ K S') Q := fun hc hv => by
  split at hv
  ·rename_i d hp
   obtain ⟨v, hrun, hr⟩ := pop_sound h.core hc hp
   unfold Oper.wp
   rw [hrun, Oper.upon_value]
   exact ⟨g, _, h.put hd hr, hv⟩
  ·exact hv.elim
 cases m
 case build z ps =>
  simp only [vstep] at hv
  split at hv
  ·rename_i d hp
   obtain ⟨v, hrun, hr⟩ := build_sound h.core hc hp
   unfold Oper.wp
   rw [hrun, Oper.upon_value]
   exact ⟨g, _, h.put hd hr, hv⟩
  ·exact hv.elim
 case nilsl e sz => exact so_nilsl h hc hd hv
 case alloc t z => exact so_alloc h hc hd hv
 case box t sz x => exact so_box h hc hd hv
 case bslice e sz z len ps => exact so_bslice h hc hd hv
 case store sz x v => exact so_store h hc (hst _ _ _ rfl) hv
 case append e sz bytes x y => exact so_append h hc hd hv
 case call f args md => exact so_call h hc hd hv
 case isnil neg x => exact so_isnil h hc hd hv
 case xop k => exact so_xop h hc hd hv
 all_goals exact pure hc hv
end Go.Vm

namespace Go.Vm
open Go.RowKit
variable {P : Program} {w0 w w' : World} {W F0 : Reg} {V : Pins} {N : Nat} {g g' : Gh} {S S' : St} {a : Act} {tm : Array Value} {K : St → Prop}
def MO.strip (m : MO) : MO := { m with op := m.op.strip }
def want (S : St) : Option (Nat × Bool) → Option Bool
 | none => some true
 | some (t, b) => match S.get t with
  | some (.val (.bool c)) => some (c == b)
  | some (.val (.tuple _)) => some false
  | _ => none
def evOps (P : Program) : List MO → St → (St → Prop) → Prop
 | [], S, K => K S
 | o :: rest, S, K => match want S o.guard with
  | some true => vstep P o.op o.dst S fun S' => evOps P rest S' K
  | some false => evOps P rest (S.put o.dst (.val undef)) K
  | none => False
def compOps (P : Program) (ops : Array Oper) : List Oper → Option (List MO)
 | [] => some []
 | o :: l => match compO P ops o, compOps P ops l with
  | some m, some ms => some (m :: ms)
  | _, _ => none
def dstOk (N : Nat) (m : MO) : Bool := m.dst.all (fun t => decide (t < N)) && (match m.op with | .store .. => m.dst.isNone | _ => true)
theorem compO_spec {ops : Array Oper} {o : Oper} {m : MO} (h : compO P ops o = some m) : compOb P o = m.op ∧ m.dst = o.dst ∧
    ((o.guard = none ∧ m.guard = none) ∨ ∃ j b go t, o.guard = some (j, b) ∧ ops[j]? = some go ∧ go.dst = some t ∧ m.guard = some (t, b)) := by
 unfold compO at h
 split at h
 ·rename_i hg
  injection h with h; subst h
  exact ⟨rfl, rfl, .inl ⟨hg, rfl⟩⟩
 ·rename_i j b hg
  split at h
  ·rename_i go hgo
   split at h
   ·rename_i t ht
    injection h with h; subst h
    exact ⟨rfl, rfl, .inr ⟨j, b, go, t, hg, hgo, ht, rfl⟩⟩
   ·cases h
  ·cases h
theorem strip_bad {m : MOp} (h : m.strip = .bad) : m = .bad := by
 cases m <;> first | rfl | cases h
theorem want_sound (h : Core g S a.tmps w) {ops : Array Oper} {o : Oper} {m : MO} (hc : compO P ops o = some m) {c : Bool} (hw : want S m.guard = some c) : Region.wanted o (yielded ops a.tmps) = c := by
 obtain ⟨h1, h2, h3⟩ := compO_spec hc
 rcases h3 with ⟨hg, hm⟩ | ⟨j, b, go, t, hg, hgo, ht, hm⟩
 ·rw [hm] at hw
  simp only [want, Option.some.injEq] at hw
  simp [Region.wanted, hg, hw]
 ·rw [hm] at hw
  simp only [want] at hw
  have hy : yielded ops a.tmps j = match a.tmps[t]? with | some (.bool c) => some c | _ => none := by
   simp only [yielded, hgo, Option.bind_some, ht]
   cases a.tmps[t]? with
   | none => rfl
   | some v => cases v <;> rfl
  split at hw
  ·rename_i c' hget
   have hv := (h.env t _ hget).val_inv
   rw [Array.getD_eq_getD_getElem?] at hv
   injection hw with hw
   cases hq : a.tmps[t]? with
   | none => rw [hq] at hv; simp [undef] at hv
   | some v =>
    rw [hq] at hv
    simp only [Option.getD_some] at hv
    subst hv
    rw [hq] at hy
    simp only [Region.wanted, hg, hy, ← hw]
    cases c' <;> cases b <;> rfl
  ·rename_i vs hget
   have hv := (h.env t _ hget).val_inv
   rw [Array.getD_eq_getD_getElem?] at hv
   injection hw with hw
   have : yielded ops a.tmps j = none := by
    rw [hy]
    cases hq : a.tmps[t]? with
    | none => rfl
    | some v =>
     rw [hq] at hv
     simp only [Option.getD_some] at hv
     subst hv
     rfl
   simp only [Region.wanted, hg, this, ← hw]
   rfl
  ·cases hw
theorem dst_ok {m : MO} (h : dstOk N m = true) : (∀ t, m.dst = some t → t < N) ∧ (∀ sz x v, m.op = .store sz x v → m.dst = none) := by
 simp only [dstOk, Bool.and_eq_true] at h
 refine ⟨fun t ht => ?_, fun sz x v hm => ?_⟩
 ·have := h.1
  rw [ht] at this
  simpa using this
 ·have := h.2
  rw [hm] at this
  simpa using this
theorem evOp_sound (h : SR w0 W F0 V N g S a w) {ops : Array Oper} {Q : Exit → Act → World → Prop} {i : Nat} {o : Oper} {m : MO} (hi : ops[i]? = some o) (hc : compO P ops o = some m.strip) (hd : dstOk N m = true)
    (hv : match want S m.guard with | some true => vstep P m.op m.dst S K | some false => K (S.put m.dst (.val undef)) | none => False) :
    wpOp P ops Q i (fun a' w' => ∃ g' S', SR w0 W F0 V N g' S' a' w' ∧ K S') a w := by
 obtain ⟨h1, h2, h3⟩ := compO_spec hc
 replace h2 : m.dst = o.dst := h2
 obtain ⟨d1, d2⟩ := dst_ok hd
 unfold wpOp
 simp only [hi]
 split at hv
 ·rename_i hw
  have := want_sound (m := m.strip) h.core hc hw
  simp only [this, if_true]
  left
  rw [h2] at hv d1
  by_cases hb : m.op = .bad
  ·rw [hb] at hv; exact hv.elim
  ·exact vstep_sound h (compOb_some h1 (fun e => hb (strip_bad e))) d1 (fun sz x v hm => by rw [← h2]; exact d2 sz x v hm) hv
 ·rename_i hw
  have := want_sound (m := m.strip) h.core hc hw
  simp only [this, Bool.false_eq_true, if_false]
  rw [h2] at hv d1
  exact ⟨g, _, h.put d1 (.fz _ _ (.val _)), hv⟩
 ·exact hv.elim
theorem compOps_get0 {ops : Array Oper} : ∀ {l : List Oper} {ms : List MO}, compOps P ops l = some ms → ms.length = l.length ∧ ∀ (i : Nat) (o : Oper) (m : MO), l[i]? = some o → ms[i]? = some m → compO P ops o = some m
 | [], ms, h => by
  simp only [compOps, Option.some.injEq] at h; subst h
  exact ⟨rfl, fun i o m ho => by simp at ho⟩
 | o :: l, ms, h => by
  simp only [compOps] at h
  split at h
  ·rename_i m ms' h1 h2
   injection h with h; subst h
   obtain ⟨e1, e2⟩ := compOps_get0 h2
   refine ⟨by simp [e1], fun i o' m' ho hm => ?_⟩
   cases i with
   | zero => simp at ho hm; subst ho; subst hm; exact h1
   | succ i => exact e2 i o' m' (by simpa using ho) (by simpa using hm)
  ·cases h
theorem compOps_get {ops : Array Oper} {l : List Oper} {ms : List MO} (h : compOps P ops l = some (ms.map MO.strip)) : ms.length = l.length ∧ ∀ (i : Nat) (o : Oper) (m : MO), l[i]? = some o → ms[i]? = some m → compO P ops o = some m.strip := by
 obtain ⟨h1, h2⟩ := compOps_get0 h
 exact ⟨by simpa using h1, fun i o m ho hm => h2 i o m.strip ho (by simp [hm])⟩
theorem ops_sound {ops : Array Oper} {Q : Exit → Act → World → Prop} {ms : List MO} (hc : compOps P ops ops.toList = some (ms.map MO.strip)) (hd : ms.all (dstOk N) = true) : ∀ (n k : Nat) (g : Gh) (S : St) (a : Act) (w : World), k + n = ops.size → SR w0 W F0 V N g S a w →
    evOps P (ms.drop k) S K → (∀ g' S' a' w', SR w0 W F0 V N g' S' a' w' → K S' → Q .normal a' w') → wpOps P ops Q (List.range' k n) a w := by
 obtain ⟨hl, hget⟩ := compOps_get hc
 intro n
 induction n with
 | zero =>
  intro k g S a w hk hS hv hQ
  have : ms.drop k = [] := List.drop_of_length_le (by simp at hl; omega)
  rw [this] at hv
  exact hQ g S a w hS hv
 | succ n ih =>
  intro k g S a w hk hS hv hQ
  have hkl : k < ms.length := by simp at hl; omega
  have hko : k < ops.size := by omega
  rw [List.drop_eq_getElem_cons hkl] at hv
  simp only [evOps] at hv
  rw [List.range'_succ, wpOps_cons]
  have hcm := hget k ops[k] ms[k] (by simp [hko]) (List.getElem?_eq_getElem hkl)
  have := evOp_sound (P := P) (ops := ops) (Q := Q) (K := fun S' => evOps P (ms.drop (k + 1)) S' K) hS (Array.getElem?_eq_getElem hko) hcm (List.all_eq_true.1 hd _ (List.getElem_mem hkl)) hv
  exact wpOp_mono (fun a' w' ⟨g', S', h1, h2⟩ => ih (k + 1) g' S' a' w' (by omega) h1 h2 hQ) this
theorem reg_sound {id : Nat} {ops : Array Oper} {Q : Exit → Act → World → Prop} {ms : List MO} (hc : compOps P ops ops.toList = some (ms.map MO.strip)) (hd : ms.all (dstOk N) = true) (hS : SR w0 W F0 V N g S a w) (hv : evOps P ms S K)
    (hQ : ∀ g' S' a' w', SR w0 W F0 V N g' S' a' w' → K S' → Q .normal a' w') : (Code.region id ops false).wp P Q a w := by
 refine wp_region ?_
 rw [List.range_eq_range']
 exact ops_sound hc hd ops.size 0 g S a w (by omega) hS (by simpa using hv) hQ
end Go.Vm

namespace Go.Vm
open Go.RowKit
variable {P : Program} {w0 w w' : World} {W F0 : Reg} {V : Pins} {N : Nat} {g g' : Gh} {S S' : St} {a : Act} {tm : Array Value} {K : St → Prop}
def XOp.reads : XOp → List Operand
 | .clr _ _ x => [x]
 | .slc3 _ x lo hi mx => x :: mx :: (lo.toList ++ hi.toList)
 | .appP _ _ _ x y => [x, y]
def MOp.reads : MOp → List Operand
 | .mov x | .movS x | .load _ x | .un _ x | .conv _ x | .faddr _ x | .fld _ _ x | .lenS x | .lenL x | .ext x _ | .nilck x | .b2s x | .box _ _ x | .isnil _ x => [x]
 | .bin _ x y | .binB _ x y | .binP _ x y | .eqs _ _ x y | .iaddrS _ x y | .iaddrA _ _ x y | .idxA _ _ _ x y | .idxS x y | .store _ x y | .append _ _ _ x y => [x, y]
 | .pick c x y => [c, x, y]
 | .build _ ps | .bslice _ _ _ _ ps => ps.map fun p => p.2.2
 | .slcS x lo hi | .slc _ x lo hi | .slcA _ x lo hi => x :: (lo.toList ++ hi.toList)
 | .minmax _ xs => xs
 | .mkfn _ x y => x ++ y
 | .call f xs _ => f :: xs
 | .alloc _ _ | .nilsl _ _ | .bad => []
 | .xop k => k.reads
structure Alike (S S' : St) (xs : List Operand) : Prop where
 look : ∀ x ∈ xs, look S x = look S' x
 hp : S.hp = S'.hp
 tg : S.tg = S'.tg
theorem Alike.sub {xs ys : List Operand} (h : Alike S S' xs) (hs : ∀ y ∈ ys, y ∈ xs) : Alike S S' ys := ⟨fun y hy => h.look y (hs y hy), h.hp, h.tg⟩
theorem Alike.box {xs : List Operand} (h : Alike S S' xs) (o : Nat) : S.box o = S'.box o := by simp [St.box, h.hp]
theorem Alike.tag {xs : List Operand} (h : Alike S S' xs) (t : Tag) : S.tag t = S'.tag t := by simp [St.tag, h.tg]
theorem Alike.looks : ∀ {xs : List Operand}, Alike S S' xs → Vm.looks S xs = Vm.looks S' xs
 | [], _ => rfl
 | x :: xs, h => by
  simp only [Vm.looks]
  rw [h.look x (by simp), Alike.looks (h.sub (fun y hy => by simp [hy]))]
theorem Alike.fill : ∀ {ps : List (Nat × Nat × Operand)} (_ : Alike S S' (ps.map fun p => p.2.2)) (cs : List D), fillD S cs ps = fillD S' cs ps
 | [], _, _ => rfl
 | (off, sz, x) :: ps, h, cs => by
  simp only [fillD]
  rw [h.look x (by simp)]
  have := Alike.fill (ps := ps) (h.sub (fun y hy => by simp at hy ⊢; exact .inr hy))
  split
  ·split
   ·split
    ·exact this _
    ·rfl
   ·rfl
  ·rfl
theorem Alike.bound {xs : List Operand} (h : Alike S S' xs) {x : Option Operand} (hx : ∀ y, x = some y → y ∈ xs) (dflt top : Nat) : boundD S dflt top x = boundD S' dflt top x := by
 cases x with
 | none => rfl
 | some y => simp only [boundD]; rw [h.look y (hx y rfl)]
theorem Alike.part {xs : List Operand} (h : Alike S S' xs) {lo hi : Option Operand} (h1 : ∀ y, hi = some y → y ∈ xs) (h2 : ∀ y, lo = some y → y ∈ xs) (sz : Nat) (t : Tag) (lo0 n : Nat) (es : List (List D)) : partD S sz lo hi t lo0 n es = partD S' sz lo hi t lo0 n es := by
 have hlive : S.live (some (t, 0)) = S'.live (some (t, 0)) := by simp only [St.live]; congr 1; funext y; rw [h.tag]
 unfold partD
 rw [hlive, h.bound h1]
 split
 ·split
  ·rw [h.bound h2]
  ·rfl
 ·rfl
theorem Alike.pop {m : MOp} (h : Alike S S' m.reads) : Vm.pop S m = Vm.pop S' m := by
 cases m <;> simp only [Vm.pop] <;> simp only [MOp.reads] at h
 case build z ps => rw [h.fill]
 case slcS x lo hi =>
  rw [h.look x (by simp)]
  split
  ·rename_i d hd
   simp only [slcSD]
   split
   ·rw [h.bound (x := hi) (fun y hy => by subst hy; simp)]
    split
    ·rw [h.bound (x := lo) (fun y hy => by subst hy; simp)]
    ·rfl
   ·rfl
  ·rfl
 case slc sz x lo hi =>
  rw [h.look x (by simp)]
  split
  ·rename_i d hd
   simp only [slcD]
   split
   ·exact h.part (fun y hy => by subst hy; simp) (fun y hy => by subst hy; simp) _ _ _ _ _
   ·exact h.part (fun y hy => by subst hy; simp) (fun y hy => by subst hy; simp) _ _ _ _ _
   ·rw [h.bound (x := hi) (fun y hy => by subst hy; simp)]
    split
    ·split
     ·rw [h.bound (x := lo) (fun y hy => by subst hy; simp)]
     ·rfl
    ·rfl
   ·rfl
  ·rfl
 case slcA n x lo hi =>
  rw [h.look x (by simp)]
  split
  ·rename_i d hd
   simp only [slcAD]
   split
   ·rw [h.bound (x := hi) (fun y hy => by subst hy; simp)]
    split
    ·split
     ·rw [h.bound (x := lo) (fun y hy => by subst hy; simp)]
     ·rfl
    ·rfl
   ·rfl
  ·rfl
 case minmax mx xs => rw [h.looks]
 case mkfn f x y => rw [(h.sub (ys := x) (fun z hz => by simp [hz])).looks, (h.sub (ys := y) (fun z hz => by simp [hz])).looks]
 case load sz x =>
  rw [h.look x (by simp)]
  split
  ·rename_i d hd
   simp only [loadD]
   split
   ·rw [h.box]
   ·have : ∀ own, S.live own = S'.live own := fun own => by simp only [St.live]; congr 1; funext y; rw [h.tag]
    rw [this]
   ·rfl
  ·rfl
 case b2s x =>
  rw [h.look x (by simp)]
  split
  ·rename_i d hd
   simp only [b2sD]
   split
   ·have : ∀ own, S.live own = S'.live own := fun own => by simp only [St.live]; congr 1; funext y; rw [h.tag]
    rw [this]
   ·rfl
  ·rfl
 all_goals first
  | rfl
  | (rw [h.look _ List.mem_cons_self, h.look _ (List.mem_cons_of_mem _ List.mem_cons_self), h.look _ (List.mem_cons_of_mem _ (List.mem_cons_of_mem _ List.mem_cons_self))]; done)
  | (rw [h.look _ List.mem_cons_self, h.look _ (List.mem_cons_of_mem _ List.mem_cons_self)]; done)
  | (rw [h.look _ List.mem_cons_self]; done)
def QV (P : Program) (m : MOp) (S : St) (d : D) : Prop :=
 match m with
 | .nilsl _ _ => d = .sl none []
 | .bslice _ sz zero len parts => ∃ cs fs, fillD S (rept zero len) parts = some cs ∧ frzL cs = some fs ∧ tagsL cs = [] ∧ fs.all D.one = true ∧ d = .sl none (chunk sz len fs)
 | .call f args md => (match md with | .pure => True | _ => False) ∧ ∃ k first caps ds fs, look S f = some (.fn k first caps) ∧ looks S args = some ds ∧ frzL (first ++ ds ++ caps) = some fs ∧ tagsL (first ++ ds ++ caps) = [] ∧ PureAt P k fs fun r => r = d
 | m => pop S m = some d
theorem QV.alike {m : MOp} {d : D} (h : QV P m S d) (ha : Alike S S' m.reads) : QV P m S' d := by
 cases m <;> simp only [QV] at h ⊢ <;> first
  | (rw [← ha.pop]; exact h)
  | exact h
  | (obtain ⟨cs, fs, h1, h2⟩ := h; exact ⟨cs, fs, by rw [← Alike.fill (by simpa [MOp.reads] using ha)]; exact h1, h2⟩)
  | (obtain ⟨h0, k, first, caps, ds, fs, h1, h2, h3⟩ := h
     simp only [MOp.reads] at ha
     exact ⟨h0, k, first, caps, ds, fs, by rw [← ha.look _ (by simp)]; exact h1, by rw [← (ha.sub (fun y hy => by simp [hy])).looks]; exact h2, h3⟩)
theorem only_all (S : St) : S.only (fun _ => true) (fun _ => true) = S := by
 have hkeep : ∀ d : D, d.keep (fun _ => true) (fun _ => true) = d := fun d => by simp [D.keep, avoids_all]
 have h1 : ∀ l : List D, l.map (D.keep (fun _ => true) fun _ => true) = l := fun l => by
  rw [List.map_congr_left (g := id) (fun d _ => hkeep d)]; simp
 have h2 : ∀ l : List (Nat × D), (l.map fun x => (x.1, x.2.keep (fun _ => true) fun _ => true)) = l := fun l => by
  induction l with
  | nil => rfl
  | cons x l ih => rw [List.map_cons, ih, hkeep]
 have h3 : ∀ l : List (Nat × List D), (l.map fun x => (x.1, x.2.map (D.keep (fun _ => true) fun _ => true))) = l := fun l => by
  induction l with
  | nil => rfl
  | cons x l ih => rw [List.map_cons, ih, h1]
 simp only [St.only, h2, h3]
theorem share_nil (S : St) : S.share [] = S := by
 have h : ∀ l : List (Tag × Bool), (l.map fun y => (y.1, y.2 && !([] : List Tag).contains y.1)) = l := fun l => by
  induction l with
  | nil => rfl
  | cons x l ih => rw [List.map_cons, ih]; simp
 simp only [St.share, h]
theorem SR.newF (h : SR w0 W F0 V N g S a w) (vs : Array Value) (e : TypeId) :
    SR w0 W F0 V N { g with F := fun b k => g.F b k ∨ b = w.heap.size } S a (w.alloc (.cells vs e (0, 0))) := by
 have hl : Later g { g with F := fun b k => g.F b k ∨ b = w.heap.size } w (w.alloc (.cells vs e (0, 0))) (fun _ => true) (fun _ => true) :=
  ⟨fun _ _ _ h => h, fun _ _ _ h => h, fun _ _ h => .inl h, fun b k hF => World.cell?_of_block (a := ⟨b, k, none⟩) (heap_alloc_old w _ b (h.core.frz.1 b k hF))⟩
 have hc := h.core.later hl (fun _ _ _ => rfl) (fun _ _ _ => rfl) (fun b ob hb => by rw [heap_alloc_old w _ b (Array.getElem?_eq_some_iff.1 hb).1]; exact hb) (fun b k hF => by
  rcases hF with hF | hF
  ·exact .inl hF
  ·exact .inr (by omega)) (fun b k hF => by
  rcases hF with hF | hF
  ·have := h.core.frz.1 b k hF; simp; omega
  ·simp; omega)
 rw [only_all] at hc
 refine h.later hc ⟨h.wr.box, h.wr.tag⟩ (Keep.alloc (fun _ _ => False) w _) (fun _ _ _ h => h.elim) (fun _ _ h => .inl h) (fun b k hF => ?_) (fun t ti _ h => ⟨ti, h, rfl⟩)
 rcases hF with hF | hF
 ·exact .inl hF
 ·have := h.le
  exact .inr (.inl (by omega))
theorem q_sound (h : SR w0 W F0 V N g S a w) {o : Oper} {m : MOp} {d : D} {Q : Exit → Act → World → Prop} (hcb : compOb P o = m.strip) (hd : ∀ t, o.dst = some t → t < N) (hq : QV P m S d) :
    o.wp P a w (fun a' w' => ∃ g', SR w0 W F0 V N g' (S.put o.dst d) a' w') Q := by
 have hnb : m ≠ .bad := by rintro rfl; simp [QV, pop] at hq
 have hc := compOb_some hcb (fun e => hnb (strip_bad e))
 have pure : compOp P o = some m → pop S m = some d → o.wp P a w (fun a' w' => ∃ g', SR w0 W F0 V N g' (S.put o.dst d) a' w') Q := fun hc hp => by
  obtain ⟨v, hrun, hr⟩ := pop_sound h.core hc hp
  unfold Oper.wp
  rw [hrun, Oper.upon_value]
  exact ⟨g, h.put hd hr⟩
 cases m
 case build z ps =>
  obtain ⟨v, hrun, hr⟩ := build_sound h.core hc (show pop S (.build z ps) = some d from hq)
  unfold Oper.wp
  rw [hrun, Oper.upon_value]
  exact ⟨g, h.put hd hr⟩
 case nilsl e sz =>
  simp only [QV] at hq; subst hq
  have ho := comp_nilsl hc
  unfold Oper.wp
  simp only [execOp, ho, Sem.run_pure, Oper.upon_value]
  exact ⟨g, h.put hd (.fz _ _ .nil)⟩
 case call f args md =>
  simp only [QV] at hq
  obtain ⟨hmd, k, first, caps, ds, fs, h1, h2, h3, h4, h5⟩ := hq
  have : md = .pure := by cases md <;> simp_all
  subst this
  have := so_call (md := .pure) (K := fun S' => S' = S.put o.dst d) (Q := Q) h hc hd (by
   simp only [vstep, h1, h2, h3]
   refine ⟨by rw [h4]; rfl, h5.mono fun r hr => ?_⟩
   rw [h4, share_nil, hr])
  exact Oper.wp_mono (fun a' w' ⟨g', S', e1, e2⟩ => ⟨g', e2 ▸ e1⟩) this
 case bslice e sz z len ps =>
  simp only [QV] at hq
  obtain ⟨cs, fs, hfill, hfs, htags, hone, rfl⟩ := hq
  obtain ⟨t, parts, i, zv, ho, hu, hi, hz, rfl, h0, hzs, hbig, rfl, rfl⟩ := comp_bslice hc
  have hplace : (parts.toList.map fun p => (p.1 * i.size, i.size, p.2)).length = parts.toList.length ∧ ∀ (q : Nat) (p : Nat × Operand) (r : Nat × Nat × Operand), parts.toList[q]? = some p → (parts.toList.map fun p => (p.1 * i.size, i.size, p.2))[q]? = some r →
      (fun j => some (j * i.size, i.size)) p.1 = some (r.1, r.2.1) ∧ p.2 = r.2.2 := by
   refine ⟨by simp, fun q p r hp hr => ?_⟩
   simp only [List.getElem?_map, hp, Option.map_some, Option.some.injEq] at hr
   subst hr
   exact ⟨rfl, rfl⟩
  obtain ⟨us, e1, e2, e3⟩ := fill_sound h.core (place := fun j => some (j * i.size, i.size)) hplace (hzs ▸ rept_cells zv (by omega) len) hfill
  obtain ⟨l1, hF⟩ := frzL_sound (h.core) (ts := []) (fun t ht => by simp at ht) cs hfs (fun t ht => by rw [htags] at ht; exact ht)
  have hlen : fs.length = len * i.size := by rw [l1, ← e2.1, e3]; simp
  have husz : us.size = len * i.size := by rw [e3]; simp
  have hrun : (execOp a.eval o).run P w = .ok (.value (.slice (some ⟨w.heap.size, 0, none⟩) len len)) (w.alloc (.cells us e (0, 0))) := by
   simp only [execOp, ho, Sem.run_bind]
   rw [run_bslice t e len _ us i zv hu hi hz hbig (by rw [map_parts, ← hzs]; rw [← hzs] at e1; exact e1)]
   rfl
  unfold Oper.wp
  rw [hrun, Oper.upon_value]
  have hn := h.newF us e
  refine ⟨_, hn.put hd (.fz _ _ ?_)⟩
  have repf : ∀ (q : Nat) (d' : D), fs[q]? = some d' → ∃ u, us[q]? = some u ∧ RepF g.F w d' u := fun q d' hq => by
   have hq1 : q < fs.length := (List.getElem?_eq_some_iff.1 hq).1
   have hq2 : q < us.size := by omega
   have hq3 : q < cs.length := by rw [← e2.1]; omega
   refine ⟨us[q], Array.getElem?_eq_getElem hq2, (hF q d' _ hq _ (List.getElem?_eq_getElem hq3) (e2.2 q _ _ (List.getElem?_eq_getElem hq3) (Array.getElem?_eq_getElem hq2))).mono (fun b k hFk => ?_) (fun _ _ _ => rfl)⟩
   rcases hFk with h6 | ⟨t', ht', _⟩
   ·exact h6
   ·simp at ht'
  have hlt : ∀ q j, q < (chunk i.size len fs).length → j < i.size → 0 + q * i.size + j < us.size := fun q j hq hj => by
   rw [chunk_length] at hq
   have : (q + 1) * i.size ≤ len * i.size := Nat.mul_le_mul_right _ hq
   rw [Nat.succ_mul] at this; omega
  have := RepF.sl (F := fun b k => g.F b k ∨ b = w.heap.size) (w := w.alloc (.cells us e (0, 0))) w.heap.size 0 i.size len (chunk i.size len fs) (fun q j => us.getD (0 + q * i.size + j) undef) (by rw [chunk_length]; exact Nat.le_refl _)
   (fun q el hq => by
    have hq1 : q < len := by have := (List.getElem?_eq_some_iff.1 hq).1; rwa [chunk_length] at this
    have : (q + 1) * i.size ≤ len * i.size := Nat.mul_le_mul_right _ hq1
    rw [Nat.succ_mul] at this
    rw [chunk_get _ _ _ _ _ hq]
    simp; omega)
   (fun q j hq hj => .inr rfl)
   (fun q j hq hj => by
    have := hlt q j hq hj
    rw [cell_of_row _ _ _ us e (0, 0) (heap_alloc_new w _), Array.getElem?_eq_getElem this, Array.getD_eq_getD_getElem?, Array.getElem?_eq_getElem this]; rfl)
   (fun q j hq hj => by
    have h7 := hlt q j hq hj
    have h8 : 0 + q * i.size + j < fs.length := by omega
    obtain ⟨u, h9, h10⟩ := repf _ _ (List.getElem?_eq_getElem h8)
    rw [Array.getD_eq_getD_getElem?, h9]
    exact h10.one (List.all_eq_true.1 hone _ (List.getElem_mem h8)))
   (fun q el j d' hq hj => by
    rw [chunk_get _ _ _ _ _ hq, List.getElem?_take] at hj
    split at hj
    ·rw [List.getElem?_drop] at hj
     obtain ⟨u, h9, h10⟩ := repf _ _ hj
     rw [Nat.zero_add, Array.getD_eq_getD_getElem?, h9]
     exact h10.mono (fun _ _ h => .inl h) (fun b k hFk => World.cell?_of_block (a := ⟨b, k, none⟩) (heap_alloc_old w _ b (h.core.frz.1 b k hFk)))
    ·cases hj)
  rw [chunk_length] at this
  exact this
 case alloc t z => simp [QV, pop] at hq
 all_goals exact pure hc hq
end Go.Vm
