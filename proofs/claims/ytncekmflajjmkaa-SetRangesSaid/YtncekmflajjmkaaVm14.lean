/- The value machine, 14: one operation, whatever it is. -/
import Derived.Test.YtncekmflajjmkaaVm13
import Derived.Great.BuildSlice
namespace Go.Vm
open Go.RowKit
variable {P : Program} {w0 w w' : World} {W F0 : Reg} {V : Tag → Option Value} {N : Nat} {g g' : Gh} {S : St} {a : Act} {tm : Array Value} {K : St → Prop}

theorem rept_get {α : Type} (xs : List α) (h0 : 0 < xs.length) : ∀ (n i : Nat), i < n * xs.length → (rept xs n)[i]? = xs[i % xs.length]?
  | 0, i, h => by omega
  | n + 1, i, h => by
    simp only [rept]
    by_cases hi : i < xs.length
    · rw [List.getElem?_append_left hi, Nat.mod_eq_of_lt hi]
    · rw [Nat.succ_mul] at h
      rw [List.getElem?_append_right (by omega), rept_get xs h0 n _ (by omega), ← Nat.mod_eq_sub_mod (by omega)]

theorem rept_length {α : Type} (xs : List α) : ∀ n, (rept xs n).length = n * xs.length
  | 0 => by simp [rept]
  | n + 1 => by simp [rept, rept_length xs n, Nat.succ_mul, Nat.add_comm]

theorem rept_cells (z : Value) (h0 : 0 < z.cells.size) (len : Nat) : Cells g w (rept (zeroD z) len) ((Array.range (len * z.cells.size)).map (z.cells[· % z.cells.size]!)) := by
  have hz := zero_cells (g := g) (w := w) z
  have hzl : (zeroD z).length = z.cells.size := hz.1.symm
  refine ⟨by rw [rept_length, hzl]; simp, fun i d v hd hv => ?_⟩
  have hi : i < len * z.cells.size := by
    have := (List.getElem?_eq_some_iff.1 hd).1
    rwa [rept_length, hzl] at this
  rw [rept_get _ (by omega) _ _ (by rw [hzl]; exact hi), hzl] at hd
  rw [Array.getElem?_map] at hv
  obtain ⟨j, hj, rfl⟩ := Option.map_eq_some_iff.1 hv
  have : j = i := by
    have h1 : (Array.range (len * z.cells.size))[i]? = some i := by simp [hi]
    rw [h1] at hj; injection hj with hj; exact hj.symm
  subst this
  have hm : j % z.cells.size < z.cells.size := Nat.mod_lt _ h0
  refine hz.2 (j % z.cells.size) d _ hd ?_
  simp [hm]

theorem chunk_length (sz : Nat) : ∀ (n : Nat) (cs : List D), (chunk sz n cs).length = n
  | 0, _ => rfl
  | n + 1, cs => by simp [chunk, chunk_length sz n]

theorem chunk_get (sz : Nat) : ∀ (n : Nat) (cs : List D) (i : Nat) (e : List D), (chunk sz n cs)[i]? = some e → e = (cs.drop (i * sz)).take sz
  | 0, cs, i, e, h => by simp [chunk] at h
  | n + 1, cs, i, e, h => by
    simp only [chunk] at h
    cases i with
    | zero => simp at h; simp [← h]
    | succ i =>
      have := chunk_get sz n (cs.drop sz) i e (by simpa using h)
      rw [this, List.drop_drop, Nat.succ_mul, Nat.add_comm]

theorem run_bslice (t e : TypeId) (len : Nat) (parts : Array (Nat × Value)) (cells : Array Value) (ie : TypeInfo) (z : Value) (hu : P.underlying t = some (.slice e)) (hie : P.info? e = some ie) (hz : ie.zero = some z) (hsmall : len * ie.size ≤ 2 ^ 24)
    (h : Instr.fill (fun i => some (i * ie.size, ie.size)) ((Array.range (len * ie.size)).map (z.cells[· % z.cells.size]!)) parts.toList = some cells) :
    (Instr.buildSlice t len parts).run P w = .ok (.slice (some ⟨w.heap.size, 0, none⟩) len len) (w.alloc (.cells cells e)) := by
  by_cases h0 : len * ie.size = 0
  · rw [h0] at h
    have r0 : ∀ f : Nat → Value, (Array.range 0).map f = #[] := fun f => Array.eq_empty_of_size_eq_zero (by simp)
    have h' : Instr.fill (fun i => some (i * ie.size, ie.size)) #[] parts.toList = some cells := by rw [r0] at h; exact h
    have h2 : ¬ (len * ie.size > 2 ^ 24) := by omega
    simp only [Instr.buildSlice, run_underlying hu, sizeOf, typeInfo, hie, Sem.run_bind, run_program, Result.andThen_ok, Sem.run_pure, h0, Sem.run_ite]
    simp [r0, h', newRow]
  · exact run_buildSlice w t e len parts cells ie z hu hie hz (by omega) h0 h

theorem so_bslice (h : SR w0 W F0 V N g S a w) {o : Oper} {e sz len : Nat} {z : List D} {ps : List (Nat × Nat × Operand)} {Q : Exit → Act → World → Prop} (hc : compOp P o = some (.bslice e sz z len ps)) (hd : ∀ t, o.dst = some t → t < N)
    (hv : vstep P (.bslice e sz z len ps) o.dst S K) : o.wp P a w (fun a' w' => ∃ g' S', SR w0 W F0 V N g' S' a' w' ∧ K S') Q := by
  obtain ⟨t, parts, i, zv, ho, hu, hi, hz, rfl, h0, hzs, hbig, rfl, rfl⟩ := comp_bslice hc
  simp only [vstep] at hv
  split at hv
  · rename_i d cs hdst hfill
    split at hv
    · rename_i fs hfs
      obtain ⟨hlive, hone, hK⟩ := hv
      have hplace : (parts.toList.map fun p => (p.1 * i.size, i.size, p.2)).length = parts.toList.length ∧ ∀ (q : Nat) (p : Nat × Operand) (r : Nat × Nat × Operand), parts.toList[q]? = some p → (parts.toList.map fun p => (p.1 * i.size, i.size, p.2))[q]? = some r →
          (fun j => some (j * i.size, i.size)) p.1 = some (r.1, r.2.1) ∧ p.2 = r.2.2 := by
        refine ⟨by simp, fun q p r hp hr => ?_⟩
        simp only [List.getElem?_map, hp, Option.map_some, Option.some.injEq] at hr
        subst hr
        exact ⟨rfl, rfl⟩
      obtain ⟨us, e1, e2, e3⟩ := fill_sound h.core (place := fun j => some (j * i.size, i.size)) hplace (hzs ▸ rept_cells zv (by omega) len) hfill
      have hlen : fs.length = len * i.size := by
        have := (frzL_sound (h.core) (ts := tagsL cs) (live_all hlive) cs hfs (fun t ht => ht)).1
        rw [this, ← e2.1, e3]; simp
      have hrun : (execOp a.eval o).run P w = .ok (.value (.slice (some ⟨w.heap.size, 0, none⟩) len len)) (w.alloc (.cells us e (0, 0))) := by
        simp only [execOp, ho, Sem.run_bind]
        rw [run_bslice t e len _ us i zv hu hi hz hbig (by rw [map_parts, ← hzs]; rw [← hzs] at e1; exact e1)]
        rfl
      unfold Oper.wp
      rw [hrun, Oper.upon_value]
      have hs := h.share (tagsL cs)
      have hF := (frzL_sound h.core (ts := tagsL cs) (live_all hlive) cs hfs (fun t ht => ht)).2
      have husz : us.size = len * i.size := by rw [e3]; simp
      let ti : TI := { v := .slice (some ⟨w.heap.size, 0, none⟩) len len, e := e, sz := i.size, n := len, xs := us.toList, shape := .inr ⟨_, _, rfl⟩ }
      have repf : ∀ (q : Nat) (d' : D), fs[q]? = some d' → ∃ u, us[q]? = some u ∧ RepF (shareF g S (tagsL cs)) w d' u := fun q d' hq => by
        have hq1 : q < fs.length := (List.getElem?_eq_some_iff.1 hq).1
        have hq2 : q < us.size := by omega
        have hq3 : q < cs.length := by rw [← e2.1]; omega
        exact ⟨us[q], Array.getElem?_eq_getElem hq2, hF q d' _ hq _ (List.getElem?_eq_getElem hq3) (e2.2 q _ _ (List.getElem?_eq_getElem hq3) (Array.getElem?_eq_getElem hq2))⟩
      have hpre : len ≤ maxLen := by
        have h1 : len * 1 ≤ len * i.size := Nat.mul_le_mul_left _ h0
        have : (2 : Nat) ^ 24 = 16777216 := by decide
        simp only [maxLen]; omega
      have hn := hs.newRow (w' := w.alloc (.cells us e (0, 0))) (d, e, i.size) ti ⟨rfl, rfl⟩ (Keep.alloc _ _ _) (fun b ob hb => by rw [heap_alloc_old w _ b (Array.getElem?_eq_some_iff.1 hb).1]; exact hb)
        ⟨by simp [ti, husz], .inr ⟨w.heap.size, len, us, rfl, Nat.zero_le _, heap_alloc_new w _, Nat.le_refl _, hpre, husz, by simp only [ti]; exact List.take_of_length_le (by simp [husz])⟩⟩
        (fun u hu => by
          obtain ⟨q, hq⟩ := List.getElem?_of_mem hu
          have hq1 : q < fs.length := by have := (List.getElem?_eq_some_iff.1 hq).1; simp [ti] at this; omega
          obtain ⟨u', h1, h2⟩ := repf q _ (List.getElem?_eq_getElem hq1)
          have : u' = u := by
            have : us.toList[q]? = some u := hq
            rw [Array.getElem?_toList, h1] at this; injection this
          subst this
          exact h2.one (List.all_eq_true.1 hone _ (List.getElem_mem hq1)))
        (fun b hb => by simp [ti, Value.ownBlock] at hb; omega) (fun hge => absurd hge (Nat.not_le.2 (Nat.lt_of_lt_of_le (hd d hdst) h.cap)))
      refine ⟨_, _, hn.put hd ?_, hK⟩
      refine Rep.slT (d, e, i.size) _ ti (if_pos rfl) (chunk_length _ _ _) (fun q el hq => ?_) (fun q el j d' hq hj => ?_)
      · have hq1 : q < len := by have := (List.getElem?_eq_some_iff.1 hq).1; rwa [chunk_length] at this
        have : (q + 1) * i.size ≤ len * i.size := Nat.mul_le_mul_right _ hq1
        rw [Nat.succ_mul] at this
        rw [chunk_get _ _ _ _ _ hq]
        simp [ti]; omega
      · rw [chunk_get _ _ _ _ _ hq, List.getElem?_take] at hj
        split at hj
        · rw [List.getElem?_drop] at hj
          obtain ⟨u, h1, h2⟩ := repf _ _ hj
          refine ⟨u, by simp only [ti]; rw [Array.getElem?_toList]; exact h1, h2.mono (fun _ _ h => h) (fun b k hFk => ?_)⟩
          exact World.cell?_of_block (a := ⟨b, k, none⟩) (heap_alloc_old w _ b (hs.core.frz b k hFk))
        · cases hj
    · exact hv.elim
  · exact hv.elim

theorem all_one {d : D} {ds : List D} (h : d.cl = some ds) : ∀ x ∈ ds, x.one = true := by
  cases d <;> simp only [D.cl] at h <;> split at h <;> first
    | (cases h; done)
    | (rename_i hh
       injection h with h; subst h
       intro x hx
       first
         | exact List.all_eq_true.1 hh x hx
         | (simp at hx; subst hx; exact hh))

theorem storeVar_run {t : TypeId} {i : TypeInfo} {b o : Nat} {cur : Array Value} {e : TypeId} {v : Value} (hi : P.info? t = some i) (hsz : v.cells.size = i.size) (hcur : w.heap[b]? = some (.cells cur e (0, 0))) (hfit : o + v.cells.size ≤ cur.size)
    (hone : ∀ u ∈ v.cells.toList, u.oneCell' = true) : (storeVar t ⟨b, o, none⟩ v).run P w = .ok () (w.setRow b (cur.toList.take o ++ v.cells.toList ++ cur.toList.drop (o + v.cells.toList.length)).toArray) := by
  have := run_storeCells_at P b o e v.cells.toList 0 cur w hcur (by simpa using hfit) hone
  simp only [Nat.add_zero] at this
  simp [storeVar, sizeOf, typeInfo, hi, hsz, this]

theorem so_store (h : SR w0 W F0 V N g S a w) {o : Oper} {sz : Nat} {x v : Operand} {Q : Exit → Act → World → Prop} (hc : compOp P o = some (.store sz x v)) (hdn : o.dst = none) (hv : vstep P (.store sz x v) o.dst S K) :
    o.wp P a w (fun a' w' => ∃ g' S', SR w0 W F0 V N g' S' a' w' ∧ K S') Q := by
  obtain ⟨t, i, ho, hi, rfl⟩ := comp_store hc
  have put : ∀ u : Value, a.put o.dst u = a := fun u => by rw [hdn]; rfl
  simp only [vstep] at hv
  split at hv
  · rename_i bo off d hx hvv
    split at hv
    · rename_i cs ds hb hcl
      obtain ⟨h1, h2, hK⟩ := hv
      obtain ⟨b, k, hp, hμ⟩ := (h.core.look hx).ptr_inv
      obtain ⟨b', k', vs, e, q1, q2, q3, q4⟩ := h.core.box bo cs hb
      rw [hμ] at q1; injection q1 with q1; injection q1 with q1 q1'; subst q1; subst q1'
      obtain ⟨c1, c2, c3, c4⟩ := cl_sound hcl (h.core.look hvv)
      have hfit : k + off + (a.eval v).cells.size ≤ vs.size := by omega
      have hone : ∀ u ∈ (a.eval v).cells.toList, u.oneCell' = true := fun u hu => by
        obtain ⟨q, hq⟩ := List.getElem?_of_mem hu
        exact c4 q u (by simpa using hq)
      have hst := storeVar_run (P := P) (t := t) hi (by omega) q2 hfit hone
      have hrun : (execOp a.eval o).run P w = .ok .skip (w.setRow b (vs.toList.take (k + off) ++ (a.eval v).cells.toList ++ vs.toList.drop (k + off + (a.eval v).cells.toList.length)).toArray) := by
        simp only [execOp, ho, Instr.storeAt, hp, Instr.sureAddr, Sem.run_bind, Sem.run_pure, Result.andThen_ok, hst]
      unfold Oper.wp
      rw [hrun, Oper.upon_skip, put]
      have hcore := h.core.setBox hb hμ (ds := ds) (us := (a.eval v).cells.toList) (off := off) (by omega) q2 (by simpa using c1) (fun q d' u hq hu => c2 q d' u hq (by simpa using hu)) (by omega)
      refine ⟨g, _, h.later hcore ⟨fun o' c b' k' q hb' hμ' hq => ?_, h.wr.tag⟩ (Keep.setRow (W := fun b' k' => b' = b ∧ k ≤ k' ∧ k' < k + cs.length) q2 ?_ (fun k' hk' => ?_)) (fun b' k' hlt hW => ?_) (fun _ _ h => h) (fun _ _ h => .inl h) (fun t' ti2 _ hti2 => ⟨ti2, hti2, rfl⟩), hK⟩
      · rw [setBox_box] at hb'
        split at hb'
        · rename_i he; subst he
          injection hb' with hb'; subst hb'
          rw [putCells_length] at hq
          exact h.wr.box o' cs b' k' q hb hμ' hq
        · exact h.wr.box o' c b' k' q hb' hμ' hq
      · simp; omega
      · have hk2 : ¬ (k ≤ k' ∧ k' < k + cs.length) := fun hh => hk' ⟨rfl, hh⟩
        rw [← putCells_row vs.toList (k + off) (a.eval v).cells.toList (by simp; omega)]
        simp only [List.getElem?_toArray]
        rw [putCells_get _ _ _ (by simp; omega), if_neg (by simp; omega)]
        simp
      · obtain ⟨rfl, hk1, hk2⟩ := hW
        rcases h.wr.box bo cs b' k (k' - k) hb hμ (by omega) with h3 | h3
        · omega
        · rwa [show k + (k' - k) = k' by omega] at h3
    · exact hv.elim
  · rename_i tg j cs off d hx hvv
    split at hv
    · rename_i ds hcl
      split at hv
      · rename_i fs hfs
        obtain ⟨ht, h1, h2, h3, hK⟩ := hv
        have hlive : ∀ t' ∈ tagsL ds, (∃ x, S.tag t' = some x) ∧ t' ≠ tg := fun t' ht' => by
          have := List.all_eq_true.1 h3 t' ht'
          simp only [Bool.and_eq_true, decide_eq_true_eq] at this
          exact ⟨Option.isSome_iff_exists.1 this.1, this.2⟩
        have hlive1 : ∀ t' ∈ tagsL ds, ∃ x, S.tag t' = some x := fun t' ht' => (hlive t' ht').1
        have hr := h.core.look hx
        obtain ⟨c1, c2, c3, c4⟩ := cl_sound hcl (h.core.look hvv)
        obtain ⟨l1, r1⟩ := frzL_sound h.core hlive1 ds hfs (fun t ht => ht)
        generalize hpx : a.eval x = px at hr
        cases hr with
        | fz _ _ hr => cases hr
        | rpT _ _ _ _ ti hti hj hl b n c hv' hr =>
          have hs := h.share (tagsL ds)
          have htag : (S.share (tagsL ds)).tag tg = some true := by
            rw [share_tag, ht]
            have : ¬ tg ∈ tagsL ds := fun hm => (hlive tg hm).2 rfl
            simp [this]
          have hone : ∀ u ∈ (a.eval v).cells.toList, u.oneCell' = true := fun u hu => by
            obtain ⟨q, hq⟩ := List.getElem?_of_mem hu
            exact c4 q u (by simpa using hq)
          obtain ⟨cur, e, hcur, hfit, hcore⟩ := hs.core.setElem (i := j) (off := off) (ds := fs) (us := (a.eval v).cells.toList) htag hti hv' hj (by omega) (by simp; omega) hone (fun q d' u hq hu => by
            have hq1 : q < ds.length := by rw [← l1]; exact (List.getElem?_eq_some_iff.1 hq).1
            exact r1 q d' u hq _ (List.getElem?_eq_getElem hq1) (c2 q _ u (List.getElem?_eq_getElem hq1) (by simpa using hu)))
          have hst := storeVar_run (P := P) (t := t) (v := a.eval v) hi (by omega) hcur (by simpa using hfit) hone
          have hrun : (execOp a.eval o).run P w = .ok .skip (w.setRow b (cur.toList.take (j * ti.sz + off) ++ (a.eval v).cells.toList ++ cur.toList.drop (j * ti.sz + off + (a.eval v).cells.toList.length)).toArray) := by
            simp only [execOp, ho, Instr.storeAt, hpx, Instr.sureAddr, Sem.run_bind, Sem.run_pure, Result.andThen_ok, hst]
          unfold Oper.wp
          rw [hrun, Oper.upon_skip, put]
          have hob : ti.v.ownBlock = some b := by rw [hv']; rfl
          refine ⟨_, _, hs.later hcore ⟨fun o' c' b' k' q hb' hμ' hq => ?_, fun t' x' ti2 b' ht' hti2 hb' => ?_⟩ (Keep.setRow (W := fun b' _ => b' = b) hcur ?_ (fun k' hk' => absurd rfl hk')) (fun b' k' hlt hW => ?_) (fun _ _ h => h) (fun _ _ h => .inl h) (fun t' ti2 _ hti2 => by
            simp only at hti2
            split at hti2
            · rename_i he; subst he; injection hti2 with hti2; subst hti2; exact ⟨ti, hti, rfl⟩
            · exact ⟨ti2, hti2, rfl⟩), hK⟩
          · rw [upd_box] at hb'
            obtain ⟨c0, h4, rfl⟩ := Option.map_eq_some_iff.1 hb'
            exact hs.wr.box o' c0 b' k' q h4 hμ' (by simpa using hq)
          · have ht2 : (S.share (tagsL ds)).tag t' = some x' := ht'
            simp only at hti2
            split at hti2
            · rename_i he; subst he
              injection hti2 with hti2; subst hti2
              exact hs.wr.tag t' x' ti b' ht2 hti hb'
            · exact hs.wr.tag t' x' ti2 b' ht2 hti2 hb'
          · simp; simp at hfit; omega
          · subst hW
            rcases hs.wr.tag tg true ti b' htag hti hob with h4 | h4
            · omega
            · exact h4 k'
      · exact hv.elim
    · exact hv.elim
  · exact hv.elim

end Go.Vm
