/- The value machine, 9: new boxes, stores, rows that are shared, appends. -/
import Derived.Test.YtncekmflajjmkaaVm8
import Derived.Laws.OwnMore
namespace Go.Vm
open Go.RowKit
variable {P : Program} {w0 w w' : World} {W : Reg} {N : Nat} {g g' : Gh} {S : St} {a : Act} {tm : Array Value}

theorem Core.box_lt (h : Core g S tm w) {o : Nat} {cs : List D} {b k : Nat} (hb : S.box o = some cs) (hμ : g.μ o = some (b, k)) : b < w.heap.size := by
  obtain ⟨b', k', vs, e, q1, q2, _⟩ := h.box o cs hb
  rw [hμ] at q1; injection q1 with q1; injection q1 with q1 _; subst q1
  exact (Array.getElem?_eq_some_iff.1 q2).1

theorem Core.own_lt (h : Core g S tm w) {t : Tag} {x : Bool} {ti : TI} {b : Nat} (ht : S.tag t = some x) (hti : g.τ t = some ti) (hb : ti.v.ownBlock = some b) : b < w.heap.size := by
  obtain ⟨ti2, q1, q2⟩ := h.tag t x ht
  rw [hti] at q1; injection q1 with q1; subst q1
  exact (q2.own.lt b hb).2

/-- A new box. -/
theorem Core.newBox (h : Core g S tm w) (o : Nat) (cs : List D) (vs : Array Value) (e : TypeId) (hc : Cells g w cs vs) :
    Core { g with μ := fun o' => if o' = o then some (w.heap.size, 0) else g.μ o' } (S.newBox o (cs.map (D.keep (fun y => decide (y ≠ o)) fun _ => true))) tm (w.alloc (.cells vs e (0, 0))) := by
  have h1 := h.dropBox o
  have hheap : ∀ (b : Nat) (ob : Obj), w.heap[b]? = some ob → (w.alloc (.cells vs e (0, 0))).heap[b]? = some ob := fun b ob hb => by
    rw [heap_alloc_old w _ b (Array.getElem?_eq_some_iff.1 hb).1]; exact hb
  have hl : Later g { g with μ := fun o' => if o' = o then some (w.heap.size, 0) else g.μ o' } w (w.alloc (.cells vs e (0, 0))) (fun y => decide (y ≠ o)) (fun _ => true) :=
    ⟨fun o' ho b hb => by
      have : o' ≠ o := by simpa using ho
      show (if o' = o then some (w.heap.size, 0) else g.μ o') = some b
      rw [if_neg this]; exact hb, fun _ _ _ h => h, fun _ _ h => h, fun b k hF => World.cell?_of_block (a := ⟨b, k, none⟩) (heap_alloc_old w _ b (h.frz b k hF))⟩
  have h2 := h1.later hl (fun o' c hb => by
    simp only [St.box, lookup_filter] at hb
    split at hb
    · cases hb
    · rename_i hne; simpa using hne) (fun _ _ _ => rfl) hheap (fun b k hF => .inl hF) (fun b k hF => by have := h.frz b k hF; simp; omega)
  have unb : ∀ o' c, o' ≠ o → (S.newBox o (cs.map (D.keep (fun y => decide (y ≠ o)) fun _ => true))).box o' = some c → (({ S with hp := S.hp.filter fun y => decide (y.1 ≠ o) } : St).only (fun y => decide (y ≠ o)) (fun _ => true)).box o' = some c := fun o' c hne hb => by
    rw [newBox_box, if_neg hne] at hb
    rw [only_box]
    show (lkp o' (S.hp.filter fun y => decide (y.1 ≠ o))).map _ = some c
    rw [lookup_filter, if_neg hne]; exact hb
  have blt : ∀ o' c b k, o' ≠ o → (S.newBox o (cs.map (D.keep (fun y => decide (y ≠ o)) fun _ => true))).box o' = some c → g.μ o' = some (b, k) → b < w.heap.size := fun o' c b k hne hb hμ => by
    rw [newBox_box, if_neg hne] at hb
    obtain ⟨c0, hc0, _⟩ := Option.map_eq_some_iff.1 hb
    exact h.box_lt hc0 hμ
  refine ⟨h2.env, fun o' c hb => ?_, fun o' c b k i hb hμ hi hF => ?_, fun o1 o2 c1 c2 b k k' hb1 hb2 hμ1 hμ2 => ?_, h2.tag, fun t x ti o' c b k ht hti hb hμ hown => ?_, h2.tagI, h2.frz⟩
  · by_cases hne : o' = o
    · subst hne
      rw [newBox_box, if_pos rfl] at hb
      injection hb with hb; subst hb
      refine ⟨w.heap.size, 0, vs, e, by simp, heap_alloc_new w _, by simp [hc.1], fun i d u hd hu => ?_⟩
      rw [List.getElem?_map] at hd
      obtain ⟨d0, h3, h4⟩ := Option.map_eq_some_iff.1 hd
      subst h4
      exact (hc.2 i d0 u h3 (by simpa using hu)).keep hl
    · exact h2.box o' c (unb o' c hne hb)
  · by_cases hne : o' = o
    · subst hne
      simp only [if_pos, Option.some.injEq, Prod.mk.injEq] at hμ
      have := h.frz b _ hF
      omega
    · exact h2.boxF o' c b k i (unb o' c hne hb) hμ hi hF
  · by_cases hn1 : o1 = o
    · by_cases hn2 : o2 = o
      · exact .inl (hn1.trans hn2.symm)
      · subst hn1
        simp only [if_pos, Option.some.injEq, Prod.mk.injEq] at hμ1
        simp only [if_neg hn2] at hμ2
        have := blt o2 c2 b k' hn2 hb2 hμ2
        omega
    · by_cases hn2 : o2 = o
      · subst hn2
        simp only [if_pos, Option.some.injEq, Prod.mk.injEq] at hμ2
        simp only [if_neg hn1] at hμ1
        have := blt o1 c1 b k hn1 hb1 hμ1
        omega
      · exact h2.boxI o1 o2 c1 c2 b k k' (unb _ _ hn1 hb1) (unb _ _ hn2 hb2) hμ1 hμ2
  · by_cases hne : o' = o
    · subst hne
      simp only [if_pos, Option.some.injEq, Prod.mk.injEq] at hμ
      have := h.own_lt ht hti hown
      omega
    · exact h2.tagB t x ti o' c b k ht hti (unb o' c hne hb) hμ hown

/-- A box's cells are written. -/
def St.setBox (S : St) (o : Nat) (cs : List D) : St := { S with hp := (o, cs) :: S.hp.filter fun y => decide (y.1 ≠ o) }

theorem setBox_box (o o' : Nat) (cs : List D) : (S.setBox o cs).box o' = if o' = o then some cs else S.box o' := by
  simp only [St.setBox, St.box, lkp, lookup_filter]
  by_cases h : o' = o <;> simp [h]

theorem putCells_get {α : Type} (cs : List α) (off : Nat) (ds : List α) (h : off + ds.length ≤ cs.length) (i : Nat) :
    (putCells cs off ds)[i]? = if off ≤ i ∧ i < off + ds.length then ds[i - off]? else cs[i]? := by
  unfold putCells
  have key : ∀ (ds : List α) (k : Nat) (cs : List α), off + k + ds.length ≤ cs.length → ((ds.zipIdx k).foldl (fun cs x => cs.set (off + x.2) x.1) cs)[i]? = if off + k ≤ i ∧ i < off + k + ds.length then ds[i - (off + k)]? else cs[i]? := by
    intro ds
    induction ds with
    | nil => intro k cs _; simp only [List.zipIdx_nil, List.foldl_nil, List.length_nil]; rw [if_neg (by omega)]
    | cons d ds ih =>
      intro k cs hle
      simp only [List.zipIdx_cons, List.foldl_cons]
      rw [ih (k + 1) (cs.set (off + k) d) (by simp at hle ⊢; omega)]
      simp only [List.length_cons] at hle
      by_cases h1 : off + (k + 1) ≤ i ∧ i < off + (k + 1) + ds.length
      · rw [if_pos h1, if_pos (by simp; omega), show i - (off + k) = (i - (off + (k + 1))) + 1 by omega]
        simp
      · rw [if_neg h1]
        by_cases h2 : off + k = i
        · subst h2
          rw [if_pos (by simp only [List.length_cons]; omega), List.getElem?_set_self (by omega), Nat.sub_self]
          rfl
        · rw [if_neg (by simp; omega), List.getElem?_set_ne h2]
  have := key ds 0 cs (by omega)
  simpa using this

theorem putCells_length {α : Type} (cs : List α) (off : Nat) (ds : List α) : (putCells cs off ds).length = cs.length := foldl_set_length off _ cs

/-- A store into a block that is a box's. -/
theorem Core.setBox (h : Core g S tm w) {o : Nat} {cs ds : List D} {b k off : Nat} {us : List Value} {cur : Array Value} {e : TypeId} (hb : S.box o = some cs) (hμ : g.μ o = some (b, k)) (hle : off + ds.length ≤ cs.length)
    (hcur : w.heap[b]? = some (.cells cur e (0, 0))) (hlen : us.length = ds.length) (hr : ∀ (i : Nat) (d : D) (u : Value), ds[i]? = some d → us[i]? = some u → Rep g w d u) (hsz : k + cs.length ≤ cur.size) :
    Core g (S.setBox o (putCells cs off ds)) tm (w.setRow b (cur.toList.take (k + off) ++ us ++ cur.toList.drop (k + off + us.length)).toArray) := by
  let new := (cur.toList.take (k + off) ++ us ++ cur.toList.drop (k + off + us.length)).toArray
  have hlt : b < w.heap.size := (Array.getElem?_eq_some_iff.1 hcur).1
  have hnew : (w.setRow b new).heap[b]? = some (.cells new e (0, 0)) := setRow_heap w b cur new e (0, 0) hcur
  have hnsz : new.size = cur.size := by simp [new]; omega
  have hget : ∀ i, new[i]? = if k + off ≤ i ∧ i < k + off + us.length then us[i - (k + off)]? else cur[i]? := fun i => by
    have h1 : (cur.toList.take (k + off)).length = k + off := by simp; omega
    simp only [new, List.getElem?_toArray, List.append_assoc]
    by_cases hi1 : i < k + off
    · rw [if_neg (by omega), List.getElem?_append_left (by omega), List.getElem?_take, if_pos hi1]; simp
    · rw [List.getElem?_append_right (by omega), h1]
      by_cases hi2 : i < k + off + us.length
      · rw [if_pos (by omega), List.getElem?_append_left (by omega)]
      · rw [if_neg (by omega), List.getElem?_append_right (by omega), List.getElem?_drop]
        simp only [Array.getElem?_toList]
        congr 1; omega
  have hcellF : ∀ b' k', g.F b' k' → (w.setRow b new).cell? ⟨b', k', none⟩ = w.cell? ⟨b', k', none⟩ := fun b' k' hF => by
    by_cases hbb : b' = b
    · subst hbb
      rw [cell_of_row _ _ _ _ _ _ hnew, cell_of_row _ _ _ _ _ _ hcur, hget, if_neg]
      rintro ⟨h1, h2⟩
      refine h.boxF o cs b' k (k' - k) hb hμ (by omega) ?_
      rw [show k + (k' - k) = k' by omega]; exact hF
    · exact cell_setRow_other w b new ⟨b', k', none⟩ hbb
  have rep : ∀ {d : D} {v : Value}, Rep g w d v → Rep g (w.setRow b new) d v := fun hr => hr.mono' (fun _ _ h => h) (fun _ _ h => h) (fun _ _ h => h) hcellF
  refine ⟨fun t d hd => rep (h.env t d hd), fun o' c hb' => ?_, fun o' c b' k' i hb' hμ' hi => ?_, fun o1 o2 c1 c2 b1 k1 k2 hb1 hb2 hμ1 hμ2 => ?_, fun t x ht => ?_, fun t x ti o' c b' k' ht hti hb' hμ' => ?_, h.tagI, fun b' k' hF => by simpa using h.frz b' k' hF⟩
  · rw [setBox_box] at hb'
    split at hb'
    · rename_i he; subst he
      injection hb' with hb'; subst hb'
      refine ⟨b, k, new, e, hμ, hnew, by rw [putCells_length, hnsz]; exact hsz, fun i d u hd hu => ?_⟩
      rw [putCells_get _ _ _ hle] at hd
      rw [hget] at hu
      by_cases hi : off ≤ i ∧ i < off + ds.length
      · rw [if_pos hi] at hd
        rw [if_pos (by omega), show k + i - (k + off) = i - off by omega] at hu
        exact rep (hr _ d u hd hu)
      · rw [if_neg hi] at hd
        rw [if_neg (by omega)] at hu
        obtain ⟨b', k', vs, e', q1, q2, q3, q4⟩ := h.box o' cs hb
        rw [hμ] at q1; injection q1 with q1; injection q1 with q1 q1'; subst q1; subst q1'
        rw [hcur] at q2; injection q2 with q2; injection q2 with q2; subst q2
        exact rep (q4 i d u hd hu)
    · rename_i hne
      obtain ⟨b', k', vs, e', q1, q2, q3, q4⟩ := h.box o' c hb'
      by_cases hbb : b' = b
      · subst hbb
        rw [hcur] at q2; injection q2 with q2; injection q2 with q2 q2'; subst q2; subst q2'
        refine ⟨b', k', new, e, q1, hnew, by rw [hnsz]; exact q3, fun i d u hd hu => ?_⟩
        have hic : i < c.length := (List.getElem?_eq_some_iff.1 hd).1
        rw [hget, if_neg] at hu
        · exact rep (q4 i d u hd hu)
        · rintro ⟨h1, h2⟩
          rcases h.boxI o' o c cs b' k' k hb' hb q1 hμ with h3 | h3 | h3
          · exact hne h3
          · omega
          · omega
      · exact ⟨b', k', vs, e', q1, by rw [setRow_other w b b' new hbb]; exact q2, q3, fun i d u hd hu => rep (q4 i d u hd hu)⟩
  · rw [setBox_box] at hb'
    split at hb'
    · rename_i he; subst he
      injection hb' with hb'; subst hb'
      rw [putCells_length] at hi
      exact h.boxF o' cs b' k' i hb hμ' hi
    · exact h.boxF o' c b' k' i hb' hμ' hi
  · have len : ∀ o' c, (S.setBox o (putCells cs off ds)).box o' = some c → ∃ c0, S.box o' = some c0 ∧ c0.length = c.length := fun o' c hb' => by
      rw [setBox_box] at hb'
      split at hb'
      · rename_i he; subst he
        injection hb' with hb'; subst hb'
        exact ⟨cs, hb, (putCells_length cs off ds).symm⟩
      · exact ⟨c, hb', rfl⟩
    obtain ⟨d1, e1, f1⟩ := len o1 c1 hb1
    obtain ⟨d2, e2, f2⟩ := len o2 c2 hb2
    rw [← f1, ← f2]
    exact h.boxI o1 o2 d1 d2 b1 k1 k2 e1 e2 hμ1 hμ2
  · obtain ⟨ti, q1, q2⟩ := h.tag t x ht
    refine ⟨ti, q1, ⟨q2.ty, ?_, q2.one, q2.out, q2.inn⟩⟩
    refine ⟨q2.own.1, ?_⟩
    rcases q2.own.2 with h3 | ⟨gg, cap, cur', hv, hz, hh, r⟩
    · exact .inl h3
    · refine .inr ⟨gg, cap, cur', hv, hz, ?_, r⟩
      have : gg ≠ b := fun e => h.tagB t x ti o cs b k ht q1 hb hμ (by rw [hv, ← e]; rfl)
      rw [setRow_other w b gg new this]; exact hh
  · rw [setBox_box] at hb'
    split at hb'
    · rename_i he; subst he
      exact h.tagB t x ti o' cs b' k' ht hti hb hμ'
    · exact h.tagB t x ti o' c b' k' ht hti hb' hμ'

theorem Keep.setRow {W : Reg} {b : Nat} {cur new : Array Value} {e : TypeId} (hcur : w.heap[b]? = some (.cells cur e (0, 0))) (hs : new.size = cur.size) (hW : ∀ k, ¬ W b k → new[k]? = cur[k]?) : Keep W w (w.setRow b new) := by
  refine ⟨rfl, rfl, rfl, by simp, Nat.le_refl _, fun b' o hb => ?_⟩
  by_cases h : b' = b
  · subst h
    rw [hcur] at hb; injection hb with hb
    exact .inr ⟨cur, new, e, hb.symm, setRow_heap w b' cur new e (0, 0) hcur, hs, hW⟩
  · exact .inl (by rw [setRow_other w b b' new h]; exact hb)

end Go.Vm
