/- The value machine, 25: what an argument reads as. -/
import Derived.Test.YtaoppmjidjdgdaaGreatVm24
import Derived.OpenShut
import Derived.ChangeArms
import Derived.ChangeOld
import Derived.Below
set_option linter.unusedVariables false
set_option maxRecDepth 2000
namespace Go.Vm
open Go.RowKit
variable {H : Type} {enc : TypeId × Value → H} {P : Program} {w w' : World}
def Lie (w : World) : Reg := fun b _ => b < w.heap.size
def Rd (enc : TypeId × Value → H) (P : Program) (w : World) (fuel : Nat) (t : TypeId) (A : List D → Prop) : Prop :=
 ∀ (cs : List Value) (x : DataW H × List MemPlace), DataW.trod enc P w 0 (fun _ => true) true fuel t cs = some x →
  ∃ ds : List D, ds.length = cs.length ∧ A ds ∧ ds.all D.one = true ∧ ∀ (i : Nat) (d : D) (v : Value), ds[i]? = some d → cs[i]? = some v → RepF (Lie w) w d v
theorem Rd.mono {fuel : Nat} {t : TypeId} {A B : List D → Prop} (h : Rd enc P w fuel t A) (hAB : ∀ ds, A ds → B ds) : Rd enc P w fuel t B :=
 fun cs x hx => let ⟨ds, h1, h2, h3⟩ := h cs x hx; ⟨ds, h1, hAB ds h2, h3⟩
theorem rd_val (v : Value) (i : Nat) (d : D) (u : Value) (hd : [D.val v][i]? = some d) (hu : [v][i]? = some u) : RepF (Lie w) w d u := by
 cases i with
 | zero => simp at hd hu; subst hd; subst hu; exact .val _
 | succ i => simp at hd
theorem Rd_bool {fuel : Nat} {t : TypeId} (ht : P.underlying t = some .bool) : Rd enc P w fuel t (fun ds => ∃ b, ds = [.val (.bool b)]) := fun cs x h => by
 obtain ⟨b, rfl, -⟩ := DataW.trod_bool ht h
 exact ⟨_, rfl, ⟨b, rfl⟩, rfl, rd_val _⟩
theorem Rd_int {fuel : Nat} {t : TypeId} {k : IntKind} (ht : P.underlying t = some (.int k)) : Rd enc P w fuel t (fun ds => ∃ n, ds = [.val (.int k n)] ∧ (Lit.int k n).wf = true) := fun cs x h => by
 obtain ⟨n, rfl, -, hw⟩ := DataW.trod_int ht h
 exact ⟨_, rfl, ⟨n, rfl, hw⟩, rfl, rd_val _⟩
theorem Rd_string {fuel : Nat} {t : TypeId} (ht : P.underlying t = some .string) : Rd enc P w fuel t (fun ds => ∃ s : ByteArray, ds = [.val (.string s)] ∧ s.size ≤ maxLen) := fun cs x h => by
 obtain ⟨s, rfl, -, hs⟩ := DataW.trod_string ht h
 exact ⟨_, rfl, ⟨s, rfl, hs⟩, rfl, rd_val _⟩
theorem exists_list {α : Type} {Q : Nat → α → Prop} : ∀ (n : Nat), (∀ i, i < n → ∃ a, Q i a) → ∃ l : List α, l.length = n ∧ ∀ i a, l[i]? = some a → Q i a
 | 0, _ => ⟨[], rfl, fun i a h => by simp at h⟩
 | n + 1, h => by
  obtain ⟨l, hl, hq⟩ := exists_list n (fun i hi => h i (by omega))
  obtain ⟨a, ha⟩ := h n (by omega)
  refine ⟨l ++ [a], by simp [hl], fun i b hb => ?_⟩
  by_cases hi : i < n
  ·rw [List.getElem?_append_left (by omega)] at hb; exact hq i b hb
  ·rw [List.getElem?_append_right (by omega)] at hb
   have : i - l.length = 0 := by
    have := (List.getElem?_eq_some_iff.1 hb).1
    simp at this; omega
   rw [this] at hb
   simp at hb; subst hb
   have : i = n := by omega
   rw [this]; exact ha
theorem cell_lies {a : Addr} {v : Value} (h : w.cell? a = some v) : a.block < w.heap.size ∧ a.spot = none := by
 unfold World.cell? at h
 split at h
 ·rename_i c e f hb
  split at h
  ·cases h
  ·rename_i hs
   exact ⟨(Array.getElem?_eq_some_iff.1 hb).1, by cases hh : a.spot <;> simp_all⟩
 ·cases h
theorem Rd_slice {fuel sz : Nat} {t e : TypeId} {A : List D → Prop} (ht : P.underlying t = some (.slice e)) (hz : P.cellsOf e = sz) (h0 : 0 < sz) (hA : ∀ n, n < fuel → Rd enc P w n e A) :
    Rd enc P w fuel t (fun ds => ∃ es, ds = [.sl none es] ∧ es.length ≤ maxLen ∧ ∀ l ∈ es, l.length = sz ∧ A l) := fun cs x h => by
 rcases DataW.trod_slice ht h with ⟨rfl, -⟩ | ⟨a, len, cap, elems, rest, n, rfl, rfl, -, -, hl, hm, hlen, hel, -, -⟩
 ·refine ⟨[.sl none []], rfl, ⟨[], rfl, Nat.zero_le _, by simp⟩, rfl, fun i d v hd hv => ?_⟩
  cases i with
  | zero => simp at hd hv; subst hd; subst hv; exact .nil
  | succ i => simp at hd
 ·obtain ⟨es, hes, hq⟩ := exists_list (Q := fun i (l : List D) => l.length = sz ∧ A l ∧ l.all D.one = true ∧ ∀ j d, l[j]? = some d → ∃ u, w.cell? ((a.add (i * sz)).add j) = some u ∧ RepF (Lie w) w d u) len (fun i hi => by
    have h1 := hel i hi
    rw [List.getElem?_eq_getElem (by omega), Option.bind_eq_some_iff, hz] at h1
    obtain ⟨cs', hcs, hx⟩ := h1
    obtain ⟨-, hcl, hcc⟩ := World.cells?_some hcs
    obtain ⟨l, e1, e2, e3, e4⟩ := hA n (Nat.lt_succ_self n) cs' _ hx
    refine ⟨l, e1.trans hcl, e2, e3, fun j d hd => ?_⟩
    have hj : j < cs'.length := by rw [← e1]; exact (List.getElem?_eq_some_iff.1 hd).1
    exact ⟨_, (hcc j (by omega)).trans (List.getElem?_eq_getElem hj), e4 j d _ hd (List.getElem?_eq_getElem hj)⟩)
  refine ⟨[.sl none es], rfl, ⟨es, rfl, by omega, fun l hl => ?_⟩, rfl, fun i d v hd hv => ?_⟩
  ·obtain ⟨i, hi, rfl⟩ := List.mem_iff_getElem.1 hl
   have := hq i _ (List.getElem?_eq_getElem hi)
   exact ⟨this.1, this.2.1⟩
  ·cases i with
   | succ i => simp at hd
   | zero =>
    simp at hd hv; subst hd; subst hv
    by_cases hl0 : len = 0
    ·subst hl0
     have : es = [] := List.length_eq_zero_iff.1 hes
     subst this
     exact .emp a cap
    ·obtain ⟨b, off, spot⟩ := a
     have hspot : spot = none := by
      have h1 := hq 0 (es[0]'(by omega)) (List.getElem?_eq_getElem (by omega))
      obtain ⟨u, hu, -⟩ := h1.2.2.2 0 _ (List.getElem?_eq_getElem (by omega))
      simp only [Nat.zero_mul, Addr.add, if_true] at hu
      exact (cell_lies hu).2
     subst hspot
     have hadd : ∀ i j, ((⟨b, off, none⟩ : Addr).add (i * sz)).add j = ⟨b, off + i * sz + j, none⟩ := fun i j => by
      simp only [Addr.add]
      by_cases h1 : i * sz = 0 <;> by_cases h2 : j = 0 <;> simp [h1, h2]
     have get : ∀ i j, i < es.length → j < sz → ∃ u d, (es[i]?).bind (·[j]?) = some d ∧ w.cell? ⟨b, off + i * sz + j, none⟩ = some u ∧ RepF (Lie w) w d u ∧ D.one d = true := fun i j hi hj => by
      obtain ⟨g1, g2, g3, g4⟩ := hq i _ (List.getElem?_eq_getElem hi)
      obtain ⟨u, hu, hr⟩ := g4 j _ (List.getElem?_eq_getElem (by omega))
      rw [hadd] at hu
      refine ⟨u, _, ?_, hu, hr, List.all_eq_true.1 g3 _ (List.getElem_mem _)⟩
      rw [List.getElem?_eq_getElem hi, Option.bind_some, List.getElem?_eq_getElem]
     rw [← hes]
     refine .sl b off sz cap es (fun i j => (w.cell? ⟨b, off + i * sz + j, none⟩).getD undef) (by omega) (fun i l hil => (hq i l hil).1) (fun i j hi hj => ?_) (fun i j hi hj => ?_) (fun i j hi hj => ?_) (fun i l j d hil hd => ?_)
     ·obtain ⟨u, d, -, hu, -⟩ := get i j hi hj
      exact (cell_lies hu).1
     ·obtain ⟨u, d, -, hu, -⟩ := get i j hi hj
      rw [hu]; rfl
     ·obtain ⟨u, d, -, hu, hr, h1⟩ := get i j hi hj
      rw [hu]; exact hr.one h1
     ·have hi := (List.getElem?_eq_some_iff.1 hil).1
      have hj : j < sz := by rw [← (hq i l hil).1]; exact (List.getElem?_eq_some_iff.1 hd).1
      obtain ⟨u, d', hd', hu, hr, -⟩ := get i j hi hj
      rw [hil, Option.bind_some, hd] at hd'; injection hd' with hd'; subst hd'
      simp only [hu, Option.getD_some]
      exact hr
def FA : List (List D → Prop) → List D → Prop
 | [], ds => ds = []
 | A :: r, ds => ∃ a b, ds = a ++ b ∧ A a ∧ FA r b
def FR (enc : TypeId × Value → H) (P : Program) (w : World) (n : Nat) : List Field → List (List D → Prop) → Prop
 | [], [] => True
 | f :: fs, A :: As => Rd enc P w n f.type A ∧ FR enc P w n fs As
 | _, _ => False
def contigB (P : Program) : List Field → Nat → Nat → Bool
 | [], cur, tot => cur == tot
 | f :: r, cur, tot => f.offset == cur && contigB P r (cur + P.cellsOf f.type) tot
theorem fields_rd {n : Nat} {cs : List Value} : ∀ (fs : List Field) (As : List (List D → Prop)) (cur : Nat), FR enc P w n fs As → contigB P fs cur cs.length = true → cur ≤ cs.length →
    (∀ f ∈ fs, ∃ x, DataW.trod enc P w 0 (fun _ => true) true n f.type ((cs.drop f.offset).take (P.cellsOf f.type)) = some x) →
    ∃ ds : List D, ds.length = (cs.drop cur).length ∧ FA As ds ∧ ds.all D.one = true ∧ ∀ (i : Nat) (d : D) (v : Value), ds[i]? = some d → (cs.drop cur)[i]? = some v → RepF (Lie w) w d v
 | [], [], cur, _, hc, hcur, _ => by
  simp only [contigB, beq_iff_eq] at hc
  exact ⟨[], by simp; omega, rfl, rfl, fun i d v h => by simp at h⟩
 | f :: fs, [], cur, h, _, _, _ => h.elim
 | [], A :: As, cur, h, _, _, _ => h.elim
 | f :: fs, A :: As, cur, ⟨hf, hfs⟩, hc, hcur, ht => by
  simp only [contigB, Bool.and_eq_true, beq_iff_eq] at hc
  obtain ⟨ho, hc⟩ := hc
  have hend : ∀ (gs : List Field) (k : Nat), contigB P gs k cs.length = true → k ≤ cs.length := fun gs => by
   induction gs with
   | nil => intro k h; simp only [contigB, beq_iff_eq] at h; omega
   | cons g gs ih =>
    intro k h
    simp only [contigB, Bool.and_eq_true] at h
    have := ih _ h.2
    omega
  have hle := hend fs _ hc
  obtain ⟨x, hx⟩ := ht f (by simp)
  obtain ⟨a, a1, a2, a3, a4⟩ := hf _ _ hx
  obtain ⟨b, b1, b2, b3, b4⟩ := fields_rd fs As _ hfs hc hle (fun g hg => ht g (by simp [hg]))
  rw [ho] at a1 a4
  have hal : a.length = P.cellsOf f.type := by rw [a1]; simp; omega
  refine ⟨a ++ b, ?_, ⟨a, b, rfl, a2, b2⟩, by rw [List.all_append, a3, b3]; rfl, fun i d v hd hv => ?_⟩
  ·simp only [List.length_append, hal, b1, List.length_drop]; omega
  ·by_cases hi : i < a.length
   ·rw [List.getElem?_append_left hi] at hd
    exact a4 i d v hd (by rw [List.getElem?_take_of_lt (by omega)]; exact hv)
   ·rw [List.getElem?_append_right (by omega)] at hd
    refine b4 (i - a.length) d v hd ?_
    rw [List.getElem?_drop] at hv ⊢
    rw [← hv]; congr 1; omega
theorem Rd_struct {fuel : Nat} {t : TypeId} {fs : Array Field} {As : List (List D → Prop)} (ht : P.underlying t = some (.struct fs)) (hc : contigB P fs.toList 0 (P.cellsOf t) = true) (hA : ∀ n, n < fuel → FR enc P w n fs.toList As) :
    Rd enc P w fuel t (FA As) := fun cs x h => by
 obtain ⟨xs, n, rfl, -, hl, hxl, hf⟩ := DataW.trod_struct ht h
 obtain ⟨ds, h1, h2, h3, h4⟩ := fields_rd (cs := cs) fs.toList As 0 (hA n (Nat.lt_succ_self n)) (by rw [hl]; exact hc) (Nat.zero_le _) (fun f hfm => by
  obtain ⟨i, hi, rfl⟩ := List.mem_iff_getElem.1 hfm
  have hi' : i < fs.size := by simpa using hi
  have := hf i fs[i] (Array.getElem?_eq_getElem hi')
  rw [List.getElem?_eq_getElem (by omega)] at this
  exact ⟨_, by simpa using this⟩)
 exact ⟨ds, by simpa using h1, h2, h3, by simpa using h4⟩
theorem elems_rd {m sz : Nat} {e : TypeId} {A : List D → Prop} {cs : List Value} (hA : Rd enc P w m e A) : ∀ (n k : Nat), (k + n) * sz = cs.length →
    (∀ i, k ≤ i → i < k + n → ∃ x, DataW.trod enc P w 0 (fun _ => true) true m e ((cs.drop (i * sz)).take sz) = some x) →
    ∃ ls : List (List D), ls.length = n ∧ (∀ l ∈ ls, A l) ∧ ls.flatten.length = (cs.drop (k * sz)).length ∧ ls.flatten.all D.one = true ∧
     ∀ (i : Nat) (d : D) (v : Value), ls.flatten[i]? = some d → (cs.drop (k * sz))[i]? = some v → RepF (Lie w) w d v
 | 0, k, hl, _ => ⟨[], rfl, by simp, by simp at hl ⊢; omega, rfl, fun i d v h => by simp at h⟩
 | n + 1, k, hl, ht => by
  obtain ⟨x, hx⟩ := ht k (Nat.le_refl _) (by omega)
  obtain ⟨a, a1, a2, a3, a4⟩ := hA _ _ hx
  obtain ⟨ls, b1, b2, b3, b4, b5⟩ := elems_rd hA n (k + 1) (by rw [← hl]; congr 1; omega) (fun i h1 h2 => ht i (by omega) (by omega))
  have hk : k * sz + sz ≤ cs.length := by
   rw [← hl, ← Nat.succ_mul]
   exact Nat.mul_le_mul_right _ (by omega)
  have hks : (k + 1) * sz = k * sz + sz := Nat.succ_mul _ _
  have hal : a.length = sz := by rw [a1]; simp; omega
  refine ⟨a :: ls, by simp [b1], fun l h => ?_, ?_, by rw [List.flatten_cons, List.all_append, a3, b4]; rfl, fun i d v hd hv => ?_⟩
  ·rcases List.mem_cons.1 h with rfl | h
   ·exact a2
   ·exact b2 l h
  ·rw [List.flatten_cons, List.length_append, hal, b3, List.length_drop, List.length_drop, hks]; omega
  ·rw [List.flatten_cons] at hd
   by_cases hi : i < a.length
   ·rw [List.getElem?_append_left hi] at hd
    exact a4 i d v hd (by rw [List.getElem?_take_of_lt (by omega)]; exact hv)
   ·rw [List.getElem?_append_right (by omega)] at hd
    refine b5 (i - a.length) d v hd ?_
    rw [List.getElem?_drop] at hv ⊢
    rw [← hv]; congr 1; omega
theorem Rd_array {fuel n sz : Nat} {t e : TypeId} {A : List D → Prop} (ht : P.underlying t = some (.array n e)) (hs : P.cellsOf e = sz) (hc : P.cellsOf t = n * sz) (hA : ∀ m, m < fuel → Rd enc P w m e A) :
    Rd enc P w fuel t (fun ds => ∃ ls : List (List D), ds = ls.flatten ∧ ls.length = n ∧ ∀ l ∈ ls, A l) := fun cs x h => by
 obtain ⟨xs, m, rfl, -, hl, hxl, hf⟩ := DataW.trod_array ht h
 obtain ⟨ls, h1, h2, h3, h4, h5⟩ := elems_rd (cs := cs) (hA m (Nat.lt_succ_self m)) (sz := sz) n 0 (by rw [hl, hc, Nat.zero_add]) (fun i _ hi => by
  have := hf i (by omega)
  rw [List.getElem?_eq_getElem (by omega), hs] at this
  exact ⟨_, this⟩)
 rw [Nat.zero_mul] at h3 h5
 exact ⟨ls.flatten, by simpa using h3, ⟨ls, rfl, h1, h2⟩, h4, by simpa using h5⟩
theorem arg_one {fuel : Nat} {t : TypeId} {A : List D → Prop} {v : Value} {x : DataW H × List MemPlace} (hA : Rd enc P w fuel t A) (hv : v.cells.toList = [v]) (h : DataW.trod enc P w 0 (fun _ => true) true fuel t v.cells.toList = some x) : ∃ d, A [d] ∧ RepF (Lie w) w d v := by
 rw [hv] at h
 obtain ⟨ds, h1, h2, -, h4⟩ := hA _ _ h
 match ds, h1 with
 | [d], _ => exact ⟨d, h2, h4 0 d v rfl rfl⟩
theorem Keep.below (h : Keep (fun _ _ => False) w w') : Below w.heap.size w w' := by
 refine ⟨h.os, h.tape, h.output, h.size, fun k hk => ?_⟩
 rcases h.block k _ (Array.getElem?_eq_getElem hk) with h1 | ⟨vs, vs', e, h0, h1, h2, h3⟩
 ·rw [h1, Array.getElem?_eq_getElem hk]
 ·have : vs' = vs := by
    apply Array.ext_getElem?
    intro j
    exact h3 j (fun h => h)
  rw [h1, Array.getElem?_eq_getElem hk, h0, this]
 ·rename_i h; exact h.2.1.elim
end Go.Vm
