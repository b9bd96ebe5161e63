/- A part of the proof; what is proved stands in the last text. -/
import Derived.Test.YtcclggbngikppaaGreatDoorCA
set_option linter.unusedVariables false
set_option maxRecDepth 2000
namespace Go.Proofs
open Go.Vm
set_option linter.unusedSimpArgs false
theorem snoc_ind {α : Type} {P : List α → Prop} (h0 : P []) (h1 : ∀ l x, P l → P (l ++ [x])) (l : List α) : P l := by
 have : ∀ m : List α, P m.reverse := fun m => by
  induction m with
  | nil => exact h0
  | cons a m ih => rw [List.reverse_cons]; exact h1 _ _ ih
 have h := this l.reverse
 rwa [List.reverse_reverse] at h
theorem len_sub {α : Type} [DecidableEq α] : ∀ (l m : List α), l.Nodup → (∀ x ∈ l, x ∈ m) → l.length ≤ m.length
 | [], m, _, _ => Nat.zero_le _
 | x :: l, m, hn, h => by
  obtain ⟨h1, h2⟩ := List.nodup_cons.1 hn
  have hx := h x (by simp)
  have := len_sub l (m.erase x) h2 (fun y hy => (List.mem_erase_of_ne (fun e => by subst e; exact h1 hy)).2 (h y (by simp [hy])))
  rw [List.length_erase_of_mem hx] at this
  have : 0 < m.length := List.length_pos_of_mem hx
  simp only [List.length_cons]; omega
theorem cellsI_len : ∀ (E : List Int) (lo : Int), (cellsI lo E).length = E.length
 | [], _ => rfl
 | hi :: t, lo => by rw [cellsI_cons, List.length_cons, List.length_cons, cellsI_len]
theorem cut_len (r : List SetM) : (cutR r).length = (endsM r).length + (namesM r).length + 2 := by
 unfold cutR
 simp [cellsI_len]; omega
end Go.Proofs

namespace Go.Proofs
open Go.Vm
set_option linter.unusedSimpArgs false
def stepH (lo hi : Int) (g : Rg) : Int :=
 let h := if g.1 > lo then min hi (g.1 - 1) else hi
 if g.2 ≥ lo then min h g.2 else h
def hiF (lo : Int) (gs : List Rg) : Int := gs.foldl (stepH lo) maxI
theorem hiF_spec {lo : Int} (h0 : minI ≤ lo) (h1 : lo ≤ maxI) (gs : List Rg) : (hiF lo gs = maxI ∨ ∃ g ∈ gs, hiF lo gs = g.2 ∨ (g.1 > minI ∧ hiF lo gs = g.1 - 1)) ∧ lo ≤ hiF lo gs ∧ hiF lo gs ≤ maxI ∧
    ∀ g ∈ gs, (lo ≤ g.2 → hiF lo gs ≤ g.2) ∧ (g.1 > lo → hiF lo gs ≤ g.1 - 1) := by
 induction gs using snoc_ind with
 | h0 => exact ⟨.inl rfl, h1, Int.le_refl _, by simp⟩
 | h1 gs g ih =>
  have hs : hiF lo (gs ++ [g]) = stepH lo (hiF lo gs) g := by unfold hiF; rw [List.foldl_append]; rfl
  obtain ⟨i1, i2, i3, i4⟩ := ih
  have hst : stepH lo (hiF lo gs) g = hiF lo gs ∨ stepH lo (hiF lo gs) g = g.2 ∨ (g.1 > lo ∧ stepH lo (hiF lo gs) g = g.1 - 1) := by unfold stepH; simp only; grind
  have hle : stepH lo (hiF lo gs) g ≤ hiF lo gs := by unfold stepH; simp only; grind
  have hlo : lo ≤ stepH lo (hiF lo gs) g := by unfold stepH; simp only; grind
  have ha : lo ≤ g.2 → stepH lo (hiF lo gs) g ≤ g.2 := by unfold stepH; simp only; grind
  have hb : g.1 > lo → stepH lo (hiF lo gs) g ≤ g.1 - 1 := by unfold stepH; simp only; grind
  rw [hs]
  refine ⟨?_, hlo, by omega, fun x hx => ?_⟩
  ·rcases hst with h | h | ⟨h, h'⟩
   ·rw [h]
    rcases i1 with i1 | ⟨x, hx, i1⟩
    ·exact .inl i1
    ·exact .inr ⟨x, by simp [hx], i1⟩
   ·exact .inr ⟨g, by simp, .inl h⟩
   ·exact .inr ⟨g, by simp, .inr ⟨by omega, h'⟩⟩
  ·rcases List.mem_append.1 hx with hx | hx
   ·obtain ⟨j1, j2⟩ := i4 x hx
    exact ⟨fun h => by have := j1 h; omega, fun h => by have := j2 h; omega⟩
   ·have : x = g := by simpa using hx
    subst this
    exact ⟨ha, hb⟩
def rgsOf (r : List SetM) : List Rg := r.flatMap (·.ints)
theorem hiF_next {r : List SetM} {lo : Int} (h0 : minI ≤ lo) (h1 : lo ≤ maxI) : hiF lo (rgsOf r) ∈ endsM r ∧ lo ≤ hiF lo (rgsOf r) ∧ ∀ e ∈ endsM r, lo ≤ e → hiF lo (rgsOf r) ≤ e := by
 obtain ⟨i1, i2, i3, i4⟩ := hiF_spec h0 h1 (rgsOf r)
 refine ⟨?_, i2, fun e he hl => ?_⟩
 ·rcases i1 with i1 | ⟨g, hg, i1⟩
  ·rw [i1]; exact maxI_mem r
  ·obtain ⟨s, hs, hg⟩ := List.mem_flatMap.1 hg
   exact mem_endsM.2 (.inr ⟨s, hs, g, hg, i1⟩)
 ·rcases mem_endsM.1 he with rfl | ⟨s, hs, g, hg, h⟩
  ·exact i3
  ·obtain ⟨j1, j2⟩ := i4 g (List.mem_flatMap.2 ⟨s, hs, hg⟩)
   rcases h with rfl | ⟨h, rfl⟩
   ·exact j1 hl
   ·exact j2 (by omega)
def loAt (E : List Int) (j : Nat) : Int := if j = 0 then minI else E.getD (j - 1) 0 + 1
theorem incr_get {E : List Int} (h : Incr E) {i j : Nat} (hij : i < j) (hj : j < E.length) : E.getD i 0 < E.getD j 0 := by
 have := List.pairwise_iff_getElem.1 h i j (by omega) hj hij
 simpa [hj, show i < E.length by omega] using this
theorem getD_in {E : List Int} {j : Nat} (h : j < E.length) : E.getD j 0 ∈ E := by simp [h]
theorem loAt_in {r : List SetM} (h : AllOK r) {j : Nat} (hj : j < (endsM r).length) : minI ≤ loAt (endsM r) j ∧ loAt (endsM r) j ≤ maxI ∧ loAt (endsM r) j ≤ (endsM r).getD j 0 := by
 have hE := ends_in h
 have e1 := hE _ (getD_in hj)
 unfold loAt
 split
 ·unfold minI maxI at *; omega
 ·have e2 := hE _ (getD_in (E := endsM r) (j := j - 1) (by omega))
  have := incr_get (endsM_incr r) (i := j - 1) (j := j) (by omega) hj
  omega
theorem hi_at {r : List SetM} (h : AllOK r) {j : Nat} (hj : j < (endsM r).length) : hiF (loAt (endsM r) j) (rgsOf r) = (endsM r).getD j 0 := by
 obtain ⟨l1, l2, l3⟩ := loAt_in h hj
 obtain ⟨h1, h2, h3⟩ := hiF_next (r := r) l1 l2
 have h4 := h3 _ (getD_in hj) l3
 generalize hiF (loAt (endsM r) j) (rgsOf r) = x at *
 obtain ⟨i, hi, hx⟩ := List.getElem_of_mem h1
 have hx' : x = (endsM r).getD i 0 := by simp [hi, hx]
 have hij : j ≤ i := by
  apply Classical.byContradiction
  intro hc
  have h6 : x < loAt (endsM r) j := by
   unfold loAt
   rw [if_neg (by omega), hx']
   by_cases e : i = j - 1
   ·rw [e]; omega
   ·have := incr_get (endsM_incr r) (i := i) (j := j - 1) (by omega) (by omega); omega
  omega
 by_cases e : i = j
 ·rw [hx', e]
 ·have := incr_get (endsM_incr r) (i := j) (j := i) (by omega) hi
  omega
theorem cellsI_snoc : ∀ (E : List Int) (lo e : Int), cellsI lo (E ++ [e]) = cellsI lo E ++ [cellN (E.foldl (fun _ x => x + 1) lo) e]
 | [], lo, e => rfl
 | a :: E, lo, e => by
  rw [List.cons_append, cellsI_cons, cellsI_cons, cellsI_snoc]
  rfl
theorem fold_lo (E : List Int) (j : Nat) (hj : j ≤ E.length) : (E.take j).foldl (fun _ x => x + 1) minI = loAt E j := by
 cases j with
 | zero => rfl
 | succ j =>
  rw [List.take_succ_eq_append_getElem (by omega), List.foldl_append]
  unfold loAt
  simp [show j < E.length by omega]
theorem cellsI_take (E : List Int) {j : Nat} (hj : j < E.length) : cellsI minI (E.take (j + 1)) = cellsI minI (E.take j) ++ [cellN (loAt E j) (E.getD j 0)] := by
 rw [List.take_succ_eq_append_getElem hj, cellsI_snoc, fold_lo E j (by omega)]
 simp [hj]
theorem last_max {r : List SetM} (h : AllOK r) {j : Nat} (hj : j < (endsM r).length) : (endsM r).getD j 0 = maxI ↔ j + 1 = (endsM r).length := by
 have hE := ends_in h
 obtain ⟨i, hi, hx⟩ := List.getElem_of_mem (maxI_mem r)
 have hx' : (endsM r).getD i 0 = maxI := by simp [hi, hx]
 constructor
 ·intro he
  apply Classical.byContradiction
  intro hc
  have h1 := incr_get (endsM_incr r) (i := j) (j := j + 1) (by omega) (by omega)
  have h2 := (hE _ (getD_in (E := endsM r) (j := j + 1) (by omega))).2
  omega
 ·intro he
  by_cases e : i = j
  ·rw [← e]; exact hx'
  ·have h1 := incr_get (endsM_incr r) (i := i) (j := j) (by omega) hj
   have h2 := (hE _ (getD_in hj)).2
   omega
def lessB (a b : ByteArray) : Bool := decide (bl a < bl b)
theorem lessB_iff {a b : ByteArray} : lessB a b = true ↔ ltB a b := by unfold lessB ltB; simp
def pastB (L : List ByteArray) (s : ByteArray) : Bool := match L.getLast? with
 | none => true
 | some t => lessB t s
def undB (b : Option ByteArray) (s : ByteArray) : Bool := match b with
 | none => true
 | some u => lessB s u
def stepN (L : List ByteArray) (b : Option ByteArray) (s : ByteArray) : Option ByteArray := if (pastB L s && undB b s) = true then some s else b
def bestN (L gs : List ByteArray) : Option ByteArray := gs.foldl (stepN L) none
def BestN (L gs : List ByteArray) (b : Option ByteArray) : Prop := match b with
 | none => ∀ s ∈ gs, pastB L s = false
 | some b => b ∈ gs ∧ pastB L b = true ∧ ∀ s ∈ gs, pastB L s = true → s = b ∨ ltB b s
theorem ltB_total (a b : ByteArray) : ltB a b ∨ a = b ∨ ltB b a := by
 rcases Std.lt_trichotomy (bl a) (bl b) with h | h | h
 ·exact .inl h
 ·exact .inr (.inl (bl_inj h))
 ·exact .inr (.inr h)
theorem bestN_spec (L gs : List ByteArray) : BestN L gs (bestN L gs) := by
 induction gs using snoc_ind with
 | h0 => simp [bestN, BestN]
 | h1 gs g ih =>
  have hs : bestN L (gs ++ [g]) = stepN L (bestN L gs) g := by unfold bestN; rw [List.foldl_append]; rfl
  rw [hs]
  unfold stepN
  generalize bestN L gs = b at *
  cases hp : pastB L g
  ·rw [if_neg (by simp)]
   cases b with
   | none =>
    intro s hm
    rcases List.mem_append.1 hm with hm | hm
    ·exact ih s hm
    ·have : s = g := by simpa using hm
     rw [this]; exact hp
   | some b =>
    obtain ⟨i1, i2, i3⟩ := ih
    refine ⟨by simp [i1], i2, fun s hm h => ?_⟩
    rcases List.mem_append.1 hm with hm | hm
    ·exact i3 s hm h
    ·have : s = g := by simpa using hm
     rw [this, hp] at h; cases h
  ·cases b with
   | none =>
    show BestN L (gs ++ [g]) (some g)
    refine ⟨by simp, hp, fun s hm h => ?_⟩
    rcases List.mem_append.1 hm with hm | hm
    ·rw [ih s hm] at h; cases h
    ·exact .inl (by simpa using hm)
   | some b =>
    obtain ⟨i1, i2, i3⟩ := ih
    show BestN L (gs ++ [g]) (if (true && lessB g b) = true then some g else some b)
    cases hl : lessB g b
    ·rw [if_neg (by simp)]
     refine ⟨by simp [i1], i2, fun s hm h => ?_⟩
     rcases List.mem_append.1 hm with hm | hm
     ·exact i3 s hm h
     ·have : s = g := by simpa using hm
      subst this
      rcases ltB_total s b with h1 | h1 | h1
      ·rw [lessB_iff.2 h1] at hl; cases hl
      ·exact .inl h1
      ·exact .inr h1
    ·show BestN L (gs ++ [g]) (some g)
     have hl := lessB_iff.1 hl
     refine ⟨by simp, hp, fun s hm h => ?_⟩
     rcases List.mem_append.1 hm with hm | hm
     ·rcases i3 s hm h with rfl | h1
      ·exact .inr hl
      ·exact .inr (ltB_trans hl h1)
     ·exact .inl (by simpa using hm)
def strsOf (r : List SetM) : List ByteArray := r.flatMap (·.strs)
theorem mem_strsOf {r : List SetM} {t : ByteArray} : t ∈ strsOf r ↔ t ∈ namesM r := by
 rw [mem_namesM]; simp [strsOf]
theorem SS_get {L : List ByteArray} (h : SS L) {i j : Nat} (hij : i < j) (hj : j < L.length) : ltB (L[i]'(by omega)) L[j] := List.pairwise_iff_getElem.1 h i j (by omega) hj hij
theorem best_at (r : List SetM) (j : Nat) (hj : j ≤ (namesM r).length) : bestN ((namesM r).take j) (strsOf r) = (namesM r)[j]? := by
 have hb := bestN_spec ((namesM r).take j) (strsOf r)
 have hS := namesM_SS r
 have hpast : ∀ i (hi : i < (namesM r).length), pastB ((namesM r).take j) (namesM r)[i] = decide (j ≤ i) := fun i hi => by
  unfold pastB
  cases j with
  | zero => simp
  | succ j =>
   rw [List.take_succ_eq_append_getElem (by omega), List.getLast?_concat]
   simp only
   by_cases c : j < i
   ·rw [lessB_iff.2 (SS_get hS c hi), decide_eq_true (by omega)]
   ·rw [decide_eq_false (by omega)]
    cases hl : lessB (namesM r)[j] (namesM r)[i]
    ·rfl
    ·have hl := lessB_iff.1 hl
     by_cases e : i = j
     ·subst e; exact absurd hl (ltB_irrefl _)
     ·exact absurd (ltB_trans hl (SS_get hS (i := i) (j := j) (by omega) (by omega))) (ltB_irrefl _)
 by_cases hlt : j < (namesM r).length
 ·rw [List.getElem?_eq_getElem hlt]
  have hmem : (namesM r)[j] ∈ strsOf r := mem_strsOf.2 (List.getElem_mem hlt)
  have hp := hpast j hlt
  rw [decide_eq_true (Nat.le_refl j)] at hp
  generalize bestN ((namesM r).take j) (strsOf r) = b at *
  cases b with
  | none => rw [hb _ hmem] at hp; cases hp
  | some b =>
   obtain ⟨h1, h2, h3⟩ := hb
   obtain ⟨i, hi, rfl⟩ := List.getElem_of_mem (mem_strsOf.1 h1)
   rw [hpast i hi] at h2
   have hji := of_decide_eq_true h2
   by_cases e : i = j
   ·subst e; rfl
   ·have h4 := SS_get hS (i := j) (j := i) (by omega) hi
    rcases h3 _ hmem hp with h5 | h5
    ·rw [h5] at h4; exact absurd h4 (ltB_irrefl _)
    ·exact absurd (ltB_trans h4 h5) (ltB_irrefl _)
 ·rw [List.getElem?_eq_none (by omega)]
  generalize bestN ((namesM r).take j) (strsOf r) = b at *
  cases b with
  | none => rfl
  | some b =>
   obtain ⟨h1, h2, h3⟩ := hb
   obtain ⟨i, hi, rfl⟩ := List.getElem_of_mem (mem_strsOf.1 h1)
   rw [hpast i hi] at h2
   have := of_decide_eq_true h2
   omega
end Go.Proofs

namespace Go.Proofs
open Go.Vm
set_option linter.unusedSimpArgs false
def strsN (L : List SetM) : Nat := (L.map fun c => c.strs.length).sum
end Go.Proofs
