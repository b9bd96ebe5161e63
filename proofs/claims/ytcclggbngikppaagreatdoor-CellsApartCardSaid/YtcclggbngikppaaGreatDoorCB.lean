/- A part of the proof; what is proved stands in the last text. -/
import Derived.Test.YtcclggbngikppaaGreatDoorCA
set_option linter.unusedVariables false
set_option maxRecDepth 2000
namespace Go.Proofs
open Go.Vm
set_option linter.unusedSimpArgs false
def lastI {α : Type} (p : α → Bool) (l : List α) : Int := l.zipIdx.foldl (fun a x => if p x.1 = true then (x.2 : Int) else a) (-1)
theorem lastI_snoc {α : Type} (p : α → Bool) (l : List α) (x : α) : lastI p (l ++ [x]) = if p x = true then (l.length : Int) else lastI p l := by
 unfold lastI
 rw [List.zipIdx_append, List.foldl_append]
 simp
theorem idxOf_snoc {α : Type} (p : α → Bool) (l : List α) (x : α) : idxOf p (l ++ [x]) = if l.any p = true then idxOf p l else if p x = true then (l.length : Int) else -1 := by
 unfold idxOf
 rw [List.any_append, List.findIdx_append]
 cases h : l.any p
 ·have h1 : l.findIdx p = l.length := List.findIdx_eq_length.2 (fun y hy => by
    cases hh : p y
    ·rfl
    ·rw [List.any_eq_true.2 ⟨y, hy, hh⟩] at h; cases h)
  cases hx : p x
  ·simp [hx]
  ·rw [h1]; simp [hx]
 ·have h1 : l.findIdx p < l.length := by
    obtain ⟨y, hy, hp⟩ := List.any_eq_true.1 h
    exact List.findIdx_lt_length.2 ⟨y, hy, hp⟩
  simp [h1]
theorem snoc_ind {α : Type} {P : List α → Prop} (h0 : P []) (h1 : ∀ l x, P l → P (l ++ [x])) (l : List α) : P l := by
 have : ∀ m : List α, P m.reverse := fun m => by
  induction m with
  | nil => exact h0
  | cons a m ih => rw [List.reverse_cons]; exact h1 _ _ ih
 have h := this l.reverse
 rwa [List.reverse_reverse] at h
theorem last_idx {α : Type} (p : α → Bool) (l : List α) (h : l.countP p ≤ 1) : lastI p l = idxOf p l := by
 induction l using snoc_ind with
 | h0 => rfl
 | h1 l x ih =>
  rw [List.countP_append] at h
  rw [lastI_snoc, idxOf_snoc]
  have hl : l.countP p ≤ 1 := by omega
  rw [ih hl]
  cases ha : l.any p
  ·rw [if_neg (show ¬ (false = true) by simp)]
   have : idxOf p l = -1 := by unfold idxOf; rw [ha]; rfl
   rw [this]
  ·rw [if_pos rfl]
   obtain ⟨y, hy, hp⟩ := List.any_eq_true.1 ha
   have : 0 < l.countP p := List.countP_pos_iff.2 ⟨y, hy, hp⟩
   have hx : p x = false := by
    cases hx : p x
    ·rfl
    ·have h3 : [x].countP p = 1 := by simp [List.countP_cons, hx]
     omega
   rw [hx]; rfl
theorem len_sub {α : Type} [DecidableEq α] : ∀ (l m : List α), l.Nodup → (∀ x ∈ l, x ∈ m) → l.length ≤ m.length
 | [], m, _, _ => Nat.zero_le _
 | x :: l, m, hn, h => by
  obtain ⟨h1, h2⟩ := List.nodup_cons.1 hn
  have hx := h x (by simp)
  have := len_sub l (m.erase x) h2 (fun y hy => (List.mem_erase_of_ne (fun e => by subst e; exact h1 hy)).2 (h y (by simp [hy])))
  rw [List.length_erase_of_mem hx] at this
  have : 0 < m.length := List.length_pos_of_mem hx
  simp only [List.length_cons]; omega
theorem cellsI_len : ∀ (E : List Int) (lo : Int), (cellsI lo E).length = E.length
 | [], _ => rfl
 | hi :: t, lo => by rw [cellsI_cons, List.length_cons, List.length_cons, cellsI_len]
theorem cut_len (r : List SetM) : (cutR r).length = (endsM r).length + (namesM r).length + 2 := by
 unfold cutR
 simp [cellsI_len]; omega
theorem ends_sub {r r' : List SetM} (h : ∀ s ∈ r, s ∈ r') : ∀ e ∈ endsM r, e ∈ endsM r' := fun e he => by
 rcases mem_endsM.1 he with h1 | ⟨s, hs, g, hg, h1⟩
 ·exact mem_endsM.2 (.inl h1)
 ·exact mem_endsM.2 (.inr ⟨s, h s hs, g, hg, h1⟩)
theorem names_sub {r r' : List SetM} (h : ∀ s ∈ r, s ∈ r') : ∀ e ∈ namesM r, e ∈ namesM r' := fun e he => by
 obtain ⟨s, hs, h1⟩ := mem_namesM.1 he
 exact mem_namesM.2 ⟨s, h s hs, h1⟩
theorem cut_more {r r' : List SetM} (h : ∀ s ∈ r, s ∈ r') : (cutR r).length ≤ (cutR r').length := by
 rw [cut_len, cut_len]
 have h1 := len_sub _ _ ((endsM_incr r).imp (fun h e => by omega)) (ends_sub h)
 have hnd : (namesM r).Nodup := (namesM_SS r).imp (S := fun a b => a ≠ b) (fun {a b} (h : ltB a b) (e : a = b) => ltB_irrefl a (by rw [← e] at h; exact h))
 have h2 := len_sub _ _ hnd (names_sub h)
 omega
theorem cut_sub {r r' : List SetM} (h : AllOK r) (h' : AllOK r') (hs : ∀ s ∈ r, s ∈ r') {x y : SetM} (hx : x ∈ cutR r') (hy : y ∈ cutR r) {v : ValM} (vx : hasM x v = true) (vy : hasM y v = true) : Sub x y := by
 have rv : rightV v = true := by
  cases hh : rightV v
  ·rw [has_no x hh] at vx; cases vx
  ·rfl
 have ax := (has_iff x rv).1 vx
 have ay := (has_iff y rv).1 vy
 rcases cut_mem h' hx with rfl | ⟨a, b, rfl, h1, h2, h3, h4, h5, -⟩ | ⟨t, ht, rfl⟩ | rfl
 ·have k : v.kind = 0 := by
    rcases ax with ⟨k, -⟩ | ⟨k, c⟩ | ⟨k, c⟩
    ·exact k
    ·simp [Cov] at c
    ·simp [StrIn] at c
  rw [has0 rv k] at vy
  exact ⟨fun _ => vy, fun n c => by simp [Cov] at c, fun t _ c => by simp [StrIn] at c⟩
 ·have ⟨k, n1, n2⟩ : v.kind = 1 ∧ a ≤ v.n ∧ v.n ≤ b := by
    rcases ax with ⟨k, c⟩ | ⟨k, c⟩ | ⟨k, c⟩
    ·simp [cellN] at c
    ·exact ⟨k, by simpa [cellN, Cov] using c⟩
    ·simp [StrIn, cellN] at c
  rcases cut_mem h hy with rfl | ⟨c, d, rfl, -, g2, -, g4, g5, g6⟩ | ⟨t, ht, rfl⟩ | rfl
  ·simp [k, Cov] at ay
  ·simp [k, cellN, Cov] at ay
   refine ⟨fun c => by simp [cellN] at c, fun n cn => ?_, fun t _ c => by simp [StrIn, cellN] at c⟩
   simp [cellN, Cov] at cn ⊢
   have k1 : b ≤ d := by
    apply Classical.byContradiction
    intro hc
    exact h4 d (ends_sub hs d g5) ⟨by omega, by omega⟩
   have k2 : c ≤ a := by
    apply Classical.byContradiction
    intro hc
    have hc' : a < c := by omega
    rcases g6 with rfl | g6
    ·omega
    ·exact h4 _ (ends_sub hs _ g6) ⟨by omega, by omega⟩
   omega
  ·simp [k, cellS, Cov] at ay
  ·simp [k, Cov] at ay
 ·have ⟨k, n1⟩ : v.kind = 2 ∧ v.s = t := by
    rcases ax with ⟨k, c⟩ | ⟨k, c⟩ | ⟨k, c⟩
    ·simp [cellS] at c
    ·simp [cellS, Cov] at c
    ·exact ⟨k, strIn_S.1 c⟩
  have vy' := (has2 rv k).1 vy
  rw [n1] at vy'
  exact ⟨fun c => by simp [cellS] at c, fun n c => by simp [cellS, Cov] at c, fun u _ c => by rw [strIn_S.1 c]; exact vy'⟩
 ·have ⟨k, n1⟩ : v.kind = 2 ∧ v.s ∉ namesM r' := by
    rcases ax with ⟨k, c⟩ | ⟨k, c⟩ | ⟨k, c⟩
    ·simp at c
    ·simp [Cov] at c
    ·exact ⟨k, fun hm => by simp [StrIn, hm] at c⟩
  have vy' := (has2 rv k).1 vy
  refine ⟨fun c => by simp at c, fun n c => by simp [Cov] at c, fun u _ c => ?_⟩
  have hu : u ∉ namesM r' := fun hm => by simp [StrIn, hm] at c
  rcases cut_mem h hy with rfl | ⟨c, d, rfl, -⟩ | ⟨t, ht, rfl⟩ | rfl
  ·simp [StrIn] at vy'
  ·simp [StrIn, cellN] at vy'
  ·exact absurd (names_sub hs t ht) (by rw [strIn_S.1 vy'] at n1; exact n1)
  ·have : u ∉ namesM r := fun hm => hu (names_sub hs u hm)
   simp [StrIn, this]
end Go.Proofs

namespace Go.Proofs
open Go.Vm
set_option linter.unusedSimpArgs false
def stepH (lo hi : Int) (g : Rg) : Int :=
 let h := if g.1 > lo then min hi (g.1 - 1) else hi
 if g.2 ≥ lo then min h g.2 else h
def hiF (lo : Int) (gs : List Rg) : Int := gs.foldl (stepH lo) maxI
theorem hiF_spec {lo : Int} (h0 : minI ≤ lo) (h1 : lo ≤ maxI) (gs : List Rg) : (hiF lo gs = maxI ∨ ∃ g ∈ gs, hiF lo gs = g.2 ∨ (g.1 > minI ∧ hiF lo gs = g.1 - 1)) ∧ lo ≤ hiF lo gs ∧ hiF lo gs ≤ maxI ∧
    ∀ g ∈ gs, (lo ≤ g.2 → hiF lo gs ≤ g.2) ∧ (g.1 > lo → hiF lo gs ≤ g.1 - 1) := by
 induction gs using snoc_ind with
 | h0 => exact ⟨.inl rfl, h1, Int.le_refl _, by simp⟩
 | h1 gs g ih =>
  have hs : hiF lo (gs ++ [g]) = stepH lo (hiF lo gs) g := by unfold hiF; rw [List.foldl_append]; rfl
  obtain ⟨i1, i2, i3, i4⟩ := ih
  have hst : stepH lo (hiF lo gs) g = hiF lo gs ∨ stepH lo (hiF lo gs) g = g.2 ∨ (g.1 > lo ∧ stepH lo (hiF lo gs) g = g.1 - 1) := by unfold stepH; simp only; grind
  have hle : stepH lo (hiF lo gs) g ≤ hiF lo gs := by unfold stepH; simp only; grind
  have hlo : lo ≤ stepH lo (hiF lo gs) g := by unfold stepH; simp only; grind
  have ha : lo ≤ g.2 → stepH lo (hiF lo gs) g ≤ g.2 := by unfold stepH; simp only; grind
  have hb : g.1 > lo → stepH lo (hiF lo gs) g ≤ g.1 - 1 := by unfold stepH; simp only; grind
  rw [hs]
  refine ⟨?_, hlo, by omega, fun x hx => ?_⟩
  ·rcases hst with h | h | ⟨h, h'⟩
   ·rw [h]
    rcases i1 with i1 | ⟨x, hx, i1⟩
    ·exact .inl i1
    ·exact .inr ⟨x, by simp [hx], i1⟩
   ·exact .inr ⟨g, by simp, .inl h⟩
   ·exact .inr ⟨g, by simp, .inr ⟨by omega, h'⟩⟩
  ·rcases List.mem_append.1 hx with hx | hx
   ·obtain ⟨j1, j2⟩ := i4 x hx
    exact ⟨fun h => by have := j1 h; omega, fun h => by have := j2 h; omega⟩
   ·have : x = g := by simpa using hx
    subst this
    exact ⟨ha, hb⟩
def rgsOf (r : List SetM) : List Rg := r.flatMap (·.ints)
theorem hiF_next {r : List SetM} {lo : Int} (h0 : minI ≤ lo) (h1 : lo ≤ maxI) : hiF lo (rgsOf r) ∈ endsM r ∧ lo ≤ hiF lo (rgsOf r) ∧ ∀ e ∈ endsM r, lo ≤ e → hiF lo (rgsOf r) ≤ e := by
 obtain ⟨i1, i2, i3, i4⟩ := hiF_spec h0 h1 (rgsOf r)
 refine ⟨?_, i2, fun e he hl => ?_⟩
 ·rcases i1 with i1 | ⟨g, hg, i1⟩
  ·rw [i1]; exact maxI_mem r
  ·obtain ⟨s, hs, hg⟩ := List.mem_flatMap.1 hg
   exact mem_endsM.2 (.inr ⟨s, hs, g, hg, i1⟩)
 ·rcases mem_endsM.1 he with rfl | ⟨s, hs, g, hg, h⟩
  ·exact i3
  ·obtain ⟨j1, j2⟩ := i4 g (List.mem_flatMap.2 ⟨s, hs, hg⟩)
   rcases h with rfl | ⟨h, rfl⟩
   ·exact j1 hl
   ·exact j2 (by omega)
def loAt (E : List Int) (j : Nat) : Int := if j = 0 then minI else E.getD (j - 1) 0 + 1
theorem incr_get {E : List Int} (h : Incr E) {i j : Nat} (hij : i < j) (hj : j < E.length) : E.getD i 0 < E.getD j 0 := by
 have := List.pairwise_iff_getElem.1 h i j (by omega) hj hij
 simpa [hj, show i < E.length by omega] using this
theorem getD_in {E : List Int} {j : Nat} (h : j < E.length) : E.getD j 0 ∈ E := by simp [h]
theorem loAt_in {r : List SetM} (h : AllOK r) {j : Nat} (hj : j < (endsM r).length) : minI ≤ loAt (endsM r) j ∧ loAt (endsM r) j ≤ maxI ∧ loAt (endsM r) j ≤ (endsM r).getD j 0 := by
 have hE := ends_in h
 have e1 := hE _ (getD_in hj)
 unfold loAt
 split
 ·unfold minI maxI at *; omega
 ·have e2 := hE _ (getD_in (E := endsM r) (j := j - 1) (by omega))
  have := incr_get (endsM_incr r) (i := j - 1) (j := j) (by omega) hj
  omega
theorem hi_at {r : List SetM} (h : AllOK r) {j : Nat} (hj : j < (endsM r).length) : hiF (loAt (endsM r) j) (rgsOf r) = (endsM r).getD j 0 := by
 obtain ⟨l1, l2, l3⟩ := loAt_in h hj
 obtain ⟨h1, h2, h3⟩ := hiF_next (r := r) l1 l2
 have h4 := h3 _ (getD_in hj) l3
 generalize hiF (loAt (endsM r) j) (rgsOf r) = x at *
 obtain ⟨i, hi, hx⟩ := List.getElem_of_mem h1
 have hx' : x = (endsM r).getD i 0 := by simp [hi, hx]
 have hij : j ≤ i := by
  apply Classical.byContradiction
  intro hc
  have h6 : x < loAt (endsM r) j := by
   unfold loAt
   rw [if_neg (by omega), hx']
   by_cases e : i = j - 1
   ·rw [e]; omega
   ·have := incr_get (endsM_incr r) (i := i) (j := j - 1) (by omega) (by omega); omega
  omega
 by_cases e : i = j
 ·rw [hx', e]
 ·have := incr_get (endsM_incr r) (i := j) (j := i) (by omega) hi
  omega
theorem cellsI_snoc : ∀ (E : List Int) (lo e : Int), cellsI lo (E ++ [e]) = cellsI lo E ++ [cellN (E.foldl (fun _ x => x + 1) lo) e]
 | [], lo, e => rfl
 | a :: E, lo, e => by
  rw [List.cons_append, cellsI_cons, cellsI_cons, cellsI_snoc]
  rfl
theorem fold_lo (E : List Int) (j : Nat) (hj : j ≤ E.length) : (E.take j).foldl (fun _ x => x + 1) minI = loAt E j := by
 cases j with
 | zero => rfl
 | succ j =>
  rw [List.take_succ_eq_append_getElem (by omega), List.foldl_append]
  unfold loAt
  simp [show j < E.length by omega]
theorem cellsI_take (E : List Int) {j : Nat} (hj : j < E.length) : cellsI minI (E.take (j + 1)) = cellsI minI (E.take j) ++ [cellN (loAt E j) (E.getD j 0)] := by
 rw [List.take_succ_eq_append_getElem hj, cellsI_snoc, fold_lo E j (by omega)]
 simp [hj]
theorem last_max {r : List SetM} (h : AllOK r) {j : Nat} (hj : j < (endsM r).length) : (endsM r).getD j 0 = maxI ↔ j + 1 = (endsM r).length := by
 have hE := ends_in h
 obtain ⟨i, hi, hx⟩ := List.getElem_of_mem (maxI_mem r)
 have hx' : (endsM r).getD i 0 = maxI := by simp [hi, hx]
 constructor
 ·intro he
  apply Classical.byContradiction
  intro hc
  have h1 := incr_get (endsM_incr r) (i := j) (j := j + 1) (by omega) (by omega)
  have h2 := (hE _ (getD_in (E := endsM r) (j := j + 1) (by omega))).2
  omega
 ·intro he
  by_cases e : i = j
  ·rw [← e]; exact hx'
  ·have h1 := incr_get (endsM_incr r) (i := i) (j := j) (by omega) hj
   have h2 := (hE _ (getD_in hj)).2
   omega
def lessB (a b : ByteArray) : Bool := decide (bl a < bl b)
theorem lessB_iff {a b : ByteArray} : lessB a b = true ↔ ltB a b := by unfold lessB ltB; simp
def pastB (L : List ByteArray) (s : ByteArray) : Bool := match L.getLast? with
 | none => true
 | some t => lessB t s
def undB (b : Option ByteArray) (s : ByteArray) : Bool := match b with
 | none => true
 | some u => lessB s u
def stepN (L : List ByteArray) (b : Option ByteArray) (s : ByteArray) : Option ByteArray := if (pastB L s && undB b s) = true then some s else b
def bestN (L gs : List ByteArray) : Option ByteArray := gs.foldl (stepN L) none
def BestN (L gs : List ByteArray) (b : Option ByteArray) : Prop := match b with
 | none => ∀ s ∈ gs, pastB L s = false
 | some b => b ∈ gs ∧ pastB L b = true ∧ ∀ s ∈ gs, pastB L s = true → s = b ∨ ltB b s
theorem ltB_total (a b : ByteArray) : ltB a b ∨ a = b ∨ ltB b a := by
 rcases Std.lt_trichotomy (bl a) (bl b) with h | h | h
 ·exact .inl h
 ·exact .inr (.inl (bl_inj h))
 ·exact .inr (.inr h)
theorem bestN_spec (L gs : List ByteArray) : BestN L gs (bestN L gs) := by
 induction gs using snoc_ind with
 | h0 => simp [bestN, BestN]
 | h1 gs g ih =>
  have hs : bestN L (gs ++ [g]) = stepN L (bestN L gs) g := by unfold bestN; rw [List.foldl_append]; rfl
  rw [hs]
  unfold stepN
  generalize bestN L gs = b at *
  cases hp : pastB L g
  ·rw [if_neg (by simp)]
   cases b with
   | none =>
    intro s hm
    rcases List.mem_append.1 hm with hm | hm
    ·exact ih s hm
    ·have : s = g := by simpa using hm
     rw [this]; exact hp
   | some b =>
    obtain ⟨i1, i2, i3⟩ := ih
    refine ⟨by simp [i1], i2, fun s hm h => ?_⟩
    rcases List.mem_append.1 hm with hm | hm
    ·exact i3 s hm h
    ·have : s = g := by simpa using hm
     rw [this, hp] at h; cases h
  ·cases b with
   | none =>
    show BestN L (gs ++ [g]) (some g)
    refine ⟨by simp, hp, fun s hm h => ?_⟩
    rcases List.mem_append.1 hm with hm | hm
    ·rw [ih s hm] at h; cases h
    ·exact .inl (by simpa using hm)
   | some b =>
    obtain ⟨i1, i2, i3⟩ := ih
    show BestN L (gs ++ [g]) (if (true && lessB g b) = true then some g else some b)
    cases hl : lessB g b
    ·rw [if_neg (by simp)]
     refine ⟨by simp [i1], i2, fun s hm h => ?_⟩
     rcases List.mem_append.1 hm with hm | hm
     ·exact i3 s hm h
     ·have : s = g := by simpa using hm
      subst this
      rcases ltB_total s b with h1 | h1 | h1
      ·rw [lessB_iff.2 h1] at hl; cases hl
      ·exact .inl h1
      ·exact .inr h1
    ·show BestN L (gs ++ [g]) (some g)
     have hl := lessB_iff.1 hl
     refine ⟨by simp, hp, fun s hm h => ?_⟩
     rcases List.mem_append.1 hm with hm | hm
     ·rcases i3 s hm h with rfl | h1
      ·exact .inr hl
      ·exact .inr (ltB_trans hl h1)
     ·exact .inl (by simpa using hm)
def strsOf (r : List SetM) : List ByteArray := r.flatMap (·.strs)
theorem mem_strsOf {r : List SetM} {t : ByteArray} : t ∈ strsOf r ↔ t ∈ namesM r := by
 rw [mem_namesM]; simp [strsOf]
theorem SS_get {L : List ByteArray} (h : SS L) {i j : Nat} (hij : i < j) (hj : j < L.length) : ltB (L[i]'(by omega)) L[j] := List.pairwise_iff_getElem.1 h i j (by omega) hj hij
theorem best_at (r : List SetM) (j : Nat) (hj : j ≤ (namesM r).length) : bestN ((namesM r).take j) (strsOf r) = (namesM r)[j]? := by
 have hb := bestN_spec ((namesM r).take j) (strsOf r)
 have hS := namesM_SS r
 have hpast : ∀ i (hi : i < (namesM r).length), pastB ((namesM r).take j) (namesM r)[i] = decide (j ≤ i) := fun i hi => by
  unfold pastB
  cases j with
  | zero => simp
  | succ j =>
   rw [List.take_succ_eq_append_getElem (by omega), List.getLast?_concat]
   simp only
   by_cases c : j < i
   ·rw [lessB_iff.2 (SS_get hS c hi), decide_eq_true (by omega)]
   ·rw [decide_eq_false (by omega)]
    cases hl : lessB (namesM r)[j] (namesM r)[i]
    ·rfl
    ·have hl := lessB_iff.1 hl
     by_cases e : i = j
     ·subst e; exact absurd hl (ltB_irrefl _)
     ·exact absurd (ltB_trans hl (SS_get hS (i := i) (j := j) (by omega) (by omega))) (ltB_irrefl _)
 by_cases hlt : j < (namesM r).length
 ·rw [List.getElem?_eq_getElem hlt]
  have hmem : (namesM r)[j] ∈ strsOf r := mem_strsOf.2 (List.getElem_mem hlt)
  have hp := hpast j hlt
  rw [decide_eq_true (Nat.le_refl j)] at hp
  generalize bestN ((namesM r).take j) (strsOf r) = b at *
  cases b with
  | none => rw [hb _ hmem] at hp; cases hp
  | some b =>
   obtain ⟨h1, h2, h3⟩ := hb
   obtain ⟨i, hi, rfl⟩ := List.getElem_of_mem (mem_strsOf.1 h1)
   rw [hpast i hi] at h2
   have hji := of_decide_eq_true h2
   by_cases e : i = j
   ·subst e; rfl
   ·have h4 := SS_get hS (i := j) (j := i) (by omega) hi
    rcases h3 _ hmem hp with h5 | h5
    ·rw [h5] at h4; exact absurd h4 (ltB_irrefl _)
    ·exact absurd (ltB_trans h4 h5) (ltB_irrefl _)
 ·rw [List.getElem?_eq_none (by omega)]
  generalize bestN ((namesM r).take j) (strsOf r) = b at *
  cases b with
  | none => rfl
  | some b =>
   obtain ⟨h1, h2, h3⟩ := hb
   obtain ⟨i, hi, rfl⟩ := List.getElem_of_mem (mem_strsOf.1 h1)
   rw [hpast i hi] at h2
   have := of_decide_eq_true h2
   omega
end Go.Proofs

namespace Go.Proofs
open Go.Vm
set_option linter.unusedSimpArgs false
def orsM (L : List SetM) : SetM := L.foldl (orM normR) noM
theorem orsM_snoc (L : List SetM) (x : SetM) : orsM (L ++ [x]) = orM normR (orsM L) x := by unfold orsM; rw [List.foldl_append]; rfl
theorem orsM_ok (L : List SetM) (h : ∀ c ∈ L, OK c) : OK (orsM L) ∧ (∀ n, Cov (orsM L).ints n ↔ ∃ c ∈ L, Cov c.ints n) ∧ (∀ t, StrIn (orsM L) t ↔ ∃ c ∈ L, StrIn c t) ∧ ((orsM L).absent = true ↔ ∃ c ∈ L, c.absent = true) := by
 induction L using snoc_ind with
 | h0 => exact ⟨OK.no, fun n => by simp [orsM, noM, Cov], fun t => by simp [orsM, noM, StrIn], by simp [orsM, noM]⟩
 | h1 L x ih =>
  obtain ⟨i1, i2, i3, i4⟩ := ih (fun c hc => h c (by simp [hc]))
  obtain ⟨o1, o2, o3, o4⟩ := i1.or (h x (by simp))
  rw [orsM_snoc]
  refine ⟨o1, fun n => ?_, fun t => ?_, ?_⟩
  ·rw [o2, i2]
   constructor
   ·rintro (⟨c, hc, h1⟩ | h1)
    ·exact ⟨c, by simp [hc], h1⟩
    ·exact ⟨x, by simp, h1⟩
   ·rintro ⟨c, hc, h1⟩
    rcases List.mem_append.1 hc with hc | hc
    ·exact .inl ⟨c, hc, h1⟩
    ·rw [show c = x by simpa using hc] at h1; exact .inr h1
  ·rw [o3, i3]
   constructor
   ·rintro (⟨c, hc, h1⟩ | h1)
    ·exact ⟨c, by simp [hc], h1⟩
    ·exact ⟨x, by simp, h1⟩
   ·rintro ⟨c, hc, h1⟩
    rcases List.mem_append.1 hc with hc | hc
    ·exact .inl ⟨c, hc, h1⟩
    ·rw [show c = x by simpa using hc] at h1; exact .inr h1
  ·rw [o4, Bool.or_eq_true, i4]
   constructor
   ·rintro (⟨c, hc, h1⟩ | h1)
    ·exact ⟨c, by simp [hc], h1⟩
    ·exact ⟨x, by simp, h1⟩
   ·rintro ⟨c, hc, h1⟩
    rcases List.mem_append.1 hc with hc | hc
    ·exact .inl ⟨c, hc, h1⟩
    ·rw [show c = x by simpa using hc] at h1; exact .inr h1
def strsN (L : List SetM) : Nat := (L.map fun c => c.strs.length).sum
def intsN (L : List SetM) : Nat := (L.map fun c => c.ints.length).sum
theorem orsM_strs (L : List SetM) : (orsM L).strs.length ≤ strsN L := by
 induction L using snoc_ind with
 | h0 => simp [orsM, noM]
 | h1 L x ih =>
  have := orM_strs (orsM L) x
  rw [orsM_snoc]
  unfold strsN at *
  simp; omega
theorem orsM_ints (L : List SetM) : (orsM L).ints.length ≤ intsN L := by
 induction L using snoc_ind with
 | h0 => simp [orsM, noM]
 | h1 L x ih =>
  have := orM_ints (orsM L) x
  rw [orsM_snoc]
  unfold intsN at *
  simp; omega
theorem two_apart {α : Type} {p : α → Bool} {l : List α} (h : l.countP p ≤ 1) {i j : Nat} (hij : i < j) (hj : j < l.length) (hi : p (l[i]'(by omega)) = true) : p l[j] = false := by
 cases hp : p l[j]
 ·rfl
 ·exfalso
  have h1 : l = l.take j ++ l.drop j := (List.take_append_drop j l).symm
  rw [h1, List.countP_append] at h
  have h2 : 0 < (l.take j).countP p := List.countP_pos_iff.2 ⟨l[i]'(by omega), List.mem_take_iff_getElem.2 ⟨i, by omega, rfl⟩, hi⟩
  have h3 : 0 < (l.drop j).countP p := List.countP_pos_iff.2 ⟨l[j], by rw [List.drop_eq_getElem_cons hj]; exact List.mem_cons_self, hp⟩
  omega
theorem inR0 : InRange 0 := ⟨by decide, by decide⟩
theorem hasN {s : SetM} {n : Int} : hasM s (ptI n) = true ↔ Cov s.ints n := by rw [has1 (rightI n) rfl, inI_iff]; rfl
theorem hasT {s : SetM} {t : ByteArray} (h : t.size ≤ 8) : hasM s (ptS t) = true ↔ StrIn s t := has2 (rightS h) rfl
theorem hasA {s : SetM} : hasM s ⟨0, 0, ⟨#[]⟩⟩ = s.absent := has0 right0 rfl
theorem apart_at {r : List SetM} (h : AllOK r) {j : Nat} (hj : j < (cutR r).length) (hsz : strsN ((cutR r).take j) + (cutR r)[j].strs.length ≤ 1000) : andM normR (orsM ((cutR r).take j)) (cutR r)[j] = noM := by
 have hok : ∀ c ∈ (cutR r).take j, OK c := fun c hc => cut_ok h (List.mem_of_mem_take hc)
 obtain ⟨o1, o2, o3, o4⟩ := orsM_ok _ hok
 have hx := cut_ok h (List.getElem_mem hj)
 obtain ⟨a1, a2, a3, a4⟩ := o1.and hx
 have apart : ∀ v : ValM, rightV v = true → InRange v.n → ∀ c ∈ (cutR r).take j, hasM c v = true → hasM (cutR r)[j] v = true → False := fun v hv hn c hc h1 h2 => by
  obtain ⟨i, hi, rfl⟩ := List.mem_take_iff_getElem.1 hc
  have hc1 := cut_one h hn
  rw [if_pos hv] at hc1
  have := two_apart (p := fun c => hasM c v) (l := cutR r) (by omega) (i := i) (j := j) (by omega) hj h1
  rw [this] at h2; cases h2
 have hl := andM_strs (orsM ((cutR r).take j)) (cutR r)[j]
 have hls := orsM_strs ((cutR r).take j)
 have key : (andM normR (orsM ((cutR r).take j)) (cutR r)[j]).absent = noM.absent ∧ (∀ n, InRange n → (Cov (andM normR (orsM ((cutR r).take j)) (cutR r)[j]).ints n ↔ Cov noM.ints n)) ∧ ∀ t, t.size ≤ 8 → (StrIn (andM normR (orsM ((cutR r).take j)) (cutR r)[j]) t ↔ StrIn noM t) := by
  refine ⟨?_, fun n hn => ?_, fun t ht => ?_⟩
  ·rw [a4]
   show _ = false
   cases h1 : (orsM ((cutR r).take j)).absent
   ·rfl
   ·obtain ⟨c, hc, h2⟩ := o4.1 h1
    cases h3 : (cutR r)[j].absent
    ·rfl
    ·exact (apart ⟨0, 0, ⟨#[]⟩⟩ right0 inR0 c hc (by rw [hasA]; exact h2) (by rw [hasA]; exact h3)).elim
  ·rw [a2, o2]
   refine ⟨fun ⟨⟨c, hc, h1⟩, h2⟩ => (apart (ptI n) (rightI n) hn c hc (hasN.2 h1) (hasN.2 h2)).elim, fun h1 => by simp [Cov, noM] at h1⟩
  ·rw [a3, o3]
   refine ⟨fun ⟨⟨c, hc, h1⟩, h2⟩ => (apart (ptS t) (rightS ht) inR0 c hc ((hasT ht).2 h1) ((hasT ht).2 h2)).elim, fun h1 => by simp [StrIn, noM] at h1⟩
 exact a1.ext OK.no (by omega) (by simp [noM]) key.1 key.2.1 key.2.2
theorem ors_all {r : List SetM} (h : AllOK r) (hl : strsN (cutR r) ≤ 1000) : orsM (cutR r) = allM := by
 obtain ⟨o1, o2, o3, o4⟩ := orsM_ok (cutR r) (fun c hc => cut_ok h hc)
 have hls := orsM_strs (cutR r)
 have some : ∀ v : ValM, rightV v = true → InRange v.n → ∃ c ∈ cutR r, hasM c v = true := fun v hv hn => by
  have := cut_one h hn
  rw [if_pos hv] at this
  exact List.countP_pos_iff.1 (show 0 < (cutR r).countP (fun c => hasM c v) by omega)
 refine o1.ext OK.all (by omega) (by simp [allM]) ?_ (fun n hn => ?_) (fun t ht => ?_)
 ·obtain ⟨c, hc, h1⟩ := some ⟨0, 0, ⟨#[]⟩⟩ right0 inR0
  rw [hasA] at h1
  exact o4.2 ⟨c, hc, h1⟩
 ·rw [o2, Cov_all]
  refine ⟨fun _ => hn, fun _ => ?_⟩
  obtain ⟨c, hc, h1⟩ := some (ptI n) (rightI n) hn
  exact ⟨c, hc, hasN.1 h1⟩
 ·rw [o3]
  refine ⟨fun _ => StrIn_all t, fun _ => ?_⟩
  obtain ⟨c, hc, h1⟩ := some (ptS t) (rightS ht) inR0
  exact ⟨c, hc, (hasT ht).1 h1⟩
theorem ors_in {r : List SetM} (h : AllOK r) (hl : strsN (cutR r) ≤ 1000) {s : SetM} (hs : s ∈ r) (hs' : s.strs.length ≤ 1000) : orsM ((cutR r).filter fun c => inC c s) = s := by
 have hok : ∀ c ∈ (cutR r).filter (fun c => inC c s), OK c := fun c hc => cut_ok h (List.mem_filter.1 hc).1
 obtain ⟨o1, o2, o3, o4⟩ := orsM_ok _ hok
 have hls := orsM_strs ((cutR r).filter fun c => inC c s)
 have hfl : strsN ((cutR r).filter fun c => inC c s) ≤ strsN (cutR r) := by
  unfold strsN
  generalize cutR r = L
  induction L with
  | nil => simp
  | cons a L ih =>
   rw [List.filter_cons]
   split <;> simp <;> omega
 have one : ∀ c ∈ cutR r, c.strs.length ≤ strsN (cutR r) := fun c hc => by
  unfold strsN
  generalize cutR r = L at *
  clear hfl hls hl o1 o2 o3 o4 hok
  induction L with
  | nil => simp at hc
  | cons a L ih =>
   rcases List.mem_cons.1 hc with rfl | hc
   ·simp
   ·have := ih hc; simp; omega
 have key : ∀ v : ValM, rightV v = true → InRange v.n → ((∃ c ∈ (cutR r).filter (fun c => inC c s), hasM c v = true) ↔ hasM s v = true) := fun v hv hn => by
  have lies : ∀ c ∈ cutR r, hasM c v = true → (inC c s = true ↔ hasM s v = true) := fun c hc h1 => by
   obtain ⟨s1, s2, -⟩ := sample_has (cut_ok h hc) (by have := one c hc; omega) (cut_full h hc)
   unfold inC
   rw [s1, Bool.true_and, cut_whole h hc hs s2 h1]
  constructor
  ·rintro ⟨c, hc, h1⟩
   obtain ⟨hc, h2⟩ := List.mem_filter.1 hc
   exact (lies c hc h1).1 h2
  ·intro h1
   have := cut_one h hn
   rw [if_pos hv] at this
   obtain ⟨c, hc, h2⟩ := List.countP_pos_iff.1 (show 0 < (cutR r).countP (fun c => hasM c v) by omega)
   exact ⟨c, List.mem_filter.2 ⟨hc, (lies c hc h2).2 h1⟩, h2⟩
 refine o1.ext (h s hs) (by omega) hs' ?_ (fun n hn => ?_) (fun t ht => ?_)
 ·have := key ⟨0, 0, ⟨#[]⟩⟩ right0 inR0
  simp only [hasA] at this
  rw [Bool.eq_iff_iff, o4]
  exact this
 ·have := key (ptI n) (rightI n) hn
  simp only [hasN] at this
  rw [o2]
  exact this
 ·have := key (ptS t) (rightS ht) inR0
  simp only [hasT ht] at this
  rw [o3]
  exact this
end Go.Proofs
