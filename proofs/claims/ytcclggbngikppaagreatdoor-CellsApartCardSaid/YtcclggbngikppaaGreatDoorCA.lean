/- A part of the proof; what is proved stands in the last text. -/
import Derived.Test.YtcclggbngikppaaGreatDoorTC
set_option linter.unusedVariables false
set_option maxRecDepth 2000
namespace Go.Proofs
open Go.Vm
set_option linter.unusedSimpArgs false
def minI : Int := -9223372036854775808
def maxI : Int := 9223372036854775807
def Incr (l : List Int) : Prop := l.Pairwise (· < ·)
theorem Incr_unique : ∀ {a b : List Int}, Incr a → Incr b → (∀ t, t ∈ a ↔ t ∈ b) → a = b
 | [], [], _, _, _ => rfl
 | [], y :: b, _, _, h => by have := (h y).2 (by simp); simp at this
 | x :: a, [], _, _, h => by have := (h x).1 (by simp); simp at this
 | x :: a, y :: b, ha, hb, h => by
  obtain ⟨a1, a2⟩ := List.pairwise_cons.1 ha
  obtain ⟨b1, b2⟩ := List.pairwise_cons.1 hb
  have hxy : x = y := by
   rcases List.mem_cons.1 ((h x).1 (by simp)) with e | e
   ·exact e
   ·rcases List.mem_cons.1 ((h y).2 (by simp)) with e' | e'
    ·exact e'.symm
    ·have := b1 x e; have := a1 y e'; omega
  subst hxy
  rw [Incr_unique a2 b2 fun t => ?_]
  constructor
  ·intro ht
   rcases List.mem_cons.1 ((h t).1 (by simp [ht])) with e | e
   ·subst e; have := a1 t ht; omega
   ·exact e
  ·intro ht
   rcases List.mem_cons.1 ((h t).2 (by simp [ht])) with e | e
   ·subst e; have := b1 t ht; omega
   ·exact e
theorem mem_compactI (zs : List Int) (x : Int) : x ∈ Lib.compact zs ↔ x ∈ zs := by
 unfold Lib.compact Lib.compactUpTo
 constructor
 ·intro h
  obtain ⟨j, hj, rfl⟩ := List.mem_map.1 h
  have hj' := List.mem_range.1 (List.mem_filter.1 hj).1
  rw [getElem!_pos _ j (by simpa using hj')]
  simp
 ·intro h
  obtain ⟨j, hj, rfl⟩ := List.getElem_of_mem h
  clear h
  induction j with
  | zero =>
   refine List.mem_map.2 ⟨0, List.mem_filter.2 ⟨List.mem_range.2 hj, by simp [Lib.keeps]⟩, ?_⟩
   rw [getElem!_pos _ 0 (by simpa using hj)]; simp
  | succ j ih =>
   by_cases hk : Lib.keeps zs.toArray (j + 1) = true
   ·refine List.mem_map.2 ⟨j + 1, List.mem_filter.2 ⟨List.mem_range.2 hj, hk⟩, ?_⟩
    rw [getElem!_pos _ (j + 1) (by simpa using hj)]; simp
   ·have he : zs[j + 1] = zs[j]'(by omega) := by
      simp only [Lib.keeps, decide_eq_true_eq] at hk
      have h2 : zs.toArray[j + 1]! = zs.toArray[j + 1 - 1]! := by
       apply Classical.byContradiction
       intro hne
       exact hk (.inr hne)
      rw [getElem!_pos _ (j + 1) (by simpa using hj), getElem!_pos _ (j + 1 - 1) (by simp; omega)] at h2
      simpa using h2
    rw [he]
    exact ih (by omega)
theorem compactI_incr {zs : List Int} (h : zs.Pairwise (· ≤ ·)) : Incr (Lib.compact zs) := by
 unfold Incr Lib.compact Lib.compactUpTo
 rw [List.pairwise_map]
 refine List.Pairwise.imp_of_mem ?_ ((List.pairwise_lt_range).filter _)
 intro i j hi hj hij
 obtain ⟨-, hi⟩ := List.mem_filter.1 hi
 obtain ⟨hj1, hj⟩ := List.mem_filter.1 hj
 have hj1 := List.mem_range.1 hj1
 simp only [Lib.keeps, decide_eq_true_eq] at hj
 have hne : zs.toArray[j]! ≠ zs.toArray[j - 1]! := by
  rcases hj with h0 | h0
  ·omega
  ·exact h0
 rw [getElem!_pos _ j (by simpa using hj1), getElem!_pos _ (j - 1) (by simp; omega)] at hne
 rw [getElem!_pos _ j (by simpa using hj1), getElem!_pos _ i (by simp; omega)]
 simp only [List.getElem_toArray] at hne ⊢
 have hp := List.pairwise_iff_getElem.1 h
 have h1 : zs[j - 1]'(by omega) ≤ zs[j] := hp (j - 1) j (by omega) hj1 (by omega)
 have h2 : zs[j - 1]'(by omega) < zs[j] := by omega
 by_cases e : i = j - 1
 ·subst e; exact h2
 ·have := hp i (j - 1) (by omega) (by omega) (by omega); omega
def sortI (xs : List Int) : List Int := xs.mergeSort fun x y => decide (x ≤ y)
def ends1 (r : Rg) : List Int := r.2 :: if r.1 > minI then [r.1 - 1] else []
def endsL (l : List SetM) : List Int := maxI :: l.flatMap fun s => s.ints.flatMap ends1
def endsM (l : List SetM) : List Int := Lib.compact (sortI (endsL l))
theorem mem_ends1 {r : Rg} {e : Int} : e ∈ ends1 r ↔ e = r.2 ∨ (r.1 > minI ∧ e = r.1 - 1) := by
 unfold ends1
 split
 ·rename_i h; simp [h]
 ·rename_i h; simp [h]
theorem mem_endsM {l : List SetM} {e : Int} : e ∈ endsM l ↔ e = maxI ∨ ∃ s ∈ l, ∃ r ∈ s.ints, e = r.2 ∨ (r.1 > minI ∧ e = r.1 - 1) := by
 unfold endsM
 rw [mem_compactI]
 unfold sortI
 rw [List.mem_mergeSort]
 unfold endsL
 simp only [List.mem_cons, List.mem_flatMap, mem_ends1]
theorem endsM_incr (l : List SetM) : Incr (endsM l) := by
 refine compactI_incr ?_
 unfold sortI
 have := List.pairwise_mergeSort (le := fun x y : Int => decide (x ≤ y)) (fun a b c h1 h2 => by simp at *; omega) (fun a b => by simp; omega) (endsL l)
 exact this.imp (fun h => by simpa using h)
def cellsI : Int → List Int → List SetM
 | _, [] => []
 | lo, hi :: t => ⟨false, [(lo, hi)], false, []⟩ :: cellsI (hi + 1) t
def cellS (s : ByteArray) : SetM := ⟨false, [], false, [s]⟩
def namesM (l : List SetM) : List ByteArray := compactS (sortS (l.flatMap (·.strs)))
def cutR (r : List SetM) : List SetM := ⟨true, [], false, []⟩ :: (cellsI minI (endsM r) ++ ((namesM r).map cellS ++ [⟨false, [], true, namesM r⟩]))
def cutM (l : List SetM) : List SetM := cutR (l.filter rightM)
theorem mem_namesM {l : List SetM} {t : ByteArray} : t ∈ namesM l ↔ ∃ s ∈ l, t ∈ s.strs := by
 have := mem_joinM [] (l.flatMap (·.strs)) t
 unfold joinM at this
 unfold namesM
 rw [List.nil_append] at this
 rw [this]
 simp
theorem namesM_SS (l : List SetM) : SS (namesM l) := by
 have := joinM_SS [] (l.flatMap (·.strs))
 unfold joinM at this
 rw [List.nil_append] at this
 exact this
end Go.Proofs

namespace Go.Proofs
open Go.Vm
set_option linter.unusedSimpArgs false
def cellN (a b : Int) : SetM := ⟨false, [(a, b)], false, []⟩
theorem cellsI_cons (lo hi : Int) (t : List Int) : cellsI lo (hi :: t) = cellN lo hi :: cellsI (hi + 1) t := rfl
theorem incr_cons {hi : Int} {t : List Int} (h : Incr (hi :: t)) : Incr t ∧ ∀ e ∈ t, hi + 1 ≤ e := by
 obtain ⟨h1, h2⟩ := List.pairwise_cons.1 h
 exact ⟨h2, fun e he => by have := h1 e he; omega⟩
theorem cellsI_mem {x : SetM} : ∀ {E : List Int} {lo : Int}, Incr E → (∀ e ∈ E, lo ≤ e) → x ∈ cellsI lo E → ∃ a b, x = cellN a b ∧ lo ≤ a ∧ a ≤ b ∧ b ∈ E ∧ (∀ e ∈ E, ¬ (a ≤ e ∧ e < b)) ∧ (a = lo ∨ a - 1 ∈ E)
 | [], lo, _, _, h => by simp [cellsI] at h
 | hi :: t, lo, hI, hl, h => by
  obtain ⟨h1, h2⟩ := incr_cons hI
  rw [cellsI_cons] at h
  rcases List.mem_cons.1 h with rfl | h
  ·refine ⟨lo, hi, rfl, by omega, hl hi (by simp), by simp, fun e he => ?_, .inl rfl⟩
   rcases List.mem_cons.1 he with rfl | he
   ·omega
   ·have := h2 e he; omega
  ·obtain ⟨a, b, rfl, g1, g2, g3, g4, g5⟩ := cellsI_mem h1 h2 h
   have := hl hi (by simp)
   refine ⟨a, b, rfl, by omega, g2, by simp [g3], fun e he => ?_, .inr ?_⟩
   rotate_left
   ·rcases g5 with rfl | g5
    ·simp
    ·simp [g5]
   rcases List.mem_cons.1 he with rfl | he
   ·omega
   ·exact g4 e he
def covB (n : Int) (c : SetM) : Bool := inI c.ints n
theorem covB_N (n a b : Int) : covB n (cellN a b) = (decide (a ≤ n) && decide (n ≤ b)) := by
 simp [covB, cellN, inI]
theorem cellsI_none {n : Int} : ∀ {E : List Int} {lo : Int}, Incr E → (∀ e ∈ E, lo ≤ e) → n < lo → (cellsI lo E).countP (covB n) = 0
 | [], lo, _, _, _ => rfl
 | hi :: t, lo, hI, hl, h => by
  obtain ⟨h1, h2⟩ := incr_cons hI
  have := hl hi (by simp)
  rw [cellsI_cons, List.countP_cons, cellsI_none h1 h2 (by omega), covB_N]
  simp; omega
theorem cellsI_one {n : Int} : ∀ {E : List Int} {lo : Int}, Incr E → (∀ e ∈ E, lo ≤ e) → lo ≤ n → (∃ e ∈ E, n ≤ e) → (cellsI lo E).countP (covB n) = 1
 | [], lo, _, _, _, h => by obtain ⟨e, he, -⟩ := h; simp at he
 | hi :: t, lo, hI, hl, hn, ⟨e, he, hne⟩ => by
  obtain ⟨h1, h2⟩ := incr_cons hI
  rw [cellsI_cons, List.countP_cons, covB_N]
  by_cases c : n ≤ hi
  ·rw [cellsI_none h1 h2 (by omega)]
   simp [hn, c]
  ·have : e ∈ t := by
     rcases List.mem_cons.1 he with rfl | h
     ·omega
     ·exact h
   rw [cellsI_one h1 h2 (by omega) ⟨e, this, hne⟩]
   simp; omega
def AllOK (r : List SetM) : Prop := ∀ s ∈ r, OK s
theorem ends_in {r : List SetM} (h : AllOK r) : ∀ e ∈ endsM r, minI ≤ e ∧ e ≤ maxI := fun e he => by
 unfold minI maxI
 rcases mem_endsM.1 he with rfl | ⟨s, hs, g, hg, h1⟩
 ·unfold maxI; omega
 ·obtain ⟨⟨b1, b2⟩, b3, b4⟩ := (h s hs).inb g hg
  unfold minI at h1
  rcases h1 with h1 | ⟨h1, h2⟩ <;> omega
theorem maxI_mem (r : List SetM) : maxI ∈ endsM r := mem_endsM.2 (.inl rfl)
theorem cut_mem {r : List SetM} (h : AllOK r) {x : SetM} (hx : x ∈ cutR r) :
    x = ⟨true, [], false, []⟩ ∨ (∃ a b, x = cellN a b ∧ minI ≤ a ∧ a ≤ b ∧ b ≤ maxI ∧ (∀ e ∈ endsM r, ¬ (a ≤ e ∧ e < b)) ∧ b ∈ endsM r ∧ (a = minI ∨ a - 1 ∈ endsM r)) ∨ (∃ t ∈ namesM r, x = cellS t) ∨ x = ⟨false, [], true, namesM r⟩ := by
 unfold cutR at hx
 rcases List.mem_cons.1 hx with rfl | hx
 ·exact .inl rfl
 rcases List.mem_append.1 hx with hx | hx
 ·obtain ⟨a, b, rfl, h1, h2, h3, h4, h5⟩ := cellsI_mem (endsM_incr r) (fun e he => (ends_in h e he).1) hx
  exact .inr (.inl ⟨a, b, rfl, h1, h2, (ends_in h b h3).2, h4, h3, h5⟩)
 rcases List.mem_append.1 hx with hx | hx
 ·obtain ⟨t, ht, rfl⟩ := List.mem_map.1 hx
  exact .inr (.inr (.inl ⟨t, ht, rfl⟩))
 ·exact .inr (.inr (.inr (by simpa using hx)))
theorem names_sz {r : List SetM} (h : AllOK r) : ∀ t ∈ namesM r, t.size ≤ 8 := fun t ht => by
 obtain ⟨s, hs, h1⟩ := mem_namesM.1 ht
 exact (h s hs).sz t h1
theorem cut_ok {r : List SetM} (h : AllOK r) {x : SetM} (hx : x ∈ cutR r) : OK x := by
 rcases cut_mem h hx with rfl | ⟨a, b, rfl, h1, h2, h3, -⟩ | ⟨t, ht, rfl⟩ | rfl
 ·exact ⟨NF.nil, by simp, .nil, by simp⟩
 ·refine ⟨by simp [NF, cellN, h2], fun g hg => ?_, .nil, by simp [cellN]⟩
  unfold minI at h1; unfold maxI at h3
  simp only [cellN, List.mem_singleton] at hg
  subst hg
  exact ⟨⟨by simp only; omega, by simp only; omega⟩, by simp only; omega, by simp only; omega⟩
 ·exact ⟨NF.nil, by simp [cellS], by simp [cellS, SS], fun u hu => by simp [cellS] at hu; subst hu; exact names_sz h u ht⟩
 ·exact ⟨NF.nil, by simp, namesM_SS r, names_sz h⟩
theorem kinds {v : ValM} (hr : rightV v = true) : v.kind = 0 ∨ v.kind = 1 ∨ v.kind = 2 := by
 unfold rightV at hr
 grind
theorem countP_zero {α : Type} {p : α → Bool} {l : List α} (h : ∀ x ∈ l, p x = false) : l.countP p = 0 := by
 rw [List.countP_eq_zero]; intro x hx; rw [h x hx]; simp
theorem countP_ext {α : Type} {p q : α → Bool} {l : List α} (h : ∀ x ∈ l, p x = q x) : l.countP p = l.countP q :=
 List.countP_congr fun x hx => by rw [h x hx]
theorem has0 {s : SetM} {v : ValM} (hr : rightV v = true) (hk : v.kind = 0) : hasM s v = s.absent := by
 rw [Bool.eq_iff_iff, has_iff s hr]; simp [hk]
theorem has1 {s : SetM} {v : ValM} (hr : rightV v = true) (hk : v.kind = 1) : hasM s v = inI s.ints v.n := by
 rw [Bool.eq_iff_iff, has_iff s hr, inI_iff]; simp [hk]
theorem has2 {s : SetM} {v : ValM} (hr : rightV v = true) (hk : v.kind = 2) : hasM s v = true ↔ StrIn s v.s := by
 rw [has_iff s hr]; simp [hk]
theorem strIn_S {t u : ByteArray} : StrIn (cellS t) u ↔ u = t := by simp [StrIn, cellS]
theorem count_S {L : List ByteArray} (h : SS L) {v : ValM} (hr : rightV v = true) (hk : v.kind = 2) : (L.map cellS).countP (fun c => hasM c v) = if (L.any fun x => decide (v.s = x)) = true then 1 else 0 := by
 induction L with
 | nil => rfl
 | cons a L ih =>
  obtain ⟨h1, h2⟩ := List.pairwise_cons.1 h
  have e : hasM (cellS a) v = decide (v.s = a) := by
   rw [Bool.eq_iff_iff, has2 hr hk, strIn_S]; simp
  rw [List.map_cons, List.countP_cons, ih h2, e]
  by_cases c : v.s = a
  ·have : v.s ∉ L := fun hm => ltB_irrefl a (by have := h1 _ hm; rwa [c] at this)
   have h3 : (L.any fun x => decide (v.s = x)) = false := by
    cases hh : L.any fun x => decide (v.s = x)
    ·rfl
    ·exact absurd (any_eq.1 hh) this
   rw [List.any_cons, h3, decide_eq_true c]
   simp
  ·rw [List.any_cons, decide_eq_false c, Bool.false_or]
   simp
theorem nameless {L : List ByteArray} {c : SetM} (h : c ∈ L.map cellS) : c.absent = false ∧ c.ints = [] := by
 obtain ⟨t, -, rfl⟩ := List.mem_map.1 h
 exact ⟨rfl, rfl⟩
theorem intless {E : List Int} : ∀ {lo : Int} {c : SetM}, c ∈ cellsI lo E → c.absent = false ∧ c.co = false ∧ c.strs = [] := by
 induction E with
 | nil => intro lo c h; simp [cellsI] at h
 | cons hi t ih =>
  intro lo c h
  rw [cellsI_cons] at h
  rcases List.mem_cons.1 h with rfl | h
  ·exact ⟨rfl, rfl, rfl⟩
  ·exact ih h
theorem cut_one {r : List SetM} (h : AllOK r) {v : ValM} (hn : InRange v.n) : (cutR r).countP (fun c => hasM c v) = if rightV v = true then 1 else 0 := by
 by_cases hr : rightV v = true
 ·rw [if_pos hr]
  unfold cutR
  rw [List.countP_cons, List.countP_append, List.countP_append, List.countP_cons, List.countP_nil]
  rcases kinds hr with hk | hk | hk
  ·rw [countP_zero (l := cellsI _ _) (fun c hc => by rw [has0 hr hk]; exact (intless hc).1), countP_zero (l := (namesM r).map cellS) (fun c hc => by rw [has0 hr hk]; exact (nameless hc).1), has0 hr hk, has0 hr hk]
   rfl
  ·have e1 : (cellsI minI (endsM r)).countP (fun c => hasM c v) = 1 := by
     rw [countP_ext (q := covB v.n) (fun c hc => has1 hr hk)]
     refine cellsI_one (endsM_incr r) (fun e he => (ends_in h e he).1) hn.1 ⟨maxI, maxI_mem r, hn.2⟩
   rw [e1, countP_zero (l := (namesM r).map cellS) (fun c hc => by rw [has1 hr hk, (nameless hc).2]; rfl), has1 hr hk, has1 hr hk]
   rfl
  ·have e1 : (cellsI minI (endsM r)).countP (fun c => hasM c v) = 0 := countP_zero fun c hc => by
     obtain ⟨-, h2, h3⟩ := intless hc
     cases hh : hasM c v
     ·rfl
     ·have := (has2 hr hk).1 hh
      simp [StrIn, h2, h3] at this
   have e2 : hasM ⟨true, [], false, []⟩ v = false := by
    cases hh : hasM ⟨true, [], false, []⟩ v
    ·rfl
    ·have := (has2 hr hk).1 hh
     simp [StrIn] at this
   rw [e1, e2, count_S (namesM_SS r) hr hk]
   by_cases c : v.s ∈ namesM r
   ·rw [any_eq.2 c]
    have e3 : hasM ⟨false, [], true, namesM r⟩ v = false := by
     cases hh : hasM ⟨false, [], true, namesM r⟩ v
     ·rfl
     ·have := (has2 hr hk).1 hh
      simp [StrIn, c] at this
    rw [e3, if_pos rfl]; rfl
   ·have c' : (namesM r).any (fun x => decide (v.s = x)) = false := by
      cases hh : (namesM r).any fun x => decide (v.s = x)
      ·rfl
      ·exact absurd (any_eq.1 hh) c
    rw [c']
    have e3 : hasM ⟨false, [], true, namesM r⟩ v = true := (has2 hr hk).2 (by simp [StrIn, c])
    rw [e3]; rfl
 ·rw [if_neg hr]
  have hr' : rightV v = false := by simpa using hr
  exact countP_zero fun c _ => has_no c hr'
theorem cut_whole {r : List SetM} (h : AllOK r) {x s : SetM} (hx : x ∈ cutR r) (hs : s ∈ r) {p q : ValM} (hp : hasM x p = true) (hq : hasM x q = true) : hasM s p = hasM s q := by
 have rp : rightV p = true := by
  cases hh : rightV p
  ·rw [has_no x hh] at hp; cases hp
  ·rfl
 have rq : rightV q = true := by
  cases hh : rightV q
  ·rw [has_no x hh] at hq; cases hq
  ·rfl
 rcases cut_mem h hx with rfl | ⟨a, b, rfl, h1, h2, h3, h4, -⟩ | ⟨t, ht, rfl⟩ | rfl
 ·have kp : p.kind = 0 := by
    rcases (has_iff _ rp).1 hp with ⟨k, -⟩ | ⟨k, c⟩ | ⟨k, c⟩
    ·exact k
    ·simp [Cov] at c
    ·simp [StrIn] at c
  have kq : q.kind = 0 := by
   rcases (has_iff _ rq).1 hq with ⟨k, -⟩ | ⟨k, c⟩ | ⟨k, c⟩
   ·exact k
   ·simp [Cov] at c
   ·simp [StrIn] at c
  rw [has0 rp kp, has0 rq kq]
 ·have key : ∀ {v : ValM}, rightV v = true → hasM (cellN a b) v = true → v.kind = 1 ∧ a ≤ v.n ∧ v.n ≤ b := fun {v} rv hv => by
    rcases (has_iff _ rv).1 hv with ⟨k, c⟩ | ⟨k, c⟩ | ⟨k, c⟩
    ·simp [cellN] at c
    ·exact ⟨k, by simpa [cellN, Cov] using c⟩
    ·simp [StrIn, cellN] at c
  obtain ⟨kp, p1, p2⟩ := key rp hp
  obtain ⟨kq, q1, q2⟩ := key rq hq
  rw [has1 rp kp, has1 rq kq, Bool.eq_iff_iff, inI_iff, inI_iff]
  have half : ∀ {m n : Int}, a ≤ m → m ≤ b → a ≤ n → n ≤ b → Cov s.ints m → Cov s.ints n := fun {m n} m1 m2 n1 n2 ⟨g, hg, g1, g2⟩ => by
   refine ⟨g, hg, ?_, ?_⟩
   ·apply Classical.byContradiction
    intro hc
    have hmin := (h s hs).inb g hg
    have : g.1 - 1 ∈ endsM r := mem_endsM.2 (.inr ⟨s, hs, g, hg, .inr ⟨by unfold minI at *; omega, rfl⟩⟩)
    exact h4 _ this ⟨by omega, by omega⟩
   ·apply Classical.byContradiction
    intro hc
    have : g.2 ∈ endsM r := mem_endsM.2 (.inr ⟨s, hs, g, hg, .inl rfl⟩)
    exact h4 _ this ⟨by omega, by omega⟩
  exact ⟨half p1 p2 q1 q2, half q1 q2 p1 p2⟩
 ·have key : ∀ {v : ValM}, rightV v = true → hasM (cellS t) v = true → v.kind = 2 ∧ v.s = t := fun {v} rv hv => by
    rcases (has_iff _ rv).1 hv with ⟨k, c⟩ | ⟨k, c⟩ | ⟨k, c⟩
    ·simp [cellS] at c
    ·simp [cellS, Cov] at c
    ·exact ⟨k, strIn_S.1 c⟩
  obtain ⟨kp, p1⟩ := key rp hp
  obtain ⟨kq, q1⟩ := key rq hq
  rw [Bool.eq_iff_iff, has2 rp kp, has2 rq kq, p1, q1]
 ·have key : ∀ {v : ValM}, rightV v = true → hasM ⟨false, [], true, namesM r⟩ v = true → v.kind = 2 ∧ v.s ∉ s.strs := fun {v} rv hv => by
    rcases (has_iff _ rv).1 hv with ⟨k, c⟩ | ⟨k, c⟩ | ⟨k, c⟩
    ·simp at c
    ·simp [Cov] at c
    ·refine ⟨k, fun hm => ?_⟩
     have : v.s ∈ namesM r := mem_namesM.2 ⟨s, hs, hm⟩
     simp [StrIn, this] at c
  obtain ⟨kp, p1⟩ := key rp hp
  obtain ⟨kq, q1⟩ := key rq hq
  rw [Bool.eq_iff_iff, has2 rp kp, has2 rq kq]
  simp [StrIn, p1, q1]
end Go.Proofs

namespace Go.Proofs
open Go.Vm
set_option linter.unusedSimpArgs false
def nthS (n : Nat) : ByteArray := lb (126 :: digL n)
def freeS (L : List ByteArray) : Nat → Nat → Nat
 | 0, n => n
 | m + 1, n => if (L.any fun x => decide (nthS n = x)) = true then freeS L m (n + 1) else n
def freeN (L : List ByteArray) : Nat := freeS L L.length 0
def sampleM (s : SetM) : ValM × Bool :=
 if rightM s = false ∨ emptyM s = true then (⟨0, 0, ⟨#[]⟩⟩, false) else if s.absent = true then (⟨0, 0, ⟨#[]⟩⟩, true)
 else match s.ints, s.strs with
  | r :: _, _ => (ptI r.1, true)
  | [], t => if s.co = true then (ptS (nthS (freeN t)), true) else match t with | u :: _ => (ptS u, true) | [] => (⟨0, 0, ⟨#[]⟩⟩, true)
theorem nthS_inj {i j : Nat} (h : nthS i = nthS j) : i = j := by
 have h1 : digL i = digL j := by
  have := congrArg bl h
  unfold nthS at this
  rw [bl_lb, bl_lb] at this
  injection this
 rw [← digL_val i, ← digL_val j, h1]
theorem freeS_spec (L : List ByteArray) : ∀ (m n : Nat), (∀ i, i < n → nthS i ∈ L) → (L.length < n + m ∨ L.length = n + m) → nthS (freeS L m n) ∉ L ∧ freeS L m n ≤ n + m ∧ ∀ i, i < freeS L m n → nthS i ∈ L
 | 0, n, h, hl => by
  refine ⟨fun hm => ?_, Nat.le_refl _, h⟩
  have := pigeon nthS (fun i j => nthS_inj) (n + 1) L (fun i hi => by
   by_cases e : i = n
   ·subst e; exact hm
   ·exact h i (by omega))
  omega
 | m + 1, n, h, hl => by
  unfold freeS
  split
  ·rename_i hc
   have hc := any_eq.1 hc
   obtain ⟨h1, h2, h3⟩ := freeS_spec L m (n + 1) (fun i hi => by
    by_cases e : i = n
    ·subst e; exact hc
    ·exact h i (by omega)) (by omega)
   exact ⟨h1, by omega, h3⟩
  ·rename_i hc
   exact ⟨fun hm => hc (any_eq.2 hm), by omega, h⟩
theorem freeN_spec (L : List ByteArray) : nthS (freeN L) ∉ L ∧ freeN L ≤ L.length ∧ ∀ i, i < freeN L → nthS i ∈ L := by
 have := freeS_spec L L.length 0 (fun i hi => by omega) (by omega)
 rwa [Nat.zero_add] at this
theorem nthS_size {n : Nat} (h : n < 1000000) : (nthS n).size ≤ 8 := by
 unfold nthS
 rw [lb_size]
 have := digL_len n 6 (by omega) (by omega)
 simp; omega
theorem sample_none {s : SetM} (h : rightM s = false ∨ emptyM s = true) : sampleM s = (⟨0, 0, ⟨#[]⟩⟩, false) := by
 unfold sampleM; rw [if_pos h]
theorem sample_has {s : SetM} (h : OK s) (hl : s.strs.length ≤ 100000) (he : emptyM s = false) : (sampleM s).2 = true ∧ hasM s (sampleM s).1 = true ∧ rightV (sampleM s).1 = true ∧ InRange (sampleM s).1.n := by
 have hr := h.right
 unfold sampleM
 rw [if_neg (by rw [hr, he]; simp)]
 have in0 : InRange 0 := ⟨by omega, by omega⟩
 split
 ·rename_i ha
  exact ⟨rfl, by rw [has0 right0 rfl]; exact ha, right0, in0⟩
 ·rename_i ha
  obtain ⟨ab, is, co, ss⟩ := s
  simp only at *
  cases is with
  | cons g is =>
   have hg := h.inb g (by simp)
   have hle := h.nf.1 g (by simp)
   refine ⟨rfl, ?_, rightI _, ⟨hg.1.1, hg.1.2⟩⟩
   rw [has1 (rightI _) rfl, inI_iff]
   exact ⟨g, by simp, Int.le_refl _, hle⟩
  | nil =>
   simp only
   cases co with
   | true =>
    obtain ⟨f1, f2, -⟩ := freeN_spec ss
    have hz := nthS_size (n := freeN ss) (by omega)
    rw [if_pos rfl]
    refine ⟨rfl, ?_, rightS hz, in0⟩
    rw [has2 (rightS hz) rfl]
    simp [StrIn, ptS, f1]
   | false =>
    rw [if_neg (by simp)]
    cases ss with
    | nil => simp [emptyM] at he; exact absurd he ha
    | cons u ss =>
     have hz := h.sz u (by simp)
     refine ⟨rfl, ?_, rightS hz, in0⟩
     rw [has2 (rightS hz) rfl]
     simp [StrIn, ptS]
theorem cut_full {r : List SetM} (h : AllOK r) {x : SetM} (hx : x ∈ cutR r) : emptyM x = false := by
 rcases cut_mem h hx with rfl | ⟨a, b, rfl, -⟩ | ⟨t, ht, rfl⟩ | rfl <;> rfl
def inC (x s : SetM) : Bool := (sampleM x).2 && hasM s (sampleM x).1
end Go.Proofs
