/- A part of the proof; what is proved stands in the last text. -/
import Derived.Test.YtcclggbngikppaaGreatDoorTC
set_option linter.unusedVariables false
set_option maxRecDepth 2000
namespace Go.Proofs
open Go.Vm
set_option linter.unusedSimpArgs false
def minI : Int := -9223372036854775808
def maxI : Int := 9223372036854775807
def Incr (l : List Int) : Prop := l.Pairwise (· < ·)
theorem Incr_unique : ∀ {a b : List Int}, Incr a → Incr b → (∀ t, t ∈ a ↔ t ∈ b) → a = b
 | [], [], _, _, _ => rfl
 | [], y :: b, _, _, h => by have := (h y).2 (by simp); simp at this
 | x :: a, [], _, _, h => by have := (h x).1 (by simp); simp at this
 | x :: a, y :: b, ha, hb, h => by
  obtain ⟨a1, a2⟩ := List.pairwise_cons.1 ha
  obtain ⟨b1, b2⟩ := List.pairwise_cons.1 hb
  have hxy : x = y := by
   rcases List.mem_cons.1 ((h x).1 (by simp)) with e | e
   ·exact e
   ·rcases List.mem_cons.1 ((h y).2 (by simp)) with e' | e'
    ·exact e'.symm
    ·have := b1 x e; have := a1 y e'; omega
  subst hxy
  rw [Incr_unique a2 b2 fun t => ?_]
  constructor
  ·intro ht
   rcases List.mem_cons.1 ((h t).1 (by simp [ht])) with e | e
   ·subst e; have := a1 t ht; omega
   ·exact e
  ·intro ht
   rcases List.mem_cons.1 ((h t).2 (by simp [ht])) with e | e
   ·subst e; have := b1 t ht; omega
   ·exact e
theorem mem_compactI (zs : List Int) (x : Int) : x ∈ Lib.compact zs ↔ x ∈ zs := by
 unfold Lib.compact Lib.compactUpTo
 constructor
 ·intro h
  obtain ⟨j, hj, rfl⟩ := List.mem_map.1 h
  have hj' := List.mem_range.1 (List.mem_filter.1 hj).1
  rw [getElem!_pos _ j (by simpa using hj')]
  simp
 ·intro h
  obtain ⟨j, hj, rfl⟩ := List.getElem_of_mem h
  clear h
  induction j with
  | zero =>
   refine List.mem_map.2 ⟨0, List.mem_filter.2 ⟨List.mem_range.2 hj, by simp [Lib.keeps]⟩, ?_⟩
   rw [getElem!_pos _ 0 (by simpa using hj)]; simp
  | succ j ih =>
   by_cases hk : Lib.keeps zs.toArray (j + 1) = true
   ·refine List.mem_map.2 ⟨j + 1, List.mem_filter.2 ⟨List.mem_range.2 hj, hk⟩, ?_⟩
    rw [getElem!_pos _ (j + 1) (by simpa using hj)]; simp
   ·have he : zs[j + 1] = zs[j]'(by omega) := by
      simp only [Lib.keeps, decide_eq_true_eq] at hk
      have h2 : zs.toArray[j + 1]! = zs.toArray[j + 1 - 1]! := by
       apply Classical.byContradiction
       intro hne
       exact hk (.inr hne)
      rw [getElem!_pos _ (j + 1) (by simpa using hj), getElem!_pos _ (j + 1 - 1) (by simp; omega)] at h2
      simpa using h2
    rw [he]
    exact ih (by omega)
theorem compactI_incr {zs : List Int} (h : zs.Pairwise (· ≤ ·)) : Incr (Lib.compact zs) := by
 unfold Incr Lib.compact Lib.compactUpTo
 rw [List.pairwise_map]
 refine List.Pairwise.imp_of_mem ?_ ((List.pairwise_lt_range).filter _)
 intro i j hi hj hij
 obtain ⟨-, hi⟩ := List.mem_filter.1 hi
 obtain ⟨hj1, hj⟩ := List.mem_filter.1 hj
 have hj1 := List.mem_range.1 hj1
 simp only [Lib.keeps, decide_eq_true_eq] at hj
 have hne : zs.toArray[j]! ≠ zs.toArray[j - 1]! := by
  rcases hj with h0 | h0
  ·omega
  ·exact h0
 rw [getElem!_pos _ j (by simpa using hj1), getElem!_pos _ (j - 1) (by simp; omega)] at hne
 rw [getElem!_pos _ j (by simpa using hj1), getElem!_pos _ i (by simp; omega)]
 simp only [List.getElem_toArray] at hne ⊢
 have hp := List.pairwise_iff_getElem.1 h
 have h1 : zs[j - 1]'(by omega) ≤ zs[j] := hp (j - 1) j (by omega) hj1 (by omega)
 have h2 : zs[j - 1]'(by omega) < zs[j] := by omega
 by_cases e : i = j - 1
 ·subst e; exact h2
 ·have := hp i (j - 1) (by omega) (by omega) (by omega); omega
def sortI (xs : List Int) : List Int := xs.mergeSort fun x y => decide (x ≤ y)
def ends1 (r : Rg) : List Int := r.2 :: if r.1 > minI then [r.1 - 1] else []
def endsL (l : List SetM) : List Int := maxI :: l.flatMap fun s => s.ints.flatMap ends1
def endsM (l : List SetM) : List Int := Lib.compact (sortI (endsL l))
theorem mem_ends1 {r : Rg} {e : Int} : e ∈ ends1 r ↔ e = r.2 ∨ (r.1 > minI ∧ e = r.1 - 1) := by
 unfold ends1
 split
 ·rename_i h; simp [h]
 ·rename_i h; simp [h]
theorem mem_endsM {l : List SetM} {e : Int} : e ∈ endsM l ↔ e = maxI ∨ ∃ s ∈ l, ∃ r ∈ s.ints, e = r.2 ∨ (r.1 > minI ∧ e = r.1 - 1) := by
 unfold endsM
 rw [mem_compactI]
 unfold sortI
 rw [List.mem_mergeSort]
 unfold endsL
 simp only [List.mem_cons, List.mem_flatMap, mem_ends1]
theorem endsM_incr (l : List SetM) : Incr (endsM l) := by
 refine compactI_incr ?_
 unfold sortI
 have := List.pairwise_mergeSort (le := fun x y : Int => decide (x ≤ y)) (fun a b c h1 h2 => by simp at *; omega) (fun a b => by simp; omega) (endsL l)
 exact this.imp (fun h => by simpa using h)
def cellsI : Int → List Int → List SetM
 | _, [] => []
 | lo, hi :: t => ⟨false, [(lo, hi)], false, []⟩ :: cellsI (hi + 1) t
def cellS (s : ByteArray) : SetM := ⟨false, [], false, [s]⟩
def namesM (l : List SetM) : List ByteArray := compactS (sortS (l.flatMap (·.strs)))
def cutR (r : List SetM) : List SetM := ⟨true, [], false, []⟩ :: (cellsI minI (endsM r) ++ ((namesM r).map cellS ++ [⟨false, [], true, namesM r⟩]))
def cutM (l : List SetM) : List SetM := cutR (l.filter rightM)
theorem mem_namesM {l : List SetM} {t : ByteArray} : t ∈ namesM l ↔ ∃ s ∈ l, t ∈ s.strs := by
 have := mem_joinM [] (l.flatMap (·.strs)) t
 unfold joinM at this
 unfold namesM
 rw [List.nil_append] at this
 rw [this]
 simp
theorem namesM_SS (l : List SetM) : SS (namesM l) := by
 have := joinM_SS [] (l.flatMap (·.strs))
 unfold joinM at this
 rw [List.nil_append] at this
 exact this
end Go.Proofs

namespace Go.Proofs
open Go.Vm
set_option linter.unusedSimpArgs false
def cellN (a b : Int) : SetM := ⟨false, [(a, b)], false, []⟩
theorem cellsI_cons (lo hi : Int) (t : List Int) : cellsI lo (hi :: t) = cellN lo hi :: cellsI (hi + 1) t := rfl
def AllOK (r : List SetM) : Prop := ∀ s ∈ r, OK s
theorem ends_in {r : List SetM} (h : AllOK r) : ∀ e ∈ endsM r, minI ≤ e ∧ e ≤ maxI := fun e he => by
 unfold minI maxI
 rcases mem_endsM.1 he with rfl | ⟨s, hs, g, hg, h1⟩
 ·unfold maxI; omega
 ·obtain ⟨⟨b1, b2⟩, b3, b4⟩ := (h s hs).inb g hg
  unfold minI at h1
  rcases h1 with h1 | ⟨h1, h2⟩ <;> omega
theorem kinds {v : ValM} (hr : rightV v = true) : v.kind = 0 ∨ v.kind = 1 ∨ v.kind = 2 := by
 unfold rightV at hr
 grind
theorem has1 {s : SetM} {v : ValM} (hr : rightV v = true) (hk : v.kind = 1) : hasM s v = inI s.ints v.n := by
 rw [Bool.eq_iff_iff, has_iff s hr, inI_iff]; simp [hk]
theorem has2 {s : SetM} {v : ValM} (hr : rightV v = true) (hk : v.kind = 2) : hasM s v = true ↔ StrIn s v.s := by
 rw [has_iff s hr]; simp [hk]
end Go.Proofs

namespace Go.Proofs
open Go.Vm
set_option linter.unusedSimpArgs false
def nthS (n : Nat) : ByteArray := lb (126 :: digL n)
def freeS (L : List ByteArray) : Nat → Nat → Nat
 | 0, n => n
 | m + 1, n => if (L.any fun x => decide (nthS n = x)) = true then freeS L m (n + 1) else n
def freeN (L : List ByteArray) : Nat := freeS L L.length 0
def sampleM (s : SetM) : ValM × Bool :=
 if rightM s = false ∨ emptyM s = true then (⟨0, 0, ⟨#[]⟩⟩, false) else if s.absent = true then (⟨0, 0, ⟨#[]⟩⟩, true)
 else match s.ints, s.strs with
  | r :: _, _ => (ptI r.1, true)
  | [], t => if s.co = true then (ptS (nthS (freeN t)), true) else match t with | u :: _ => (ptS u, true) | [] => (⟨0, 0, ⟨#[]⟩⟩, true)
theorem nthS_inj {i j : Nat} (h : nthS i = nthS j) : i = j := by
 have h1 : digL i = digL j := by
  have := congrArg bl h
  unfold nthS at this
  rw [bl_lb, bl_lb] at this
  injection this
 rw [← digL_val i, ← digL_val j, h1]
theorem freeS_spec (L : List ByteArray) : ∀ (m n : Nat), (∀ i, i < n → nthS i ∈ L) → (L.length < n + m ∨ L.length = n + m) → nthS (freeS L m n) ∉ L ∧ freeS L m n ≤ n + m ∧ ∀ i, i < freeS L m n → nthS i ∈ L
 | 0, n, h, hl => by
  refine ⟨fun hm => ?_, Nat.le_refl _, h⟩
  have := pigeon nthS (fun i j => nthS_inj) (n + 1) L (fun i hi => by
   by_cases e : i = n
   ·subst e; exact hm
   ·exact h i (by omega))
  omega
 | m + 1, n, h, hl => by
  unfold freeS
  split
  ·rename_i hc
   have hc := any_eq.1 hc
   obtain ⟨h1, h2, h3⟩ := freeS_spec L m (n + 1) (fun i hi => by
    by_cases e : i = n
    ·subst e; exact hc
    ·exact h i (by omega)) (by omega)
   exact ⟨h1, by omega, h3⟩
  ·rename_i hc
   exact ⟨fun hm => hc (any_eq.2 hm), by omega, h⟩
theorem freeN_spec (L : List ByteArray) : nthS (freeN L) ∉ L ∧ freeN L ≤ L.length ∧ ∀ i, i < freeN L → nthS i ∈ L := by
 have := freeS_spec L L.length 0 (fun i hi => by omega) (by omega)
 rwa [Nat.zero_add] at this
theorem nthS_size {n : Nat} (h : n < 1000000) : (nthS n).size ≤ 8 := by
 unfold nthS
 rw [lb_size]
 have := digL_len n 6 (by omega) (by omega)
 simp; omega
theorem sample_none {s : SetM} (h : rightM s = false ∨ emptyM s = true) : sampleM s = (⟨0, 0, ⟨#[]⟩⟩, false) := by
 unfold sampleM; rw [if_pos h]
end Go.Proofs
