/- A part of the proof; what is proved stands in the last text. -/
import Derived.Test.YtcclggbngikppaaGreatDoorCC
import Derived.Test.YtcclggbngikppaaGreatDoorLB
import Derived.Shelf.Slices.In.SortNone
set_option linter.unusedVariables false
set_option maxRecDepth 2000
namespace Go.Proofs
open Go.Vm Go.RowKit Go.Shelf
open Go.Sort (Holds putRow)
set_option linter.unusedSimpArgs false
abbrev intsC (l : List Int) : List (List D) := l.map fun n => [D.val (.int .i64 n)]
theorem sortI_len (xs : List Int) : (sortI xs).length = xs.length := by simp [sortI]
theorem kSortI (xs0 : List Int) (hlen : xs0.length ≤ 1000000) : MutAt Tryz.prog 70 3 1 (intsC xs0) [] (fun es' r => es' = intsC (sortI xs0) ∧ r = .tup []) := by
 refine ⟨⟨_, Tryz.func70, rfl, rfl⟩, fun F w v xs vs hF hown hone hnF hlens hcont hs hrep => ?_⟩
 obtain rfl : vs = #[] := Array.eq_empty_of_size_eq_zero hs
 rcases hown.2 with ⟨hv, hn⟩ | ⟨b, c, cur, hv, -, hheap, hnc, hcm, hcs, htake⟩
 ·subst hv
  have hss : xs0 = [] := by simpa using hn
  subst hss
  have h := Any.slices_Sort_int_none Tryz.SortI none 0 w
  change Calls Tryz.prog 70 _ _ _ at h
  refine h.mono ?_
  rintro e w' ⟨rfl, rfl⟩
  exact ⟨[], .tup [], .tuple #[], xs, rfl, ⟨by simp [sortI], rfl⟩, .tup [] #[] rfl (fun i d v h => by simp at h), rfl, hown, hone, Keep.refl _ _, fun i l h => by simp at h, fun i l j d h => by simp at h⟩
 ·subst hv
  simp only [List.length_map] at hnc htake ⊢
  have hH : Holds (Value.int .i64) w b 0 xs0.toArray := row1_start (zs := xs0) (xs := xs) hheap (by simpa using htake) hcont
  have hb : b < w.heap.size := (Array.getElem?_eq_some_iff.1 hheap).1
  have h := Any.slices_Sort_int Tryz.SortI b 0 c xs0 w hH hb (by omega)
  change Calls Tryz.prog 70 _ _ _ at h
  refine h.mono ?_
  rintro e w' ⟨rfl, n, os, rfl⟩
  have hd : (xs0.mergeSort fun x y => decide (x ≤ y)).toArray.size = xs0.length := by simp
  obtain ⟨e1, e2⟩ := row1_end (enc := (Value.int .i64)) (q := n) (os := os) hheap hnc hcm hcs hd
  have e3 := row1_cont (enc := (Value.int .i64)) (w := Go.Sort.grow (putRow (Value.int .i64) (Go.Sort.ahead w n) b 0 (xs0.mergeSort fun x y => decide (x ≤ y)).toArray) os) (F := fun b' j => F b' j ∨ (w.heap.size ≤ b' ∧ b' < (Go.Sort.grow (putRow (Value.int .i64) (Go.Sort.ahead w n) b 0 (xs0.mergeSort fun x y => decide (x ≤ y)).toArray) os).heap.size)) (xs0.mergeSort fun x y => decide (x ≤ y))
  refine ⟨intsC (sortI xs0), .tup [], .tuple #[], (xs0.mergeSort fun x y => decide (x ≤ y)).map (Value.int .i64), rfl, ⟨rfl, rfl⟩, .tup [] #[] rfl (fun i d v h => by simp at h), by simp [sortI_len], ?_, ?_, e2, ?_, ?_⟩
  ·rw [List.length_map, sortI_len]; exact e1
  ·intro u hu
   obtain ⟨z, -, rfl⟩ := List.mem_map.1 hu
   rfl
  ·exact e3.1
  ·exact e3.2
theorem kCompactI (xs0 : List Int) (hlen : xs0.length ≤ 1000000) : TakeAt Tryz.prog 71 3 1 (intsC xs0) [] (fun _ r => r = .sl none (intsC (Lib.compact xs0))) := by
 refine ⟨⟨_, Tryz.func71, rfl, rfl⟩, fun F w v xs vs hF hown hone hnF hlens hcont hs hrep => ?_⟩
 obtain rfl : vs = #[] := Array.eq_empty_of_size_eq_zero hs
 have h0 : xs0 = [] → Lib.compact xs0 = [] := fun h => by subst h; rfl
 rcases hown.2 with ⟨hv, hn⟩ | ⟨b, c, cur, hv, -, hheap, hnc, hcm, hcs, htake⟩
 ·subst hv
  have hss : xs0 = [] := by simpa using hn
  subst hss
  have h := Any.slices_Compact_int_empty Tryz.CompactI none 0 w
  change Calls Tryz.prog 71 _ _ _ at h
  refine h.mono ?_
  rintro e w' ⟨rfl, rfl⟩
  exact ⟨[], .sl none [], .slice none 0 0, xs, rfl, by rw [h0 rfl]; rfl, .nil, rfl, hown, hone, Keep.refl _ _, fun i l h => by simp at h, fun i l j d h => by simp at h⟩
 ·subst hv
  simp only [List.length_map] at hnc htake ⊢
  have hH : Holds (Value.int .i64) w b 0 xs0.toArray := row1_start (zs := xs0) (xs := xs) hheap (by simpa using htake) hcont
  have hb : b < w.heap.size := (Array.getElem?_eq_some_iff.1 hheap).1
  have h := Any.slices_Compact_int Tryz.CompactI b 0 c xs0 w hH (by omega) hnc
  change Calls Tryz.prog 71 _ _ _ at h
  refine h.mono ?_
  rintro e w' ⟨rfl, q, rfl⟩
  have hcl : (Lib.compact xs0).length ≤ xs0.length := by
   have h1 := List.length_filter_le (Lib.keeps xs0.toArray) (List.range xs0.length)
   simpa [Lib.compact, Lib.compactUpTo] using h1
  generalize hzz : Lib.compact xs0 ++ List.replicate (xs0.length - (Lib.compact xs0).length) 0 = zz
  have hzl : zz.length = xs0.length := by rw [← hzz]; simp; omega
  have hd : zz.toArray.size = xs0.length := by simpa using hzl
  obtain ⟨e1, e2⟩ := row1_end (enc := (Value.int .i64)) (q := q) (os := #[]) hheap hnc hcm hcs hd
  rw [Go.Sort.grow_empty] at e1 e2
  obtain ⟨e3, e4⟩ := row1_cont (enc := (Value.int .i64)) (w := putRow (Value.int .i64) (Go.Sort.ahead w q) b 0 zz.toArray) (F := fun b' j => F b' j ∨ (w.heap.size ≤ b' ∧ b' < (putRow (Value.int .i64) (Go.Sort.ahead w q) b 0 zz.toArray).heap.size)) zz
  refine ⟨zz.map fun z => [D.val ((Value.int .i64) z)], .sl none (intsC (Lib.compact xs0)), _, _, rfl, rfl, ?_, by rw [List.length_map, hzl], by rw [List.length_map, hzl]; exact e1, ?_, e2, e3, e4⟩
  ·skip
   have hl : ((Lib.compact xs0).map fun z => [D.val ((Value.int .i64) z)]).length = (Lib.compact xs0).length := by simp
   rw [← hl]
   have hcell : ∀ i, i < (Lib.compact xs0).length → (putRow (Value.int .i64) (Go.Sort.ahead w q) b 0 zz.toArray).cell? ⟨b, i, none⟩ = (Lib.compact xs0)[i]?.map (Value.int .i64) := fun i hi => by
    have hx : (zz.toArray.toList.map (Value.int .i64))[i]? = (Lib.compact xs0)[i]?.map (Value.int .i64) := by
     rw [← hzz, List.getElem?_map]
     simp only [List.getElem?_append_left hi]
    have := e1.cells (g := b) rfl i ((Value.int .i64) (Lib.compact xs0)[i]) (by rw [hx, List.getElem?_eq_getElem hi]; rfl)
    rw [List.getElem?_eq_getElem hi, Option.map_some, ← this]
    simp only [Addr.add]
    split
    ·rename_i h0; rw [h0]
    ·simp
   refine .sl b 0 1 c _ (fun i j => (((Lib.compact xs0)[i]?.map (Value.int .i64)).getD undef)) (by rw [hl]; omega) (fun i l h => ?_) (fun i j hi hj => ?_) (fun i j hi hj => ?_) (fun i j hi hj => ?_) (fun i l j d h hd => ?_)
   ·rw [List.getElem?_map] at h
    obtain ⟨z, -, rfl⟩ := Option.map_eq_some_iff.1 h
    rfl
   ·rw [hl] at hi
    refine .inr (.inr ⟨rfl, ?_⟩)
    rw [List.length_map, hzl]; omega
   ·rw [hl] at hi
    have hj0 : j = 0 := by omega
    subst hj0
    rw [show 0 + i * 1 + 0 = i by omega, hcell i hi, List.getElem?_eq_getElem hi]; rfl
   ·rw [hl] at hi
    rw [List.getElem?_eq_getElem hi]; rfl
   ·rw [List.getElem?_map] at h
    obtain ⟨z, hz, rfl⟩ := Option.map_eq_some_iff.1 h
    cases j with
    | zero => simp at hd; subst hd; rw [hz]; exact .val _
    | succ j => simp at hd
  ·intro u hu
   obtain ⟨z, -, rfl⟩ := List.mem_map.1 hu
   rfl
end Go.Proofs
