/- A part of the proof; what is proved stands in the last text. -/
import Derived.Test.YtaoppmjidjdgdaaGreatTK
import Derived.Test.YtaoppmjidjdgdaaGreatT4
import Derived.Test.YtaoppmjidjdgdaaGreatLA
import Derived.Shelf.Slices.In.SortNone
set_option linter.unusedVariables false
set_option maxRecDepth 2000
namespace Go.Proofs
open Go.Vm Go.RowKit Go.Shelf
open Go.Sort (Holds putRow)
set_option linter.unusedSimpArgs false
section
variable {α : Type} [Inhabited α] {enc : α → Value}
theorem row1_start {w : World} {e : TypeId} {b : Nat} {cur : Array Value} {F : Reg} {zs : List α} {xs : List Value} (hheap : w.heap[b]? = some (.cells cur e (0, 0))) (htake : cur.toList.take (zs.length * 1) = xs)
    (hcont : ∀ (i : Nat) (l : List D) (j : Nat) (d : D), (zs.map fun z => [D.val (enc z)])[i]? = some l → l[j]? = some d → ∃ u, xs[i * 1 + j]? = some u ∧ RepF F w d u) : Holds enc w b 0 zs.toArray := by
 intro t ht
 have ht' : t < zs.length := by simpa using ht
 obtain ⟨u, hx1, hx2⟩ := hcont t [.val (enc zs[t])] 0 (.val (enc zs[t])) (by rw [List.getElem?_map, List.getElem?_eq_getElem ht']; rfl) rfl
 cases hx2
 refine ⟨?_, by simp [World.frozen?, hheap]⟩
 rw [Nat.zero_add, cell_of_row w b t cur e (0, 0) hheap, getElem!_pos _ t ht]
 rw [← htake, List.getElem?_take] at hx1
 split at hx1
 ·simpa using hx1
 ·cases hx1
theorem row1_end {w : World} {e : TypeId} {b c n q : Nat} {cur : Array Value} {os : Array Obj} {d' : Array α} (hheap : w.heap[b]? = some (.cells cur e (0, 0))) (hnc : n ≤ c) (hcm : c ≤ maxLen) (hcs : cur.size = c * 1) (hd : d'.size = n) :
    (Go.Sort.grow (putRow enc (Go.Sort.ahead w q) b 0 d') os).ownsRow 0 e 1 (.slice (some ⟨b, 0, none⟩) n c) n (d'.toList.map enc) ∧ Keep (fun b' _ => (Value.slice (some ⟨b, 0, none⟩) n c).ownBlock = some b') w (Go.Sort.grow (putRow enc (Go.Sort.ahead w q) b 0 d') os) := by
 have hb : b < w.heap.size := (Array.getElem?_eq_some_iff.1 hheap).1
 let cur' : Array Value := Go.Sort.putCells enc 0 d' cur
 have hcs' : cur'.size = cur.size := by simp [cur', Go.Sort.putCells]
 have hb' : (Go.Sort.grow (putRow enc (Go.Sort.ahead w q) b 0 d') os).heap[b]? = some (.cells cur' e (0, 0)) := by
  simp only [Go.Sort.grow, putRow, Go.Sort.mapBlock]
  rw [Array.getElem?_append_left (by simpa [Go.Sort.ahead] using hb), Array.getElem?_modify, if_pos rfl]
  simp only [Go.Sort.ahead, hheap, Option.map_some, Go.Sort.onCells]
  rfl
 have hcg : ∀ k, k < n → cur'[k]? = (d'.toList.map enc)[k]? := fun k hk => by
  simp only [cur', Go.Sort.putCells, Array.getElem?_mapIdx]
  have hkc : k < cur.size := by omega
  rw [Array.getElem?_eq_getElem hkc, Option.map_some]
  simp only [Nat.zero_le, true_and, Nat.zero_add, hd, hk, if_true, Nat.sub_zero]
  rw [getElem!_pos _ k (by omega), List.getElem?_map, List.getElem?_eq_getElem (by simpa using (by omega : k < d'.size)), Option.map_some, Array.getElem_toList]
 refine ⟨⟨by simp [hd], .inr ⟨b, c, cur', rfl, Nat.zero_le _, hb', hnc, hcm, by rw [hcs', hcs], ?_⟩⟩, ⟨rfl, rfl, rfl, by simp [Go.Sort.grow, putRow, Go.Sort.mapBlock, Go.Sort.ahead], by simp [Go.Sort.grow, putRow, Go.Sort.mapBlock, Go.Sort.ahead], fun b' o hb2 => ?_⟩⟩
 ·apply List.ext_getElem?
  intro k
  rw [List.getElem?_take]
  by_cases hk : k < n * 1
  ·rw [if_pos hk, Array.getElem?_toList]; exact hcg k (by omega)
  ·rw [if_neg hk, List.getElem?_eq_none (by simp; omega)]
 ·by_cases hbb : b' = b
  ·subst hbb
   rw [hheap] at hb2; injection hb2 with hb2; subst hb2
   exact .inr (.inl ⟨cur, cur', e, rfl, hb', hcs', fun k hk => (hk rfl).elim⟩)
  ·left
   simp only [Go.Sort.grow, putRow, Go.Sort.mapBlock]
   have hlt := (Array.getElem?_eq_some_iff.1 hb2).1
   rw [Array.getElem?_append_left (by simpa [Go.Sort.ahead] using hlt), Array.getElem?_modify, if_neg (Ne.symm hbb)]
   exact hb2
end
theorem row1_cont {α : Type} {enc : α → Value} {w : World} {F : Reg} (zs : List α) : (∀ (i : Nat) (l : List D), (zs.map fun z => [D.val (enc z)])[i]? = some l → l.length = 1) ∧
    ∀ (i : Nat) (l : List D) (j : Nat) (d : D), (zs.map fun z => [D.val (enc z)])[i]? = some l → l[j]? = some d → ∃ u, (zs.map enc)[i * 1 + j]? = some u ∧ RepF F w d u := by
 constructor
 ·intro i l h
  rw [List.getElem?_map] at h
  obtain ⟨z, -, rfl⟩ := Option.map_eq_some_iff.1 h
  rfl
 ·intro i l j d h hd
  rw [List.getElem?_map] at h
  obtain ⟨z, hz, rfl⟩ := Option.map_eq_some_iff.1 h
  cases j with
  | zero =>
   simp at hd; subst hd
   exact ⟨enc z, by rw [Nat.mul_one, Nat.add_zero, List.getElem?_map, hz]; rfl, .val _⟩
  | succ j => simp at hd
def bl (s : ByteArray) : List UInt8 := s.data.toList
def lb (l : List UInt8) : ByteArray := ⟨l.toArray⟩
theorem lb_bl (s : ByteArray) : lb (bl s) = s := rfl
theorem bl_lb (l : List UInt8) : bl (lb l) = l := rfl
theorem encSt_bl (ss : List ByteArray) : ss.map encSt = (ss.map bl).map fun z => [D.val (encStr z)] := by
 rw [List.map_map]; rfl
theorem encSt_lb (ls : List (List UInt8)) : (ls.map lb).map encSt = ls.map fun z => [D.val (encStr z)] := by
 rw [List.map_map]; rfl
def sortS (ss : List ByteArray) : List ByteArray := ((ss.map bl).mergeSort fun x y => decide (x ≤ y)).map lb
def compactS (ss : List ByteArray) : List ByteArray := (Lib.compact (ss.map bl)).map lb
theorem sortS_len (ss : List ByteArray) : (sortS ss).length = ss.length := by simp [sortS]
theorem kSortS (ss : List ByteArray) (hlen : ss.length ≤ 1000000) : MutAt Tryz.prog 94 9 1 (ss.map encSt) [] (fun es' r => es' = (sortS ss).map encSt ∧ r = .tup []) := by
 refine ⟨⟨_, Tryz.func94, rfl, rfl⟩, fun F w v xs vs hF hown hone hnF hlens hcont hs hrep => ?_⟩
 obtain rfl : vs = #[] := Array.eq_empty_of_size_eq_zero hs
 rw [encSt_bl] at hcont hown hlens
 rcases hown.2 with ⟨hv, hn⟩ | ⟨b, c, cur, hv, -, hheap, hnc, hcm, hcs, htake⟩
 ·subst hv
  have hss : ss = [] := by simpa using hn
  subst hss
  have h := Any.slices_Sort_string_none Tryz.SortS none 0 w
  change Calls Tryz.prog 94 _ _ _ at h
  refine h.mono ?_
  rintro e w' ⟨rfl, rfl⟩
  exact ⟨[], .tup [], .tuple #[], xs, rfl, ⟨by simp [sortS], rfl⟩, .tup [] #[] rfl (fun i d v h => by simp at h), rfl, hown, hone, Keep.refl _ _, fun i l h => by simp at h, fun i l j d h => by simp at h⟩
 ·subst hv
  simp only [List.length_map] at hnc htake ⊢
  have hH : Holds encStr w b 0 (ss.map bl).toArray := row1_start (zs := ss.map bl) (xs := xs) hheap (by simpa using htake) hcont
  have hb : b < w.heap.size := (Array.getElem?_eq_some_iff.1 hheap).1
  have h := Any.slices_Sort_string Tryz.SortS b 0 c (ss.map bl) w hH hb (by simp; omega)
  change Calls Tryz.prog 94 _ _ _ at h
  rw [List.length_map] at h
  refine h.mono ?_
  rintro e w' ⟨rfl, n, os, rfl⟩
  have hd : ((ss.map bl).mergeSort fun x y => decide (x ≤ y)).toArray.size = ss.length := by simp
  obtain ⟨e1, e2⟩ := row1_end (enc := encStr) (q := n) (os := os) hheap hnc hcm hcs hd
  have e3 := row1_cont (enc := encStr) (w := Go.Sort.grow (putRow encStr (Go.Sort.ahead w n) b 0 ((ss.map bl).mergeSort fun x y => decide (x ≤ y)).toArray) os) (F := fun b' j => F b' j ∨ (w.heap.size ≤ b' ∧ b' < (Go.Sort.grow (putRow encStr (Go.Sort.ahead w n) b 0 ((ss.map bl).mergeSort fun x y => decide (x ≤ y)).toArray) os).heap.size)) ((ss.map bl).mergeSort fun x y => decide (x ≤ y))
  refine ⟨(sortS ss).map encSt, .tup [], .tuple #[], ((ss.map bl).mergeSort fun x y => decide (x ≤ y)).map encStr, rfl, ⟨rfl, rfl⟩, .tup [] #[] rfl (fun i d v h => by simp at h), by simp [sortS_len], ?_, ?_, e2, ?_, ?_⟩
  ·rw [List.length_map, sortS_len]; exact e1
  ·intro u hu
   obtain ⟨z, -, rfl⟩ := List.mem_map.1 hu
   rfl
  ·rw [sortS, encSt_lb]; exact e3.1
  ·rw [sortS, encSt_lb]; exact e3.2
theorem kCompactS (ss : List ByteArray) (hlen : ss.length ≤ 1000000) : TakeAt Tryz.prog 95 9 1 (ss.map encSt) [] (fun _ r => r = .sl none ((compactS ss).map encSt)) := by
 refine ⟨⟨_, Tryz.func95, rfl, rfl⟩, fun F w v xs vs hF hown hone hnF hlens hcont hs hrep => ?_⟩
 obtain rfl : vs = #[] := Array.eq_empty_of_size_eq_zero hs
 rw [encSt_bl] at hcont hown hlens
 have h0 : ss = [] → compactS ss = [] := fun h => by subst h; rfl
 rcases hown.2 with ⟨hv, hn⟩ | ⟨b, c, cur, hv, -, hheap, hnc, hcm, hcs, htake⟩
 ·subst hv
  have hss : ss = [] := by simpa using hn
  subst hss
  have h := Any.slices_Compact_string_empty Tryz.CompactS none 0 w
  change Calls Tryz.prog 95 _ _ _ at h
  refine h.mono ?_
  rintro e w' ⟨rfl, rfl⟩
  exact ⟨[], .sl none [], .slice none 0 0, xs, rfl, by rw [h0 rfl]; rfl, .nil, rfl, hown, hone, Keep.refl _ _, fun i l h => by simp at h, fun i l j d h => by simp at h⟩
 ·subst hv
  simp only [List.length_map] at hnc htake ⊢
  have hH : Holds encStr w b 0 (ss.map bl).toArray := row1_start (zs := ss.map bl) (xs := xs) hheap (by simpa using htake) hcont
  have hb : b < w.heap.size := (Array.getElem?_eq_some_iff.1 hheap).1
  have h := Any.slices_Compact_string Tryz.CompactS b 0 c (ss.map bl) w hH (by simp; omega) (by simpa using hnc)
  change Calls Tryz.prog 95 _ _ _ at h
  rw [List.length_map] at h
  refine h.mono ?_
  rintro e w' ⟨rfl, q, rfl⟩
  have hcl : (Lib.compact (ss.map bl)).length ≤ ss.length := by
   have h1 := List.length_filter_le (Lib.keeps (ss.map bl).toArray) (List.range (ss.map bl).length)
   simpa [Lib.compact, Lib.compactUpTo] using h1
  generalize hzz : Lib.compact (ss.map bl) ++ List.replicate (ss.length - (Lib.compact (ss.map bl)).length) [] = zz
  have hzl : zz.length = ss.length := by rw [← hzz]; simp; omega
  have hd : zz.toArray.size = ss.length := by simpa using hzl
  obtain ⟨e1, e2⟩ := row1_end (enc := encStr) (q := q) (os := #[]) hheap hnc hcm hcs hd
  rw [Go.Sort.grow_empty] at e1 e2
  obtain ⟨e3, e4⟩ := row1_cont (enc := encStr) (w := putRow encStr (Go.Sort.ahead w q) b 0 zz.toArray) (F := fun b' j => F b' j ∨ (w.heap.size ≤ b' ∧ b' < (putRow encStr (Go.Sort.ahead w q) b 0 zz.toArray).heap.size)) zz
  refine ⟨zz.map fun z => [D.val (encStr z)], .sl none ((compactS ss).map encSt), _, _, rfl, rfl, ?_, by rw [List.length_map, hzl], by rw [List.length_map, hzl]; exact e1, ?_, e2, e3, e4⟩
  ·rw [compactS, encSt_lb]
   have hl : ((Lib.compact (ss.map bl)).map fun z => [D.val (encStr z)]).length = (Lib.compact (ss.map bl)).length := by simp
   rw [← hl]
   have hcell : ∀ i, i < (Lib.compact (ss.map bl)).length → (putRow encStr (Go.Sort.ahead w q) b 0 zz.toArray).cell? ⟨b, i, none⟩ = (Lib.compact (ss.map bl))[i]?.map encStr := fun i hi => by
    have hx : (zz.toArray.toList.map encStr)[i]? = (Lib.compact (ss.map bl))[i]?.map encStr := by
     rw [← hzz, List.getElem?_map]
     simp only [List.getElem?_append_left hi]
    have := e1.cells (g := b) rfl i (encStr (Lib.compact (ss.map bl))[i]) (by rw [hx, List.getElem?_eq_getElem hi]; rfl)
    rw [List.getElem?_eq_getElem hi, Option.map_some, ← this]
    simp only [Addr.add]
    split
    ·rename_i h0; rw [h0]
    ·simp
   refine .sl b 0 1 c _ (fun i j => (((Lib.compact (ss.map bl))[i]?.map encStr).getD undef)) (by rw [hl]; omega) (fun i l h => ?_) (fun i j hi hj => ?_) (fun i j hi hj => ?_) (fun i j hi hj => ?_) (fun i l j d h hd => ?_)
   ·rw [List.getElem?_map] at h
    obtain ⟨z, -, rfl⟩ := Option.map_eq_some_iff.1 h
    rfl
   ·rw [hl] at hi
    refine .inr (.inr ⟨rfl, ?_⟩)
    rw [List.length_map, hzl]; omega
   ·rw [hl] at hi
    have hj0 : j = 0 := by omega
    subst hj0
    rw [show 0 + i * 1 + 0 = i by omega, hcell i hi, List.getElem?_eq_getElem hi]; rfl
   ·rw [hl] at hi
    rw [List.getElem?_eq_getElem hi]; rfl
   ·rw [List.getElem?_map] at h
    obtain ⟨z, hz, rfl⟩ := Option.map_eq_some_iff.1 h
    cases j with
    | zero => simp at hd; subst hd; rw [hz]; exact .val _
    | succ j => simp at hd
  ·intro u hu
   obtain ⟨z, -, rfl⟩ := List.mem_map.1 hu
   rfl
end Go.Proofs
