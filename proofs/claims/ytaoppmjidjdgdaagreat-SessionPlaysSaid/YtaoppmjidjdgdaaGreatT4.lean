/- A part of the proof; what is proved stands in the last text. -/
import Derived.Test.YtaoppmjidjdgdaaGreatTA
import Derived.Test.YtaoppmjidjdgdaaGreatT4r
import Derived.Test.YtaoppmjidjdgdaaGreatLA
set_option linter.unusedVariables false
set_option maxRecDepth 2000
namespace Go.Proofs
open Go.Vm Go.RowKit Go.Shelf
open Go.Sort (HoldsK flatK get_flatK size_flatK putRowK)
set_option linter.unusedSimpArgs false
def encRI (r : Rg) : List Value := [.int .i64 r.1, .int .i64 r.2]
def cfR (x y : Rg) : Int := if x.1 < y.1 then -1 else if y.1 < x.1 then 1 else 0
theorem ltR (x y : Rg) : ltOf cfR x y = decide (x.1 < y.1) := by
 unfold ltOf cfR
 by_cases h1 : x.1 < y.1
 ·simp [h1]
 ·by_cases h2 : y.1 < x.1 <;> simp [h1, h2]
theorem swoR : Go.Sort.SWO (ltOf cfR) where
 irrefl x := by rw [ltR]; simp
 trans x y z h1 h2 := by rw [ltR] at *; simp at *; omega
 ntrans x y z h1 h2 := by rw [ltR] at *; simp at *; omega
def sortRg (rs : List Rg) : List Rg := (Go.Sort.pdq (ltOf cfR) rs.toArray 0 rs.toArray.size (Lib.bitLen rs.toArray.size) true true).toList
theorem sortRg_spec (rs : List Rg) : (sortRg rs).length = rs.length ∧ (sortRg rs).Perm rs ∧ (sortRg rs).Pairwise (fun a b => a.1 ≤ b.1) := by
 obtain ⟨⟨h1, h2, h3⟩, h4⟩ := Go.Sort.pdq_sorts (ltOf cfR) swoR rs.toArray 0 rs.toArray.size (Lib.bitLen rs.toArray.size) true true (Nat.zero_le _) (Nat.le_refl _) (Or.inl rfl)
 have hl : (sortRg rs).length = rs.length := by simpa [sortRg] using h1
 refine ⟨hl, ?_, ?_⟩
 ·have e1 : ∀ d : Array Rg, d.size = rs.toArray.size → (d.extract 0 rs.toArray.size).toList = d.toList := fun d hd => by
    rw [← hd, Array.extract_size]
  rw [e1 _ h1, e1 _ rfl] at h3
  simpa [sortRg] using h3
 ·rw [List.pairwise_iff_getElem]
  intro i j hi hj hij
  have := h4 i j (Nat.zero_le _) hij (by simpa using (hl ▸ hj))
  rw [ltR] at this
  have hj' : j < (Go.Sort.pdq (ltOf cfR) rs.toArray 0 rs.toArray.size (Lib.bitLen rs.toArray.size) true true).size := by simpa [sortRg] using hj
  rw [getElem!_pos _ j hj', getElem!_pos _ i (by omega)] at this
  simp only [decide_eq_false_iff_not, Int.not_lt] at this
  simpa [sortRg] using this
theorem closure16 (x y : Rg) (w : World) : Calls Tryz.prog 91 #[.agg (encRI x).toArray, .agg (encRI y).toArray] w fun e w' => e = .returned (.int .i64 (cfR x y)) ∧ ∃ q os', w' = Go.Sort.grow (w.drewN q) os' := by
 refine (rawF x.1 x.2 y.1 y.2 w).mono ?_
 rintro e w' ⟨he, os, hw⟩
 exact ⟨he, 0, os, hw⟩
theorem cmpLays16 (blk off size : Nat) (w : World) : CmpLays Tryz.prog 91 #[] encRI 2 cfR blk off size w :=
 fun _ _ _ _ x y => closure16 x y _
theorem encRI_get (r : Rg) (j : Nat) (d : D) (h : (encR r)[j]? = some d) : j < 2 ∧ ∃ v, (encRI r)[j]? = some v ∧ d = .val v := by
 match j with
 | 0 => simp [encR] at h; subst h; exact ⟨by omega, _, rfl, rfl⟩
 | 1 => simp [encR] at h; subst h; exact ⟨by omega, _, rfl, rfl⟩
 | j + 2 => simp [encR] at h
theorem flat_get (d : Array Rg) (i j : Nat) (hi : i < d.size) (hj : j < 2) : (flatK encRI 2 d)[i * 2 + j]? = (encRI d[i])[j]? := by
 have hlt : i * 2 + j < d.size * 2 := by omega
 have h := get_flatK encRI 2 d (i * 2 + j) hlt
 have hsz : (flatK encRI 2 d).size = d.size * 2 := size_flatK _ _ _
 rw [getElem!_pos _ _ (by omega)] at h
 rw [Array.getElem?_eq_getElem (by omega), h]
 rw [show (i * 2 + j) / 2 = i by omega, show (i * 2 + j) % 2 = j by omega, getElem!_pos _ i hi, getElem!_pos _ j (by simp [encRI]; omega), List.getElem?_eq_getElem]
theorem kSortR (rs : List Rg) (hlen : rs.length ≤ 1000000) : MutAt Tryz.prog 90 89 2 (rs.map encR) [.fn 91 [] []] (fun es' r => es' = (sortRg rs).map encR ∧ r = .tup []) := by
 refine ⟨⟨_, Tryz.func90, rfl, rfl⟩, fun F w v xs vs hF hown hone hnF hlens hcont hs hrep => ?_⟩
 obtain ⟨fv, rfl⟩ : ∃ fv, vs = #[fv] := by
  match vs, hs with
  | ⟨[x]⟩, _ => exact ⟨x, rfl⟩
 have hfv : fv = .func (.func 91) #[] #[] := by
  have := hrep 0 _ _ rfl rfl
  cases this with
  | fn _ _ _ vs us hv hu _ _ =>
   have h1 : vs = #[] := Array.eq_empty_of_size_eq_zero hv
   have h2 : us = #[] := Array.eq_empty_of_size_eq_zero hu
   subst h1; subst h2; rfl
 subst hfv
 obtain ⟨hl, hp, hsorted⟩ := sortRg_spec rs
 rcases hown.2 with ⟨hv, hn⟩ | ⟨b, c, cur, hv, -, hheap, hnc, hcm, hcs, htake⟩
 ·subst hv
  have hrs : rs = [] := by simpa using hn
  subst hrs
  have h := AnyF.slices_SortFunc_none Tryz.SortR none 0 (.func (.func 91) #[] #[]) w
  change Calls Tryz.prog 90 _ _ _ at h
  refine h.mono ?_
  rintro e w' ⟨rfl, rfl⟩
  have hnil : sortRg [] = [] := List.length_eq_zero_iff.1 hl
  refine ⟨[], .tup [], .tuple #[], xs, rfl, by rw [hnil]; exact ⟨rfl, rfl⟩, .tup [] #[] rfl (fun i d v h => by simp at h), rfl, hown, hone, Keep.refl _ _, fun i l h => by simp at h, fun i l j d h => by simp at h⟩
 ·subst hv
  let d := rs.toArray
  have hb : b < w.heap.size := (Array.getElem?_eq_some_iff.1 hheap).1
  have hxl : xs.length = rs.length * 2 := by simpa using hown.1
  have hH : HoldsK encRI 2 w b 0 d := by
   intro t ht
   have ht' : t < rs.length * 2 := by simpa [d] using ht
   have hi : t / 2 < rs.length := by omega
   have hj : t % 2 < 2 := Nat.mod_lt _ (by omega)
   have hti : t = t / 2 * 2 + t % 2 := by omega
   have hf := flat_get d (t / 2) (t % 2) (by simpa [d] using hi) hj
   rw [← hti] at hf
   have hfl : (flatK encRI 2 d)[t]? = some (flatK encRI 2 d)[t] := Array.getElem?_eq_getElem ht
   obtain ⟨dd, hdd⟩ : ∃ dd, (encR rs[t / 2])[t % 2]? = some dd := ⟨_, List.getElem?_eq_getElem (show t % 2 < 2 from hj)⟩
   obtain ⟨-, u, hu1, hu2⟩ := encRI_get _ _ _ hdd
   obtain ⟨u', hx1, hx2⟩ := hcont (t / 2) (encR rs[t / 2]) (t % 2) dd (by rw [List.getElem?_map, List.getElem?_eq_getElem hi]; rfl) hdd
   subst hu2
   cases hx2
   rw [← hti] at hx1
   have hcell : w.cell? ⟨b, t, none⟩ = some u := by
    rw [cell_of_row w b t cur 89 (0, 0) hheap]
    rw [← htake, List.getElem?_take] at hx1
    split at hx1
    ·simpa using hx1
    ·cases hx1
   refine ⟨?_, ?_⟩
   ·rw [Nat.zero_add, hcell, getElem!_pos _ t ht]
    rw [hfl] at hf
    simp only [d, List.getElem_toArray] at hf
    rw [hu1] at hf
    injection hf with hf
    simp only [id, d, hf]
   ·simp [World.frozen?, hheap]
  have eg : ∀ args w, (callFunc 91 args).run Tryz.prog w = .ok (.enter 91 args) w := enters_of Tryz.func91 (by kernel_rfl) rfl
  have hdsz : d.size < 4611686018427387904 := by simp [d]; omega
  have h := AnyQ.slices_SortFunc_eq Tryz.SortR 2 Tryz.isAgg89 Tryz.sizeOf89 encRI (fun _ => rfl) (fun x v hv => by simp [encRI] at hv; rcases hv with rfl | rfl <;> rfl) cfR swoR 91 #[] b 0 c d w eg (cmpLays16 b 0 d.size w) hH hb hdsz
  change Calls Tryz.prog 90 _ _ _ at h
  have hdl : d.size = (rs.map encR).length := by simp [d]
  rw [hdl] at h
  refine h.mono ?_
  rintro e w' ⟨rfl, n, os, rfl⟩
  have hd' : (sortRg rs).toArray = Go.Sort.pdq (ltOf cfR) d 0 d.size (Lib.bitLen d.size) true true := by simp [sortRg, d]
  have hds : d.size = rs.length := by simp [d]
  rw [← hdl, ← hd']
  generalize hS : sortRg rs = ss at *
  let cur' : Array Value := Go.Sort.putCells id 0 (flatK encRI 2 ss.toArray) cur
  have hcs' : cur'.size = cur.size := by simp [cur', Go.Sort.putCells]
  have hfs : (flatK encRI 2 ss.toArray).size = rs.length * 2 := by rw [size_flatK]; simp [hl]
  have hb' : (sortWorldK encRI 2 w b 0 n ss.toArray os).heap[b]? = some (.cells cur' 89 (0, 0)) := by
   simp only [sortWorldK, Go.Sort.grow, putRowK, Go.Sort.putRow, Go.Sort.mapBlock]
   rw [Array.getElem?_append_left (by simpa [Go.Sort.ahead] using hb), Array.getElem?_modify, if_pos rfl]
   simp only [Go.Sort.ahead, hheap, Option.map_some, Go.Sort.onCells]
   rfl
  have hcg : ∀ k, cur'[k]? = if k < rs.length * 2 then (flatK encRI 2 ss.toArray)[k]? else cur[k]? := fun k => by
   simp only [cur', Go.Sort.putCells, Array.getElem?_mapIdx]
   have hcc : rs.length * 2 ≤ cur.size := by rw [hcs]; have := Nat.mul_le_mul_right 2 hnc; simpa using this
   by_cases hk : k < rs.length * 2
   ·rw [if_pos hk, Array.getElem?_eq_getElem (by omega), Array.getElem?_eq_getElem (by omega)]
    simp only [Option.map_some, Nat.zero_le, true_and, Nat.zero_add, hfs, hk, if_true, Nat.sub_zero]
    rw [getElem!_pos _ k (by omega)]; rfl
   ·rw [if_neg hk]
    cases hq : cur[k]? with
    | none => rfl
    | some x => simp [hfs, hk]
  refine ⟨ss.map encR, .tup [], .tuple #[], (flatK encRI 2 ss.toArray).toList, rfl, ⟨rfl, rfl⟩, .tup [] #[] rfl (fun i d v h => by simp at h), by rw [List.length_map, hl, hds], ⟨by rw [Array.length_toList, hfs, List.length_map, hl], .inr ⟨b, c, cur', by rw [hds, List.length_map, hl], Nat.zero_le _, hb', by simpa only [List.length_map, hl] using hnc, hcm, by rw [hcs', hcs], ?_⟩⟩, ?_, ?_, ?_, ?_⟩
  ·apply List.ext_getElem?
   intro k
   rw [List.getElem?_take, Array.getElem?_toList, hcg, Array.getElem?_toList]
   simp only [List.length_map, hl]
   by_cases hk : k < rs.length * 2
   ·simp [hk]
   ·simp only [hk, if_false]
    rw [Array.getElem?_eq_none (by omega)]
  ·intro u hu
   obtain ⟨t, ht, rfl⟩ := List.mem_iff_getElem.1 hu
   have ht' : t < rs.length * 2 := by simpa [hfs] using ht
   have hf := flat_get ss.toArray (t / 2) (t % 2) (by simp [hl]; omega) (Nat.mod_lt _ (by omega))
   rw [show t / 2 * 2 + t % 2 = t by omega, Array.getElem?_eq_getElem (by omega)] at hf
   have : (flatK encRI 2 ss.toArray)[t]'(by omega) ∈ encRI (ss.toArray[t / 2]'(by simp [hl]; omega)) := List.mem_of_getElem? hf.symm
   simp only [encRI, List.mem_cons, List.not_mem_nil, or_false] at this
   rw [Array.getElem_toList]
   rcases this with h1 | h1 <;> rw [h1] <;> rfl
  ·refine ⟨rfl, rfl, rfl, by simp [sortWorldK, Go.Sort.grow, putRowK, Go.Sort.putRow, Go.Sort.mapBlock, Go.Sort.ahead], by simp [sortWorldK, Go.Sort.grow, putRowK, Go.Sort.putRow, Go.Sort.mapBlock, Go.Sort.ahead], fun b' o hb2 => ?_⟩
   by_cases hbb : b' = b
   ·subst hbb
    rw [hheap] at hb2; injection hb2 with hb2; subst hb2
    exact .inr (.inl ⟨cur, cur', 89, rfl, hb', hcs', fun k hk => (hk rfl).elim⟩)
   ·left
    simp only [sortWorldK, Go.Sort.grow, putRowK, Go.Sort.putRow, Go.Sort.mapBlock]
    have hlt := (Array.getElem?_eq_some_iff.1 hb2).1
    rw [Array.getElem?_append_left (by simpa [Go.Sort.ahead] using hlt), Array.getElem?_modify, if_neg (Ne.symm hbb)]
    exact hb2
  ·intro i l hil
   rw [List.getElem?_map] at hil
   obtain ⟨r, -, rfl⟩ := Option.map_eq_some_iff.1 hil
   rfl
  ·intro i l j dd hil hdd
   rw [List.getElem?_map] at hil
   obtain ⟨r, hr, rfl⟩ := Option.map_eq_some_iff.1 hil
   obtain ⟨hj, u, hu, rfl⟩ := encRI_get _ _ _ hdd
   have hi := (List.getElem?_eq_some_iff.1 hr).1
   refine ⟨u, ?_, .val _⟩
   rw [Array.getElem?_toList, flat_get ss.toArray i j (by simpa using hi) hj]
   have : ss.toArray[i]'(by simpa using hi) = r := by
    have := (List.getElem?_eq_some_iff.1 hr).2
    simpa using this
   rw [this]; exact hu
theorem kRanges' (rs : List Rg) (hl : rs.length ≤ 1000000) : PureAt Tryz.prog 85 [.sl none (rs.map encR)] (· = .sl none (((sortRg rs).foldl merge1 []).map encR)) := by
 exact kRanges sortRg (fun rs hl => kSortR rs hl) (fun rs => (sortRg_spec rs).1) rs hl
end Go.Proofs
