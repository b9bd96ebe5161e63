/- A part of the proof; what is proved stands in the last text. -/
import Derived.Test.YtaoppmjidjdgdaaGreatT330
import Derived.Test.YtaoppmjidjdgdaaGreatT331
import Derived.Test.YtaoppmjidjdgdaaGreatVm26
set_option linter.unusedVariables false
set_option maxRecDepth 2000
namespace Go.Proofs
open Go.Vm
set_option linter.unusedSimpArgs false
def seenR (G : List Int) : List (List D) := G.map fun i => [.val (.int .i64 i), .val (.bool true)]
def sBox (n : Int) (L : List SEnt) (G : List Int) : List D := [.val (.int .i64 n), .sl (some tE) (L.map entS), .mh 11000000, .sl (some tInt) (G.map intS)]
def hpS (n : Int) (L : List SEnt) (G : List Int) : List (Nat × List D) := [(1000000, sBox n L G), (11000000, [.mpc (seenR G), .undef, .undef])]
theorem erase_map {α β : Type} (f : α → β) (l : List α) (i : Nat) : (l.map f).eraseIdx i = (l.eraseIdx i).map f := by
 simp [List.eraseIdx_eq_take_drop_succ, List.map_take, List.map_drop]
theorem entS_rows (L : List SEnt) : ∀ e ∈ L.map entS, e.length = 3 := fun e h => by
 obtain ⟨x, _, rfl⟩ := List.mem_map.1 h; rfl
theorem intS_rows (L : List Int) : ∀ e ∈ L.map intS, e.length = 1 := fun e h => by
 obtain ⟨x, _, rfl⟩ := List.mem_map.1 h; rfl
theorem ksActive (n : Int) (L : List SEnt) (G : List Int) (hl : L.length ≤ 1000000) : ObjAt Tryz.prog 10 ⟨[(0, .ptr 1000000 0)], hpS n L G, tgS⟩ 1 (fun r hp tg => r = .sl none (L.map entS) ∧ hp = hpS n L G ∧ tg = tgS) := by
 refine obj_of [1000000, 11000000] [tE, tInt] r10 (by kernel_rfl) ?_
 unfold m10
 simp only [hpS, tgS, sBox, tE, tInt, go_sem, Nat.reduceEqDiff, Nat.reduceAdd, Nat.reduceLeDiff, List.length_map, Int.reduceLT, Int.reduceLE, Int.reduceToNat, Int.toNat_zero, Int.le_refl, Int.reduceAdd, decide_true, decide_false, Nat.reduceMul, Nat.reduceLT, Nat.lt_irrefl, true_and, and_self, ↓reduceIte]
 refine callO_eq rfl rfl rfl rfl rfl (kCloneE n (L.map entS) (seenR G) (G.map intS) (by simpa using hl) (entS_rows L)) ?_
 simp only [hpS, tgS, sBox, tE, tInt, oHp, go_sem, Nat.reduceEqDiff, Nat.reduceAdd, Nat.reduceLeDiff, List.length_map, Int.reduceLT, Int.reduceLE, Int.reduceToNat, Int.toNat_zero, Int.le_refl, Int.reduceAdd, decide_true, decide_false, Nat.reduceMul, Nat.reduceLT, Nat.lt_irrefl, true_and, and_self, ↓reduceIte]
 simp only [St.fz]
 simp only [hpS, tgS, sBox, tE, tInt, oHp, tgI, go_sem, Nat.reduceEqDiff, Nat.reduceAdd, Nat.reduceLeDiff, List.length_map, Int.reduceLT, Int.reduceLE, Int.reduceToNat, Int.toNat_zero, Int.le_refl, Int.reduceAdd, decide_true, decide_false, Nat.reduceMul, Nat.reduceLT, Nat.lt_irrefl, true_and, and_self, ↓reduceIte]
theorem ksGot (n : Int) (L : List SEnt) (G : List Int) (hl : G.length ≤ 1000000) : ObjAt Tryz.prog 13 ⟨[(0, .ptr 1000000 0)], hpS n L G, tgS⟩ 1 (fun r hp tg => r = .sl none (G.map intS) ∧ hp = hpS n L G ∧ tg = tgS) := by
 refine obj_of [1000000, 11000000] [tE, tInt] r13 (by kernel_rfl) ?_
 unfold m13
 simp only [hpS, tgS, sBox, tE, tInt, go_sem, Nat.reduceEqDiff, Nat.reduceAdd, Nat.reduceLeDiff, List.length_map, Int.reduceLT, Int.reduceLE, Int.reduceToNat, Int.toNat_zero, Int.le_refl, Int.reduceAdd, decide_true, decide_false, Nat.reduceMul, Nat.reduceLT, Nat.lt_irrefl, true_and, and_self, ↓reduceIte]
 refine callO_eq rfl rfl rfl rfl rfl (kCloneInt n (L.map entS) (seenR G) (G.map intS) (by simpa using hl) (intS_rows G)) ?_
 simp only [hpS, tgS, sBox, tE, tInt, oHp, tgI, go_sem, Nat.reduceEqDiff, Nat.reduceAdd, Nat.reduceLeDiff, List.length_map, Int.reduceLT, Int.reduceLE, Int.reduceToNat, Int.toNat_zero, Int.le_refl, Int.reduceAdd, decide_true, decide_false, Nat.reduceMul, Nat.reduceLT, Nat.lt_irrefl, true_and, and_self, ↓reduceIte]
 simp only [St.fz]
 simp only [hpS, tgS, sBox, tE, tInt, oHp, tgI, go_sem, Nat.reduceEqDiff, Nat.reduceAdd, Nat.reduceLeDiff, List.length_map, Int.reduceLT, Int.reduceLE, Int.reduceToNat, Int.toNat_zero, Int.le_refl, Int.reduceAdd, decide_true, decide_false, Nat.reduceMul, Nat.reduceLT, Nat.lt_irrefl, true_and, and_self, ↓reduceIte]
def FewE (L : List SEnt) : Prop := ∀ x ∈ L, x.f.length ≤ 10000 ∧ (∀ b ∈ x.f, FewB 900 b) ∧ ∀ b ∈ x.f, BndB b
def hasL (L : List SEnt) (e : EvM) : Bool := L.any fun x => hasF x.f e
theorem few_of {b : BoxM} (h : FewB 900 b) : FewB 1000000 b := fun i hi => ⟨by have := (h i hi).1; omega, by have := (h i hi).2; omega⟩
theorem ksHas (n : Int) (L : List SEnt) (G : List Int) (e : EvM) (hl : L.length ≤ 100000) (hf : FewE L) : ObjAt Tryz.prog 18 ⟨[(0, .ptr 1000000 0), (1, .agg (evC e))], hpS n L G, tgS⟩ 2 (fun r hp tg => r = .val (.bool (hasL L e)) ∧ hp = hpS n L G ∧ tg = tgS) := by
 refine obj_of [1000000, 11000000] [tE, tInt] r18 (by kernel_rfl) ?_
 unfold m18
 simp only [hpS, tgS, sBox, tE, tInt, evC, go_sem, Nat.reduceEqDiff, Nat.reduceAdd, Nat.reduceLeDiff, List.length_map, Int.reduceLT, Int.reduceLE, Int.reduceToNat, Int.toNat_zero, Int.le_refl, Int.reduceAdd, decide_true, decide_false, Nat.reduceMul, Nat.reduceLT, Nat.lt_irrefl, true_and, and_self, ↓reduceIte]
 refine callL_eq rfl rfl rfl (kContainsFuncE 34 [.rp none (evC e) 0] rfl rfl L hl (fun x => hasF x.f e) (fun x hx => ksHasF x e (hf x hx).1 (fun b hb => few_of ((hf x hx).2.1 b hb)))) ?_
 simp only [hpS, tgS, sBox, tE, tInt, hasL, go_sem, Nat.reduceEqDiff, Nat.reduceAdd, Nat.reduceLeDiff, List.length_map, Int.reduceLT, Int.reduceLE, Int.reduceToNat, Int.toNat_zero, Int.le_refl, Int.reduceAdd, decide_true, decide_false, Nat.reduceMul, Nat.reduceLT, Nat.lt_irrefl, true_and, and_self, ↓reduceIte]
def remL (L : List SEnt) (k : Int) : List SEnt := if L.any (fun x => x.id == k) = true then L.eraseIdx (L.findIdx fun x => x.id == k) else L
theorem ksRemove (n : Int) (L : List SEnt) (G : List Int) (k : Int) (hl : L.length ≤ 100000) : ObjAt Tryz.prog 9 ⟨[(0, .ptr 1000000 0), (1, .val (.int .i64 k))], hpS n L G, tgS⟩ 2
    (fun r hp tg => r = .val (.int .i64 (if L.any (fun x => x.id == k) = true then 0 else 5)) ∧ hp = hpS n (remL L k) G ∧ tg = tgS) := by
 refine obj_of [1000000, 11000000] [tE, tInt] r9 (by kernel_rfl) ?_
 unfold m9
 simp only [hpS, tgS, sBox, tE, tInt, go_sem, Nat.reduceEqDiff, Nat.reduceAdd, Nat.reduceLeDiff, List.length_map, Int.reduceLT, Int.reduceLE, Int.reduceToNat, Int.toNat_zero, Int.le_refl, Int.reduceAdd, decide_true, decide_false, Nat.reduceMul, Nat.reduceLT, Nat.lt_irrefl, true_and, and_self, ↓reduceIte]
 refine callL_eq rfl rfl rfl (kIndexFuncE 26 [.rp none [.val (.int .i64 k)] 0] rfl rfl L hl (fun x => x.id == k) (fun x hx => ksRemoveF x k)) ?_
 unfold idxS remL
 by_cases h : L.any (fun x => x.id == k) = true
 ·have hi : L.findIdx (fun x => x.id == k) < L.length := by
    rw [List.findIdx_lt_length]; simpa using h
  rw [if_pos h, if_pos h, if_pos h]
  generalize L.findIdx (fun x => x.id == k) = i at *
  have hneg : ((i : Int) < 0) = False := by simp
  have hup := up64 (show i < 1000000 by omega)
  simp only [hneg, hup, go_sem, Nat.reduceEqDiff, Nat.reduceAdd, Nat.reduceLeDiff, List.length_map, Int.reduceLT, Int.reduceLE, Int.reduceToNat, Int.toNat_zero, Int.le_refl, Int.reduceAdd, decide_true, decide_false, Nat.reduceMul, Nat.reduceLT, Nat.lt_irrefl, true_and, and_self, ↓reduceIte]
  refine callO_eq rfl rfl rfl rfl rfl (kDeleteE (L.map entS) i (by simpa using (by omega : L.length ≤ 1000000)) (by simpa using hi)) ?_
  simp only [hpS, tgS, sBox, tE, tInt, erase_map, go_sem, Nat.reduceEqDiff, Nat.reduceAdd, Nat.reduceLeDiff, List.length_map, Int.reduceLT, Int.reduceLE, Int.reduceToNat, Int.toNat_zero, Int.le_refl, Int.reduceAdd, decide_true, decide_false, Nat.reduceMul, Nat.reduceLT, Nat.lt_irrefl, true_and, and_self, ↓reduceIte]
 ·rw [if_neg h, if_neg h, if_neg h]
  simp only [hpS, tgS, sBox, tE, tInt, go_sem, Nat.reduceEqDiff, Nat.reduceAdd, Nat.reduceLeDiff, List.length_map, Int.reduceLT, Int.reduceLE, Int.reduceToNat, Int.toNat_zero, Int.le_refl, Int.reduceAdd, decide_true, decide_false, Nat.reduceMul, Nat.reduceLT, Nat.lt_irrefl, true_and, and_self, ↓reduceIte]
def addN (n : Int) (L : List SEnt) (f : List BoxM) : Int × Int := if rightF f = true then if L.length ≥ 6 then (0, 4) else (n + 1, 0) else (0, 1)
def addL (n : Int) (L : List SEnt) (f : List BoxM) : List SEnt := if (addN n L f).2 = 0 then L ++ [⟨n + 1, f⟩] else L
theorem ge6 (k : Nat) : ((6 : Int) ≤ (k : Int)) = (6 ≤ k) := by apply propext; omega
theorem ksAdd (n : Int) (L : List SEnt) (G : List Int) (f : List BoxM) (hn : 0 ≤ n ∧ n ≤ 1000000) (hl : L.length ≤ 100000) (h1 : f.length ≤ 10000) (h2 : ∀ b ∈ f, FewB 900 b) (h3 : ∀ b ∈ f, BndB b) : ObjAt Tryz.prog 8 ⟨[(0, .ptr 1000000 0), (1, .sl none (f.map boxC))], hpS n L G, tgS⟩ 2
    (fun r hp tg => r = .tup [.val (.int .i64 (addN n L f).1), .val (.int .i64 (addN n L f).2)] ∧ hp = hpS (if (addN n L f).2 = 0 then n + 1 else n) (addL n L f) G ∧ tg = tgS) := by
 refine obj_of [1000000, 11000000] [tE, tInt] r8 (by kernel_rfl) ?_
 unfold m8
 simp only [hpS, tgS, sBox, tE, tInt, go_sem, Nat.reduceEqDiff, Nat.reduceAdd, Nat.reduceLeDiff, List.length_map, Int.reduceLT, Int.reduceLE, Int.reduceToNat, Int.toNat_zero, Int.le_refl, Int.reduceAdd, decide_true, decide_false, Nat.reduceMul, Nat.reduceLT, Nat.lt_irrefl, true_and, and_self, ↓reduceIte]
 refine callP_eq rfl rfl (kdnfRight f h1 h2 h3) ?_
 unfold addL addN
 cases hr : rightF f
 ·simp only [hpS, tgS, sBox, tE, tInt, go_sem, Nat.reduceEqDiff, Nat.reduceAdd, Nat.reduceLeDiff, List.length_map, Int.reduceLT, Int.reduceLE, Int.reduceToNat, Int.toNat_zero, Int.le_refl, Int.reduceAdd, decide_true, decide_false, Nat.reduceMul, Nat.reduceLT, Nat.lt_irrefl, true_and, and_self, ↓reduceIte]
  rfl
 by_cases h6 : 6 ≤ L.length
 ·simp only [hpS, tgS, sBox, tE, tInt, ge_iff_le, ge6, h6, go_sem, Nat.reduceEqDiff, Nat.reduceAdd, Nat.reduceLeDiff, List.length_map, Int.reduceLT, Int.reduceLE, Int.reduceToNat, Int.toNat_zero, Int.le_refl, Int.reduceAdd, decide_true, decide_false, Nat.reduceMul, Nat.reduceLT, Nat.lt_irrefl, true_and, and_self, ↓reduceIte]
  rfl
 ·have hw : IntKind.i64.wrap (n + 1) = n + 1 := wrap64 (by omega) (by omega)
  have hlen : (L.map entS).length + 1 ≤ 140737488355328 := by simp; omega
  simp only [hpS, tgS, sBox, tE, tInt, ge_iff_le, ge6, h6, hw, go_sem, Nat.reduceEqDiff, Nat.reduceAdd, Nat.reduceLeDiff, List.length_map, Int.reduceLT, Int.reduceLE, Int.reduceToNat, Int.toNat_zero, Int.le_refl, Int.reduceAdd, decide_true, decide_false, Nat.reduceMul, Nat.reduceLT, Nat.lt_irrefl, true_and, and_self, ↓reduceIte]
  refine dany_at (q := _) rfl ?_
  refine por_s 0 rfl (by kernel_rfl) trim_ex rfl rfl rfl rfl rfl ?_
  refine por_s 1 rfl (by kernel_rfl) trim_ex rfl rfl rfl rfl rfl ?_
  refine por_s 2 rfl (by kernel_rfl) trim_ex rfl rfl rfl rfl rfl ?_
  refine por_s 3 rfl (by kernel_rfl) trim_ex rfl rfl rfl rfl rfl ?_
  refine por_s 5 rfl (by kernel_rfl) trim_ex rfl rfl rfl rfl rfl ?_
  refine por_s 6 rfl (by kernel_rfl) trim_ex rfl rfl rfl rfl rfl ?_
  refine por_s 7 rfl (by kernel_rfl) trim_ex rfl rfl rfl rfl rfl ?_
  refine por_s 9 rfl (by kernel_rfl) trim_ex rfl rfl rfl rfl rfl ?_
  simp only [hpS, tgS, sBox, tE, tInt, hlen, go_sem, Nat.reduceEqDiff, Nat.reduceAdd, Nat.reduceLeDiff, List.length_map, Int.reduceLT, Int.reduceLE, Int.reduceToNat, Int.toNat_zero, Int.le_refl, Int.reduceAdd, decide_true, decide_false, Nat.reduceMul, Nat.reduceLT, Nat.lt_irrefl, true_and, and_self, ↓reduceIte]
  refine ⟨entS_rows L, by rintro y rfl; rfl, by omega, by omega, ?_⟩
  rw [List.map_append]
  rfl
end Go.Proofs
