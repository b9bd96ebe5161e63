/- A part of the proof; what is proved stands in the last text. -/
import Derived.Test.YtdfpmolkpkpboaaDoorT300
import Derived.Test.YtdfpmolkpkpboaaDoorLC
import Derived.Test.YtdfpmolkpkpboaaDoorLB
import Derived.Test.YtdfpmolkpkpboaaDoorT301
import Derived.Test.YtdfpmolkpkpboaaDoorMVb
set_option linter.unusedVariables false
set_option maxRecDepth 2000
namespace Go.Proofs
open Go.Vm Go.RowKit
set_option linter.unusedSimpArgs false
theorem belowD_keep {w w' : World} (h : BelowD w.heap.size w w') : Keep (fun _ _ => False) w w' :=
 ⟨h.bel.os, h.bel.tape, h.bel.output, h.bel.size, h.dr, fun b o hb => .inl (by rw [h.bel.block b (Array.getElem?_eq_some_iff.1 hb).1]; exact hb)⟩
theorem one_arg {F : Reg} {w : World} {d : Value} {vs : Array Value} (hs : vs.size = ([.val d] : List D).length) (h : ∀ (i : Nat) (e : D) (v : Value), ([.val d] : List D)[i]? = some e → vs[i]? = some v → RepF F w e v) : vs = #[d] := by
 rcases vs with ⟨_ | ⟨a, _ | ⟨b, l⟩⟩⟩
 ·simp at hs
 ·have : a = d := by cases h 0 _ a rfl rfl; rfl
  rw [this]
 ·simp at hs
theorem two_args {F : Reg} {w : World} {d e : Value} {vs : Array Value} (hs : vs.size = ([.val d, .val e] : List D).length) (h : ∀ (i : Nat) (x : D) (v : Value), ([.val d, .val e] : List D)[i]? = some x → vs[i]? = some v → RepF F w x v) : vs = #[d, e] := by
 rcases vs with ⟨_ | ⟨a, _ | ⟨b, _ | ⟨c, l⟩⟩⟩⟩
 ·simp at hs
 ·simp at hs
 ·have h1 : a = d := by cases h 0 _ a rfl rfl; rfl
  have h2 : b = e := by cases h 1 _ b rfl rfl; rfl
  rw [h1, h2]
 ·simp at hs
theorem kCompareS (a b : ByteArray) : PureAt Tryd.prog 30 [.val (.string a), .val (.string b)] (· = .val (.int .i64 (Lib.compareBytes a.data.toList b.data.toList))) := by
 refine ⟨⟨_, Tryd.func30, rfl, rfl⟩, fun F w vs hF hs hrep => ?_⟩
 obtain rfl := two_args hs hrep
 have h := Any.strings_Compare Tryd.StrCompare a b w
 change Calls Tryd.prog 30 _ _ _ at h
 refine h.mono ?_
 rintro e w' ⟨rfl, rfl⟩
 exact ⟨_, _, rfl, rfl, .val _, Keep.refl _ _⟩
theorem kIndexByte (s : ByteArray) (c : Int) : PureAt Tryd.prog 52 [.val (.string s), .val (.int .u8 c)] (· = .val (.int .i64 (Lib.indexByte s.data.toList c.toNat.toUInt8))) := by
 refine ⟨⟨_, Tryd.func52, rfl, rfl⟩, fun F w vs hF hs hrep => ?_⟩
 obtain rfl := two_args hs hrep
 have h := Any.strings_IndexByte Tryd.StrIndexByte s c w
 change Calls Tryd.prog 52 _ _ _ at h
 refine h.mono ?_
 rintro e w' ⟨rfl, rfl⟩
 exact ⟨_, _, rfl, rfl, .val _, Keep.refl _ _⟩
def AtoiOf (s : ByteArray) (r : D) : Prop := (∃ n, Lib.atoiAll s.data.toList = .ok n ∧ r = .tup [.val (.int .i64 n), .val .nilIface]) ∨ ((∀ n, Lib.atoiAll s.data.toList ≠ .ok n) ∧ ∃ n t x, r = .tup [.val (.int .i64 n), .val (.iface t x)])
theorem tup2 {F : Reg} {w : World} (a b : Value) : RepF F w (.tup [.val a, .val b]) (.tuple #[a, b]) :=
 .tup _ #[a, b] rfl fun i d v hd hv => by
  match i, hd, hv with
  | 0, hd, hv => simp at hd hv; subst hd; subst hv; exact .val _
  | 1, hd, hv => simp at hd hv; subst hd; subst hv; exact .val _
  | i + 2, hd, hv => simp at hd
theorem kAtoi (s : ByteArray) (hl : s.size ≤ 281474976710656) : PureAt Tryd.prog 27 [.val (.string s)] (AtoiOf s) := by
 refine ⟨⟨_, Tryd.func27, rfl, rfl⟩, fun F w vs hF hs hrep => ?_⟩
 obtain rfl := one_arg hs hrep
 cases hr : Lib.atoiAll s.data.toList with
 | ok v =>
  have h := Any.strconv_Atoi_ok Tryd.Atoi s (by omega) v hr w
  change Calls Tryd.prog 27 _ _ _ at h
  refine h.mono ?_
  rintro e w' ⟨rfl, hw⟩
  refine ⟨_, _, rfl, .inl ⟨v, hr, rfl⟩, tup2 _ _, ?_⟩
  rcases hw with rfl | ⟨t, rfl⟩
  ·exact Keep.refl _ _
  ·exact belowD_keep (bytesWorld_belowD _ _ _)
 | «syntax» =>
  obtain ⟨-, t, x, hc⟩ := hF.2.2 1 (by decide)
  have h := AnyD.strconv_Atoi_syntax Tryd.Atoi s hl hr (.iface t x) w hc (.inr ⟨_, _, rfl⟩)
  change Calls Tryd.prog 27 _ _ _ at h
  refine h.mono ?_
  rintro e w' ⟨N, rfl, -, -, hw⟩
  exact ⟨_, _, rfl, .inr ⟨fun n => by rw [hr]; simp, _, _, _, rfl⟩, tup2 _ _, belowD_keep hw⟩
 | range =>
  obtain ⟨-, t, x, hc⟩ := hF.2.2 2 (by decide)
  have h := AnyD.strconv_Atoi_range Tryd.Atoi s hl hr (.iface t x) w hc (.inr ⟨_, _, rfl⟩)
  change Calls Tryd.prog 27 _ _ _ at h
  refine h.mono ?_
  rintro e w' ⟨N, rfl, -, -, hw⟩
  exact ⟨_, _, rfl, .inr ⟨fun n => by rw [hr]; simp, _, _, _, rfl⟩, tup2 _ _, belowD_keep hw⟩
end Go.Proofs

namespace Go.Proofs
open Go.Vm
set_option linter.unusedSimpArgs false
theorem wrap64 {n : Int} (h1 : -9223372036854775808 ≤ n) (h2 : n ≤ 9223372036854775807) : IntKind.i64.wrap n = n := by
 simp [IntKind.wrap, IntKind.bits, IntKind.signed]; omega
theorem wrapU8 {n : Int} (h1 : 0 ≤ n) (h2 : n < 256) : IntKind.u8.wrap n = n := by
 have : IntKind.u8.wrap n = n % 256 := rfl
 rw [this]; omega
theorem up64 {i : Nat} (h : i < 1000000) : IntKind.i64.wrap ((i : Int) + 1) = ((i + 1 : Nat) : Int) := by rw [wrap64 (by omega) (by omega)]; rfl
theorem nn0 (i : Nat) : (0 ≤ (i : Int)) = True := by simp
structure ValM where
 kind : Int
 n : Int
 s : ByteArray
def valC (v : ValM) : List D := [.val (.int .i64 v.kind), .val (.int .i64 v.n), .val (.string v.s)]
def rightV (v : ValM) : Bool := if v.kind = 0 then v.n == 0 && v.s.toList == [] else if v.kind = 1 then v.s.toList == [] else if v.kind = 2 then v.n == 0 && decide ((v.s.size : Int) ≤ 8) else false
theorem kvalRight (v : ValM) : PureAt Tryd.prog 12 [.agg (valC v)] (· = .val (.bool (rightV v))) := by
 obtain ⟨kd, n, s⟩ := v
 refine pure_of r12 (by kernel_rfl) ?_
 unfold m12 valC
 simp only [go_sem, Nat.reduceEqDiff, Nat.reduceAdd, Nat.reduceLeDiff, List.length_map]
 repeat' (first
  | (refine wantE_split (fun h => ?_) (fun h => ?_) <;> simp only [h, go_sem, Nat.reduceEqDiff, Nat.reduceAdd, Nat.reduceLeDiff, List.length_map])
  | (refine wantQ_split (fun h => ?_) (fun h => ?_) <;> simp only [h, go_sem, Nat.reduceEqDiff, Nat.reduceAdd, Nat.reduceLeDiff, List.length_map])
  | (refine condE_split (fun h => ?_) (fun h => ?_) <;> simp only [h, go_sem, Nat.reduceEqDiff, Nat.reduceAdd, Nat.reduceLeDiff, List.length_map]))
 all_goals simp_all [rightV]
theorem kisNaN (x : Int) : PureAt Tryd.prog 45 [.val (.int .i64 x)] (· = .val (.bool false)) := by
 refine pure_of r45 (by kernel_rfl) ?_
 unfold m45
 simp only [go_sem, Nat.reduceEqDiff, Nat.reduceAdd, Nat.reduceLeDiff, List.length_map]
 simp
theorem kcmpInt (x y : Int) : PureAt Tryd.prog 29 [.val (.int .i64 x), .val (.int .i64 y)] (· = .val (.int .i64 (if x < y then -1 else if y < x then 1 else 0))) := by
 refine pure_of r29 (by kernel_rfl) ?_
 unfold m29
 simp only [go_sem, Nat.reduceEqDiff, Nat.reduceAdd, Nat.reduceLeDiff]
 refine callP_eq rfl rfl (kisNaN _) ?_
 simp only [go_sem, Nat.reduceEqDiff, Nat.reduceAdd, Nat.reduceLeDiff]
 refine callP_eq rfl rfl (kisNaN _) ?_
 simp only [go_sem, Nat.reduceEqDiff, Nat.reduceAdd, Nat.reduceLeDiff]
 refine condE_split (fun h => ?_) (fun h => ?_)
 ·simp only [go_sem, Nat.reduceEqDiff, Nat.reduceAdd, Nat.reduceLeDiff]; simp_all
 ·simp only [go_sem, Nat.reduceEqDiff, Nat.reduceAdd, Nat.reduceLeDiff]
  refine condE_split (fun h' => ?_) (fun h' => ?_)
  ·simp only [go_sem, Nat.reduceEqDiff, Nat.reduceAdd, Nat.reduceLeDiff]
   rw [if_neg (by simpa using h), if_pos (by simpa using h')]
  ·simp only [go_sem, Nat.reduceEqDiff, Nat.reduceAdd, Nat.reduceLeDiff]
   rw [if_neg (by simpa using h), if_neg (by simpa using h')]
def cmpI (x y : Int) : Int := if x < y then -1 else if y < x then 1 else 0
def ordV (a b : ValM) : Int := if a.kind = b.kind then (if a.kind = 1 then cmpI a.n b.n else if a.kind = 2 then Lib.compareBytes a.s.data.toList b.s.data.toList else 0) else cmpI a.kind b.kind
theorem kvOrder (a b : ValM) : PureAt Tryd.prog 13 [.agg (valC a), .agg (valC b)] (· = .val (.int .i64 (ordV a b))) := by
 obtain ⟨ak, an, sa⟩ := a
 obtain ⟨bk, bn, sb⟩ := b
 refine pure_of r13 (by kernel_rfl) ?_
 unfold m13 ordV
 simp only [valC, go_sem, Nat.reduceEqDiff, Nat.reduceAdd, Nat.reduceLeDiff, List.length_map, Int.reduceLT, Int.reduceLE, Int.reduceToNat, Int.toNat_zero, Int.le_refl, Int.reduceAdd, decide_true, decide_false, Nat.reduceMul, Nat.reduceLT, Nat.lt_irrefl, true_and, and_self, ↓reduceIte]
 refine condE_split (fun h => ?_) (fun h => ?_)
 ·have h : ¬ ak = bk := by simpa using h
  simp only [go_sem, Nat.reduceEqDiff, Nat.reduceAdd, Nat.reduceLeDiff, List.length_map, Int.reduceLT, Int.reduceLE, Int.reduceToNat, Int.toNat_zero, Int.le_refl, Int.reduceAdd, decide_true, decide_false, Nat.reduceMul, Nat.reduceLT, Nat.lt_irrefl, true_and, and_self, ↓reduceIte]
  refine callP_eq rfl rfl (kcmpInt ak bk) ?_
  simp only [if_neg h, cmpI, go_sem, Nat.reduceEqDiff, Nat.reduceAdd, Nat.reduceLeDiff, List.length_map, Int.reduceLT, Int.reduceLE, Int.reduceToNat, Int.toNat_zero, Int.le_refl, Int.reduceAdd, decide_true, decide_false, Nat.reduceMul, Nat.reduceLT, Nat.lt_irrefl, true_and, and_self, ↓reduceIte]
 ·have h : ak = bk := by simpa using h
  subst h
  simp only [go_sem, Nat.reduceEqDiff, Nat.reduceAdd, Nat.reduceLeDiff, List.length_map, Int.reduceLT, Int.reduceLE, Int.reduceToNat, Int.toNat_zero, Int.le_refl, Int.reduceAdd, decide_true, decide_false, Nat.reduceMul, Nat.reduceLT, Nat.lt_irrefl, true_and, and_self, ↓reduceIte]
  refine condE_split (fun h1 => ?_) (fun h1 => ?_)
  ·have h1 : ak = 1 := by simpa using h1
   simp only [go_sem, Nat.reduceEqDiff, Nat.reduceAdd, Nat.reduceLeDiff, List.length_map, Int.reduceLT, Int.reduceLE, Int.reduceToNat, Int.toNat_zero, Int.le_refl, Int.reduceAdd, decide_true, decide_false, Nat.reduceMul, Nat.reduceLT, Nat.lt_irrefl, true_and, and_self, ↓reduceIte]
   refine callP_eq rfl rfl (kcmpInt an bn) ?_
   simp only [if_pos h1, cmpI, go_sem, Nat.reduceEqDiff, Nat.reduceAdd, Nat.reduceLeDiff, List.length_map, Int.reduceLT, Int.reduceLE, Int.reduceToNat, Int.toNat_zero, Int.le_refl, Int.reduceAdd, decide_true, decide_false, Nat.reduceMul, Nat.reduceLT, Nat.lt_irrefl, true_and, and_self, ↓reduceIte]
  ·have h1 : ¬ ak = 1 := by simpa using h1
   simp only [go_sem, Nat.reduceEqDiff, Nat.reduceAdd, Nat.reduceLeDiff, List.length_map, Int.reduceLT, Int.reduceLE, Int.reduceToNat, Int.toNat_zero, Int.le_refl, Int.reduceAdd, decide_true, decide_false, Nat.reduceMul, Nat.reduceLT, Nat.lt_irrefl, true_and, and_self, ↓reduceIte]
   refine condE_split (fun h2 => ?_) (fun h2 => ?_)
   ·have h2 : ak = 2 := by simpa using h2
    simp only [go_sem, Nat.reduceEqDiff, Nat.reduceAdd, Nat.reduceLeDiff, List.length_map, Int.reduceLT, Int.reduceLE, Int.reduceToNat, Int.toNat_zero, Int.le_refl, Int.reduceAdd, decide_true, decide_false, Nat.reduceMul, Nat.reduceLT, Nat.lt_irrefl, true_and, and_self, ↓reduceIte]
    refine callP_eq rfl rfl (kCompareS sa sb) ?_
    simp only [if_neg h1, if_pos h2, go_sem, Nat.reduceEqDiff, Nat.reduceAdd, Nat.reduceLeDiff, List.length_map, Int.reduceLT, Int.reduceLE, Int.reduceToNat, Int.toNat_zero, Int.le_refl, Int.reduceAdd, decide_true, decide_false, Nat.reduceMul, Nat.reduceLT, Nat.lt_irrefl, true_and, and_self, ↓reduceIte]
   ·have h2 : ¬ ak = 2 := by simpa using h2
    simp only [if_neg h1, if_neg h2, go_sem, Nat.reduceEqDiff, Nat.reduceAdd, Nat.reduceLeDiff, List.length_map, Int.reduceLT, Int.reduceLE, Int.reduceToNat, Int.toNat_zero, Int.le_refl, Int.reduceAdd, decide_true, decide_false, Nat.reduceMul, Nat.reduceLT, Nat.lt_irrefl, true_and, and_self, ↓reduceIte]
end Go.Proofs
