/- A part of the proof; what is proved stands in the last text. -/
import Derived.Test.YtdfpmolkpkpboaaDoorT300
import Derived.Test.YtdfpmolkpkpboaaDoorLC
import Derived.Test.YtdfpmolkpkpboaaDoorLB
import Derived.Test.YtdfpmolkpkpboaaDoorT301
import Derived.Test.YtdfpmolkpkpboaaDoorMVb
set_option linter.unusedVariables false
set_option maxRecDepth 2000
namespace Go.Proofs
open Go.Vm Go.RowKit
set_option linter.unusedSimpArgs false
theorem belowD_keep {w w' : World} (h : BelowD w.heap.size w w') : Keep (fun _ _ => False) w w' :=
 ⟨h.bel.os, h.bel.tape, h.bel.output, h.bel.size, h.dr, fun b o hb => .inl (by rw [h.bel.block b (Array.getElem?_eq_some_iff.1 hb).1]; exact hb)⟩
theorem tab_is {F : Reg} {w : World} (h : FB F w) : Lib.TabIs Tryd.prog w "internal/strconv.uint64pow10" .u64 Lib.pow10Tab := by
 have ht := fun i => (h.2.1 3 _ (List.mem_singleton.2 rfl) i).2
 have hg : Tryd.prog.globalNamed "internal/strconv.uint64pow10" = some 3 := by kernel_rfl
 have e0 : ((List.range 20).map fun i => Value.int .u64 ((10 ^ i : Nat) : Int)) = Lib.pow10Tab.map fun z => Value.int .u64 z := by
  unfold Lib.pow10Tab; rw [List.map_map]; rfl
 rw [e0] at ht
 unfold Lib.TabIs World.var?
 rw [hg]
 simp only [Option.bind_some]
 have h0 := ht 0
 unfold World.cell? at ht h0
 cases hb : w.heap[3]? with
 | none => simp [hb, Lib.pow10Tab] at h0
 | some o =>
  cases o with
  | cells cs e f =>
   simp only [hb] at ht ⊢
   congr 1
   refine Array.ext_getElem? fun i => ?_
   have := ht i
   simpa using this
  | _ => simp [hb, Lib.pow10Tab] at h0
theorem keep_grow (w : World) (k : Nat) (os : Array Obj) : Keep (fun _ _ => False) w (Go.Sort.grow (w.drewN k) os) := by
 refine ⟨rfl, rfl, rfl, ?_, ?_, fun b o h => .inl ?_⟩
 ·simp [Go.Sort.grow]
 ·show w.drawn ≤ (w.drewN k).drawn
  exact Nat.le_add_right _ _
 ·show (w.heap ++ os)[b]? = some o
  rw [Array.getElem?_append_left (Array.getElem?_eq_some_iff.1 h).1]; exact h
theorem one_arg {F : Reg} {w : World} {d : Value} {vs : Array Value} (hs : vs.size = ([.val d] : List D).length) (h : ∀ (i : Nat) (e : D) (v : Value), ([.val d] : List D)[i]? = some e → vs[i]? = some v → RepF F w e v) : vs = #[d] := by
 rcases vs with ⟨_ | ⟨a, _ | ⟨b, l⟩⟩⟩
 ·simp at hs
 ·have : a = d := by cases h 0 _ a rfl rfl; rfl
  rw [this]
 ·simp at hs
theorem two_args {F : Reg} {w : World} {d e : Value} {vs : Array Value} (hs : vs.size = ([.val d, .val e] : List D).length) (h : ∀ (i : Nat) (x : D) (v : Value), ([.val d, .val e] : List D)[i]? = some x → vs[i]? = some v → RepF F w x v) : vs = #[d, e] := by
 rcases vs with ⟨_ | ⟨a, _ | ⟨b, _ | ⟨c, l⟩⟩⟩⟩
 ·simp at hs
 ·simp at hs
 ·have h1 : a = d := by cases h 0 _ a rfl rfl; rfl
  have h2 : b = e := by cases h 1 _ b rfl rfl; rfl
  rw [h1, h2]
 ·simp at hs
theorem kItoaI (n : Int) (h0 : -9223372036854775808 ≤ n) (h1 : n ≤ 9223372036854775807) : PureAt Tryd.prog 36 [.val (.int .i64 n)] (· = .val (.string ⟨(Lib.itoa n).toArray⟩)) := by
 refine ⟨⟨_, Tryd.func36, rfl, rfl⟩, fun F w vs hF hs hrep => ?_⟩
 obtain rfl := one_arg hs hrep
 have h := Any.strconv_Itoa Tryd.Itoa n h0 h1 w (tab_is hF)
 change Calls Tryd.prog 36 _ _ _ at h
 refine h.mono ?_
 rintro e w' ⟨rfl, k, os, rfl⟩
 exact ⟨_, _, rfl, rfl, .val _, keep_grow _ _ _⟩
theorem kCompareS (a b : ByteArray) : PureAt Tryd.prog 30 [.val (.string a), .val (.string b)] (· = .val (.int .i64 (Lib.compareBytes a.data.toList b.data.toList))) := by
 refine ⟨⟨_, Tryd.func30, rfl, rfl⟩, fun F w vs hF hs hrep => ?_⟩
 obtain rfl := two_args hs hrep
 have h := Any.strings_Compare Tryd.StrCompare a b w
 change Calls Tryd.prog 30 _ _ _ at h
 refine h.mono ?_
 rintro e w' ⟨rfl, rfl⟩
 exact ⟨_, _, rfl, rfl, .val _, Keep.refl _ _⟩
theorem kIndexByte (s : ByteArray) (c : Int) : PureAt Tryd.prog 52 [.val (.string s), .val (.int .u8 c)] (· = .val (.int .i64 (Lib.indexByte s.data.toList c.toNat.toUInt8))) := by
 refine ⟨⟨_, Tryd.func52, rfl, rfl⟩, fun F w vs hF hs hrep => ?_⟩
 obtain rfl := two_args hs hrep
 have h := Any.strings_IndexByte Tryd.StrIndexByte s c w
 change Calls Tryd.prog 52 _ _ _ at h
 refine h.mono ?_
 rintro e w' ⟨rfl, rfl⟩
 exact ⟨_, _, rfl, rfl, .val _, Keep.refl _ _⟩
def AtoiOf (s : ByteArray) (r : D) : Prop := (∃ n, Lib.atoiAll s.data.toList = .ok n ∧ r = .tup [.val (.int .i64 n), .val .nilIface]) ∨ ((∀ n, Lib.atoiAll s.data.toList ≠ .ok n) ∧ ∃ n t x, r = .tup [.val (.int .i64 n), .val (.iface t x)])
theorem tup2 {F : Reg} {w : World} (a b : Value) : RepF F w (.tup [.val a, .val b]) (.tuple #[a, b]) :=
 .tup _ #[a, b] rfl fun i d v hd hv => by
  match i, hd, hv with
  | 0, hd, hv => simp at hd hv; subst hd; subst hv; exact .val _
  | 1, hd, hv => simp at hd hv; subst hd; subst hv; exact .val _
  | i + 2, hd, hv => simp at hd
theorem kAtoi (s : ByteArray) (hl : s.size ≤ 281474976710656) : PureAt Tryd.prog 27 [.val (.string s)] (AtoiOf s) := by
 refine ⟨⟨_, Tryd.func27, rfl, rfl⟩, fun F w vs hF hs hrep => ?_⟩
 obtain rfl := one_arg hs hrep
 cases hr : Lib.atoiAll s.data.toList with
 | ok v =>
  have h := Any.strconv_Atoi_ok Tryd.Atoi s (by omega) v hr w
  change Calls Tryd.prog 27 _ _ _ at h
  refine h.mono ?_
  rintro e w' ⟨rfl, hw⟩
  refine ⟨_, _, rfl, .inl ⟨v, hr, rfl⟩, tup2 _ _, ?_⟩
  rcases hw with rfl | ⟨t, rfl⟩
  ·exact Keep.refl _ _
  ·exact belowD_keep (bytesWorld_belowD _ _ _)
 | «syntax» =>
  obtain ⟨-, t, x, hc⟩ := hF.2.2 1 (by decide)
  have h := AnyD.strconv_Atoi_syntax Tryd.Atoi s hl hr (.iface t x) w hc (.inr ⟨_, _, rfl⟩)
  change Calls Tryd.prog 27 _ _ _ at h
  refine h.mono ?_
  rintro e w' ⟨N, rfl, -, -, hw⟩
  exact ⟨_, _, rfl, .inr ⟨fun n => by rw [hr]; simp, _, _, _, rfl⟩, tup2 _ _, belowD_keep hw⟩
 | range =>
  obtain ⟨-, t, x, hc⟩ := hF.2.2 2 (by decide)
  have h := AnyD.strconv_Atoi_range Tryd.Atoi s hl hr (.iface t x) w hc (.inr ⟨_, _, rfl⟩)
  change Calls Tryd.prog 27 _ _ _ at h
  refine h.mono ?_
  rintro e w' ⟨N, rfl, -, -, hw⟩
  exact ⟨_, _, rfl, .inr ⟨fun n => by rw [hr]; simp, _, _, _, rfl⟩, tup2 _ _, belowD_keep hw⟩
end Go.Proofs

namespace Go.Proofs
open Go.Vm
set_option linter.unusedSimpArgs false
theorem wrap64 {n : Int} (h1 : -9223372036854775808 ≤ n) (h2 : n ≤ 9223372036854775807) : IntKind.i64.wrap n = n := by
 simp [IntKind.wrap, IntKind.bits, IntKind.signed]; omega
theorem wrapU64 {n : Int} (h1 : 0 ≤ n) (h2 : n < 18446744073709551616) : IntKind.u64.wrap n = n := by
 have : IntKind.u64.wrap n = n % 18446744073709551616 := rfl
 rw [this]; omega
theorem wrapU8 {n : Int} (h1 : 0 ≤ n) (h2 : n < 256) : IntKind.u8.wrap n = n := by
 have : IntKind.u8.wrap n = n % 256 := rfl
 rw [this]; omega
theorem up64 {i : Nat} (h : i < 1000000) : IntKind.i64.wrap ((i : Int) + 1) = ((i + 1 : Nat) : Int) := by rw [wrap64 (by omega) (by omega)]; rfl
theorem nn0 (i : Nat) : (0 ≤ (i : Int)) = True := by simp
structure ValM where
 kind : Int
 n : Int
 s : ByteArray
def valC (v : ValM) : List D := [.val (.int .i64 v.kind), .val (.int .i64 v.n), .val (.string v.s)]
def rightV (v : ValM) : Bool := if v.kind = 0 then v.n == 0 && v.s.toList == [] else if v.kind = 1 then v.s.toList == [] else if v.kind = 2 then v.n == 0 && decide ((v.s.size : Int) ≤ 8) else false
theorem kvalRight (v : ValM) : PureAt Tryd.prog 12 [.agg (valC v)] (· = .val (.bool (rightV v))) := by
 obtain ⟨kd, n, s⟩ := v
 refine pure_of r12 (by kernel_rfl) ?_
 unfold m12 valC
 simp only [go_sem, Nat.reduceEqDiff, Nat.reduceAdd, Nat.reduceLeDiff, List.length_map]
 repeat' (first
  | (refine wantE_split (fun h => ?_) (fun h => ?_) <;> simp only [h, go_sem, Nat.reduceEqDiff, Nat.reduceAdd, Nat.reduceLeDiff, List.length_map])
  | (refine wantQ_split (fun h => ?_) (fun h => ?_) <;> simp only [h, go_sem, Nat.reduceEqDiff, Nat.reduceAdd, Nat.reduceLeDiff, List.length_map])
  | (refine condE_split (fun h => ?_) (fun h => ?_) <;> simp only [h, go_sem, Nat.reduceEqDiff, Nat.reduceAdd, Nat.reduceLeDiff, List.length_map]))
 all_goals simp_all [rightV]
theorem kref1Right (v : ValM) : PureAt Tryd.prog 18 [.agg (valC v)] (· = .val (.bool (rightV v))) := by
 obtain ⟨kd, n, s⟩ := v
 refine pure_of r18 (by kernel_rfl) ?_
 unfold m18 valC
 simp only [go_sem, Nat.reduceEqDiff, Nat.reduceAdd, Nat.reduceLeDiff, List.length_map]
 repeat' (first
  | (refine wantE_split (fun h => ?_) (fun h => ?_) <;> simp only [h, go_sem, Nat.reduceEqDiff, Nat.reduceAdd, Nat.reduceLeDiff, List.length_map])
  | (refine wantQ_split (fun h => ?_) (fun h => ?_) <;> simp only [h, go_sem, Nat.reduceEqDiff, Nat.reduceAdd, Nat.reduceLeDiff, List.length_map])
  | (refine condE_split (fun h => ?_) (fun h => ?_) <;> simp only [h, go_sem, Nat.reduceEqDiff, Nat.reduceAdd, Nat.reduceLeDiff, List.length_map]))
 all_goals simp_all [rightV]
structure EvM where
 v0 : ValM
 v1 : ValM
 v2 : ValM
 v3 : ValM
def evC (e : EvM) : List D := [
 .val (.int .i64 e.v0.kind), .val (.int .i64 e.v0.n), .val (.string e.v0.s),
 .val (.int .i64 e.v1.kind), .val (.int .i64 e.v1.n), .val (.string e.v1.s),
 .val (.int .i64 e.v2.kind), .val (.int .i64 e.v2.n), .val (.string e.v2.s),
 .val (.int .i64 e.v3.kind), .val (.int .i64 e.v3.n), .val (.string e.v3.s)]
def rightE (e : EvM) : Bool := rightV e.v0 && (rightV e.v1 && (rightV e.v2 && rightV e.v3))
set_option maxHeartbeats 2000000 in
theorem kvalEvent (e : EvM) : PureAt Tryd.prog 19 [.agg (evC e)] (· = .val (.bool (rightE e))) := by
 obtain ⟨v0, v1, v2, v3⟩ := e
 have p0 := kvalRight v0
 have p1 := kvalRight v1
 have p2 := kvalRight v2
 have p3 := kvalRight v3
 refine pure_of r19 (by kernel_rfl) ?_
 unfold m19 rightE
 unfold valC at p0 p1 p2 p3
 simp only [evC, go_sem, Nat.reduceEqDiff, Nat.reduceAdd, Nat.reduceLeDiff, List.length_map, Int.reduceLT, Int.reduceLE, Int.reduceToNat, Int.toNat_zero, Int.le_refl, Int.reduceAdd, decide_true, decide_false, Nat.reduceMul, Nat.reduceLT, Nat.lt_irrefl, true_and, and_self, ↓reduceIte]
 refine ev_loop_u 4 ?_
 simp only [n4i, wi0, wi1, wi2, wi3, wi4, Int.reduceMul, go_sem, Nat.reduceEqDiff, Nat.reduceAdd, Nat.reduceLeDiff, List.length_map, Int.reduceLT, Int.reduceLE, Int.reduceToNat, Int.toNat_zero, Int.le_refl, Int.reduceAdd, decide_true, decide_false, Nat.reduceMul, Nat.reduceLT, Nat.lt_irrefl, true_and, and_self, ↓reduceIte]
 refine callP_eq rfl rfl p0 ?_
 cases h0 : rightV v0
 ·simp only [Bool.not_false, Bool.false_and, go_sem, Nat.reduceEqDiff, Nat.reduceAdd, Nat.reduceLeDiff, List.length_map, Int.reduceLT, Int.reduceLE, Int.reduceToNat, Int.toNat_zero, Int.le_refl, Int.reduceAdd, decide_true, decide_false, Nat.reduceMul, Nat.reduceLT, Nat.lt_irrefl, true_and, and_self, ↓reduceIte]
 simp only [Bool.not_true, n4i, wi0, wi1, wi2, wi3, wi4, Int.reduceMul, go_sem, Nat.reduceEqDiff, Nat.reduceAdd, Nat.reduceLeDiff, List.length_map, Int.reduceLT, Int.reduceLE, Int.reduceToNat, Int.toNat_zero, Int.le_refl, Int.reduceAdd, decide_true, decide_false, Nat.reduceMul, Nat.reduceLT, Nat.lt_irrefl, true_and, and_self, ↓reduceIte]
 refine callP_eq rfl rfl p1 ?_
 cases h1 : rightV v1
 ·simp only [Bool.not_false, Bool.false_and, Bool.and_false, go_sem, Nat.reduceEqDiff, Nat.reduceAdd, Nat.reduceLeDiff, List.length_map, Int.reduceLT, Int.reduceLE, Int.reduceToNat, Int.toNat_zero, Int.le_refl, Int.reduceAdd, decide_true, decide_false, Nat.reduceMul, Nat.reduceLT, Nat.lt_irrefl, true_and, and_self, ↓reduceIte]
 simp only [Bool.not_true, n4i, wi0, wi1, wi2, wi3, wi4, Int.reduceMul, go_sem, Nat.reduceEqDiff, Nat.reduceAdd, Nat.reduceLeDiff, List.length_map, Int.reduceLT, Int.reduceLE, Int.reduceToNat, Int.toNat_zero, Int.le_refl, Int.reduceAdd, decide_true, decide_false, Nat.reduceMul, Nat.reduceLT, Nat.lt_irrefl, true_and, and_self, ↓reduceIte]
 refine callP_eq rfl rfl p2 ?_
 cases h2 : rightV v2
 ·simp only [Bool.not_false, Bool.false_and, Bool.and_false, go_sem, Nat.reduceEqDiff, Nat.reduceAdd, Nat.reduceLeDiff, List.length_map, Int.reduceLT, Int.reduceLE, Int.reduceToNat, Int.toNat_zero, Int.le_refl, Int.reduceAdd, decide_true, decide_false, Nat.reduceMul, Nat.reduceLT, Nat.lt_irrefl, true_and, and_self, ↓reduceIte]
 simp only [Bool.not_true, n4i, wi0, wi1, wi2, wi3, wi4, Int.reduceMul, go_sem, Nat.reduceEqDiff, Nat.reduceAdd, Nat.reduceLeDiff, List.length_map, Int.reduceLT, Int.reduceLE, Int.reduceToNat, Int.toNat_zero, Int.le_refl, Int.reduceAdd, decide_true, decide_false, Nat.reduceMul, Nat.reduceLT, Nat.lt_irrefl, true_and, and_self, ↓reduceIte]
 refine callP_eq rfl rfl p3 ?_
 cases h3 : rightV v3
 ·simp only [Bool.not_false, Bool.false_and, Bool.and_false, go_sem, Nat.reduceEqDiff, Nat.reduceAdd, Nat.reduceLeDiff, List.length_map, Int.reduceLT, Int.reduceLE, Int.reduceToNat, Int.toNat_zero, Int.le_refl, Int.reduceAdd, decide_true, decide_false, Nat.reduceMul, Nat.reduceLT, Nat.lt_irrefl, true_and, and_self, ↓reduceIte]
 simp only [Bool.not_true, n4i, wi0, wi1, wi2, wi3, wi4, Int.reduceMul, Bool.and_true, go_sem, Nat.reduceEqDiff, Nat.reduceAdd, Nat.reduceLeDiff, List.length_map, Int.reduceLT, Int.reduceLE, Int.reduceToNat, Int.toNat_zero, Int.le_refl, Int.reduceAdd, decide_true, decide_false, Nat.reduceMul, Nat.reduceLT, Nat.lt_irrefl, true_and, and_self, ↓reduceIte]
set_option maxHeartbeats 2000000 in
theorem kref1Event (e : EvM) : PureAt Tryd.prog 20 [.agg (evC e)] (· = .val (.bool (rightE e))) := by
 obtain ⟨v0, v1, v2, v3⟩ := e
 have p0 := kref1Right v0
 have p1 := kref1Right v1
 have p2 := kref1Right v2
 have p3 := kref1Right v3
 refine pure_of r20 (by kernel_rfl) ?_
 unfold m20 rightE
 unfold valC at p0 p1 p2 p3
 simp only [evC, go_sem, Nat.reduceEqDiff, Nat.reduceAdd, Nat.reduceLeDiff, List.length_map, Int.reduceLT, Int.reduceLE, Int.reduceToNat, Int.toNat_zero, Int.le_refl, Int.reduceAdd, decide_true, decide_false, Nat.reduceMul, Nat.reduceLT, Nat.lt_irrefl, true_and, and_self, ↓reduceIte]
 refine ev_loop_u 4 ?_
 simp only [n4i, wi0, wi1, wi2, wi3, wi4, Int.reduceMul, go_sem, Nat.reduceEqDiff, Nat.reduceAdd, Nat.reduceLeDiff, List.length_map, Int.reduceLT, Int.reduceLE, Int.reduceToNat, Int.toNat_zero, Int.le_refl, Int.reduceAdd, decide_true, decide_false, Nat.reduceMul, Nat.reduceLT, Nat.lt_irrefl, true_and, and_self, ↓reduceIte]
 refine callP_eq rfl rfl p0 ?_
 cases h0 : rightV v0
 ·simp only [Bool.not_false, Bool.false_and, go_sem, Nat.reduceEqDiff, Nat.reduceAdd, Nat.reduceLeDiff, List.length_map, Int.reduceLT, Int.reduceLE, Int.reduceToNat, Int.toNat_zero, Int.le_refl, Int.reduceAdd, decide_true, decide_false, Nat.reduceMul, Nat.reduceLT, Nat.lt_irrefl, true_and, and_self, ↓reduceIte]
 simp only [Bool.not_true, n4i, wi0, wi1, wi2, wi3, wi4, Int.reduceMul, go_sem, Nat.reduceEqDiff, Nat.reduceAdd, Nat.reduceLeDiff, List.length_map, Int.reduceLT, Int.reduceLE, Int.reduceToNat, Int.toNat_zero, Int.le_refl, Int.reduceAdd, decide_true, decide_false, Nat.reduceMul, Nat.reduceLT, Nat.lt_irrefl, true_and, and_self, ↓reduceIte]
 refine callP_eq rfl rfl p1 ?_
 cases h1 : rightV v1
 ·simp only [Bool.not_false, Bool.false_and, Bool.and_false, go_sem, Nat.reduceEqDiff, Nat.reduceAdd, Nat.reduceLeDiff, List.length_map, Int.reduceLT, Int.reduceLE, Int.reduceToNat, Int.toNat_zero, Int.le_refl, Int.reduceAdd, decide_true, decide_false, Nat.reduceMul, Nat.reduceLT, Nat.lt_irrefl, true_and, and_self, ↓reduceIte]
 simp only [Bool.not_true, n4i, wi0, wi1, wi2, wi3, wi4, Int.reduceMul, go_sem, Nat.reduceEqDiff, Nat.reduceAdd, Nat.reduceLeDiff, List.length_map, Int.reduceLT, Int.reduceLE, Int.reduceToNat, Int.toNat_zero, Int.le_refl, Int.reduceAdd, decide_true, decide_false, Nat.reduceMul, Nat.reduceLT, Nat.lt_irrefl, true_and, and_self, ↓reduceIte]
 refine callP_eq rfl rfl p2 ?_
 cases h2 : rightV v2
 ·simp only [Bool.not_false, Bool.false_and, Bool.and_false, go_sem, Nat.reduceEqDiff, Nat.reduceAdd, Nat.reduceLeDiff, List.length_map, Int.reduceLT, Int.reduceLE, Int.reduceToNat, Int.toNat_zero, Int.le_refl, Int.reduceAdd, decide_true, decide_false, Nat.reduceMul, Nat.reduceLT, Nat.lt_irrefl, true_and, and_self, ↓reduceIte]
 simp only [Bool.not_true, n4i, wi0, wi1, wi2, wi3, wi4, Int.reduceMul, go_sem, Nat.reduceEqDiff, Nat.reduceAdd, Nat.reduceLeDiff, List.length_map, Int.reduceLT, Int.reduceLE, Int.reduceToNat, Int.toNat_zero, Int.le_refl, Int.reduceAdd, decide_true, decide_false, Nat.reduceMul, Nat.reduceLT, Nat.lt_irrefl, true_and, and_self, ↓reduceIte]
 refine callP_eq rfl rfl p3 ?_
 cases h3 : rightV v3
 ·simp only [Bool.not_false, Bool.false_and, Bool.and_false, go_sem, Nat.reduceEqDiff, Nat.reduceAdd, Nat.reduceLeDiff, List.length_map, Int.reduceLT, Int.reduceLE, Int.reduceToNat, Int.toNat_zero, Int.le_refl, Int.reduceAdd, decide_true, decide_false, Nat.reduceMul, Nat.reduceLT, Nat.lt_irrefl, true_and, and_self, ↓reduceIte]
 simp only [Bool.not_true, n4i, wi0, wi1, wi2, wi3, wi4, Int.reduceMul, Bool.and_true, go_sem, Nat.reduceEqDiff, Nat.reduceAdd, Nat.reduceLeDiff, List.length_map, Int.reduceLT, Int.reduceLE, Int.reduceToNat, Int.toNat_zero, Int.le_refl, Int.reduceAdd, decide_true, decide_false, Nat.reduceMul, Nat.reduceLT, Nat.lt_irrefl, true_and, and_self, ↓reduceIte]
theorem kisNaN (x : Int) : PureAt Tryd.prog 45 [.val (.int .i64 x)] (· = .val (.bool false)) := by
 refine pure_of r45 (by kernel_rfl) ?_
 unfold m45
 simp only [go_sem, Nat.reduceEqDiff, Nat.reduceAdd, Nat.reduceLeDiff, List.length_map]
 simp
theorem kcmpInt (x y : Int) : PureAt Tryd.prog 29 [.val (.int .i64 x), .val (.int .i64 y)] (· = .val (.int .i64 (if x < y then -1 else if y < x then 1 else 0))) := by
 refine pure_of r29 (by kernel_rfl) ?_
 unfold m29
 simp only [go_sem, Nat.reduceEqDiff, Nat.reduceAdd, Nat.reduceLeDiff]
 refine callP_eq rfl rfl (kisNaN _) ?_
 simp only [go_sem, Nat.reduceEqDiff, Nat.reduceAdd, Nat.reduceLeDiff]
 refine callP_eq rfl rfl (kisNaN _) ?_
 simp only [go_sem, Nat.reduceEqDiff, Nat.reduceAdd, Nat.reduceLeDiff]
 refine condE_split (fun h => ?_) (fun h => ?_)
 ·simp only [go_sem, Nat.reduceEqDiff, Nat.reduceAdd, Nat.reduceLeDiff]; simp_all
 ·simp only [go_sem, Nat.reduceEqDiff, Nat.reduceAdd, Nat.reduceLeDiff]
  refine condE_split (fun h' => ?_) (fun h' => ?_)
  ·simp only [go_sem, Nat.reduceEqDiff, Nat.reduceAdd, Nat.reduceLeDiff]
   rw [if_neg (by simpa using h), if_pos (by simpa using h')]
  ·simp only [go_sem, Nat.reduceEqDiff, Nat.reduceAdd, Nat.reduceLeDiff]
   rw [if_neg (by simpa using h), if_neg (by simpa using h')]
def cmpI (x y : Int) : Int := if x < y then -1 else if y < x then 1 else 0
def ordV (a b : ValM) : Int := if a.kind = b.kind then (if a.kind = 1 then cmpI a.n b.n else if a.kind = 2 then Lib.compareBytes a.s.data.toList b.s.data.toList else 0) else cmpI a.kind b.kind
theorem kvOrder (a b : ValM) : PureAt Tryd.prog 13 [.agg (valC a), .agg (valC b)] (· = .val (.int .i64 (ordV a b))) := by
 obtain ⟨ak, an, sa⟩ := a
 obtain ⟨bk, bn, sb⟩ := b
 refine pure_of r13 (by kernel_rfl) ?_
 unfold m13 ordV
 simp only [valC, go_sem, Nat.reduceEqDiff, Nat.reduceAdd, Nat.reduceLeDiff, List.length_map, Int.reduceLT, Int.reduceLE, Int.reduceToNat, Int.toNat_zero, Int.le_refl, Int.reduceAdd, decide_true, decide_false, Nat.reduceMul, Nat.reduceLT, Nat.lt_irrefl, true_and, and_self, ↓reduceIte]
 refine condE_split (fun h => ?_) (fun h => ?_)
 ·have h : ¬ ak = bk := by simpa using h
  simp only [go_sem, Nat.reduceEqDiff, Nat.reduceAdd, Nat.reduceLeDiff, List.length_map, Int.reduceLT, Int.reduceLE, Int.reduceToNat, Int.toNat_zero, Int.le_refl, Int.reduceAdd, decide_true, decide_false, Nat.reduceMul, Nat.reduceLT, Nat.lt_irrefl, true_and, and_self, ↓reduceIte]
  refine callP_eq rfl rfl (kcmpInt ak bk) ?_
  simp only [if_neg h, cmpI, go_sem, Nat.reduceEqDiff, Nat.reduceAdd, Nat.reduceLeDiff, List.length_map, Int.reduceLT, Int.reduceLE, Int.reduceToNat, Int.toNat_zero, Int.le_refl, Int.reduceAdd, decide_true, decide_false, Nat.reduceMul, Nat.reduceLT, Nat.lt_irrefl, true_and, and_self, ↓reduceIte]
 ·have h : ak = bk := by simpa using h
  subst h
  simp only [go_sem, Nat.reduceEqDiff, Nat.reduceAdd, Nat.reduceLeDiff, List.length_map, Int.reduceLT, Int.reduceLE, Int.reduceToNat, Int.toNat_zero, Int.le_refl, Int.reduceAdd, decide_true, decide_false, Nat.reduceMul, Nat.reduceLT, Nat.lt_irrefl, true_and, and_self, ↓reduceIte]
  refine condE_split (fun h1 => ?_) (fun h1 => ?_)
  ·have h1 : ak = 1 := by simpa using h1
   simp only [go_sem, Nat.reduceEqDiff, Nat.reduceAdd, Nat.reduceLeDiff, List.length_map, Int.reduceLT, Int.reduceLE, Int.reduceToNat, Int.toNat_zero, Int.le_refl, Int.reduceAdd, decide_true, decide_false, Nat.reduceMul, Nat.reduceLT, Nat.lt_irrefl, true_and, and_self, ↓reduceIte]
   refine callP_eq rfl rfl (kcmpInt an bn) ?_
   simp only [if_pos h1, cmpI, go_sem, Nat.reduceEqDiff, Nat.reduceAdd, Nat.reduceLeDiff, List.length_map, Int.reduceLT, Int.reduceLE, Int.reduceToNat, Int.toNat_zero, Int.le_refl, Int.reduceAdd, decide_true, decide_false, Nat.reduceMul, Nat.reduceLT, Nat.lt_irrefl, true_and, and_self, ↓reduceIte]
  ·have h1 : ¬ ak = 1 := by simpa using h1
   simp only [go_sem, Nat.reduceEqDiff, Nat.reduceAdd, Nat.reduceLeDiff, List.length_map, Int.reduceLT, Int.reduceLE, Int.reduceToNat, Int.toNat_zero, Int.le_refl, Int.reduceAdd, decide_true, decide_false, Nat.reduceMul, Nat.reduceLT, Nat.lt_irrefl, true_and, and_self, ↓reduceIte]
   refine condE_split (fun h2 => ?_) (fun h2 => ?_)
   ·have h2 : ak = 2 := by simpa using h2
    simp only [go_sem, Nat.reduceEqDiff, Nat.reduceAdd, Nat.reduceLeDiff, List.length_map, Int.reduceLT, Int.reduceLE, Int.reduceToNat, Int.toNat_zero, Int.le_refl, Int.reduceAdd, decide_true, decide_false, Nat.reduceMul, Nat.reduceLT, Nat.lt_irrefl, true_and, and_self, ↓reduceIte]
    refine callP_eq rfl rfl (kCompareS sa sb) ?_
    simp only [if_neg h1, if_pos h2, go_sem, Nat.reduceEqDiff, Nat.reduceAdd, Nat.reduceLeDiff, List.length_map, Int.reduceLT, Int.reduceLE, Int.reduceToNat, Int.toNat_zero, Int.le_refl, Int.reduceAdd, decide_true, decide_false, Nat.reduceMul, Nat.reduceLT, Nat.lt_irrefl, true_and, and_self, ↓reduceIte]
   ·have h2 : ¬ ak = 2 := by simpa using h2
    simp only [if_neg h1, if_neg h2, go_sem, Nat.reduceEqDiff, Nat.reduceAdd, Nat.reduceLeDiff, List.length_map, Int.reduceLT, Int.reduceLE, Int.reduceToNat, Int.toNat_zero, Int.le_refl, Int.reduceAdd, decide_true, decide_false, Nat.reduceMul, Nat.reduceLT, Nat.lt_irrefl, true_and, and_self, ↓reduceIte]
theorem cmp_less (a b : List UInt8) : Lib.compareBytes a b = if Op.bytesLess a b = true then -1 else if Op.bytesLess b a = true then 1 else 0 := by
 induction a generalizing b with
 | nil => cases b <;> simp [Lib.compareBytes, Op.bytesLess]
 | cons x a ih =>
  cases b with
  | nil => simp [Lib.compareBytes, Op.bytesLess]
  | cons y b =>
   have := ih b
   simp only [Lib.compareBytes, Op.bytesLess]
   by_cases h1 : x < y
   ·simp [h1]
   ·by_cases h2 : y < x
    ·have hne : ¬ x = y := fun e => by subst e; exact absurd h2 (by simp)
     simp [h1, h2, hne]
    ·have he : x = y := by
       apply UInt8.toNat_inj.1
       have a1 : ¬ x.toNat < y.toNat := h1
       have a2 : ¬ y.toNat < x.toNat := h2
       omega
     subst he
     simp [this]
theorem less_gt (a b : List UInt8) : (!(Op.bytesLess a b || a == b)) = Op.bytesLess b a := by
 induction a generalizing b with
 | nil => cases b <;> simp [Op.bytesLess]
 | cons x a ih =>
  cases b with
  | nil => simp [Op.bytesLess]
  | cons y b =>
   have := ih b
   simp only [Op.bytesLess]
   by_cases h1 : x < y
   ·have h2 : ¬ y < x := fun h2 => by have a1 : x.toNat < y.toNat := h1; have a2 : y.toNat < x.toNat := h2; omega
    have h3 : ¬ y = x := fun e => by subst e; exact absurd h1 (by simp)
    simp [h1, h2, h3]
   ·by_cases h2 : y < x
    ·have hne : ¬ x = y := fun e => by subst e; exact absurd h2 (by simp)
     simp [h1, h2, hne]
    ·have he : x = y := by
       apply UInt8.toNat_inj.1
       have a1 : ¬ x.toNat < y.toNat := h1
       have a2 : ¬ y.toNat < x.toNat := h2
       omega
     subst he
     simpa using this
set_option maxHeartbeats 4000000 in
theorem kref1Order (a b : ValM) : PureAt Tryd.prog 21 [.agg (valC a), .agg (valC b)] (· = .val (.int .i64 (ordV a b))) := by
 obtain ⟨ak, an, sa⟩ := a
 obtain ⟨bk, bn, sb⟩ := b
 refine pure_of r21 (by kernel_rfl) ?_
 unfold m21 ordV
 have hc : Lib.compareBytes sa.data.toList sb.data.toList = if Op.bytesLess sa.toList sb.toList = true then -1 else if Op.bytesLess sb.toList sa.toList = true then 1 else 0 := by rw [cmp_less, ByteArray.toList_eq, ByteArray.toList_eq]
 simp only [valC, hc, less_gt, go_sem, Nat.reduceEqDiff, Nat.reduceAdd, Nat.reduceLeDiff, List.length_map, Int.reduceLT, Int.reduceLE, Int.reduceToNat, Int.toNat_zero, Int.le_refl, Int.reduceAdd, decide_true, decide_false, Nat.reduceMul, Nat.reduceLT, Nat.lt_irrefl, true_and, and_self, ↓reduceIte]
 repeat' (first
  | (refine wantE_split (fun h => ?_) (fun h => ?_) <;> simp only [h, less_gt, go_sem, Nat.reduceEqDiff, Nat.reduceAdd, Nat.reduceLeDiff, List.length_map])
  | (refine wantQ_split (fun h => ?_) (fun h => ?_) <;> simp only [h, less_gt, go_sem, Nat.reduceEqDiff, Nat.reduceAdd, Nat.reduceLeDiff, List.length_map])
  | (refine condE_split (fun h => ?_) (fun h => ?_) <;> simp only [h, less_gt, go_sem, Nat.reduceEqDiff, Nat.reduceAdd, Nat.reduceLeDiff, List.length_map]))
 all_goals clear hc
 all_goals simp only [decide_eq_true_eq, decide_eq_false_iff_not, beq_iff_eq, beq_eq_false_iff_ne, ne_eq] at *
 all_goals congr 2
 all_goals (simp only [cmpI]; (repeat' split) <;> first | rfl | omega | simp_all)
end Go.Proofs
