/- A part of the proof; what is proved stands in the last text. -/
import Derived.Test.YtdfpmolkpkpboaaDoorVLA
import Derived.Test.YtdfpmolkpkpboaaDoorBA
import Derived.Test.YtdfpmolkpkpboaaDoorLA
set_option linter.unusedVariables false
set_option maxRecDepth 2000
namespace Go.Proofs
open Go.Vm Go.Shelf
set_option linter.unusedSimpArgs false
def lb (l : List UInt8) : ByteArray := ⟨l.toArray⟩
def bl (s : ByteArray) : List UInt8 := s.data.toList
theorem lb_bl (s : ByteArray) : lb (bl s) = s := by cases s; simp [lb, bl]
theorem bl_lb (l : List UInt8) : bl (lb l) = l := by simp [lb, bl]
theorem app_lb2 (l m : List UInt8) : lb l ++ lb m = lb (l ++ m) := by
 apply ByteArray.ext; simp [lb, ByteArray.data_append]
theorem size_lb (l : List UInt8) : (lb l).size = l.length := by show l.toArray.size = l.length; simp
theorem size_bl (s : ByteArray) : (bl s).length = s.size := by show s.data.toList.length = s.data.size; simp
def BH : HidT (Option (Nat × List UInt8)) := bldH 75 5
theorem exBWStr : Builder.Extra Tryd.prog Tryd.BWStr_ren := { sizeBuilder := by kernel_rfl, liesBuilder := by kernel_rfl, t5 := Tryd.underlying5, a5 := Tryd.isAgg5, z5 := Tryd.sizeOf5, v5 := Tryd.zeroValue5, infoByte := by kernel_rfl, cellsByte := by kernel_rfl, sizeByte := by kernel_rfl, neB5 := by decide }
theorem exBWByte : Builder.Extra Tryd.prog Tryd.BWByte_ren := { sizeBuilder := by kernel_rfl, liesBuilder := by kernel_rfl, t5 := Tryd.underlying5, a5 := Tryd.isAgg5, z5 := Tryd.sizeOf5, v5 := Tryd.zeroValue5, infoByte := by kernel_rfl, cellsByte := by kernel_rfl, sizeByte := by kernel_rfl, neB5 := by decide }
theorem exBString : Builder.Extra Tryd.prog Tryd.BString_ren := { sizeBuilder := by kernel_rfl, liesBuilder := by kernel_rfl, t5 := Tryd.underlying5, a5 := Tryd.isAgg5, z5 := Tryd.sizeOf5, v5 := Tryd.zeroValue5, infoByte := by kernel_rfl, cellsByte := by kernel_rfl, sizeByte := by kernel_rfl, neB5 := by decide }
theorem kWS (b : Nat) (l : List UInt8) (s : ByteArray) (hlen : l.length + s.size ≤ 140737488355328) :
    HidAt Tryd.prog BH 34 (some (b, l)) [.val (.pointer (some ⟨b, 0, none⟩)), .val (.string s)] (fun r s' => r = .tup [.val (.int .i64 s.size), .val .nilIface] ∧ s' = some (b, l ++ s.data.toList)) :=
 bld_writeString Tryd.BWStr exBWStr ⟨_, Tryd.func34, rfl, rfl⟩ b l s hlen
theorem kWB (b : Nat) (l : List UInt8) (c : UInt8) (hlen : l.length + 1 ≤ 140737488355328) :
    HidAt Tryd.prog BH 32 (some (b, l)) [.val (.pointer (some ⟨b, 0, none⟩)), .val (.int .u8 c.toNat)] (fun r s' => r = .val .nilIface ∧ s' = some (b, l ++ [c])) :=
 bld_writeByte Tryd.BWByte exBWByte ⟨_, Tryd.func32, rfl, rfl⟩ b l c hlen
theorem kBS (b : Nat) (l : List UInt8) (h0 : l ≠ []) :
    HidAt Tryd.prog BH 35 (some (b, l)) [.val (.pointer (some ⟨b, 0, none⟩))] (fun r s' => r = .val (.string ⟨l.toArray⟩) ∧ s' = none) :=
 bld_string Tryd.BString exBString ⟨_, Tryd.func35, rfl, rfl⟩ b l h0
theorem BH0 (w : Go.World) : BH.holds none (fun _ => False) w := bld0 _ _ w
theorem infoBld : ∃ i z, Tryd.prog.info? 75 = some i ∧ i.zero = some z ∧ [D.val (.pointer none), .sl none []] = zeroD z ∧ z.cells = #[.pointer none, .slice none 0 0] := by
 have e : (Tryd.prog.info? 75).bind (·.zero) = some (.agg #[.pointer none, .slice none 0 0]) := by kernel_rfl
 obtain ⟨i, hi, hz⟩ := Option.bind_eq_some_iff.1 e
 exact ⟨i, _, hi, hz, rfl, rfl⟩
def plainB (c : UInt8) : Bool := decide (32 ≤ c.toNat) && (decide (c.toNat ≤ 126) && (c.toNat != 39 && c.toNat != 92))
def hexL : List UInt8 := [48, 49, 50, 51, 52, 53, 54, 55, 56, 57, 97, 98, 99, 100, 101, 102]
def digB (n : Nat) : UInt8 := hexL.getD n 0
def escB (c : UInt8) : List UInt8 := if plainB c then [c] else [92, digB (c.toNat / 16), digB (c.toNat % 16)]
def quoteL (s : List UInt8) : List UInt8 := 39 :: (s.flatMap escB ++ [39])
theorem escB_len (c : UInt8) : (escB c).length ≤ 3 := by unfold escB; split <;> simp
theorem flat_len {α : Type} {f : α → List UInt8} {k : Nat} : ∀ (l : List α), (∀ x ∈ l, (f x).length ≤ k) → (l.flatMap f).length ≤ k * l.length
 | [], _ => by simp
 | x :: l, h => by
  have := flat_len l (fun y hy => h y (by simp [hy]))
  have := h x (by simp)
  simp only [List.flatMap_cons, List.length_append, List.length_cons, Nat.mul_succ]; omega
theorem kPlain (c : UInt8) : PureAt Tryd.prog 33 [.val (.int .u8 c.toNat)] (· = .val (.bool (plainB c))) := by
 refine pure_of r33 (by kernel_rfl) ?_
 unfold m33
 simp only [go_sem, Nat.reduceEqDiff, Nat.reduceAdd, Nat.reduceLeDiff, List.length_map, Int.reduceLT, Int.reduceLE, Int.reduceToNat, Int.toNat_zero, Int.le_refl, Int.reduceAdd, decide_true, decide_false, Nat.reduceMul, Nat.reduceLT, Nat.lt_irrefl, true_and, and_self, ↓reduceIte]
 repeat' (first
  | (refine wantE_split (fun h => ?_) (fun h => ?_) <;> simp only [h, go_sem, Nat.reduceEqDiff, Nat.reduceAdd, Nat.reduceLeDiff, List.length_map])
  | (refine wantQ_split (fun h => ?_) (fun h => ?_) <;> simp only [h, go_sem, Nat.reduceEqDiff, Nat.reduceAdd, Nat.reduceLeDiff, List.length_map])
  | (refine condE_split (fun h => ?_) (fun h => ?_) <;> simp only [h, go_sem, Nat.reduceEqDiff, Nat.reduceAdd, Nat.reduceLeDiff, List.length_map]))
 all_goals (have b39 : ((c.toNat : Int) != 39) = (c.toNat != 39) := by rw [Bool.eq_iff_iff]; simp only [bne_iff_ne, ne_eq]; omega)
 all_goals (have b92 : ((c.toNat : Int) != 92) = (c.toNat != 92) := by rw [Bool.eq_iff_iff]; simp only [bne_iff_ne, ne_eq]; omega)
 all_goals (have g32 : decide ((c.toNat : Int) ≥ 32) = decide (32 ≤ c.toNat) := by rw [decide_eq_decide]; omega)
 all_goals (have g126 : decide ((c.toNat : Int) ≤ 126) = decide (c.toNat ≤ 126) := by rw [decide_eq_decide]; omega)
 all_goals (unfold plainB; simp only [b39, b92, g32, g126] at *; simp only [*, Bool.true_and, Bool.false_and, Bool.and_true])
theorem hexA {n : Nat} (h : n < 16) : #[(48 : UInt8), 49, 50, 51, 52, 53, 54, 55, 56, 57, 97, 98, 99, 100, 101, 102][n]? = some (digB n) := by
 have : ∀ k : Fin 16, #[(48 : UInt8), 49, 50, 51, 52, 53, 54, 55, 56, 57, 97, 98, 99, 100, 101, 102][k.1]? = some (digB k.1) := by decide
 exact this ⟨n, h⟩
theorem encA {n : Nat} (h : n < 16) : Utf8.encode ((digB n).toNat : Int) = lb [digB n] := by
 have : ∀ k : Fin 16, Utf8.encode ((digB k.1).toNat : Int) = lb [digB k.1] := by decide
 exact this ⟨n, h⟩
theorem sh4 (c : UInt8) : ((c.toNat : Int)).fdiv (2 ^ min 4 8) = ((c.toNat / 16 : Nat) : Int) := by
 rw [Int.fdiv_eq_ediv_of_nonneg _ (by decide)]; rfl
theorem and15 (c : UInt8) : binI .and .u8 (c.toNat : Int) 15 = some (.int .u8 ((c.toNat % 16 : Nat) : Int)) := by
 have : ∀ k : Fin 256, IntKind.u8.wrap ((BitVec.ofInt 8 (k.1 : Int) &&& BitVec.ofInt 8 15).toNat : Int) = ((k.1 % 16 : Nat) : Int) := by decide +kernel
 exact congrArg (fun z => some (Value.int .u8 z)) (this ⟨c.toNat, c.toNat_lt⟩)
set_option maxHeartbeats 2000000 in
theorem kQuote (s : ByteArray) (hs : s.size ≤ 1000) : PureAt Tryd.prog 16 [.val (.string s)] (· = .val (.string (lb (quoteL (bl s))))) := by
 refine pure_of_hid (H := BH) (s := none) r16 (by kernel_rfl) BH0 ?_
 unfold m16
 simp only [go_sem, Nat.reduceEqDiff, Nat.reduceAdd, Nat.reduceLeDiff, List.length_map, Int.reduceLT, Int.reduceLE, Int.reduceToNat, Int.toNat_zero, Int.le_refl, Int.reduceAdd, decide_true, decide_false, Nat.reduceMul, Nat.reduceLT, Nat.lt_irrefl, true_and, and_self, ↓reduceIte]
 obtain ⟨i0, z0, hi0, hz0, hzd, hzc⟩ := infoBld
 refine ⟨rfl, i0, z0, hi0, hz0, hzd, fun b => ⟨some (b, []), ⟨rfl, rfl, hzc, rfl⟩, ?_⟩⟩
 simp only [go_sem, Nat.reduceEqDiff, Nat.reduceAdd, Nat.reduceLeDiff, List.length_map, Int.reduceLT, Int.reduceLE, Int.reduceToNat, Int.toNat_zero, Int.le_refl, Int.reduceAdd, decide_true, decide_false, Nat.reduceMul, Nat.reduceLT, Nat.lt_irrefl, true_and, and_self, ↓reduceIte]
 refine callH_eq rfl rfl rfl (kWB b [] 39 (by simp)) ?_
 simp only [go_sem, Nat.reduceEqDiff, Nat.reduceAdd, Nat.reduceLeDiff, List.length_map, Int.reduceLT, Int.reduceLE, Int.reduceToNat, Int.toNat_zero, Int.le_refl, Int.reduceAdd, decide_true, decide_false, Nat.reduceMul, Nat.reduceLT, Nat.lt_irrefl, true_and, and_self, ↓reduceIte]
 refine loop_NH s.size (fun _ => True) (fun i => ⟨[(0, .val (.string s)), (3, .val (.pointer (some ⟨b, 0, none⟩))), (8, .val (.int .i64 s.size)), (9, .val (.int .i64 i))], [], []⟩) (fun i => some (b, 39 :: ((bl s).take i).flatMap escB)) trivial (by simp only [go_sem, Nat.reduceEqDiff, Nat.reduceAdd, Nat.reduceLeDiff, List.length_map, Int.reduceLT, Int.reduceLE, Int.reduceToNat, Int.toNat_zero, Int.le_refl, Int.reduceAdd, decide_true, decide_false, Nat.reduceMul, Nat.reduceLT, Nat.lt_irrefl, true_and, and_self, ↓reduceIte]; rfl) (by simp) ?_
 rintro i hil -
 simp only [go_sem, Nat.reduceEqDiff, Nat.reduceAdd, Nat.reduceLeDiff, List.length_map, Int.reduceLT, Int.reduceLE, Int.reduceToNat, Int.toNat_zero, Int.le_refl, Int.reduceAdd, decide_true, decide_false, Nat.reduceMul, Nat.reduceLT, Nat.lt_irrefl, true_and, and_self, ↓reduceIte]
 refine condE_split (fun h => ?_) (fun h => ?_)
 ·have hi' : i < s.size := by simpa using h
  have hil2 : i < (bl s).length := by rw [size_bl]; exact hi'
  have hget : s.data[i]? = some ((bl s)[i]) := by
   have : s.data.toList[i]? = some ((bl s)[i]) := List.getElem?_eq_getElem hil2
   rwa [Array.getElem?_toList] at this
  have hnx : ((bl s).take (i + 1)).flatMap escB = ((bl s).take i).flatMap escB ++ escB ((bl s)[i]) := by
   rw [List.take_succ_eq_append_getElem hil2, List.flatMap_append]; simp
  have hfl : (((bl s).take i).flatMap escB).length ≤ 3000 := Nat.le_trans (flat_len (k := 3) _ (fun x _ => escB_len x)) (by rw [List.length_take]; omega)
  generalize (bl s)[i] = c at *
  generalize hpre : ((bl s).take i).flatMap escB = pre at *
  simp only [nn0, Int.toNat_natCast, hget, go_sem, Nat.reduceEqDiff, Nat.reduceAdd, Nat.reduceLeDiff, List.length_map, Int.reduceLT, Int.reduceLE, Int.reduceToNat, Int.toNat_zero, Int.le_refl, Int.reduceAdd, decide_true, decide_false, Nat.reduceMul, Nat.reduceLT, Nat.lt_irrefl, true_and, and_self, ↓reduceIte]
  refine callP_eq rfl rfl (kPlain c) ?_
  simp only [go_sem, Nat.reduceEqDiff, Nat.reduceAdd, Nat.reduceLeDiff, List.length_map, Int.reduceLT, Int.reduceLE, Int.reduceToNat, Int.toNat_zero, Int.le_refl, Int.reduceAdd, decide_true, decide_false, Nat.reduceMul, Nat.reduceLT, Nat.lt_irrefl, true_and, and_self, ↓reduceIte]
  cases hc : plainB c with
  | true =>
   simp only [go_sem, Nat.reduceEqDiff, Nat.reduceAdd, Nat.reduceLeDiff, List.length_map, Int.reduceLT, Int.reduceLE, Int.reduceToNat, Int.toNat_zero, Int.le_refl, Int.reduceAdd, decide_true, decide_false, Nat.reduceMul, Nat.reduceLT, Nat.lt_irrefl, true_and, and_self, ↓reduceIte]
   refine callH_eq rfl rfl rfl (kWB b (39 :: pre) c (by simp only [List.length_cons]; omega)) ?_
   simp only [up64 (show i < 1000000 by omega), go_sem, Nat.reduceEqDiff, Nat.reduceAdd, Nat.reduceLeDiff, List.length_map, Int.reduceLT, Int.reduceLE, Int.reduceToNat, Int.toNat_zero, Int.le_refl, Int.reduceAdd, decide_true, decide_false, Nat.reduceMul, Nat.reduceLT, Nat.lt_irrefl, true_and, and_self, ↓reduceIte]
   refine invH_next hi' trivial ?_ ?_
   ·simp only [go_sem, Nat.reduceEqDiff, Nat.reduceAdd, Nat.reduceLeDiff, List.length_map, Int.reduceLT, Int.reduceLE, Int.reduceToNat, Int.toNat_zero, Int.le_refl, Int.reduceAdd, decide_true, decide_false, Nat.reduceMul, Nat.reduceLT, Nat.lt_irrefl, true_and, and_self, ↓reduceIte]
   ·rw [hnx, escB, if_pos hc]
  | false =>
   simp only [go_sem, Nat.reduceEqDiff, Nat.reduceAdd, Nat.reduceLeDiff, List.length_map, Int.reduceLT, Int.reduceLE, Int.reduceToNat, Int.toNat_zero, Int.le_refl, Int.reduceAdd, decide_true, decide_false, Nat.reduceMul, Nat.reduceLT, Nat.lt_irrefl, true_and, and_self, ↓reduceIte]
   refine callH_eq rfl rfl rfl (kWB b (39 :: pre) 92 (by simp only [List.length_cons]; omega)) ?_
   have hc1 : c.toNat / 16 < 16 := by have := c.toNat_lt; omega
   have hc2 : c.toNat % 16 < 16 := by omega
   simp only [sh4, nn0, Int.toNat_natCast, hexA hc1, encA hc1, ↓and15, hexA hc2, encA hc2, go_sem, Nat.reduceEqDiff, Nat.reduceAdd, Nat.reduceLeDiff, List.length_map, Int.reduceLT, Int.reduceLE, Int.reduceToNat, Int.toNat_zero, Int.le_refl, Int.reduceAdd, decide_true, decide_false, Nat.reduceMul, Nat.reduceLT, Nat.lt_irrefl, true_and, and_self, ↓reduceIte]
   have hsz : ((lb [digB (c.toNat / 16)]).size + (lb [digB (c.toNat % 16)]).size ≤ 9223372036854775807) = True := by rw [size_lb, size_lb]; simp
   simp only [hsz, if_true, app_lb2, go_sem, Nat.reduceEqDiff, Nat.reduceAdd, Nat.reduceLeDiff, List.length_map, Int.reduceLT, Int.reduceLE, Int.reduceToNat, Int.toNat_zero, Int.le_refl, Int.reduceAdd, decide_true, decide_false, Nat.reduceMul, Nat.reduceLT, Nat.lt_irrefl, true_and, and_self, ↓reduceIte]
   refine callH_eq rfl rfl rfl (kWS b _ (lb ([digB (c.toNat / 16)] ++ [digB (c.toNat % 16)])) (by rw [size_lb]; simp only [List.length_append, List.length_cons, List.length_nil]; omega)) ?_
   simp only [up64 (show i < 1000000 by omega), go_sem, Nat.reduceEqDiff, Nat.reduceAdd, Nat.reduceLeDiff, List.length_map, Int.reduceLT, Int.reduceLE, Int.reduceToNat, Int.toNat_zero, Int.le_refl, Int.reduceAdd, decide_true, decide_false, Nat.reduceMul, Nat.reduceLT, Nat.lt_irrefl, true_and, and_self, ↓reduceIte]
   refine invH_next hi' trivial ?_ ?_
   ·simp only [go_sem, Nat.reduceEqDiff, Nat.reduceAdd, Nat.reduceLeDiff, List.length_map, Int.reduceLT, Int.reduceLE, Int.reduceToNat, Int.toNat_zero, Int.le_refl, Int.reduceAdd, decide_true, decide_false, Nat.reduceMul, Nat.reduceLT, Nat.lt_irrefl, true_and, and_self, ↓reduceIte]
   ·rw [hnx, escB, if_neg (by simp [hc])]; simp [lb]
 ·have hil' : i = s.size := by simp at h; omega
  subst hil'
  have hfl : (((bl s)).flatMap escB).length ≤ 3000 := Nat.le_trans (flat_len (k := 3) _ (fun x _ => escB_len x)) (by rw [size_bl]; omega)
  rw [List.take_of_length_le (by rw [size_bl]; omega)]
  simp only [go_sem, Nat.reduceEqDiff, Nat.reduceAdd, Nat.reduceLeDiff, List.length_map, Int.reduceLT, Int.reduceLE, Int.reduceToNat, Int.toNat_zero, Int.le_refl, Int.reduceAdd, decide_true, decide_false, Nat.reduceMul, Nat.reduceLT, Nat.lt_irrefl, true_and, and_self, ↓reduceIte]
  refine callH_eq rfl rfl rfl (kWB b _ 39 (by simp only [List.length_cons]; omega)) ?_
  simp only [go_sem, Nat.reduceEqDiff, Nat.reduceAdd, Nat.reduceLeDiff, List.length_map, Int.reduceLT, Int.reduceLE, Int.reduceToNat, Int.toNat_zero, Int.le_refl, Int.reduceAdd, decide_true, decide_false, Nat.reduceMul, Nat.reduceLT, Nat.lt_irrefl, true_and, and_self, ↓reduceIte]
  refine callH_eq rfl rfl rfl (kBS b _ (by simp)) ?_
  simp only [go_sem, Nat.reduceEqDiff, Nat.reduceAdd, Nat.reduceLeDiff, List.length_map, Int.reduceLT, Int.reduceLE, Int.reduceToNat, Int.toNat_zero, Int.le_refl, Int.reduceAdd, decide_true, decide_false, Nat.reduceMul, Nat.reduceLT, Nat.lt_irrefl, true_and, and_self, ↓reduceIte]
  rfl
end Go.Proofs

namespace Go.Proofs
open Go.Vm
set_option linter.unusedSimpArgs false
def u8B (c : UInt8) : List D := [.val (.int .u8 c.toNat)]
theorem bytes_B : ∀ l : List UInt8, bytesOfD (l.map u8B) = some l
 | [] => rfl
 | c :: l => by
  simp only [List.map_cons, u8B, bytesOfD]
  simp [bytes_B l]
theorem oneC {d : D} : ∀ y : List D, y = [d] → y.length = 1 := by rintro _ rfl; rfl
end Go.Proofs
