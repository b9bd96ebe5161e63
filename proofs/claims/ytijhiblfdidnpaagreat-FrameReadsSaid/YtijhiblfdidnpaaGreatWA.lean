/- A part of the proof; what is proved stands in the last text. -/
import Derived.Test.YtijhiblfdidnpaaGreatTG
import Derived.Test.YtijhiblfdidnpaaGreatMM
import Derived.Test.YtijhiblfdidnpaaGreatBA
import Derived.Test.YtijhiblfdidnpaaGreatLA
set_option linter.unusedVariables false
set_option maxRecDepth 2000
namespace Go.Proofs
open Go.Vm Go.Shelf
set_option linter.unusedSimpArgs false
def BH : HidT (Option (Nat × List UInt8)) := bldH 54 5
theorem exBWStr : Builder.Extra Tryz.prog Tryz.BWStr_ren := { sizeBuilder := by kernel_rfl, liesBuilder := by kernel_rfl, t5 := Tryz.underlying5, a5 := Tryz.isAgg5, z5 := Tryz.sizeOf5, v5 := Tryz.zeroValue5, infoByte := by kernel_rfl, cellsByte := by kernel_rfl, sizeByte := by kernel_rfl, neB5 := by decide }
theorem exBWByte : Builder.Extra Tryz.prog Tryz.BWByte_ren := { sizeBuilder := by kernel_rfl, liesBuilder := by kernel_rfl, t5 := Tryz.underlying5, a5 := Tryz.isAgg5, z5 := Tryz.sizeOf5, v5 := Tryz.zeroValue5, infoByte := by kernel_rfl, cellsByte := by kernel_rfl, sizeByte := by kernel_rfl, neB5 := by decide }
theorem exBString : Builder.Extra Tryz.prog Tryz.BString_ren := { sizeBuilder := by kernel_rfl, liesBuilder := by kernel_rfl, t5 := Tryz.underlying5, a5 := Tryz.isAgg5, z5 := Tryz.sizeOf5, v5 := Tryz.zeroValue5, infoByte := by kernel_rfl, cellsByte := by kernel_rfl, sizeByte := by kernel_rfl, neB5 := by decide }
theorem kWS (b : Nat) (l : List UInt8) (s : ByteArray) (hlen : l.length + s.size ≤ 140737488355328) :
    HidAt Tryz.prog BH 20 (some (b, l)) [.val (.pointer (some ⟨b, 0, none⟩)), .val (.string s)] (fun r s' => r = .tup [.val (.int .i64 s.size), .val .nilIface] ∧ s' = some (b, l ++ s.data.toList)) :=
 bld_writeString Tryz.BWStr exBWStr ⟨_, Tryz.func20, rfl, rfl⟩ b l s hlen
theorem kWB (b : Nat) (l : List UInt8) (c : UInt8) (hlen : l.length + 1 ≤ 140737488355328) :
    HidAt Tryz.prog BH 18 (some (b, l)) [.val (.pointer (some ⟨b, 0, none⟩)), .val (.int .u8 c.toNat)] (fun r s' => r = .val .nilIface ∧ s' = some (b, l ++ [c])) :=
 bld_writeByte Tryz.BWByte exBWByte ⟨_, Tryz.func18, rfl, rfl⟩ b l c hlen
theorem kBS (b : Nat) (l : List UInt8) (h0 : l ≠ []) :
    HidAt Tryz.prog BH 22 (some (b, l)) [.val (.pointer (some ⟨b, 0, none⟩))] (fun r s' => r = .val (.string ⟨l.toArray⟩) ∧ s' = none) :=
 bld_string Tryz.BString exBString ⟨_, Tryz.func22, rfl, rfl⟩ b l h0
theorem BH0 (w : Go.World) : BH.holds none (fun _ => False) w := bld0 _ _ w
end Go.Proofs

namespace Go.Proofs
open Go.Vm
set_option linter.unusedSimpArgs false
theorem wrap_u64 {n : Int} (h1 : 0 ≤ n) (h2 : n < 18446744073709551616) : IntKind.u64.wrap n = n := by
 simp [IntKind.wrap, IntKind.bits, IntKind.signed]; omega
theorem wrap_u8 {n : Int} (h1 : 0 ≤ n) (h2 : n < 256) : IntKind.u8.wrap n = n := by
 simp [IntKind.wrap, IntKind.bits, IntKind.signed]; omega
theorem neg_bits {n : Int} (h : InRange n) : IntKind.i64.wrap (((BitVec.ofInt 64 (if IntKind.i64.signed = true then -1 else IntKind.i64.max) ^^^ BitVec.ofInt 64 n).toNat : Nat) : Int) = -1 - n := by
 obtain ⟨h1, h2⟩ := h
 have e1 : BitVec.ofInt 64 (if IntKind.i64.signed = true then -1 else IntKind.i64.max) = BitVec.allOnes 64 := by decide
 rw [e1, BitVec.allOnes_xor, BitVec.toNat_not, BitVec.toNat_ofInt]
 simp [IntKind.wrap, IntKind.bits, IntKind.signed]
 omega
theorem or_one {a : Nat} (h : a % 2 = 0) (h2 : a < 18446744073709551616) : IntKind.u64.wrap (((BitVec.ofInt 64 (a : Int) ||| BitVec.ofInt 64 1).toNat : Nat) : Int) = ((a + 1 : Nat) : Int) := by
 rw [BitVec.toNat_or, BitVec.toNat_ofInt, BitVec.toNat_ofInt]
 have e : ((a : Int) % ((2 ^ 64 : Nat) : Int)).toNat = a := by omega
 have e' : ((1 : Int) % ((2 ^ 64 : Nat) : Int)).toNat = 1 := by decide
 rw [e, e']
 have : a ||| 1 = a + 1 := by
  have := Nat.two_pow_add_eq_or_of_lt (i := 1) (b := 1) (by omega) (a / 2)
  rw [show 2 ^ 1 * (a / 2) = a by omega] at this
  rw [← this]
 rw [this]
 exact wrap_u64 (by omega) (by omega)
theorem or_128 {a : Nat} (h : a < 128) : IntKind.u8.wrap (((BitVec.ofInt 8 (a : Int) ||| BitVec.ofInt 8 128).toNat : Nat) : Int) = ((a + 128 : Nat) : Int) := by
 rw [BitVec.toNat_or, BitVec.toNat_ofInt, BitVec.toNat_ofInt]
 have e : ((a : Int) % ((2 ^ 8 : Nat) : Int)).toNat = a := by omega
 have e' : ((128 : Int) % ((2 ^ 8 : Nat) : Int)).toNat = 128 := by decide
 rw [e, e']
 have : a ||| 128 = a + 128 := by
  have := Nat.two_pow_add_eq_or_of_lt (i := 7) (b := a) (by omega) 1
  rw [Nat.or_comm]
  have e : (128 : Nat) ||| a = 2 ^ 7 * 1 + a := this.symm
  rw [e]; omega
 rw [this]
 exact wrap_u8 (by omega) (by omega)
theorem and_one (a : Nat) (h2 : a < 18446744073709551616) : IntKind.u64.wrap (((BitVec.ofInt 64 (a : Int) &&& BitVec.ofInt 64 1).toNat : Nat) : Int) = ((a % 2 : Nat) : Int) := by
 rw [BitVec.toNat_and, BitVec.toNat_ofInt, BitVec.toNat_ofInt]
 have e : ((a : Int) % ((2 ^ 64 : Nat) : Int)).toNat = a := by omega
 have e' : ((1 : Int) % ((2 ^ 64 : Nat) : Int)).toNat = 1 := by decide
 rw [e, e', Nat.and_one_is_mod]
 exact wrap_u64 (by omega) (by omega)
theorem min164 : min (Int.toNat 1) 64 = 1 := rfl
theorem lt10 : ((1 : Int) < 0) = False := by simp
def foldN (n : Int) : Nat := if n < 0 then (2 * (-1 - n) + 1).toNat else (2 * n).toNat
theorem kfold (n : Int) (h : InRange n) : PureAt Tryz.prog 85 [.val (.int .i64 n)] (· = .val (.int .u64 (foldN n))) := by
 refine pure_of r85 (by kernel_rfl) ?_
 unfold m85
 have h' := h
 obtain ⟨q1, q2⟩ := h'
 simp only [go_sem, Nat.reduceEqDiff, Nat.reduceAdd]
 refine condE_split (fun h1 => ?_) (fun h1 => ?_)
 ·have h1' : n < 0 := by simpa using h1
  have e1 : IntKind.u64.wrap (-1 - n) = -1 - n := wrap_u64 (by omega) (by omega)
  have e2 : IntKind.u64.wrap ((-1 - n) * 2 ^ 1) = ((2 * (-1 - n)).toNat : Nat) := by rw [wrap_u64 (by omega) (by omega)]; omega
  have e3 := or_one (a := (2 * (-1 - n)).toNat) (by omega) (by omega)
  have e4 : foldN n = (2 * (-1 - n)).toNat + 1 := by unfold foldN; rw [if_pos h1']; omega
  simp only [lt10, if_false, min164, go_sem, Nat.reduceEqDiff]
  erw [neg_bits h, e1, e2, e3, e4]
 ·have h1' : ¬ n < 0 := by simpa using h1
  have e1 : IntKind.u64.wrap n = n := wrap_u64 (by omega) (by omega)
  have e2 : IntKind.u64.wrap (n * 2 ^ 1) = (foldN n : Int) := by
   unfold foldN; rw [if_neg h1', wrap_u64 (by omega) (by omega)]; omega
  simp only [lt10, if_false, min164, e1, e2, go_sem, Nat.reduceEqDiff]
def unfoldN (n : Nat) : Int := if n % 2 = 1 then -1 - ((n / 2 : Nat) : Int) else ((n / 2 : Nat) : Int)
theorem kunfold (n : Nat) (h : n < 18446744073709551616) : PureAt Tryz.prog 93 [.val (.int .u64 n)] (· = .val (.int .i64 (unfoldN n))) := by
 refine pure_of r93 (by kernel_rfl) ?_
 unfold m93
 have e0 := and_one n h
 have e1 : ((n : Int).fdiv (2 ^ 1)) = ((n / 2 : Nat) : Int) := by
  rw [Int.fdiv_eq_ediv_of_nonneg _ (by decide)]; omega
 have e2 : IntKind.i64.wrap ((n / 2 : Nat) : Int) = ((n / 2 : Nat) : Int) := wrap64 (by omega) (by omega)
 have e3 := neg_bits (n := ((n / 2 : Nat) : Int)) ⟨by omega, by omega⟩
 simp only [go_sem, Nat.reduceEqDiff, Nat.reduceAdd]
 refine condE_split (fun h1 => ?_) (fun h1 => ?_)
 ·erw [e0] at h1
  have h1' : n % 2 = 1 := by simp at h1; omega
  have e4 : unfoldN n = -1 - ((n / 2 : Nat) : Int) := by unfold unfoldN; rw [if_pos h1']
  simp only [lt10, if_false, min164, e1, e2, go_sem, Nat.reduceEqDiff]
  erw [e3, e4]
 ·erw [e0] at h1
  have h1' : ¬ n % 2 = 1 := by simp at h1; omega
  have e4 : unfoldN n = ((n / 2 : Nat) : Int) := by unfold unfoldN; rw [if_neg h1']
  simp only [lt10, if_false, min164, e1, e2, e4, go_sem, Nat.reduceEqDiff]
theorem unfold_fold {n : Int} (h : InRange n) : unfoldN (foldN n) = n ∧ foldN n < 18446744073709551616 := by
 obtain ⟨h1, h2⟩ := h
 unfold unfoldN foldN
 split <;> split <;> omega
end Go.Proofs

namespace Go.Proofs
open Go.Vm
set_option linter.unusedSimpArgs false
def encHi (n : Nat) : List Nat := if h : n = 0 then [] else encHi (n / 128) ++ [n % 128 + 128]
termination_by n
decreasing_by omega
def encN (n : Nat) : List Nat := encHi (n / 128) ++ [n % 128]
def u8D (n : Nat) : D := .val (.int .u8 n)
def cellsU (at_ : Nat) (tl : List Nat) : List D := List.replicate at_ (u8D 0) ++ tl.map u8D
theorem cellsU_len (a : Nat) (tl : List Nat) : (cellsU a tl).length = a + tl.length := by simp [cellsU]
theorem cellsU_set (a : Nat) (tl : List Nat) (x : Nat) : (cellsU (a + 1) tl).set a (u8D x) = cellsU a (x :: tl) := by
 have e : List.replicate (a + 1) (u8D 0) = List.replicate a (u8D 0) ++ [u8D 0] := List.replicate_succ'
 simp only [cellsU, e, List.append_assoc]
 rw [List.set_append_right _ _ (by simp)]
 simp
theorem frzL_u8 : ∀ (l : List D), (∀ d ∈ l, ∃ x, d = u8D x) → frzL l = some l ∧ tagsL l = [] ∧ l.all D.one = true ∧ ∀ p q, l.map (D.keep p q) = l
 | [], _ => ⟨rfl, rfl, rfl, fun _ _ => rfl⟩
 | d :: l, h => by
  obtain ⟨x, rfl⟩ := h d (by simp)
  obtain ⟨h1, h2, h3, h4⟩ := frzL_u8 l (fun d hd => h d (by simp [hd]))
  refine ⟨?_, ?_, ?_, fun p q => ?_⟩
  ·simp only [u8D, go_sem, h1]
  ·simp only [u8D, go_sem, h2]
  ·rw [List.all_cons, h3]; rfl
  ·rw [List.map_cons, h4]; rfl
theorem cellsU_cut {a : Nat} {tl : List Nat} (h : a + tl.length = 10) : (((cellsU a tl).map fun d => [d]).take 10).drop a = tl.map fun x => [u8D x] := by
 rw [List.take_of_length_le (by rw [List.length_map, cellsU_len]; omega), cellsU, List.map_append, List.drop_append_of_le_length (by simp)]
 rw [List.drop_of_length_le (by simp), List.map_map]
 rfl
theorem bytes_u8 : ∀ tl : List Nat, bytesOfD (tl.map fun x => [u8D x]) = some (tl.map UInt8.ofNat)
 | [] => rfl
 | x :: tl => by
  simp only [List.map_cons, u8D, bytesOfD]
  have := bytes_u8 tl
  simp only [u8D] at this
  rw [this]
  rfl
theorem cellsU_all (a : Nat) (tl : List Nat) : ∀ d ∈ cellsU a tl, ∃ x, d = u8D x := by
 intro d hd
 simp only [cellsU, List.mem_append, List.mem_replicate, List.mem_map] at hd
 rcases hd with ⟨-, rfl⟩ | ⟨x, -, rfl⟩
 ·exact ⟨0, rfl⟩
 ·exact ⟨x, rfl⟩
def invU (n : Nat) (S : St) (k : Nat) : Prop := ∃ (m at_ : Nat) (tl : List Nat), k = m ∧ at_ + tl.length = 10 ∧ tl ≠ [] ∧ encN n = encHi m ++ tl ∧ (∀ x ∈ tl, x < 256) ∧ m * 128 ^ tl.length ≤ n ∧
 S.trim [0, 3, 4] [3] [] = ⟨[(0, .val (.int .u64 m)), (3, .ptr 3 0), (4, .val (.int .i64 at_))], [(3, cellsU at_ tl)], []⟩
set_option maxHeartbeats 1000000 in
theorem kcUint (n : Nat) (hn : n < 18446744073709551616) : PureAt Tryz.prog 23 [.val (.int .u64 n)] (fun r => ∃ s : ByteArray, r = .val (.string s) ∧ s.data.toList = (encN n).map UInt8.ofNat) := by
 refine pure_of r23 (by kernel_rfl) ?_
 unfold m23
 have e1 : ((n : Int).tmod 128) = ((n % 128 : Nat) : Int) := by rw [Int.tmod_eq_emod_of_nonneg (by omega)]; omega
 have e2 : ((n : Int).tdiv 128) = ((n / 128 : Nat) : Int) := by rw [Int.tdiv_eq_ediv_of_nonneg (by omega)]; omega
 have e3 : IntKind.u8.wrap ((n % 128 : Nat) : Int) = ((n % 128 : Nat) : Int) := wrap_u8 (by omega) (by omega)
 have e4 : IntKind.u64.wrap ((n / 128 : Nat) : Int) = ((n / 128 : Nat) : Int) := wrap_u64 (by omega) (by omega)
 have z128 : ((128 : Int) = 0) = False := by simp
 have h9 : ((9 : Int) < ((10 : Nat) : Int)) = True := by simp
 simp only [h9, z128, e1, e2, e3, e4, go_sem, Nat.reduceEqDiff, Nat.reduceAdd, Nat.reduceLeDiff, Int.reduceLE, Int.reduceToNat, Nat.reduceMul, true_and, and_self, ↓reduceIte]
 refine ev_loop_by (invU n) (n / 128) ⟨n / 128, 9, [n % 128], rfl, rfl, by simp, rfl, by simp; omega, by simp; omega, by rfl⟩ ?_
 rintro k S ⟨m, at_, tl, rfl, hlen, hne, henc, hb, hle, hS⟩
 rw [ev_trim, hS]
 have f1 : ((k : Int).tmod 128) = ((k % 128 : Nat) : Int) := by rw [Int.tmod_eq_emod_of_nonneg (by omega)]; omega
 have f2 : ((k : Int).tdiv 128) = ((k / 128 : Nat) : Int) := by rw [Int.tdiv_eq_ediv_of_nonneg (by omega)]; omega
 have f3 : IntKind.u8.wrap ((k % 128 : Nat) : Int) = ((k % 128 : Nat) : Int) := wrap_u8 (by omega) (by omega)
 simp only [go_sem, Nat.reduceEqDiff]
 refine condE_split (fun h => ?_) (fun h => ?_)
 ·have hk : 0 < k := by simpa using h
  have hat : 1 ≤ at_ := by
   rcases Nat.eq_zero_or_pos at_ with h0 | h0
   ·exfalso
    have : tl.length = 10 := by omega
    rw [this] at hle
    omega
   ·exact h0
  have w1 : IntKind.i64.wrap ((at_ : Int) - 1) = ((at_ - 1 : Nat) : Int) := wrap_pred (by omega) (by omega)
  have g1 : (((at_ - 1 : Nat) : Int) < ((10 : Nat) : Int)) = True := by simp; omega
  simp only [w1, z128, if_false, f1, f2, f3, nn0, g1, true_and, if_true, Int.toNat_natCast, go_sem, Nat.reduceEqDiff, Nat.reduceAdd]
  refine ⟨by rw [cellsU_len]; omega, k / 128, by omega, k / 128, at_ - 1, (k % 128 + 128) :: tl, rfl, by simp; omega, by simp, ?_, ?_, ?_, ?_⟩
  ·rw [henc]
   conv => lhs; rw [encHi]
   rw [dif_neg (by omega)]; simp
  ·intro x hx
   rcases List.mem_cons.1 hx with rfl | hx
   ·omega
   ·exact hb x hx
  ·simp only [List.length_cons, Nat.pow_succ]
   have h1 : k / 128 * 128 ≤ k := by omega
   calc k / 128 * (128 ^ tl.length * 128) = (k / 128 * 128) * 128 ^ tl.length := by rw [Nat.mul_comm (128 ^ tl.length) 128, Nat.mul_assoc]
    _ ≤ k * 128 ^ tl.length := Nat.mul_le_mul_right _ h1
    _ ≤ n := hle
  ·have f4 : IntKind.u64.wrap ((k / 128 : Nat) : Int) = ((k / 128 : Nat) : Int) := wrap_u64 (by omega) (by
     have : k ≤ n := Nat.le_trans (Nat.le_mul_of_pos_right k (Nat.pow_pos (by omega))) hle
     omega)
   have f5 := or_128 (a := k % 128) (by omega)
   have f6 := cellsU_set (at_ - 1) tl (k % 128 + 128)
   rw [show at_ - 1 + 1 = at_ by omega] at f6
   simp only [f4, go_sem, Nat.reduceEqDiff]
   erw [f5]
   rw [show 0 + (at_ - 1) * 1 = at_ - 1 by omega]
   erw [f6]
 ·have hk : k = 0 := by simp at h; omega
  subst hk
  have henc' : encN n = tl := by rw [henc, encHi, dif_pos rfl]; rfl
  obtain ⟨z1, z2, z3, z4⟩ := frzL_u8 _ (cellsU_all at_ tl)
  have k1 : (cellsU at_ tl).length = 10 := by rw [cellsU_len]; exact hlen
  have k2 : ((at_ : Int) ≤ ((10 : Nat) : Int)) = True := by simp; omega
  simp only [z1, z2, z3, k1, k2, nn0, true_and, if_true, Int.toNat_natCast, cellsU_cut hlen, bytes_u8, go_sem, Nat.reduceEqDiff]
  exact ⟨⟨(tl.map UInt8.ofNat).toArray⟩, rfl, by rw [henc']⟩
end Go.Proofs
