/- A part of the proof; what is proved stands in the last text. -/
import Derived.Test.YtdfpmolkpkpboaaDoorVLB
set_option linter.unusedVariables false
set_option maxRecDepth 2000
namespace Go.Proofs
open Go.Vm
set_option linter.unusedSimpArgs false
theorem bl_extract (s : ByteArray) (a b : Nat) : bl (s.extract a b) = ((bl s).take b).drop a := by
 simp [bl, ByteArray.data_extract, Array.toList_extract, List.extract_eq_take_drop, List.drop_take]
def begins (s : ByteArray) (c : UInt8) : Bool := (bl s).head? == some c
theorem kHas (s : ByteArray) (c : UInt8) : PureAt Tryd.prog 39 [.val (.string s), .val (.string ⟨#[c]⟩)] (· = .val (.bool (begins s c))) := by
 refine pure_of r39 (by kernel_rfl) ?_
 unfold m39
 have e1 : ((#[c].size : Nat) : Int) = 1 := rfl
 have e2 : decide ((s.size : Int) ≥ 1) = decide (1 ≤ s.size) := by rw [decide_eq_decide]; omega
 simp only [e1, e2, go_sem, Nat.reduceEqDiff, Nat.reduceAdd, Nat.reduceLeDiff, List.length_map, Int.reduceLT, Int.reduceLE, Int.reduceToNat, Int.toNat_zero, Int.le_refl, Int.reduceAdd, decide_true, decide_false, Nat.reduceMul, Nat.reduceLT, Nat.lt_irrefl, true_and, and_self, ↓reduceIte]
 cases hd : decide (1 ≤ s.size) with
 | true =>
  have hd' : 1 ≤ s.size := by simpa using hd
  have e3 : ((1 : Int) ≤ (s.size : Int)) = True := by simp; omega
  have e4 : (s.extract 0 1).toList = [c] ↔ (bl s).head? = some c := by
   rw [ByteArray.toList_eq, ← bl, bl_extract]
   cases hb : bl s with
   | nil => have := size_bl s; rw [hb] at this; simp at this; omega
   | cons x r => simp
  simp only [e1, e2, e3, beq_self_eq_true, Int.toNat_one, go_sem, Nat.reduceEqDiff, Nat.reduceAdd, Nat.reduceLeDiff, List.length_map, Int.reduceLT, Int.reduceLE, Int.reduceToNat, Int.toNat_zero, Int.le_refl, Int.reduceAdd, decide_true, decide_false, Nat.reduceMul, Nat.reduceLT, Nat.lt_irrefl, true_and, and_self, ↓reduceIte]
  congr 2
  rw [Bool.eq_iff_iff, beq_iff_eq, begins, beq_iff_eq, ← e4, ByteArray.toList_eq ⟨#[c]⟩]
 | false =>
  have hb : begins s c = false := by
   have : bl s = [] := List.length_eq_zero_iff.1 (by rw [size_bl]; have := of_decide_eq_false hd; omega)
   simp [begins, this]
  simp only [hb, Bool.false_eq_true, go_sem, Nat.reduceEqDiff, Nat.reduceAdd, Nat.reduceLeDiff, List.length_map, Int.reduceLT, Int.reduceLE, Int.reduceToNat, Int.toNat_zero, Int.le_refl, Int.reduceAdd, decide_true, decide_false, Nat.reduceMul, Nat.reduceLT, Nat.lt_irrefl, true_and, and_self, ↓reduceIte]
theorem kHasPre (s : ByteArray) (c : UInt8) : PureAt Tryd.prog 24 [.val (.string s), .val (.string ⟨#[c]⟩)] (· = .val (.bool (begins s c))) := by
 refine pure_of r24 (by kernel_rfl) ?_
 unfold m24
 simp only [go_sem, Nat.reduceEqDiff, Nat.reduceAdd, Nat.reduceLeDiff, List.length_map, Int.reduceLT, Int.reduceLE, Int.reduceToNat, Int.toNat_zero, Int.le_refl, Int.reduceAdd, decide_true, decide_false, Nat.reduceMul, Nat.reduceLT, Nat.lt_irrefl, true_and, and_self, ↓reduceIte]
 refine callP_eq rfl rfl (kHas s c) ?_
 simp only [go_sem, Nat.reduceEqDiff, Nat.reduceAdd, Nat.reduceLeDiff, List.length_map, Int.reduceLT, Int.reduceLE, Int.reduceToNat, Int.toNat_zero, Int.le_refl, Int.reduceAdd, decide_true, decide_false, Nat.reduceMul, Nat.reduceLT, Nat.lt_irrefl, true_and, and_self, ↓reduceIte]
theorem kTrim (s : ByteArray) (c : UInt8) : PureAt Tryd.prog 41 [.val (.string s), .val (.string ⟨#[c]⟩)] (· = .val (.string (if begins s c then lb (bl s).tail else s))) := by
 refine pure_of r41 (by kernel_rfl) ?_
 unfold m41
 simp only [go_sem, Nat.reduceEqDiff, Nat.reduceAdd, Nat.reduceLeDiff, List.length_map, Int.reduceLT, Int.reduceLE, Int.reduceToNat, Int.toNat_zero, Int.le_refl, Int.reduceAdd, decide_true, decide_false, Nat.reduceMul, Nat.reduceLT, Nat.lt_irrefl, true_and, and_self, ↓reduceIte]
 refine callP_eq rfl rfl (kHas s c) ?_
 cases hb : begins s c with
 | true =>
  have hsz : 1 ≤ s.size := by
   rcases Nat.eq_zero_or_pos s.size with h | h
   ·have : bl s = [] := List.length_eq_zero_iff.1 (by rw [size_bl]; omega)
    simp [begins, this] at hb
   ·exact h
  have e1 : ((#[c].size : Nat) : Int) = 1 := rfl
  have e3 : ((1 : Int) ≤ (s.size : Int)) = True := by simp; omega
  have e4 : s.extract 1 s.size = lb (bl s).tail := by
   rw [← lb_bl (s.extract 1 s.size), bl_extract, List.take_of_length_le (by rw [size_bl]; omega), List.drop_one]
  simp only [e1, e3, e4, Int.toNat_one, go_sem, Nat.reduceEqDiff, Nat.reduceAdd, Nat.reduceLeDiff, List.length_map, Int.reduceLT, Int.reduceLE, Int.reduceToNat, Int.toNat_zero, Int.le_refl, Int.reduceAdd, decide_true, decide_false, Nat.reduceMul, Nat.reduceLT, Nat.lt_irrefl, true_and, and_self, ↓reduceIte]
 | false => simp only [go_sem, Nat.reduceEqDiff, Nat.reduceAdd, Nat.reduceLeDiff, List.length_map, Int.reduceLT, Int.reduceLE, Int.reduceToNat, Int.toNat_zero, Int.le_refl, Int.reduceAdd, decide_true, decide_false, Nat.reduceMul, Nat.reduceLT, Nat.lt_irrefl, true_and, and_self, ↓reduceIte]
theorem kTrimPre (s : ByteArray) (c : UInt8) : PureAt Tryd.prog 26 [.val (.string s), .val (.string ⟨#[c]⟩)] (· = .val (.string (if begins s c then lb (bl s).tail else s))) := by
 refine pure_of r26 (by kernel_rfl) ?_
 unfold m26
 simp only [go_sem, Nat.reduceEqDiff, Nat.reduceAdd, Nat.reduceLeDiff, List.length_map, Int.reduceLT, Int.reduceLE, Int.reduceToNat, Int.toNat_zero, Int.le_refl, Int.reduceAdd, decide_true, decide_false, Nat.reduceMul, Nat.reduceLT, Nat.lt_irrefl, true_and, and_self, ↓reduceIte]
 refine callP_eq rfl rfl (kTrim s c) ?_
 simp only [go_sem, Nat.reduceEqDiff, Nat.reduceAdd, Nat.reduceLeDiff, List.length_map, Int.reduceLT, Int.reduceLE, Int.reduceToNat, Int.toNat_zero, Int.le_refl, Int.reduceAdd, decide_true, decide_false, Nat.reduceMul, Nat.reduceLT, Nat.lt_irrefl, true_and, and_self, ↓reduceIte]
def hexI (c : UInt8) : Int := Lib.indexByte hexL c
def hexN (c : UInt8) : Nat := (hexI c).toNat
theorem hex_all : ∀ k : Fin 256, (hexI (UInt8.ofNat k.1) = -1 ∧ ∀ j : Fin 16, digB j.1 ≠ UInt8.ofNat k.1) ∨ (0 ≤ hexI (UInt8.ofNat k.1) ∧ hexI (UInt8.ofNat k.1) < 16 ∧ digB (hexI (UInt8.ofNat k.1)).toNat = UInt8.ofNat k.1 ∧ ∀ j : Fin 16, j.1 < (hexI (UInt8.ofNat k.1)).toNat → digB j.1 ≠ UInt8.ofNat k.1) := by decide +kernel
theorem hex_at (c : UInt8) : (hexI c = -1 ∧ ∀ j : Fin 16, digB j.1 ≠ c) ∨ (0 ≤ hexI c ∧ hexI c < 16 ∧ digB (hexI c).toNat = c ∧ ∀ j : Fin 16, j.1 < (hexI c).toNat → digB j.1 ≠ c) := by
 have := hex_all ⟨c.toNat, c.toNat_lt⟩
 simpa using this
theorem hexN_lt (c : UInt8) : hexN c < 16 := by
 unfold hexN
 rcases hex_at c with ⟨h, _⟩ | ⟨h, h', _⟩ <;> omega
theorem kHex (c : UInt8) : PureAt Tryd.prog 40 [.val (.int .u8 c.toNat)] (· = .tup [.val (.int .u8 (hexN c)), .val (.bool (decide (0 ≤ hexI c)))]) := by
 refine pure_of r40 (by kernel_rfl) ?_
 unfold m40
 simp only [go_sem, Nat.reduceEqDiff, Nat.reduceAdd, Nat.reduceLeDiff, List.length_map, Int.reduceLT, Int.reduceLE, Int.reduceToNat, Int.toNat_zero, Int.le_refl, Int.reduceAdd, decide_true, decide_false, Nat.reduceMul, Nat.reduceLT, Nat.lt_irrefl, true_and, and_self, ↓reduceIte]
 refine callP_eq rfl rfl (kIndexByte ⟨#[48, 49, 50, 51, 52, 53, 54, 55, 56, 57, 97, 98, 99, 100, 101, 102]⟩ c.toNat) ?_
 have e1 : (c.toNat : Int).toNat.toUInt8 = c := by simp
 have e2 : Lib.indexByte [48, 49, 50, 51, 52, 53, 54, 55, 56, 57, 97, 98, 99, 100, 101, 102] c = hexI c := rfl
 simp only [e1, e2, go_sem, Nat.reduceEqDiff, Nat.reduceAdd, Nat.reduceLeDiff, List.length_map, Int.reduceLT, Int.reduceLE, Int.reduceToNat, Int.toNat_zero, Int.le_refl, Int.reduceAdd, decide_true, decide_false, Nat.reduceMul, Nat.reduceLT, Nat.lt_irrefl, true_and, and_self, ↓reduceIte]
 have e3 : (if 0 > hexI c then 0 else hexI c) = (hexN c : Int) := by unfold hexN; split <;> omega
 rw [e3, wrapU8 (by omega) (by have := hexN_lt c; omega)]
end Go.Proofs

namespace Go.Proofs
open Go.Vm
set_option linter.unusedSimpArgs false
def tri (t : List UInt8) (n : Nat) (ok : Bool) : D := .tup [.val (.string (lb t)), .val (.int .i64 n), .val (.bool ok)]
def qv : List UInt8 → List UInt8 → Nat → (List UInt8 × Nat × Bool)
 | [], _, _ => ([], 0, false)
 | c :: r, out, i =>
  if c = 39 then (out, i + 1, decide (out.length ≤ 8))
  else if c = 92 then
   match r with
   | a :: b :: r' =>
    if 0 ≤ hexI a ∧ 0 ≤ hexI b ∧ plainB (UInt8.ofNat (16 * hexN a + hexN b)) = false then qv r' (out ++ [UInt8.ofNat (16 * hexN a + hexN b)]) (i + 3) else ([], 0, false)
   | _ => ([], 0, false)
  else if plainB c = true then qv r (out ++ [c]) (i + 1) else ([], 0, false)
theorem qv_end (r out : List UInt8) (i : Nat) : qv (39 :: r) out i = (out, i + 1, decide (out.length ≤ 8)) := by rw [qv.eq_def]; simp
theorem qv_esc (a b : UInt8) (r out : List UInt8) (i : Nat) : qv (92 :: a :: b :: r) out i = if 0 ≤ hexI a ∧ 0 ≤ hexI b ∧ plainB (UInt8.ofNat (16 * hexN a + hexN b)) = false then qv r (out ++ [UInt8.ofNat (16 * hexN a + hexN b)]) (i + 3) else ([], 0, false) := by
 rw [qv.eq_def]; simp
theorem qv_cut (r out : List UInt8) (i : Nat) (h : r.length < 2) : qv (92 :: r) out i = ([], 0, false) := by
 rw [qv.eq_def]
 match r, h with
 | [], _ => simp
 | [a], _ => simp
theorem qv_plain (c : UInt8) (r out : List UInt8) (i : Nat) (h1 : c ≠ 39) (h2 : c ≠ 92) : qv (c :: r) out i = if plainB c = true then qv r (out ++ [c]) (i + 1) else ([], 0, false) := by
 rw [qv.eq_def]; simp [h1, h2]
theorem oneB' {l : List UInt8} : ∀ e ∈ l.map u8B, e.length = 1 := by
 intro e he
 obtain ⟨x, _, rfl⟩ := List.mem_map.1 he; rfl
def triQ (q : List UInt8 × Nat × Bool) : D := tri q.1 q.2.1 q.2.2
def invQ (s : ByteArray) (R : List UInt8 × Nat × Bool) (S : St) (n : Nat) : Prop := ∃ (i : Nat) (out : List UInt8), 1 ≤ i ∧ i ≤ s.size + 1 ∧ out.length ≤ i ∧ n = s.size + 1 - i ∧ qv ((bl s).drop i) out i = R ∧
 S.trim [0, 5, 6] [] [(5, 5, 1)] = ⟨[(0, .val (.string s)), (5, .sl (some (5, 5, 1)) (out.map u8B)), (6, .val (.int .i64 i))], [], [((5, 5, 1), true)]⟩
theorem shl16 : ∀ k : Fin 16, ∀ j : Fin 16, IntKind.u8.wrap ((BitVec.ofInt 8 (IntKind.u8.wrap ((k.1 : Int) * 2 ^ 4)) ||| BitVec.ofInt 8 (j.1 : Int)).toNat : Int) = ((UInt8.ofNat (16 * k.1 + j.1)).toNat : Int) := by decide +kernel
theorem orB (a b : Nat) (ha : a < 16) (hb : b < 16) : binI .or .u8 (IntKind.u8.wrap ((a : Int) * 2 ^ min 4 8)) (b : Int) = some (.int .u8 ((UInt8.ofNat (16 * a + b)).toNat : Int)) :=
 congrArg (fun z => some (Value.int .u8 z)) (shl16 ⟨a, ha⟩ ⟨b, hb⟩)
set_option maxHeartbeats 4000000 in
theorem kQuoted (s : ByteArray) (hs : s.size ≤ 1000) : PureAt Tryd.prog 25 [.val (.string s)] (· = triQ (qv ((bl s).drop 1) [] 1)) := by
 refine pure_of r25 (by kernel_rfl) ?_
 unfold m25
 simp only [go_sem, Nat.reduceEqDiff, Nat.reduceAdd, Nat.reduceLeDiff, List.length_map, Int.reduceLT, Int.reduceLE, Int.reduceToNat, Int.toNat_zero, Int.le_refl, Int.reduceAdd, decide_true, decide_false, Nat.reduceMul, Nat.reduceLT, Nat.lt_irrefl, true_and, and_self, ↓reduceIte]
 refine ev_loop_by (invQ s (qv ((bl s).drop 1) [] 1)) s.size ⟨1, [], by omega, by omega, by simp, rfl, rfl, by simp only [go_sem, Nat.reduceEqDiff, Nat.reduceAdd, Nat.reduceLeDiff, List.length_map, Int.reduceLT, Int.reduceLE, Int.reduceToNat, Int.toNat_zero, Int.le_refl, Int.reduceAdd, decide_true, decide_false, Nat.reduceMul, Nat.reduceLT, Nat.lt_irrefl, true_and, and_self, ↓reduceIte]; rfl⟩ ?_
 rintro n S ⟨i, out, h1, h2, h3, hn, hR, hS⟩
 rw [ev_trim, hS]
 subst hn
 clear hS S
 simp only [go_sem, Nat.reduceEqDiff, Nat.reduceAdd, Nat.reduceLeDiff, List.length_map, Int.reduceLT, Int.reduceLE, Int.reduceToNat, Int.toNat_zero, Int.le_refl, Int.reduceAdd, decide_true, decide_false, Nat.reduceMul, Nat.reduceLT, Nat.lt_irrefl, true_and, and_self, ↓reduceIte]
 refine condE_split (fun h => ?_) (fun h => ?_)
 ·have hi' : i < s.size := by simpa using h
  have hget : ∀ j (hj : j < (bl s).length), s.data[j]? = some ((bl s)[j]) := fun j hj => by
   have : s.data.toList[j]? = some ((bl s)[j]) := List.getElem?_eq_getElem hj
   rwa [Array.getElem?_toList] at this
  have hil2 : i < (bl s).length := by rw [size_bl]; exact hi'
  have hg0 := hget i hil2
  rw [List.drop_eq_getElem_cons hil2] at hR
  have d39 : (((bl s)[i].toNat : Int) == 39) = decide ((bl s)[i] = 39) := by
   rw [Bool.eq_iff_iff, beq_iff_eq, decide_eq_true_eq, ← UInt8.toNat_inj]; exact ⟨fun h => by have := Int.ofNat.inj h; exact this, fun h => by rw [h]; rfl⟩
  have d92 : (((bl s)[i].toNat : Int) == 92) = decide ((bl s)[i] = 92) := by
   rw [Bool.eq_iff_iff, beq_iff_eq, decide_eq_true_eq, ← UInt8.toNat_inj]; exact ⟨fun h => by have := Int.ofNat.inj h; exact this, fun h => by rw [h]; rfl⟩
  have hp92 : plainB 92 = false := by decide
  generalize hc : (bl s)[i] = c at *
  have up1 : IntKind.i64.wrap ((i : Int) + 1) = ((i + 1 : Nat) : Int) := up64 (by omega)
  have up2 : IntKind.i64.wrap ((i : Int) + 2) = ((i + 2 : Nat) : Int) := by rw [wrap64 (by omega) (by omega)]; rfl
  have up3 : IntKind.i64.wrap (((i + 2 : Nat) : Int) + 1) = ((i + 3 : Nat) : Int) := by rw [wrap64 (by omega) (by omega)]; rfl
  simp only [nn0, Int.toNat_natCast, hg0, d39, go_sem, Nat.reduceEqDiff, Nat.reduceAdd, Nat.reduceLeDiff, List.length_map, Int.reduceLT, Int.reduceLE, Int.reduceToNat, Int.toNat_zero, Int.le_refl, Int.reduceAdd, decide_true, decide_false, Nat.reduceMul, Nat.reduceLT, Nat.lt_irrefl, true_and, and_self, ↓reduceIte]
  by_cases c39 : c = 39
  ·simp only [c39, up1, bytes_B, go_sem, Nat.reduceEqDiff, Nat.reduceAdd, Nat.reduceLeDiff, List.length_map, Int.reduceLT, Int.reduceLE, Int.reduceToNat, Int.toNat_zero, Int.le_refl, Int.reduceAdd, decide_true, decide_false, Nat.reduceMul, Nat.reduceLT, Nat.lt_irrefl, true_and, and_self, ↓reduceIte]
   rw [← hR, c39, qv_end]
   simp [triQ, tri, lb]
   omega
  have c39' : decide (c = 39) = false := by simp [c39]
  simp only [c39', d92, go_sem, Nat.reduceEqDiff, Nat.reduceAdd, Nat.reduceLeDiff, List.length_map, Int.reduceLT, Int.reduceLE, Int.reduceToNat, Int.toNat_zero, Int.le_refl, Int.reduceAdd, decide_true, decide_false, Nat.reduceMul, Nat.reduceLT, Nat.lt_irrefl, true_and, and_self, ↓reduceIte]
  have lt2 : decide (((i + 2 : Nat) : Int) < (s.size : Int)) = decide (i + 2 < s.size) := by rw [decide_eq_decide]; omega
  have dflt : ¬ (c = 92 ∧ i + 2 < s.size) → qv (c :: (bl s).drop (i + 1)) out i = if plainB c = true then qv ((bl s).drop (i + 1)) (out ++ [c]) (i + 1) else ([], 0, false) := fun hn => by
   by_cases c92 : c = 92
   ·have hlen : ((bl s).drop (i + 1)).length < 2 := by
      have : ¬ i + 2 < s.size := fun h => hn ⟨c92, h⟩
      rw [List.length_drop, size_bl]; omega
    rw [c92, qv_cut _ _ _ hlen, hp92]; rfl
   ·exact qv_plain _ _ _ _ c39 c92
  by_cases c92 : c = 92
  ·subst c92
   by_cases hl2 : i + 2 < s.size
   ·have hla : i + 1 < (bl s).length := by rw [size_bl]; omega
    have hlb : i + 2 < (bl s).length := by rw [size_bl]; omega
    have hg1 := hget _ hla
    have hg2 := hget _ hlb
    rw [List.drop_eq_getElem_cons hla, List.drop_eq_getElem_cons hlb] at hR
    generalize (bl s)[i + 1] = a at *
    generalize (bl s)[i + 2] = b at *
    have hl2' : decide (i + 2 < s.size) = true := by simp [hl2]
    simp only [up2, lt2, hl2', up1, nn0, Int.toNat_natCast, hg1, go_sem, Nat.reduceEqDiff, Nat.reduceAdd, Nat.reduceLeDiff, List.length_map, Int.reduceLT, Int.reduceLE, Int.reduceToNat, Int.toNat_zero, Int.le_refl, Int.reduceAdd, decide_true, decide_false, Nat.reduceMul, Nat.reduceLT, Nat.lt_irrefl, true_and, and_self, ↓reduceIte]
    refine callP_eq rfl rfl (kHex a) ?_
    simp only [up2, nn0, Int.toNat_natCast, hg2, go_sem, Nat.reduceEqDiff, Nat.reduceAdd, Nat.reduceLeDiff, List.length_map, Int.reduceLT, Int.reduceLE, Int.reduceToNat, Int.toNat_zero, Int.le_refl, Int.reduceAdd, decide_true, decide_false, Nat.reduceMul, Nat.reduceLT, Nat.lt_irrefl, true_and, and_self, ↓reduceIte]
    refine callP_eq rfl rfl (kHex b) ?_
    simp only [↓orB _ _ (hexN_lt a) (hexN_lt b), go_sem, Nat.reduceEqDiff, Nat.reduceAdd, Nat.reduceLeDiff, List.length_map, Int.reduceLT, Int.reduceLE, Int.reduceToNat, Int.toNat_zero, Int.le_refl, Int.reduceAdd, decide_true, decide_false, Nat.reduceMul, Nat.reduceLT, Nat.lt_irrefl, true_and, and_self, ↓reduceIte]
    rw [qv_esc] at hR
    have hfail : ¬ (0 ≤ hexI a ∧ 0 ≤ hexI b ∧ plainB (UInt8.ofNat (16 * hexN a + hexN b)) = false) → triQ (qv ((bl s).drop 1) [] 1) = .tup [.val (.string ⟨#[]⟩), .val (.int .i64 0), .val (.bool false)] := fun h => by
     rw [if_neg h] at hR; rw [← hR]; rfl
    cases ha : decide (0 ≤ hexI a) with
    | false =>
     simp only [Bool.not_false, go_sem, Nat.reduceEqDiff, Nat.reduceAdd, Nat.reduceLeDiff, List.length_map, Int.reduceLT, Int.reduceLE, Int.reduceToNat, Int.toNat_zero, Int.le_refl, Int.reduceAdd, decide_true, decide_false, Nat.reduceMul, Nat.reduceLT, Nat.lt_irrefl, true_and, and_self, ↓reduceIte]
     exact (hfail (fun h => by simp [h.1] at ha)).symm
    | true =>
     cases hb : decide (0 ≤ hexI b) with
     | false =>
      simp only [Bool.not_true, Bool.not_false, go_sem, Nat.reduceEqDiff, Nat.reduceAdd, Nat.reduceLeDiff, List.length_map, Int.reduceLT, Int.reduceLE, Int.reduceToNat, Int.toNat_zero, Int.le_refl, Int.reduceAdd, decide_true, decide_false, Nat.reduceMul, Nat.reduceLT, Nat.lt_irrefl, true_and, and_self, ↓reduceIte]
      exact (hfail (fun h => by simp [h.2.1] at hb)).symm
     | true =>
      have ha' := of_decide_eq_true ha
      have hb' := of_decide_eq_true hb
      simp only [Bool.not_true, go_sem, Nat.reduceEqDiff, Nat.reduceAdd, Nat.reduceLeDiff, List.length_map, Int.reduceLT, Int.reduceLE, Int.reduceToNat, Int.toNat_zero, Int.le_refl, Int.reduceAdd, decide_true, decide_false, Nat.reduceMul, Nat.reduceLT, Nat.lt_irrefl, true_and, and_self, ↓reduceIte]
      refine callP_eq rfl rfl (kPlain _) ?_
      cases hp : plainB (UInt8.ofNat (16 * hexN a + hexN b)) with
      | true =>
       simp only [go_sem, Nat.reduceEqDiff, Nat.reduceAdd, Nat.reduceLeDiff, List.length_map, Int.reduceLT, Int.reduceLE, Int.reduceToNat, Int.toNat_zero, Int.le_refl, Int.reduceAdd, decide_true, decide_false, Nat.reduceMul, Nat.reduceLT, Nat.lt_irrefl, true_and, and_self, ↓reduceIte]
       exact (hfail (fun h => by rw [hp] at h; exact absurd h.2.2 (by simp))).symm
      | false =>
       rw [if_pos ⟨ha', hb', hp⟩] at hR
       simp only [up2, up3, go_sem, Nat.reduceEqDiff, Nat.reduceAdd, Nat.reduceLeDiff, List.length_map, Int.reduceLT, Int.reduceLE, Int.reduceToNat, Int.toNat_zero, Int.le_refl, Int.reduceAdd, decide_true, decide_false, Nat.reduceMul, Nat.reduceLT, Nat.lt_irrefl, true_and, and_self, ↓reduceIte]
       refine ⟨oneB', oneC, by omega, by omega, s.size + 1 - (i + 3), by omega, i + 3, out ++ [UInt8.ofNat (16 * hexN a + hexN b)], by omega, by omega, by simp; omega, rfl, hR, ?_⟩
       simp only [go_sem, Nat.reduceEqDiff, Nat.reduceAdd, Nat.reduceLeDiff, List.length_map, Int.reduceLT, Int.reduceLE, Int.reduceToNat, Int.toNat_zero, Int.le_refl, Int.reduceAdd, decide_true, decide_false, Nat.reduceMul, Nat.reduceLT, Nat.lt_irrefl, true_and, and_self, ↓reduceIte]
       simp [u8B]
   ·have hl2' : decide (i + 2 < s.size) = false := by simp [hl2]
    rw [dflt (by omega)] at hR
    simp only [up2, lt2, hl2', go_sem, Nat.reduceEqDiff, Nat.reduceAdd, Nat.reduceLeDiff, List.length_map, Int.reduceLT, Int.reduceLE, Int.reduceToNat, Int.toNat_zero, Int.le_refl, Int.reduceAdd, decide_true, decide_false, Nat.reduceMul, Nat.reduceLT, Nat.lt_irrefl, true_and, and_self, ↓reduceIte]
    refine callP_eq rfl rfl (kPlain 92) ?_
    simp only [hp92, go_sem, Nat.reduceEqDiff, Nat.reduceAdd, Nat.reduceLeDiff, List.length_map, Int.reduceLT, Int.reduceLE, Int.reduceToNat, Int.toNat_zero, Int.le_refl, Int.reduceAdd, decide_true, decide_false, Nat.reduceMul, Nat.reduceLT, Nat.lt_irrefl, true_and, and_self, ↓reduceIte]
    rw [hp92] at hR
    rw [← hR]; rfl
  ·have c92' : decide (c = 92) = false := by simp [c92]
   rw [dflt (fun h => c92 h.1)] at hR
   simp only [c92', go_sem, Nat.reduceEqDiff, Nat.reduceAdd, Nat.reduceLeDiff, List.length_map, Int.reduceLT, Int.reduceLE, Int.reduceToNat, Int.toNat_zero, Int.le_refl, Int.reduceAdd, decide_true, decide_false, Nat.reduceMul, Nat.reduceLT, Nat.lt_irrefl, true_and, and_self, ↓reduceIte]
   refine callP_eq rfl rfl (kPlain c) ?_
   cases hp : plainB c with
   | true =>
    rw [hp] at hR
    simp only [up1, go_sem, Nat.reduceEqDiff, Nat.reduceAdd, Nat.reduceLeDiff, List.length_map, Int.reduceLT, Int.reduceLE, Int.reduceToNat, Int.toNat_zero, Int.le_refl, Int.reduceAdd, decide_true, decide_false, Nat.reduceMul, Nat.reduceLT, Nat.lt_irrefl, true_and, and_self, ↓reduceIte]
    refine ⟨oneB', oneC, by omega, by omega, s.size + 1 - (i + 1), by omega, i + 1, out ++ [c], by omega, by omega, by simp; omega, rfl, ?_, ?_⟩
    ·simpa using hR
    ·simp only [go_sem, Nat.reduceEqDiff, Nat.reduceAdd, Nat.reduceLeDiff, List.length_map, Int.reduceLT, Int.reduceLE, Int.reduceToNat, Int.toNat_zero, Int.le_refl, Int.reduceAdd, decide_true, decide_false, Nat.reduceMul, Nat.reduceLT, Nat.lt_irrefl, true_and, and_self, ↓reduceIte]; simp [u8B]
   | false =>
    rw [hp] at hR
    simp only [go_sem, Nat.reduceEqDiff, Nat.reduceAdd, Nat.reduceLeDiff, List.length_map, Int.reduceLT, Int.reduceLE, Int.reduceToNat, Int.toNat_zero, Int.le_refl, Int.reduceAdd, decide_true, decide_false, Nat.reduceMul, Nat.reduceLT, Nat.lt_irrefl, true_and, and_self, ↓reduceIte]
    rw [← hR]; rfl
 ·have hil' : s.size ≤ i := by simp at h; omega
  rw [List.drop_of_length_le (by rw [size_bl]; omega)] at hR
  simp only [go_sem, Nat.reduceEqDiff, Nat.reduceAdd, Nat.reduceLeDiff, List.length_map, Int.reduceLT, Int.reduceLE, Int.reduceToNat, Int.toNat_zero, Int.le_refl, Int.reduceAdd, decide_true, decide_false, Nat.reduceMul, Nat.reduceLT, Nat.lt_irrefl, true_and, and_self, ↓reduceIte]
  rw [← hR]; rfl
end Go.Proofs

namespace Go.Proofs
open Go.Vm
set_option linter.unusedSimpArgs false
theorem dg_eq (a c : UInt8) : ((a.toNat : Int) == (c.toNat : Int)) = decide (a = c) := by
 rw [Bool.eq_iff_iff, beq_iff_eq, decide_eq_true_eq, ← UInt8.toNat_inj]; exact ⟨fun h => Int.ofNat.inj h, fun h => by rw [h]⟩
end Go.Proofs
