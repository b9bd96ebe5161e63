/- A part of the proof; what is proved stands in the last text. -/
import Derived.Test.YtijhiblfdidnpaaGreatWJ
set_option linter.unusedVariables false
set_option maxRecDepth 2000
namespace Go.Proofs
open Go.Vm
set_option linter.unusedSimpArgs false
def rg2 (s : Rd2) : Rg × Rd2 := ((unfoldN (uint2 s).1, unfoldN (uint2 (uint2 s).2).1), (uint2 (uint2 s).2).2)
def rgs2 (s : Rd2) : Nat → List Rg × Rd2
 | 0 => ([], s)
 | k + 1 => ((rgs2 s k).1 ++ [(rg2 (rgs2 s k).2).1], (rg2 (rgs2 s k).2).2)
def strs2 (s : Rd2) : Nat → List ByteArray × Rd2
 | 0 => ([], s)
 | k + 1 => ((strs2 s k).1 ++ [lb (str2 8 (strs2 s k).2).1], (str2 8 (strs2 s k).2).2)
def n2 (s : Rd2) : Nat × Rd2 := uint2 (byte2 s).2
def is2 (s : Rd2) : List Rg × Rd2 := rgs2 (n2 s).2 (n2 s).1
def m2 (s : Rd2) : Nat × Rd2 := uint2 (is2 s).2
def ss2 (s : Rd2) : List ByteArray × Rd2 := strs2 (m2 s).2 (m2 s).1
def fA (s : Rd2) : Bool := decide ((byte2 s).1 % 2 = 1)
def fC (s : Rd2) : Bool := decide ((byte2 s).1 / 2 = 1)
def take2 (s : Rd2) : SetM × Bool × Rd2 :=
 if 3 < (byte2 s).1 ∨ 6 < (n2 s).1 then (⟨fA s, [], fC s, []⟩, false, (n2 s).2)
 else if 6 < (m2 s).1 then (⟨fA s, (is2 s).1, fC s, []⟩, false, (m2 s).2)
 else (⟨fA s, (is2 s).1, fC s, (ss2 s).1⟩, decide ((ss2 s).2.2.2 = 0), (ss2 s).2)
theorem rg2_in {s : Rd2} (h : In2 s) : In2 (rg2 s).2 := uint2_in (uint2_in h)
theorem rgs2_in {s : Rd2} (h : In2 s) : ∀ k, In2 (rgs2 s k).2
 | 0 => h
 | k + 1 => by
  have := rg2_in (rgs2_in h k)
  exact this
theorem strs2_in {s : Rd2} (h : In2 s) : ∀ k, In2 (strs2 s k).2
 | 0 => h
 | k + 1 => by
  have := str2_in (most := 8) (strs2_in h k)
  exact this
theorem n2_in {s : Rd2} (h : In2 s) : In2 (n2 s).2 := uint2_in (byte2_in h)
theorem is2_in {s : Rd2} (h : In2 s) : In2 (is2 s).2 := rgs2_in (n2_in h) _
theorem m2_in {s : Rd2} (h : In2 s) : In2 (m2 s).2 := uint2_in (is2_in h)
theorem ss2_in {s : Rd2} (h : In2 s) : In2 (ss2 s).2 := strs2_in (m2_in h) _
theorem take2_in {s : Rd2} (h : In2 s) : In2 (take2 s).2.2 := by
 unfold take2
 split
 ·exact n2_in h
 ·split
  ·exact m2_in h
  ·exact ss2_in h
theorem rgs2_n (s : Rd2) : ∀ k, (rgs2 s k).1.length = k
 | 0 => rfl
 | k + 1 => by simp [rgs2, rgs2_n s k]
theorem strs2_n (s : Rd2) : ∀ k, (strs2 s k).1.length = k
 | 0 => rfl
 | k + 1 => by simp [strs2, strs2_n s k]
@[go_sem] theorem one_nilV : (Value.slice none 0 0).oneCell' = true := (rfl)
set_option maxHeartbeats 8000000 in
theorem kTake8 (s : Rd2) (h : In2 s) : Rd2At 76 [] s (.tup [.agg (setC (take2 s).1), .val (.bool (take2 s).2.1)]) (take2 s).2.2 := by
 have hb := byte2_lt s
 have hT : take2 s = if 3 < (byte2 s).1 ∨ 6 < (n2 s).1 then (⟨fA s, [], fC s, []⟩, false, (n2 s).2) else if 6 < (m2 s).1 then (⟨fA s, (is2 s).1, fC s, []⟩, false, (m2 s).2) else (⟨fA s, (is2 s).1, fC s, (ss2 s).1⟩, decide ((ss2 s).2.2.2 = 0), (ss2 s).2) := rfl
 generalize take2 s = T at *
 refine obj_of [1000000] [] r76 (by kernel_rfl) ?_
 unfold m76
 simp only [go_sem, Nat.reduceEqDiff, decide_false, ↓reduceIte]
 refine callO_eq rfl rfl rfl rfl rfl (kr2Byte s h) ?_
 have z2 : ((2 : Int) = 0) = False := by simp
 have e1 : (((byte2 s).1 : Int).tmod 2) = (((byte2 s).1 % 2 : Nat) : Int) := by rw [Int.tmod_eq_emod_of_nonneg (by omega)]; omega
 have e2 : (((byte2 s).1 : Int).tdiv 2) = (((byte2 s).1 / 2 : Nat) : Int) := by rw [Int.tdiv_eq_ediv_of_nonneg (by omega)]; omega
 have w1 : IntKind.u8.wrap (((byte2 s).1 / 2 : Nat) : Int) = (((byte2 s).1 / 2 : Nat) : Int) := wrap_u8 (by omega) (by omega)
 have q1 : ((((byte2 s).1 % 2 : Nat) : Int) == 1) = fA s := by unfold fA; rw [Bool.eq_iff_iff]; simp; omega
 have q2 : ((((byte2 s).1 / 2 : Nat) : Int) == 1) = fC s := by unfold fC; rw [Bool.eq_iff_iff]; simp; omega
 simp only [z2, e1, e2, w1, q1, q2, go_sem, Nat.reduceEqDiff, Nat.reduceAdd, Nat.reduceLeDiff, decide_true, decide_false, Nat.reduceLT, true_and, and_self, ↓reduceIte]
 refine callO_eq rfl rfl rfl rfl rfl (kr2Uint (byte2 s).2 (byte2_in h)) ?_
 have hn : uint2 (byte2 s).2 = n2 s := rfl
 rw [hn]
 have g3 : decide (((byte2 s).1 : Int) > 3) = decide (3 < (byte2 s).1) := by rw [decide_eq_decide]; omega
 have g6 : decide (((n2 s).1 : Int) > 6) = decide (6 < (n2 s).1) := by rw [decide_eq_decide]; omega
 simp only [g3, go_sem, Nat.reduceEqDiff, decide_true, decide_false, true_and, and_self, ↓reduceIte]
 cases c3 : decide (3 < (byte2 s).1)
 rotate_left
 ·rw [if_pos (.inl (of_decide_eq_true c3))] at hT
  simp only [hT, setC, finO, go_sem, Nat.reduceEqDiff, Nat.reduceAdd, Nat.reduceLeDiff, true_and, and_self, ↓reduceIte]
  exact rfl
 simp only [g6, go_sem, Nat.reduceEqDiff, true_and, and_self, ↓reduceIte]
 cases c6 : decide (6 < (n2 s).1)
 rotate_left
 ·rw [if_pos (.inr (of_decide_eq_true c6))] at hT
  simp only [hT, setC, finO, go_sem, Nat.reduceEqDiff, Nat.reduceAdd, Nat.reduceLeDiff, true_and, and_self, ↓reduceIte]
  exact rfl
 have n3 := of_decide_eq_false c3
 have n6 := of_decide_eq_false c6
 rw [if_neg (by rintro (h | h)
                ·exact n3 h
                ·exact n6 h)] at hT
 simp only [go_sem, Nat.reduceEqDiff, true_and, and_self, ↓reduceIte]
 refine loop_N (n2 s).1 (fun _ => True) (fun i => ⟨[(0, .ptr 1000000 0), (2, .ptr 2 0), (5, .ptr 5 0), (6, .val (.int .u64 (n2 s).1)), (7, .val (.int .u64 i))],
  [(2, [.val (.bool false), .sl none [], .val (.bool false), .sl none []]), (5, setO (5, 128, 2) (5, 9, 1) ⟨fA s, (rgs2 (n2 s).2 i).1, fC s, []⟩), (1000000, rd2C (rgs2 (n2 s).2 i).2)], [((5, 128, 2), true), ((5, 9, 1), true)]⟩) trivial (by simp only [go_sem, Nat.reduceEqDiff]; rfl) ?_
 rintro i hi -
 have lq := rgs2_n (n2 s).2 i
 have li := rgs2_in (n2_in h) i
 have hR : is2 s = rgs2 (n2 s).2 (n2 s).1 := rfl
 have hS : rgs2 (n2 s).2 (i + 1) = ((rgs2 (n2 s).2 i).1 ++ [(rg2 (rgs2 (n2 s).2 i).2).1], (rg2 (rgs2 (n2 s).2 i).2).2) := rfl
 have ci : decide ((i : Int) < ((n2 s).1 : Int)) = decide (i < (n2 s).1) := by rw [decide_eq_decide]; omega
 simp only [ci, go_sem, Nat.reduceEqDiff, true_and, and_self, ↓reduceIte]
 cases d4 : decide (i < (n2 s).1)
 ·have : i = (n2 s).1 := by have := of_decide_eq_false d4; omega
  subst this
  rw [← hR]
  simp only [setO, go_sem, Nat.reduceEqDiff, true_and, and_self, ↓reduceIte]
  refine callO_eq rfl rfl rfl rfl rfl (kr2Uint (is2 s).2 (is2_in h)) ?_
  have hm : uint2 (is2 s).2 = m2 s := rfl
  rw [hm]
  have g7 : decide (((m2 s).1 : Int) > 6) = decide (6 < (m2 s).1) := by rw [decide_eq_decide]; omega
  simp only [g7, go_sem, Nat.reduceEqDiff, decide_true, decide_false, true_and, and_self, ↓reduceIte]
  cases c7 : decide (6 < (m2 s).1)
  rotate_left
  ·rw [if_pos (of_decide_eq_true c7)] at hT
   simp only [hT, setC, finO, go_sem, Nat.reduceEqDiff, Nat.reduceAdd, Nat.reduceLeDiff, true_and, and_self, ↓reduceIte]
   exact rfl
  have n7 := of_decide_eq_false c7
  rw [if_neg n7] at hT
  simp only [go_sem, Nat.reduceEqDiff, true_and, and_self, ↓reduceIte]
  refine loop_N (m2 s).1 (fun _ => True) (fun i => ⟨[(0, .ptr 1000000 0), (2, .ptr 2 0), (5, .ptr 5 0), (9, .val (.int .u64 (m2 s).1)), (10, .val (.int .u64 i))],
   [(2, [.val (.bool false), .sl none [], .val (.bool false), .sl none []]), (5, setO (5, 128, 2) (5, 9, 1) ⟨fA s, (is2 s).1, fC s, (strs2 (m2 s).2 i).1⟩), (1000000, rd2C (strs2 (m2 s).2 i).2)], [((5, 128, 2), true), ((5, 9, 1), true)]⟩) trivial (by simp only [go_sem, Nat.reduceEqDiff]; rfl) ?_
  rintro i hi -
  have lq := strs2_n (m2 s).2 i
  have li := strs2_in (m2_in h) i
  have hR : ss2 s = strs2 (m2 s).2 (m2 s).1 := rfl
  have hS : strs2 (m2 s).2 (i + 1) = ((strs2 (m2 s).2 i).1 ++ [lb (str2 8 (strs2 (m2 s).2 i).2).1], (str2 8 (strs2 (m2 s).2 i).2).2) := rfl
  have ci : decide ((i : Int) < ((m2 s).1 : Int)) = decide (i < (m2 s).1) := by rw [decide_eq_decide]; omega
  simp only [ci, go_sem, Nat.reduceEqDiff, true_and, and_self, ↓reduceIte]
  cases d5 : decide (i < (m2 s).1)
  ·have : i = (m2 s).1 := by have := of_decide_eq_false d5; omega
   subst this
   rw [← hR]
   have e0 : decide ((ss2 s).2.2.2 = 0) = ((ss2 s).2.2.2 == 0) := by rw [Bool.eq_iff_iff]; simp
   rw [e0] at hT
   simp only [setO, rd2C, hT, setC, finO, go_sem, Nat.reduceEqDiff, Nat.reduceAdd, Nat.reduceLeDiff, decide_true, decide_false, true_and, and_self, ↓reduceIte]
   repeat' apply And.intro
   all_goals rfl
  ·have lt := of_decide_eq_true d5
   generalize hq : strs2 (m2 s).2 i = q at *
   simp only [setO, go_sem, Nat.reduceEqDiff, Nat.reduceAdd, decide_true, decide_false, true_and, and_self, ↓reduceIte]
   have w5 : IntKind.u64.wrap ((i : Int) + 1) = ((i + 1 : Nat) : Int) := by rw [wrap_u64 (by omega) (by omega)]; omega
   repeat' (first | (refine callO_eq rfl rfl rfl rfl rfl (kr2Str 8 (by omega) q.2 li) ?_; simp only [go_sem, Nat.reduceEqDiff, Nat.reduceAdd, Nat.reduceLeDiff, List.length_map, decide_true, decide_false, true_and, and_self, ↓reduceIte]) | apply And.intro)
   all_goals first
    | (intro e he; obtain ⟨r, -, rfl⟩ := List.mem_map.1 he; rfl)
    | (rintro _ rfl; rfl)
    | omega
    | (refine invN_next (by omega) trivial ?_
       simp only [hS, w5, List.map_append, List.map_cons, List.map_nil, go_sem, Nat.reduceEqDiff, true_and, and_self, ↓reduceIte]
       rfl)
 ·have lt := of_decide_eq_true d4
  generalize hq : rgs2 (n2 s).2 i = q at *
  simp only [go_sem, Nat.reduceEqDiff, true_and, and_self, ↓reduceIte]
  refine callO_eq rfl rfl rfl rfl rfl (kr2Int q.2 li) ?_
  simp only [setO, go_sem, Nat.reduceEqDiff, Nat.reduceAdd, decide_true, decide_false, true_and, and_self, ↓reduceIte]
  have w5 : IntKind.u64.wrap ((i : Int) + 1) = ((i + 1 : Nat) : Int) := by rw [wrap_u64 (by omega) (by omega)]; omega
  repeat' (first | (refine callO_eq rfl rfl rfl rfl rfl (kr2Int (uint2 q.2).2 (uint2_in li)) ?_; simp only [go_sem, Nat.reduceEqDiff, Nat.reduceAdd, Nat.reduceLeDiff, List.length_map, decide_true, decide_false, true_and, and_self, ↓reduceIte]) | apply And.intro)
  all_goals first
   | (intro e he; obtain ⟨r, -, rfl⟩ := List.mem_map.1 he; rfl)
   | (rintro _ rfl; rfl)
   | omega
   | (refine invN_next (by omega) trivial ?_
      simp only [hS, w5, List.map_append, List.map_cons, List.map_nil, go_sem, Nat.reduceEqDiff, true_and, and_self, ↓reduceIte]
      rfl)
end Go.Proofs
