/- A part of the proof; what is proved stands in the last text. -/
import Derived.Test.YtijhiblfdidnpaaGreatFC
set_option linter.unusedVariables false
set_option maxRecDepth 2000
namespace Go.Proofs
open Go.Vm
set_option linter.unusedSimpArgs false
def numR (s : Rdr) : Nat × Rdr := countR 1099511627776 s
theorem knumber (s : Rdr) : RdAt 31 [] s (.val (.int .i64 (numR s).1)) (numR s).2 := by
 refine obj_of [1000000] [] r31 (by kernel_rfl) ?_
 unfold m31
 simp only [go_sem, Nat.reduceEqDiff]
 refine callO_eq rfl rfl rfl rfl rfl (krUint s) ?_
 have hlt := uintR_lt s
 unfold numR countR
 generalize uintR s = u at *
 have c0 : decide ((u.1 : Int) > 1099511627776) = decide (1099511627776 < u.1) := by rw [decide_eq_decide]; omega
 simp only [c0, go_sem, Nat.reduceEqDiff]
 cases hc : decide (1099511627776 < u.1)
 ·have hn := of_decide_eq_false hc
  rw [if_neg hn]
  have w1 : IntKind.i64.wrap (u.1 : Int) = (u.1 : Int) := wrap64 (by omega) (by omega)
  simp only [w1, finO, go_sem, Nat.reduceEqDiff]
  exact rfl
 ·have hn := of_decide_eq_true hc
  rw [if_pos hn]
  simp only [go_sem, Nat.reduceEqDiff]
  refine callO_eq rfl rfl rfl rfl rfl (krFail u.2 2) ?_
  simp only [finO, go_sem]
  exact ⟨rfl, rfl⟩
theorem encB_pos (n : Nat) : 0 < (encB n).length := by
 unfold encB encN
 simp
theorem uint_short {s : Rdr} (h : (uintR s).2.2 = 0) : s.2 = 0 ∧ (uintR s).2.1.length < s.1.length := by
 obtain ⟨h1, h2⟩ := uint_forth h
 refine ⟨h1, ?_⟩
 have h3 := congrArg List.length h2
 have h4 := encB_pos (uintR s).1
 rw [List.length_append] at h3
 omega
theorem num_le (s : Rdr) : (numR s).1 ≤ 1099511627776 := countR_le _ s
theorem num_len (s : Rdr) : (numR s).2.1.length ≤ s.1.length := countR_len _ s
theorem num_ok {s : Rdr} (h : (numR s).2.2 = 0) : numR s = uintR s := by
 unfold numR countR at *
 split at h
 ·exact absurd h (failR_ne _ _ (by decide))
 ·rename_i h1; rw [if_neg h1]
theorem num_short {s : Rdr} (h : (numR s).2.2 = 0) : s.2 = 0 ∧ (numR s).2.1.length < s.1.length := by
 have h1 := num_ok h
 rw [h1] at h ⊢
 exact uint_short h
theorem uint_err {s : Rdr} (h : s.2 ≠ 0) : uintR s = (0, s) := by unfold uintR; rw [if_neg h]
theorem num_err {s : Rdr} (h : s.2 ≠ 0) : numR s = (0, s) := by unfold numR countR; rw [uint_err h]; simp
def entR (s : Rdr) : EntM × Rdr := (⟨(numR s).1, (takeFX (uintR (numR s).2).2).1, (uintR (numR s).2).1⟩, (takeFX (uintR (numR s).2).2).2)
def rdEs : Nat → Rdr → List EntM × Rdr
 | 0, s => ([], s)
 | k + 1, s => if s.2 = 0 then ((entR s).1 :: (rdEs k (entR s).2).1, (rdEs k (entR s).2).2) else ([], s)
def rdNs : Nat → Rdr → List Int × Rdr
 | 0, s => ([], s)
 | k + 1, s => if s.2 = 0 then (((numR s).1 : Int) :: (rdNs k (numR s).2).1, (rdNs k (numR s).2).2) else ([], s)
def esR (s : Rdr) : List EntM × Rdr := rdEs (numR s).1 (numR s).2
def nsR (s : Rdr) : List Int × Rdr := rdNs (numR s).1 (numR s).2
theorem ent_len (s : Rdr) : (entR s).2.1.length ≤ s.1.length :=
 Nat.le_trans (takeFX_len _) (Nat.le_trans (uintR_len _) (num_len s))
end Go.Proofs

namespace Go.Proofs
open Go.Vm
set_option linter.unusedSimpArgs false
theorem take_err {s : Rdr} (h : (takeFX s).2.2 = 0) : s.2 = 0 ∧ (takeFX s).2.1.length ≤ s.1.length := ⟨(filter_forth h).1, takeFX_len s⟩
theorem ent_short {s : Rdr} (h : (entR s).2.2 = 0) : (entR s).2.1.length < s.1.length := by
 obtain ⟨h1, h2⟩ := take_err (s := (uintR (numR s).2).2) h
 obtain ⟨h3, h4⟩ := uint_short h1
 have := num_len s
 exact Nat.lt_of_le_of_lt h2 (Nat.lt_of_lt_of_le h4 this)
theorem rdEs_len : ∀ (k : Nat) (s : Rdr), (rdEs k s).2.1.length ≤ s.1.length
 | 0, s => Nat.le_refl _
 | k + 1, s => by
  unfold rdEs
  split
  ·exact Nat.le_trans (rdEs_len k _) (ent_len s)
  ·exact Nat.le_refl _
theorem rdEs_stop {k : Nat} {s : Rdr} (h : s.2 ≠ 0) : rdEs k s = ([], s) := by cases k with
 | zero => rfl
 | succ k => unfold rdEs; rw [if_neg h]
theorem rdNs_stop {k : Nat} {s : Rdr} (h : s.2 ≠ 0) : rdNs k s = ([], s) := by cases k with
 | zero => rfl
 | succ k => unfold rdNs; rw [if_neg h]
theorem rdEs_many : ∀ (k : Nat) (s : Rdr), (rdEs k s).1.length ≤ s.1.length + 1
 | 0, s => by simp [rdEs]
 | k + 1, s => by
  unfold rdEs
  split
  ·rename_i h
   have h1 := rdEs_many k (entR s).2
   by_cases h2 : (entR s).2.2 = 0
   ·have := ent_short h2
    simp only [List.length_cons]; omega
   ·rw [rdEs_stop h2]; simp
  ·simp
theorem rdNs_many : ∀ (k : Nat) (s : Rdr), (rdNs k s).1.length ≤ s.1.length + 1
 | 0, s => by simp [rdNs]
 | k + 1, s => by
  unfold rdNs
  split
  ·rename_i h
   have h1 := rdNs_many k (numR s).2
   by_cases h2 : (numR s).2.2 = 0
   ·have := (num_short h2).2
    simp only [List.length_cons]; omega
   ·rw [rdNs_stop h2]; simp
  ·simp
def stD1 (acc : List EntM) (s : Rdr) (k : Nat) : St := ⟨[(0, .ptr 1000000 0), (2, .ptr 2 0), (3, .val (.int .i64 k))],
 [(2, [.sl (some (2, 67, 3)) (acc.map entC), .sl (some (2, 3, 1)) []]), (1000000, rdC s)], [((2, 67, 3), true), ((2, 3, 1), true)]⟩
def invD1 (g : List EntM × Rdr) (S : St) (k : Nat) : Prop := ∃ (acc : List EntM) (s : Rdr), (acc ++ (rdEs k s).1, (rdEs k s).2) = g ∧ (s.2 = 0 → acc.length + s.1.length ≤ 1000000) ∧ acc.length ≤ 1000001 ∧ s.1.length ≤ 1000000 ∧ k ≤ 1099511627776 ∧ S.trim [0, 2, 3] [2, 1000000] [(2, 67, 3), (2, 3, 1)] = stD1 acc s k
def stD2 (es : List EntM) (acc : List Int) (s : Rdr) (k : Nat) : St := ⟨[(0, .ptr 1000000 0), (2, .ptr 2 0), (5, .val (.int .i64 k))],
 [(2, [.sl (some (2, 67, 3)) (es.map entC), .sl (some (2, 3, 1)) (intsC acc)]), (1000000, rdC s)], [((2, 67, 3), true), ((2, 3, 1), true)]⟩
def invD2 (es : List EntM) (g : List Int × Rdr) (S : St) (k : Nat) : Prop := ∃ (acc : List Int) (s : Rdr), (acc ++ (rdNs k s).1, (rdNs k s).2) = g ∧ (s.2 = 0 → acc.length + s.1.length ≤ 1000000) ∧ acc.length ≤ 1000001 ∧ s.1.length ≤ 1000000 ∧ k ≤ 1099511627776 ∧ S.trim [0, 2, 5] [2, 1000000] [(2, 67, 3), (2, 3, 1)] = stD2 es acc s k
def deltaR (s : Rdr) : (List EntM × List Int) × Rdr := (((esR s).1, (nsR (esR s).2).1), (nsR (esR s).2).2)
set_option maxHeartbeats 8000000 in
theorem kdelta (s : Rdr) (hs : s.1.length ≤ 1000000) : RdAt 30 [] s (.agg [.sl none ((deltaR s).1.1.map entC), .sl none (intsC (deltaR s).1.2)]) (deltaR s).2 := by
 refine obj_of [1000000] [] r30 (by kernel_rfl) ?_
 unfold m30 deltaR
 simp only [go_sem, Nat.reduceEqDiff, decide_false, Nat.reduceLT, true_and, and_self, ↓reduceIte]
 refine callO_eq rfl rfl rfl rfl rfl (knumber s) ?_
 simp only [go_sem, Nat.reduceEqDiff, decide_true, decide_false, true_and, and_self, ↓reduceIte]
 refine ev_loop_by (invD1 (esR s)) (numR s).1 ⟨[], (numR s).2, rfl, fun _ => by have := num_len s; simp; omega, by simp, Nat.le_trans (num_len s) hs, num_le s, by simp only [go_sem, Nat.reduceEqDiff]; rfl⟩ ?_
 rintro k S ⟨acc, t, hg, h0, h1, h2, h3, hS⟩
 rw [ev_trim, hS]
 clear hS S
 simp only [stD1]
 have lt := num_len t
 cases k with
 | zero =>
  have hE : esR s = (acc, t) := by rw [← hg]; simp [rdEs]
  have ck : decide (((0 : Nat) : Int) > 0) = false := rfl
  have ck0 : decide ((0 : Int) > 0) = false := rfl
  simp only [ck0, go_sem, Nat.reduceEqDiff, c0, true_and, and_self, ↓reduceIte]
  rw [hE]
  simp only
  refine callO_eq rfl rfl rfl rfl rfl (knumber t) ?_
  simp only [go_sem, Nat.reduceEqDiff, decide_true, decide_false, true_and, and_self, ↓reduceIte]
  refine ev_loop_by (invD2 acc (nsR t)) (numR t).1 ⟨[], (numR t).2, rfl, fun _ => by simp; omega, by simp, by omega, num_le t, by simp only [go_sem, Nat.reduceEqDiff]; rfl⟩ ?_
  rintro k S ⟨bcc, u, hg2, i0, i1, i2, i3, hS⟩
  rw [ev_trim, hS]
  clear hS S
  simp only [stD2]
  have lu := num_len u
  cases k with
  | zero =>
   have hF : nsR t = (bcc, u) := by rw [← hg2]; simp [rdNs]
   have ck : decide (((0 : Nat) : Int) > 0) = false := rfl
   have ck0 : decide ((0 : Int) > 0) = false := rfl
   simp only [ck0, go_sem, Nat.reduceEqDiff, Nat.reduceAdd, Nat.reduceLeDiff, c0, true_and, and_self, ↓reduceIte]
   rw [hF]
   simp only [go_sem, true_and]
   exact rfl
  | succ k =>
   have ck : decide (((k + 1 : Nat) : Int) > 0) = true := by simp
   simp only [ck, go_sem, Nat.reduceEqDiff, ↓reduceIte]
   refine callO_eq rfl rfl rfl rfl rfl (krErr u) ?_
   cases d3 : u.2 == 0
   ·have hF : nsR t = (bcc, u) := by rw [← hg2, rdNs_stop (by simpa using d3)]; simp
    simp only [d3, go_sem, Nat.reduceEqDiff, Nat.reduceAdd, Nat.reduceLeDiff, decide_true, decide_false, true_and, and_self, ↓reduceIte]
    rw [hF]
    simp only [go_sem, true_and]
    exact rfl
   ·have n3 : u.2 = 0 := by simpa using d3
    have hS : rdNs (k + 1) u = (((numR u).1 : Int) :: (rdNs k (numR u).2).1, (rdNs k (numR u).2).2) := by conv => lhs; unfold rdNs; rw [if_pos n3]
    have ls : (numR u).2.2 = 0 → (numR u).2.1.length < u.1.length := fun h => (num_short h).2
    have w1 : IntKind.i64.wrap (((k + 1 : Nat) : Int) - 1) = (k : Int) := by rw [wrap64 (by omega) (by omega)]; omega
    simp only [d3, go_sem, Nat.reduceEqDiff, Nat.reduceAdd, decide_true, decide_false, true_and, and_self, ↓reduceIte]
    repeat' (first | (refine callO_eq rfl rfl rfl rfl rfl (knumber u) ?_; simp only [go_sem, Nat.reduceEqDiff, Nat.reduceAdd, Nat.reduceLeDiff, List.length_map, decide_true, decide_false, true_and, and_self, ↓reduceIte]) | apply And.intro)
    all_goals first
     | (intro e he; obtain ⟨r, -, rfl⟩ := List.mem_map.1 he; rfl)
     | (rintro _ rfl; rfl)
     | omega
     | (refine ⟨k, by omega, bcc ++ [((numR u).1 : Int)], (numR u).2, ?_, ?_, ?_, by omega, by omega, ?_⟩
        ·rw [← hg2, hS]; simp
        ·intro he; have := ls he; have := i0 n3; simp; omega
        ·have := i0 n3; simp; omega
        ·simp only [w1, stD2, List.map_append, List.map_cons, List.map_nil, go_sem, Nat.reduceEqDiff, true_and, and_self, ↓reduceIte])
 | succ k =>
  have ck : decide (((k + 1 : Nat) : Int) > 0) = true := by simp
  simp only [ck, go_sem, Nat.reduceEqDiff, ↓reduceIte]
  refine callO_eq rfl rfl rfl rfl rfl (krErr t) ?_
  cases d2 : t.2 == 0
  ·have hE : esR s = (acc, t) := by rw [← hg, rdEs_stop (by simpa using d2)]; simp
   simp only [d2, go_sem, Nat.reduceEqDiff, decide_true, decide_false, true_and, and_self, ↓reduceIte]
   rw [hE]
   simp only
   refine callO_eq rfl rfl rfl rfl rfl (knumber t) ?_
   simp only [go_sem, Nat.reduceEqDiff, decide_true, decide_false, true_and, and_self, ↓reduceIte]
   refine ev_loop_by (invD2 acc (nsR t)) (numR t).1 ⟨[], (numR t).2, rfl, fun _ => by simp; omega, by simp, by omega, num_le t, by simp only [go_sem, Nat.reduceEqDiff]; rfl⟩ ?_
   rintro k S ⟨bcc, u, hg2, i0, i1, i2, i3, hS⟩
   rw [ev_trim, hS]
   clear hS S
   simp only [stD2]
   have lu := num_len u
   cases k with
   | zero =>
    have hF : nsR t = (bcc, u) := by rw [← hg2]; simp [rdNs]
    have ck : decide (((0 : Nat) : Int) > 0) = false := rfl
    have ck0 : decide ((0 : Int) > 0) = false := rfl
    simp only [ck0, go_sem, Nat.reduceEqDiff, Nat.reduceAdd, Nat.reduceLeDiff, c0, true_and, and_self, ↓reduceIte]
    rw [hF]
    simp only [go_sem, true_and]
    exact rfl
   | succ k =>
    have ck : decide (((k + 1 : Nat) : Int) > 0) = true := by simp
    simp only [ck, go_sem, Nat.reduceEqDiff, ↓reduceIte]
    refine callO_eq rfl rfl rfl rfl rfl (krErr u) ?_
    cases d3 : u.2 == 0
    ·have hF : nsR t = (bcc, u) := by rw [← hg2, rdNs_stop (by simpa using d3)]; simp
     simp only [d3, go_sem, Nat.reduceEqDiff, Nat.reduceAdd, Nat.reduceLeDiff, decide_true, decide_false, true_and, and_self, ↓reduceIte]
     rw [hF]
     simp only [go_sem, true_and]
     exact rfl
    ·have n3 : u.2 = 0 := by simpa using d3
     have hS : rdNs (k + 1) u = (((numR u).1 : Int) :: (rdNs k (numR u).2).1, (rdNs k (numR u).2).2) := by conv => lhs; unfold rdNs; rw [if_pos n3]
     have ls : (numR u).2.2 = 0 → (numR u).2.1.length < u.1.length := fun h => (num_short h).2
     have w1 : IntKind.i64.wrap (((k + 1 : Nat) : Int) - 1) = (k : Int) := by rw [wrap64 (by omega) (by omega)]; omega
     simp only [d3, go_sem, Nat.reduceEqDiff, Nat.reduceAdd, decide_true, decide_false, true_and, and_self, ↓reduceIte]
     repeat' (first | (refine callO_eq rfl rfl rfl rfl rfl (knumber u) ?_; simp only [go_sem, Nat.reduceEqDiff, Nat.reduceAdd, Nat.reduceLeDiff, List.length_map, decide_true, decide_false, true_and, and_self, ↓reduceIte]) | apply And.intro)
     all_goals first
      | (intro e he; obtain ⟨r, -, rfl⟩ := List.mem_map.1 he; rfl)
      | (rintro _ rfl; rfl)
      | omega
      | (refine ⟨k, by omega, bcc ++ [((numR u).1 : Int)], (numR u).2, ?_, ?_, ?_, by omega, by omega, ?_⟩
         ·rw [← hg2, hS]; simp
         ·intro he; have := ls he; have := i0 n3; simp; omega
         ·have := i0 n3; simp; omega
         ·simp only [w1, stD2, List.map_append, List.map_cons, List.map_nil, go_sem, Nat.reduceEqDiff, true_and, and_self, ↓reduceIte])
  ·have n2 : t.2 = 0 := by simpa using d2
   have hS : rdEs (k + 1) t = ((entR t).1 :: (rdEs k (entR t).2).1, (rdEs k (entR t).2).2) := by conv => lhs; unfold rdEs; rw [if_pos n2]
   have hE : entR t = (⟨(numR t).1, (takeFX (uintR (numR t).2).2).1, (uintR (numR t).2).1⟩, (takeFX (uintR (numR t).2).2).2) := rfl
   have l2 := Nat.le_trans (uintR_len (numR t).2) (num_len t)
   have l3 := ent_len t
   have ls : (entR t).2.2 = 0 → (entR t).2.1.length < t.1.length := ent_short
   simp only [d2, go_sem, Nat.reduceEqDiff, decide_true, decide_false, true_and, and_self, ↓reduceIte]
   refine callO_eq rfl rfl rfl rfl rfl (knumber t) ?_
   simp only [go_sem, Nat.reduceEqDiff, decide_true, decide_false, ↓reduceIte]
   refine callO_eq rfl rfl rfl rfl rfl (krUint (numR t).2) ?_
   simp only [go_sem, Nat.reduceEqDiff, Nat.reduceAdd, Nat.reduceLeDiff, decide_true, decide_false, true_and, and_self, ↓reduceIte]
   refine callO_eq rfl rfl rfl rfl rfl (krTakeFilter (uintR (numR t).2).2 (by omega)) ?_
   simp only [go_sem, Nat.reduceEqDiff, Nat.reduceAdd, Nat.reduceLeDiff, List.length_map, decide_true, decide_false, true_and, and_self, ↓reduceIte]
   have w1 : IntKind.i64.wrap (((k + 1 : Nat) : Int) - 1) = (k : Int) := by rw [wrap64 (by omega) (by omega)]; omega
   refine ⟨?_, (by rintro _ rfl; rfl), (by omega), (by omega), k, by omega, acc ++ [(entR t).1], (entR t).2, ?_, ?_, ?_, by omega, by omega, ?_⟩
   ·intro e he; obtain ⟨r, -, rfl⟩ := List.mem_map.1 he; rfl
   ·rw [← hg, hS]; simp
   ·intro he; have := ls he; have := h0 n2; simp; omega
   ·have := h0 n2; simp; omega
   ·simp only [w1, stD1, hE, List.map_append, List.map_cons, List.map_nil, entC, go_sem, Nat.reduceEqDiff, true_and, and_self, ↓reduceIte]
end Go.Proofs

namespace Go.Proofs
open Go.Vm
set_option linter.unusedSimpArgs false
def frR (s : Rdr) : FrM × Rdr :=
 if (byteR s).1 = 0 then (⟨false, (deltaR (byteR s).2).1.1, (deltaR (byteR s).2).1.2, 0, 0, zE⟩, (deltaR (byteR s).2).2)
 else if (byteR s).1 = 1 then (⟨true, [], [], (numR (byteR s).2).1, (numR (numR (byteR s).2).2).1, (takeEX (numR (numR (byteR s).2).2).2).1⟩, (takeEX (numR (numR (byteR s).2).2).2).2)
 else (zFr, failR (byteR s).2 2)
def readX (l : List UInt8) : FrM × Int := if (frR (l, 0)).2.2 = 0 ∧ (frR (l, 0)).2.1 = [] ∧ mayX (frR (l, 0)).1 = true then ((frR (l, 0)).1, 0) else (zFr, 2)
structure EntB (x : EntM) : Prop where
 f : FineF 900 x.f
 b : ∀ b ∈ x.f, BndB b
 i : InRange x.id
 s : x.slack < 18446744073709551616
theorem num_in (s : Rdr) : InRange (numR s).1 := by
 have := num_le s
 unfold InRange; constructor <;> omega
theorem take_fine (s : Rdr) : FineF 900 (takeFX s).1 ∧ ∀ b ∈ (takeFX s).1, BndB b := by
 have hn : (filR s).1.length = (countR 4 s).1 := rdBoxes_n _ _
 have q := countR_le 4 s
 have ok := rdBoxes_ok (countR 4 s).2 (countR 4 s).1
 have hX : (takeFX s).1 = if (takeFR s).2 = 0 then (filR s).1 else [] := rfl
 rw [hX]
 split
 ·exact ⟨⟨by omega, fun b hb => (ok b hb).1⟩, fun b hb => (ok b hb).2⟩
 ·exact ⟨⟨by simp, by simp⟩, by simp⟩
theorem entR_B (s : Rdr) : EntB (entR s).1 := ⟨(take_fine _).1, (take_fine _).2, num_in s, uintR_lt _⟩
theorem rdEs_B : ∀ (k : Nat) (s : Rdr), ∀ x ∈ (rdEs k s).1, EntB x
 | 0, s, x, h => by simp [rdEs] at h
 | k + 1, s, x, h => by
  unfold rdEs at h
  split at h
  ·rcases List.mem_cons.1 h with rfl | h
   ·exact entR_B s
   ·exact rdEs_B k _ x h
  ·simp at h
theorem rdNs_B : ∀ (k : Nat) (s : Rdr), ∀ n ∈ (rdNs k s).1, InRange n
 | 0, s, x, h => by simp [rdNs] at h
 | k + 1, s, x, h => by
  unfold rdNs at h
  split at h
  ·rcases List.mem_cons.1 h with rfl | h
   ·exact num_in s
   ·exact rdNs_B k _ x h
  ·simp at h
theorem zE_in : InE zE := fun i hi => by rcases lt4 hi with rfl | rfl | rfl | rfl <;> exact ⟨by decide, by decide⟩
theorem in0 : InRange 0 := ⟨by decide, by decide⟩
theorem zFrB : FrB zFr := ⟨by simp [zFr], by simp [zFr], by simp [zFr], by simp [zFr], by simp [zFr], by simp [zFr], by simp [zFr], in0, in0, zE_in⟩
theorem frR_B (s : Rdr) (hs : s.1.length ≤ 90000) (he : (frR s).2.2 = 0) : FrB (frR s).1 := by
 have lb := byteR_len s
 unfold frR at he ⊢
 split at he
 ·rename_i h0
  rw [if_pos h0]
  generalize (byteR s).2 = t at *
  have l1 := rdEs_many (numR t).1 (numR t).2
  have l2 := num_len t
  have l3 := rdEs_len (numR t).1 (numR t).2
  have l4 := num_len (esR t).2
  have l5 := rdNs_many (numR (esR t).2).1 (numR (esR t).2).2
  have hb := rdEs_B (numR t).1 (numR t).2
  have l6 : (esR t).2.1.length ≤ 90000 := by show (rdEs (numR t).1 (numR t).2).2.1.length ≤ _; omega
  exact ⟨by show (rdEs (numR t).1 (numR t).2).1.length ≤ _; omega, by show (rdNs (numR (esR t).2).1 (numR (esR t).2).2).1.length ≤ _; omega,
   fun x hx => (hb x hx).f, fun x hx => (hb x hx).b, fun x hx => (hb x hx).i, fun x hx => (hb x hx).s, rdNs_B _ _, in0, in0, zE_in⟩
 ·rename_i h0
  rw [if_neg h0]
  split at he
  ·rename_i h1
   rw [if_pos h1]
   exact ⟨by simp, by simp, by simp, by simp, by simp, by simp, by simp, num_in _, num_in _, (event_forth he).2.2.2⟩
  ·rename_i h1
   rw [if_neg h1]
   exact zFrB
set_option maxHeartbeats 8000000 in
theorem kfRead (s : ByteArray) (hs : s.size ≤ 90000) : PureAt Tryz.prog 11 [.val (.string s)] (· = .tup [.agg (frC (readX (bl s)).1), .val (.int .i64 (readX (bl s)).2)]) := by
 have hX : readX (bl s) = if (frR (bl s, 0)).2.2 = 0 ∧ (frR (bl s, 0)).2.1 = [] ∧ mayX (frR (bl s, 0)).1 = true then ((frR (bl s, 0)).1, 0) else (zFr, 2) := rfl
 have hl : (bl s).length ≤ 90000 := by rw [size_bl]; exact hs
 have hB := frR_B (bl s, 0) hl
 have hF : frR (bl s, 0) = if (byteR (bl s, 0)).1 = 0 then (⟨false, (deltaR (byteR (bl s, 0)).2).1.1, (deltaR (byteR (bl s, 0)).2).1.2, 0, 0, zE⟩, (deltaR (byteR (bl s, 0)).2).2)
  else if (byteR (bl s, 0)).1 = 1 then (⟨true, [], [], (numR (byteR (bl s, 0)).2).1, (numR (numR (byteR (bl s, 0)).2).2).1, (takeEX (numR (numR (byteR (bl s, 0)).2).2).2).1⟩, (takeEX (numR (numR (byteR (bl s, 0)).2).2).2).2)
  else (zFr, failR (byteR (bl s, 0)).2 2) := rfl
 have lb0 := byteR_len (bl s, 0)
 have lb1 : (byteR (bl s, 0)).2.1.length ≤ 90000 := Nat.le_trans lb0 hl
 rw [hX]
 clear hX
 generalize frR (bl s, 0) = g at *
 refine pure_of r11 (by kernel_rfl) ?_
 unfold m11
 simp only [go_sem, Nat.reduceEqDiff, Nat.reduceAdd]
 refine callO_eq rfl rfl rfl rfl rfl (kcRead s) ?_
 simp only [go_sem, Nat.reduceEqDiff]
 refine callO_eq rfl rfl rfl rfl rfl (krByte (bl s, 0)) ?_
 generalize byteR (bl s, 0) = b at *
 have k0 : ((b.1 : Int) == 0) = decide (b.1 = 0) := by rw [Bool.eq_iff_iff]; simp
 have k1 : ((b.1 : Int) == 1) = decide (b.1 = 1) := by rw [Bool.eq_iff_iff]; simp; omega
 simp only [k0, go_sem, Nat.reduceEqDiff]
 cases d0 : decide (b.1 = 0)
 rotate_left
 ·rw [if_pos (of_decide_eq_true d0)] at hF
  simp only [go_sem, Nat.reduceEqDiff]
  refine callO_eq rfl rfl rfl rfl rfl (kdelta b.2 (by omega)) ?_
  generalize deltaR b.2 = d at *
  obtain ⟨⟨es, ns⟩, r⟩ := d
  subst hF
  simp only at *
  generalize hf : (⟨false, es, ns, 0, 0, zE⟩ : FrM) = f at *
  have hrm : (r.2 = 0) → PureAt Tryz.prog 17 [.rp none (frC f) 0] (· = .val (.bool (mayX f))) := fun h => kmay f (hB h)
  unfold frC at hrm
  simp only [go_sem, Nat.reduceEqDiff, Nat.reduceAdd, Nat.reduceLeDiff]
  refine callO_eq rfl rfl rfl rfl rfl (krErr r) ?_
  cases c2 : r.2 == 0
  ·have n2 : ¬ r.2 = 0 := by simpa using c2
   rw [if_neg (fun h => n2 h.1)]
   simp only [bne, c2, Bool.not_false, go_sem, Nat.reduceEqDiff, Nat.reduceAdd, Nat.reduceLeDiff]
   rfl
  have n2 : r.2 = 0 := by simpa using c2
  simp only [bne, c2, Bool.not_true, beq_self_eq_true, go_sem, Nat.reduceEqDiff]
  refine callO_eq rfl rfl rfl rfl rfl (krLeft r) ?_
  have g0 : decide ((r.1.length : Int) > 0) = !r.1.isEmpty := by cases r.1 <;> simp
  simp only [g0, go_sem, Nat.reduceEqDiff]
  cases c3 : r.1.isEmpty
  ·have n3 : ¬ r.1 = [] := fun h => by rw [h] at c3; cases c3
   rw [if_neg (fun h => n3 h.2.1)]
   simp only [Bool.not_false, go_sem, Nat.reduceEqDiff, Nat.reduceAdd, Nat.reduceLeDiff]
   rfl
  have n3 : r.1 = [] := List.isEmpty_iff.1 c3
  simp only [Bool.not_true, go_sem, Nat.reduceEqDiff]
  have hrm2 := hrm n2
  cases c4 : mayX f
  ·rw [if_neg (fun h => by cases h.2.2)]
   rw [c4] at hrm2
   subst hf
   refine callP_eq rfl rfl hrm2 ?_
   simp only [Bool.not_false, go_sem, Nat.reduceEqDiff, Nat.reduceAdd, Nat.reduceLeDiff]
   rfl
  ·rw [if_pos ⟨n2, n3, rfl⟩]
   rw [c4] at hrm2
   subst hf
   refine callP_eq rfl rfl hrm2 ?_
   simp only [Bool.not_true, go_sem, Nat.reduceEqDiff, Nat.reduceAdd, Nat.reduceLeDiff]
   rfl
 rw [if_neg (of_decide_eq_false d0)] at hF
 simp only [k1, go_sem, Nat.reduceEqDiff]
 cases d1 : decide (b.1 = 1)
 ·rw [if_neg (of_decide_eq_false d1)] at hF
  subst hF
  simp only [go_sem, Nat.reduceEqDiff]
  refine callO_eq rfl rfl rfl rfl rfl (krFail b.2 2) ?_
  have hne := failR_ne b.2 2 (by decide)
  rw [if_neg (fun h => hne h.1)]
  simp only [go_sem, Nat.reduceEqDiff]
  refine callO_eq rfl rfl rfl rfl rfl (krErr (failR b.2 2)) ?_
  have c2 : ((failR b.2 2).2 == 0) = false := by simpa using hne
  simp only [bne, c2, Bool.not_false, go_sem, Nat.reduceEqDiff, Nat.reduceAdd, Nat.reduceLeDiff]
  rfl
 ·rw [if_pos (of_decide_eq_true d1)] at hF
  subst hF
  have l1 := num_len b.2
  have l2 := num_len (numR b.2).2
  simp only [go_sem, Nat.reduceEqDiff, Nat.reduceAdd, Nat.reduceLeDiff]
  refine callO_eq rfl rfl rfl rfl rfl (knumber b.2) ?_
  generalize numR b.2 = u at *
  simp only [go_sem, Nat.reduceEqDiff]
  refine callO_eq rfl rfl rfl rfl rfl (knumber u.2) ?_
  generalize numR u.2 = w at *
  simp only [go_sem, Nat.reduceEqDiff, Nat.reduceAdd, Nat.reduceLeDiff]
  refine callO_eq rfl rfl rfl rfl rfl (krTakeEvent w.2 (by omega)) ?_
  generalize takeEX w.2 = E at *
  obtain ⟨e, r⟩ := E
  simp only at *
  generalize hf : (⟨true, [], [], (u.1 : Int), (w.1 : Int), e⟩ : FrM) = f at *
  have hrm : (r.2 = 0) → PureAt Tryz.prog 17 [.rp none (frC f) 0] (· = .val (.bool (mayX f))) := fun h => kmay f (hB h)
  unfold frC at hrm
  simp only [evC, go_sem, Nat.reduceEqDiff, Nat.reduceAdd, Nat.reduceLeDiff]
  refine callO_eq rfl rfl rfl rfl rfl (krErr r) ?_
  cases c2 : r.2 == 0
  ·have n2 : ¬ r.2 = 0 := by simpa using c2
   rw [if_neg (fun h => n2 h.1)]
   simp only [bne, c2, Bool.not_false, go_sem, Nat.reduceEqDiff, Nat.reduceAdd, Nat.reduceLeDiff]
   rfl
  have n2 : r.2 = 0 := by simpa using c2
  simp only [bne, c2, Bool.not_true, beq_self_eq_true, go_sem, Nat.reduceEqDiff]
  refine callO_eq rfl rfl rfl rfl rfl (krLeft r) ?_
  have g0 : decide ((r.1.length : Int) > 0) = !r.1.isEmpty := by cases r.1 <;> simp
  simp only [g0, go_sem, Nat.reduceEqDiff]
  cases c3 : r.1.isEmpty
  ·have n3 : ¬ r.1 = [] := fun h => by rw [h] at c3; cases c3
   rw [if_neg (fun h => n3 h.2.1)]
   simp only [Bool.not_false, go_sem, Nat.reduceEqDiff, Nat.reduceAdd, Nat.reduceLeDiff]
   rfl
  have n3 : r.1 = [] := List.isEmpty_iff.1 c3
  simp only [Bool.not_true, go_sem, Nat.reduceEqDiff]
  have hrm2 := hrm n2
  cases c4 : mayX f
  ·rw [if_neg (fun h => by cases h.2.2)]
   rw [c4] at hrm2
   subst hf
   refine callP_eq rfl rfl hrm2 ?_
   simp only [Bool.not_false, go_sem, Nat.reduceEqDiff, Nat.reduceAdd, Nat.reduceLeDiff]
   rfl
  ·rw [if_pos ⟨n2, n3, rfl⟩]
   rw [c4] at hrm2
   subst hf
   refine callP_eq rfl rfl hrm2 ?_
   simp only [Bool.not_true, go_sem, Nat.reduceEqDiff, Nat.reduceAdd, Nat.reduceLeDiff]
   rfl
end Go.Proofs

namespace Go.Proofs
open Go.Vm
set_option linter.unusedSimpArgs false
def num2 (s : Rd2) : Nat × Rd2 := if 1099511627776 < (uint2 s).1 then (0, stop2 (uint2 s).2 2) else uint2 s
theorem num2_in {s : Rd2} (h : In2 s) : In2 (num2 s).2 := by
 unfold num2; split
 ·exact stop2_in (uint2_in h)
 ·exact uint2_in h
theorem num2_1 (s : Rd2) : (num2 s).2.1 = s.1 := by
 unfold num2; split
 ·rw [stop2_1, uint2_1]
 ·exact uint2_1 s
theorem num2_abs (s : Rd2) : (num2 s).1 = (numR (abs2 s)).1 ∧ abs2 (num2 s).2 = (numR (abs2 s)).2 := by
 obtain ⟨u1, u2⟩ := uint2_abs s
 unfold num2 numR countR
 rw [u1]
 split
 ·exact ⟨rfl, by rw [stop2_abs _ _ (by decide), u2]⟩
 ·exact ⟨u1, u2⟩
theorem num2_le (s : Rd2) : (num2 s).1 ≤ 1099511627776 := by rw [(num2_abs s).1]; exact num_le _
theorem ktake15 (s : Rd2) (h : In2 s) : Rd2At 43 [] s (.val (.int .i64 (num2 s).1)) (num2 s).2 := by
 refine obj_of [1000000] [] r43 (by kernel_rfl) ?_
 unfold m43
 simp only [go_sem, Nat.reduceEqDiff]
 refine callO_eq rfl rfl rfl rfl rfl (kr2Uint s h) ?_
 have hlt := uint2_lt s
 unfold num2
 generalize uint2 s = u at *
 have c0 : decide ((u.1 : Int) > 1099511627776) = decide (1099511627776 < u.1) := by rw [decide_eq_decide]; omega
 simp only [c0, go_sem, Nat.reduceEqDiff]
 cases hc : decide (1099511627776 < u.1)
 ·have hn := of_decide_eq_false hc
  rw [if_neg hn]
  have w1 : IntKind.i64.wrap (u.1 : Int) = (u.1 : Int) := wrap64 (by omega) (by omega)
  simp only [w1, finO, go_sem, Nat.reduceEqDiff]
  exact rfl
 ·have hn := of_decide_eq_true hc
  rw [if_pos hn]
  simp only [rd2C, go_sem, Nat.reduceEqDiff, Nat.reduceAdd]
  cases h0 : u.2.2.2 == 0
  all_goals
   have hf : stop2 u.2 2 = if (u.2.2.2 == 0) = true then (u.2.1, u.2.2.1, 2) else u.2 := by simp [stop2]
   simp only [hf, h0, finO, if_true, if_false, go_sem, Nat.reduceEqDiff, Nat.reduceAdd, Nat.reduceLeDiff]
   first | rfl | exact ⟨rfl, rfl⟩ | exact ⟨rfl, rfl, rfl⟩
end Go.Proofs
