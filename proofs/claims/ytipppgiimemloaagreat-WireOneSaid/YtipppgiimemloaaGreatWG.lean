/- A part of the proof; what is proved stands in the last text. -/
import Derived.Test.YtipppgiimemloaaGreatWF
set_option linter.unusedVariables false
set_option maxRecDepth 2000

namespace Go.Proofs
open Go.Vm
set_option linter.unusedSimpArgs false

def e1M : EvM := ⟨⟨1, 1, ⟨#[]⟩⟩, zV, zV, zV⟩
def e3M : EvM := ⟨⟨3, 0, ⟨#[]⟩⟩, zV, zV, zV⟩
theorem encB_2 : encB (foldN 1) = [2] := by
  have : foldN 1 = 2 := rfl
  rw [this, encB, encN, encHi]; rfl
theorem event1 : eventB e1M = [1, 2, 0, 0, 0] := by
  simp [eventB, valsB, List.range_succ, valB, EvM.at, at4, e1M, zV, encB_2]
theorem toL0 : (⟨#[]⟩ : ByteArray).toList = [] := by
  rw [ByteArray.toList, ByteArray.toList.loop]; rfl
theorem rightE1 : rightE e1M = true := by
  simp [rightE, all4, EvM.at, at4, e1M, zV, rightV, toL0]
theorem filter0 : wfilX [] = ([0], 0) := by
  have h : rightF [] = true := by rfl
  rw [wfilX, if_pos h]
  simp [filterB, encB, encN, encHi]
theorem wev1 : wevX e1M = ([1, 2, 0, 0, 0], 0) := by
  rw [wevX, if_pos rightE1, event1]
theorem wev3 : wevX e3M = ([], 1) := by
  have h : ¬ rightE e3M = true := by simp [rightE, all4, EvM.at, at4, e3M, zV, rightV, toL0]
  rw [wevX, if_neg h]
theorem read1 : readEX [1, 2, 0, 0, 0] = (e1M, 0) := by
  have h1 : evK ([1, 2, 0, 0, 0], 0) 4 = e1M := rfl
  have h2 : rdK ([1, 2, 0, 0, 0], 0) 4 = ([], 0) := rfl
  have h3 : takeEX ([1, 2, 0, 0, 0], 0) = (e1M, ([], 0)) := by
    unfold takeEX
    rw [h1, h2, if_pos rightE1]; rfl
  unfold readEX
  rw [h3]; rfl
set_option maxHeartbeats 1000000 in
theorem kawake08 : PureAt Tryz.prog 27 [] (· = .val (.bool true)) := by
  have p1 := kwFilter [] (by simp) (by simp) (by simp)
  rw [filter0] at p1
  have i1 : InE e1M := by intro i hi; rcases lt4 hi with rfl | rfl | rfl | rfl <;> exact ⟨by decide, by decide⟩
  have i3 : InE e3M := by intro i hi; rcases lt4 hi with rfl | rfl | rfl | rfl <;> exact ⟨by decide, by decide⟩
  have p2 := kwEvent e1M i1
  rw [wev1] at p2
  have p3 := kwEvent e3M i3
  rw [wev3] at p3
  have p4 := kReadFilter1
  have p5 := kReadEvent (lb [1, 2, 0, 0, 0]) (by rw [size_lb]; simp)
  rw [show bl (lb [1, 2, 0, 0, 0]) = [1, 2, 0, 0, 0] from rfl, read1] at p5
  refine pure_of r27 (by kernel_rfl) ?_
  unfold m27
  simp only [go_sem, Nat.reduceEqDiff, Nat.reduceAdd, Nat.reduceLeDiff, List.length_map]
  refine callP_eq rfl rfl p1 ?_
  simp only [encP, go_sem, Nat.reduceEqDiff, Nat.reduceAdd, Nat.reduceLeDiff, List.length_map]
  refine callP_eq rfl rfl p2 ?_
  simp only [encP, go_sem, Nat.reduceEqDiff, Nat.reduceAdd, Nat.reduceLeDiff, List.length_map]
  refine callP_eq rfl rfl p3 ?_
  simp only [encP, go_sem, Nat.reduceEqDiff, Nat.reduceAdd, Nat.reduceLeDiff, List.length_map]
  refine callP_eq rfl rfl p4 ?_
  simp only [encP, go_sem, Nat.reduceEqDiff, Nat.reduceAdd, Nat.reduceLeDiff, List.length_map]
  refine callP_eq rfl rfl p5 ?_
  have q0 : ((lb [0]).toList == (⟨#[0]⟩ : ByteArray).toList) = true := beq_self_eq_true (lb [0]).toList
  have q1 : ((lb [1, 2, 0, 0, 0]).toList == (⟨#[1, 2, 0, 0, 0]⟩ : ByteArray).toList) = true := beq_self_eq_true (lb [1, 2, 0, 0, 0]).toList
  have n1 : e1M.v0.n = 1 := rfl
  have z4b : (0 ≤ (0 : Int) ∧ (0 : Int) < ((4 : Nat) : Int)) = True := by simp
  simp only [evC, q0, q1, n1, beq_self_eq_true, Int.reduceBEq, z4b, if_true, go_sem, Nat.reduceEqDiff, Nat.reduceAdd, Nat.reduceLeDiff, List.length_map, z4, at4, BoxM.at, EvM.at, fillB, Int.reduceLT, Int.reduceLE, Int.reduceToNat, Int.toNat_zero, Int.le_refl, Int.reduceAdd, decide_true, decide_false, wr1, wr2, wr3, wr4, c0, c1, c2, c3, c4, Nat.reduceMul, Nat.reduceLT, Nat.lt_irrefl, true_and, and_self, ↓reduceIte]
end Go.Proofs



namespace Go.Proofs
open Go.Vm
set_option linter.unusedSimpArgs false

theorem toL_nil {s : ByteArray} (h : s.toList = []) : s = ⟨#[]⟩ := by
  rw [ByteArray.toList_eq] at h
  exact lb_of h
theorem right_cases {v : ValM} (h : rightV v = true) : v = ⟨0, 0, ⟨#[]⟩⟩ ∨ (∃ n, v = ⟨1, n, ⟨#[]⟩⟩) ∨ ∃ s : ByteArray, v = ⟨2, 0, s⟩ ∧ s.size ≤ 8 := by
  obtain ⟨k, n, s⟩ := v
  unfold rightV at h
  split at h
  · rename_i hk
    simp only [Bool.and_eq_true, beq_iff_eq] at h hk
    left; rw [hk, h.1, toL_nil h.2]
  · split at h
    · rename_i hk
      simp only [beq_iff_eq] at h hk
      right; left; exact ⟨n, by rw [hk, toL_nil h]⟩
    · split at h
      · rename_i hk
        simp only [Bool.and_eq_true, beq_iff_eq, decide_eq_true_eq] at h hk
        right; right; exact ⟨s, by rw [hk, h.1], by omega⟩
      · cases h
theorem val_back {v : ValM} (h : Wv v) (t : List UInt8) : valR (valB v ++ t, 0) = (v, (t, 0)) := by
  rcases right_cases h.r with rfl | ⟨n, rfl⟩ | ⟨s, rfl, hs⟩
  · rfl
  · have hb : byteR (valB ⟨1, n, ⟨#[]⟩⟩ ++ t, 0) = (1, (encB (foldN n) ++ t, 0)) := rfl
    obtain ⟨h1, h2⟩ := int_back n h.n t
    unfold valR
    rw [hb, if_pos rfl, h1, h2]
  · have hb : byteR (valB ⟨2, 0, s⟩ ++ t, 0) = (2, (strB s ++ t, 0)) := rfl
    unfold valR
    rw [hb, if_neg (by simp), if_pos rfl, str_back 8 s hs (by omega) t]
    simp only [lb_bl]
theorem take_back {e : EvM} (h : WvE e) (hr : rightE e = true) (t : List UInt8) : takeEX (eventB e ++ t, 0) = (e, (t, 0)) := by
  have e4 : eventB e ++ t = valB (e.at 0) ++ (valB (e.at 1) ++ (valB (e.at 2) ++ (valB (e.at 3) ++ t))) := by simp [eventB, valsB, List.range_succ]
  have s0 := val_back (h 0 (by omega)) (valB (e.at 1) ++ (valB (e.at 2) ++ (valB (e.at 3) ++ t)))
  have s1 := val_back (h 1 (by omega)) (valB (e.at 2) ++ (valB (e.at 3) ++ t))
  have s2 := val_back (h 2 (by omega)) (valB (e.at 3) ++ t)
  have s3 := val_back (h 3 (by omega)) t
  rw [e4]
  generalize valB (e.at 0) ++ (valB (e.at 1) ++ (valB (e.at 2) ++ (valB (e.at 3) ++ t))) = l0 at *
  have r1 : rdK (l0, 0) 1 = (valB (e.at 1) ++ (valB (e.at 2) ++ (valB (e.at 3) ++ t)), 0) := congrArg Prod.snd s0
  have r2 : rdK (l0, 0) 2 = (valB (e.at 2) ++ (valB (e.at 3) ++ t), 0) := by show (valR (rdK (l0, 0) 1)).2 = _; rw [r1]; exact congrArg Prod.snd s1
  have r3 : rdK (l0, 0) 3 = (valB (e.at 3) ++ t, 0) := by show (valR (rdK (l0, 0) 2)).2 = _; rw [r2]; exact congrArg Prod.snd s2
  have r4 : rdK (l0, 0) 4 = (t, 0) := by show (valR (rdK (l0, 0) 3)).2 = _; rw [r3]; exact congrArg Prod.snd s3
  have v0 : vK (l0, 0) 0 = e.at 0 := congrArg Prod.fst s0
  have v1 : vK (l0, 0) 1 = e.at 1 := by unfold vK; rw [r1]; exact congrArg Prod.fst s1
  have v2 : vK (l0, 0) 2 = e.at 2 := by unfold vK; rw [r2]; exact congrArg Prod.fst s2
  have v3 : vK (l0, 0) 3 = e.at 3 := by unfold vK; rw [r3]; exact congrArg Prod.fst s3
  have ev : evK (l0, 0) 4 = e := by
    unfold evK
    rw [if_pos (by omega), if_pos (by omega), if_pos (by omega), if_pos (by omega), v0, v1, v2, v3]
    rfl
  unfold takeEX
  rw [ev, r4, if_pos hr]
  rfl
end Go.Proofs



namespace Go.Proofs
open Go.Vm
set_option linter.unusedSimpArgs false

end Go.Proofs

