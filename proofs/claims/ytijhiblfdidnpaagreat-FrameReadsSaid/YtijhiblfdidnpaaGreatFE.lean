/- A part of the proof; what is proved stands in the last text. -/
import Derived.Test.YtijhiblfdidnpaaGreatT162
import Derived.Test.YtijhiblfdidnpaaGreatTQ
set_option linter.unusedVariables false
set_option maxRecDepth 2000
namespace Go.Proofs
open Go.Vm
set_option linter.unusedSimpArgs false
theorem num_back {n : Nat} (h : n ≤ 1099511627776) (t : List UInt8) : numR (encB n ++ t, 0) = (n, (t, 0)) := by
 unfold numR countR
 rw [uint_back n (by omega), if_neg (by simp only; omega)]
theorem ent_back {x : EntM} (h : okEnt x = true) (hB : EntB x) (t : List UInt8) : entR (entB x ++ t, 0) = (x, (t, 0)) := by
 simp only [okEnt, Bool.and_eq_true] at h
 have c := cnt_in h.1
 have hc : ((x.id.toNat : Nat) : Int) = x.id := by omega
 unfold entR entB
 rw [List.append_assoc, List.append_assoc, num_back (by omega)]
 simp only
 rw [uint_back _ hB.s]
 simp only
 rw [take_filter hB.b h.2.1, hc]
theorem ents_back : ∀ (l : List EntM) (_ : ∀ x ∈ l, okEnt x = true ∧ EntB x) (t : List UInt8), rdEs l.length (l.flatMap entB ++ t, 0) = (l, (t, 0))
 | [], _, t => rfl
 | x :: l, h, t => by
  obtain ⟨h1, h2⟩ := h x (by simp)
  have ih := ents_back l (fun y hy => h y (by simp [hy])) t
  rw [List.flatMap_cons, List.append_assoc, List.length_cons, rdEs, if_pos rfl, ent_back h1 h2]
  simp only
  rw [ih]
theorem ns_back : ∀ (l : List Int) (_ : ∀ x ∈ l, cntM x = true) (t : List UInt8), rdNs l.length (numsB l ++ t, 0) = (l, (t, 0))
 | [], _, t => rfl
 | x :: l, h, t => by
  have h1 := cnt_in (h x (by simp))
  have hc : ((x.toNat : Nat) : Int) = x := by omega
  have ih := ns_back l (fun y hy => h y (by simp [hy])) t
  unfold numsB at ih ⊢
  rw [List.flatMap_cons, List.append_assoc, List.length_cons, rdNs, if_pos rfl, num_back (by omega)]
  simp only
  rw [ih, hc]
theorem FrB.ent {f : FrM} (h : FrB f) : ∀ x ∈ f.adds, EntB x := fun x hx => ⟨h.fa x hx, h.ba x hx, h.ia x hx, h.sa x hx⟩
theorem delta_back {f : FrM} (hB : FrB f) (m1 : ∀ x ∈ f.adds, okEnt x = true) (m3 : ∀ n ∈ f.rems, cntM n = true) (t : List UInt8) :
    deltaR (encB f.adds.length ++ (f.adds.flatMap entB ++ (encB f.rems.length ++ (numsB f.rems ++ t))), 0) = ((f.adds, f.rems), (t, 0)) := by
 have na := hB.na
 have nr := hB.nr
 have hE : esR (encB f.adds.length ++ (f.adds.flatMap entB ++ (encB f.rems.length ++ (numsB f.rems ++ t))), 0) = (f.adds, (encB f.rems.length ++ (numsB f.rems ++ t), 0)) := by
  unfold esR
  rw [num_back (by omega)]
  exact ents_back _ (fun x hx => ⟨m1 x hx, hB.ent x hx⟩) _
 have hN : nsR (encB f.rems.length ++ (numsB f.rems ++ t), 0) = (f.rems, (t, 0)) := by
  unfold nsR
  rw [num_back (by omega)]
  exact ns_back _ m3 _
 unfold deltaR
 rw [hE]
 simp only
 rw [hN]
theorem eqPub_iff {a b : FrM} : eqPub a b = true ↔ a.id = b.id ∧ a.client = b.client ∧ a.e = b.e := by
 simp only [eqPub, Bool.and_eq_true, beq_iff_eq, eqEv_iff]
theorem frame_back {f : FrM} (h : mayX f = true) (hB : FrB f) (t : List UInt8) : frR (frameB f ++ t, 0) = (f, (t, 0)) := by
 cases hp : f.pub
 ·obtain ⟨m1, m2, m3⟩ := may_tab h hp
  obtain ⟨q1, q2, q3⟩ := eqPub_iff.1 m2
  have hf : frameB f ++ t = 0 :: (encB f.adds.length ++ (f.adds.flatMap entB ++ (encB f.rems.length ++ (numsB f.rems ++ t)))) := by
   simp [frameB, hp]
  have hb : byteR (frameB f ++ t, 0) = (0, (encB f.adds.length ++ (f.adds.flatMap entB ++ (encB f.rems.length ++ (numsB f.rems ++ t))), 0)) := by rw [hf]; rfl
  unfold frR
  rw [hb, if_pos rfl]
  simp only
  rw [delta_back hB m1 m3]
  obtain ⟨p, a, r, i, c, e⟩ := f
  simp only [zFr] at *
  rw [hp, q1, q2, q3]
 ·obtain ⟨m1, m2, m3, m4, m5⟩ := may_pub h hp
  have c1' := cnt_in m1
  have c2' := cnt_in m2
  have hf : frameB f ++ t = 1 :: (encB f.id.toNat ++ (encB f.client.toNat ++ (eventB f.e ++ t))) := by
   simp [frameB, hp]
  have hb : byteR (frameB f ++ t, 0) = (1, (encB f.id.toNat ++ (encB f.client.toNat ++ (eventB f.e ++ t)), 0)) := by rw [hf]; rfl
  unfold frR
  rw [hb, if_neg (by simp), if_pos rfl]
  simp only
  rw [num_back (by omega)]
  simp only
  rw [num_back (by omega)]
  simp only
  rw [take_back (wvE hB.ie m3) m3]
  have h1 : ((f.id.toNat : Nat) : Int) = f.id := by omega
  have h2 : ((f.client.toNat : Nat) : Int) = f.client := by omega
  rw [h1, h2]
  obtain ⟨p, a, r, i, c, e⟩ := f
  simp only at *
  rw [hp, m4, m5]
theorem frame_read {f : FrM} (h : mayX f = true) (hB : FrB f) : readX (frameB f) = (f, 0) := by
 have := frame_back h hB []
 rw [List.append_nil] at this
 unfold readX
 rw [this, if_pos ⟨rfl, rfl, h⟩]
theorem num_forth {s : Rdr} (h : (numR s).2.2 = 0) : s.2 = 0 ∧ s.1 = encB (numR s).1 ++ (numR s).2.1 := by
 have h1 := num_ok h
 rw [h1] at h ⊢
 exact uint_forth h
theorem ent_forth {s : Rdr} (h : (entR s).2.2 = 0) : s.2 = 0 ∧ s.1 = entB (entR s).1 ++ (entR s).2.1 := by
 obtain ⟨h1, h2, -, -⟩ := filter_forth (s := (uintR (numR s).2).2) h
 obtain ⟨h3, h4⟩ := uint_forth h1
 obtain ⟨h5, h6⟩ := num_forth h3
 refine ⟨h5, ?_⟩
 have e : (entR s).2 = (takeFX (uintR (numR s).2).2).2 := rfl
 have e1 : entB (entR s).1 = encB (numR s).1 ++ (encB (uintR (numR s).2).1 ++ filterB (takeFX (uintR (numR s).2).2).1) := by
  unfold entB entR; simp
 rw [e, e1, h6, List.append_assoc, List.append_assoc, ← h2, ← h4]
theorem ents_forth : ∀ (k : Nat) (s : Rdr), (rdEs k s).2.2 = 0 → s.2 = 0 ∧ (rdEs k s).1.length = k ∧ s.1 = (rdEs k s).1.flatMap entB ++ (rdEs k s).2.1
 | 0, s, h => ⟨h, rfl, rfl⟩
 | k + 1, s, h => by
  by_cases h0 : s.2 = 0
  ·have hS : rdEs (k + 1) s = ((entR s).1 :: (rdEs k (entR s).2).1, (rdEs k (entR s).2).2) := by conv => lhs; unfold rdEs; rw [if_pos h0]
   rw [hS] at h ⊢
   obtain ⟨h1, h2, h3⟩ := ents_forth k _ h
   obtain ⟨h4, h5⟩ := ent_forth h1
   refine ⟨h0, by simp [h2], ?_⟩
   simp only [List.flatMap_cons, List.append_assoc]
   rw [← h3, ← h5]
  ·rw [rdEs_stop h0] at h; exact absurd h h0
theorem ns_forth : ∀ (k : Nat) (s : Rdr), (rdNs k s).2.2 = 0 → s.2 = 0 ∧ (rdNs k s).1.length = k ∧ s.1 = numsB (rdNs k s).1 ++ (rdNs k s).2.1
 | 0, s, h => ⟨h, rfl, rfl⟩
 | k + 1, s, h => by
  by_cases h0 : s.2 = 0
  ·have hS : rdNs (k + 1) s = (((numR s).1 : Int) :: (rdNs k (numR s).2).1, (rdNs k (numR s).2).2) := by conv => lhs; unfold rdNs; rw [if_pos h0]
   rw [hS] at h ⊢
   obtain ⟨h1, h2, h3⟩ := ns_forth k _ h
   obtain ⟨h4, h5⟩ := num_forth h1
   refine ⟨h0, by simp [h2], ?_⟩
   unfold numsB at h3 ⊢
   simp only [List.flatMap_cons, List.append_assoc, Int.toNat_natCast]
   rw [← h3, ← h5]
  ·rw [rdNs_stop h0] at h; exact absurd h h0
theorem delta_forth {s : Rdr} (h : (deltaR s).2.2 = 0) : s.2 = 0 ∧ s.1 = encB (deltaR s).1.1.length ++ ((deltaR s).1.1.flatMap entB ++ (encB (deltaR s).1.2.length ++ (numsB (deltaR s).1.2 ++ (deltaR s).2.1))) := by
 obtain ⟨h1, h2, h3⟩ := ns_forth (numR (esR s).2).1 (numR (esR s).2).2 h
 obtain ⟨h4, h5⟩ := num_forth h1
 obtain ⟨h6, h7, h8⟩ := ents_forth (numR s).1 (numR s).2 h4
 obtain ⟨h9, h10⟩ := num_forth h6
 refine ⟨h9, ?_⟩
 show s.1 = encB (rdEs (numR s).1 (numR s).2).1.length ++ ((rdEs (numR s).1 (numR s).2).1.flatMap entB ++ (encB (rdNs (numR (esR s).2).1 (numR (esR s).2).2).1.length ++ (numsB (rdNs (numR (esR s).2).1 (numR (esR s).2).2).1 ++ (rdNs (numR (esR s).2).1 (numR (esR s).2).2).2.1)))
 rw [← h3, h2, h7, ← h5]
 show s.1 = encB (numR s).1 ++ ((rdEs (numR s).1 (numR s).2).1.flatMap entB ++ (rdEs (numR s).1 (numR s).2).2.1)
 rw [← h8, ← h10]
theorem frame_forth {s : Rdr} (h : (frR s).2.2 = 0) : s.2 = 0 ∧ s.1 = frameB (frR s).1 ++ (frR s).2.1 := by
 unfold frR at h ⊢
 split at h
 ·rename_i h0
  rw [if_pos h0]
  obtain ⟨h1, h2⟩ := delta_forth h
  obtain ⟨h3, h4⟩ := byte_forth h1
  refine ⟨h3, ?_⟩
  rw [h4, h0, h2]
  simp [frameB]
 ·rename_i h0
  rw [if_neg h0]
  split at h
  ·rename_i h1
   rw [if_pos h1]
   obtain ⟨g1, g2, -, -⟩ := event_forth h
   obtain ⟨g3, g4⟩ := num_forth g1
   obtain ⟨g5, g6⟩ := num_forth g3
   obtain ⟨g7, g8⟩ := byte_forth g5
   refine ⟨g7, ?_⟩
   rw [g8, h1, g6, g4, g2]
   simp [frameB]
  ·exact absurd h (failR_ne _ _ (by decide))
theorem readX_ok {l : List UInt8} (hl : l.length ≤ 90000) (h : (readX l).2 = 0) : frameB (readX l).1 = l ∧ mayX (readX l).1 = true ∧ FrB (readX l).1 := by
 have hX : readX l = if (frR (l, 0)).2.2 = 0 ∧ (frR (l, 0)).2.1 = [] ∧ mayX (frR (l, 0)).1 = true then ((frR (l, 0)).1, 0) else (zFr, 2) := rfl
 by_cases c : (frR (l, 0)).2.2 = 0 ∧ (frR (l, 0)).2.1 = [] ∧ mayX (frR (l, 0)).1 = true
 ·rw [if_pos c] at hX
  obtain ⟨h1, h2⟩ := frame_forth c.1
  rw [hX]
  refine ⟨?_, c.2.2, frR_B _ hl c.1⟩
  rw [c.2.1, List.append_nil] at h2
  exact h2.symm
 ·rw [if_neg c] at hX
  rw [hX] at h
  exact absurd h (by decide)
theorem readX_bad {l : List UInt8} (h : ¬ (readX l).2 = 0) : readX l = (zFr, 2) := by
 have hX : readX l = if (frR (l, 0)).2.2 = 0 ∧ (frR (l, 0)).2.1 = [] ∧ mayX (frR (l, 0)).1 = true then ((frR (l, 0)).1, 0) else (zFr, 2) := rfl
 by_cases c : (frR (l, 0)).2.2 = 0 ∧ (frR (l, 0)).2.1 = [] ∧ mayX (frR (l, 0)).1 = true
 ·rw [if_pos c] at hX
  rw [hX] at h
  exact absurd rfl h
 ·rw [if_neg c] at hX
  exact hX
theorem sameEn_iff {a b : EntM} : sameEn a b = true ↔ a = b := by
 obtain ⟨i, f, s⟩ := a
 obtain ⟨i', f', s'⟩ := b
 simp only [sameEn, Bool.and_eq_true, beq_iff_eq, sameF_iff, EntM.mk.injEq]
 constructor
 ·rintro ⟨⟨rfl, h⟩, rfl⟩
  exact ⟨rfl, rfl, by omega⟩
 ·rintro ⟨rfl, rfl, rfl⟩
  exact ⟨⟨rfl, rfl⟩, rfl⟩
theorem sameEs_iff {l m : List EntM} : sameEs l m = true ↔ l = m := by
 simp only [sameEs, Bool.and_eq_true, decide_eq_true_eq, List.all_eq_true, List.mem_range, sameEn_iff]
 constructor
 ·rintro ⟨h, h2⟩
  refine List.ext_getElem h fun i h1 h3 => ?_
  have := h2 i h1
  simpa [h1, h3] using this
 ·rintro rfl
  exact ⟨rfl, fun _ _ => rfl⟩
theorem sameIs_iff {l m : List Int} : sameIs l m = true ↔ l = m := by
 simp only [sameIs, Bool.and_eq_true, decide_eq_true_eq, List.all_eq_true, List.mem_range, beq_iff_eq]
 constructor
 ·rintro ⟨h, h2⟩
  refine List.ext_getElem h fun i h1 h3 => ?_
  have := h2 i h1
  simpa [h1, h3] using this
 ·rintro rfl
  exact ⟨rfl, fun _ _ => rfl⟩
theorem sameFr_iff {a b : FrM} : sameFr a b = true ↔ a = b := by
 simp only [sameFr, Bool.and_eq_true, beq_iff_eq, eqPub_iff, sameEs_iff, sameIs_iff]
 constructor
 ·rintro ⟨h1, ⟨h2, h3, h4⟩, h5, h6⟩
  obtain ⟨p, a, r, i, c, e⟩ := a
  obtain ⟨p', a', r', i', c', e'⟩ := b
  simp only at *
  rw [h1, h2, h3, h4, h5, h6]
 ·rintro rfl
  exact ⟨rfl, ⟨rfl, rfl, rfl⟩, rfl, rfl⟩
end Go.Proofs

namespace Go.Proofs
open Go.Vm Go.ChangeShapes Go.WideShapes Go.ChangeAt Go.RowKit
set_option linter.unusedSimpArgs false
end Go.Proofs

namespace Go.Proofs
open Go.Vm
set_option linter.unusedSimpArgs false
def f1M : FrM := ⟨true, [], [], 1, 2, zE⟩
def f2M : FrM := ⟨false, [], [], 1, 0, zE⟩
theorem f1B : FrB f1M := ⟨by simp [f1M], by simp [f1M], by simp [f1M], by simp [f1M], by simp [f1M], by simp [f1M], by simp [f1M], ⟨by decide, by decide⟩, ⟨by decide, by decide⟩, zE_in⟩
theorem f2B : FrB f2M := ⟨by simp [f2M], by simp [f2M], by simp [f2M], by simp [f2M], by simp [f2M], by simp [f2M], by simp [f2M], ⟨by decide, by decide⟩, ⟨by decide, by decide⟩, zE_in⟩
theorem rightE0 : rightE zE = true := by
 simp [rightE, all4, EvM.at, at4, zE, zV, rightV]
theorem may0 : mayX zFr = true := by
 have : eqPub zFr zFr = true := eqPub_iff.2 ⟨rfl, rfl, rfl⟩
 unfold mayX
 rw [this]
 rfl
theorem may1 : mayX f1M = true := by
 have h1 : cntM 1 = true := by decide
 have h2 : cntM 2 = true := by decide
 simp [mayX, f1M, rightE0, h1, h2]
theorem may2 : mayX f2M = false := by
 have : eqPub f2M zFr = false := by
  cases h : eqPub f2M zFr
  ·rfl
  ·exact absurd (eqPub_iff.1 h).1 (by decide)
 unfold mayX
 rw [this]
 rfl
theorem encB_0 : encB 0 = [0] := by simp [encB, encN, encHi]
theorem encB_1 : encB 1 = [1] := by simp [encB, encN, encHi]
theorem encB_22 : encB 2 = [2] := by simp [encB, encN, encHi]
theorem frame0 : frameB zFr = [0, 0, 0] := by
 simp [frameB, zFr, encB_0, numsB]
theorem event0 : eventB zE = [0, 0, 0, 0] := by
 simp [eventB, valsB, List.range_succ, valB, EvM.at, at4, zE, zV]
theorem frame1 : frameB f1M = [1, 1, 2, 0, 0, 0, 0] := by
 have h1 : (1 : Int).toNat = 1 := rfl
 have h2 : (2 : Int).toNat = 2 := rfl
 simp only [frameB, f1M, if_true, h1, h2, encB_1, encB_22, event0]
 rfl
theorem print0 : printX zFr = ([0, 0, 0], 0) := by rw [printX, if_pos may0, frame0]
theorem print1 : printX f1M = ([1, 1, 2, 0, 0, 0, 0], 0) := by rw [printX, if_pos may1, frame1]
theorem print2 : printX f2M = ([], 1) := by rw [printX, if_neg (by rw [may2]; simp)]
theorem readX0 : readX [] = (zFr, 2) := by
 have h1 : (frR ([], 0)).2.2 = 3 := rfl
 unfold readX
 rw [h1, if_neg (by rintro ⟨h, -⟩; cases h)]
theorem readX1 : readX [1, 1, 2, 0, 0, 0, 0] = (f1M, 0) := by
 rw [← frame1]; exact frame_read may1 f1B
set_option maxHeartbeats 4000000 in
theorem kawake15 : PureAt Tryz.prog 7 [] (· = .val (.bool true)) := by
 have p1 := kfPrint zFr zFrB
 rw [print0] at p1
 have p2 := kfPrint f1M f1B
 rw [print1] at p2
 have p3 := kfPrint f2M f2B
 rw [print2] at p3
 have p4 := kfRead ⟨#[]⟩ (by decide)
 rw [show bl ⟨#[]⟩ = [] from rfl, readX0] at p4
 have p5 := kfRead (lb [1, 1, 2, 0, 0, 0, 0]) (by rw [size_lb]; simp)
 rw [show bl (lb [1, 1, 2, 0, 0, 0, 0]) = [1, 1, 2, 0, 0, 0, 0] from rfl, readX1] at p5
 refine pure_of r7 (by kernel_rfl) ?_
 unfold m7
 simp only [go_sem]
 refine callP_eq rfl rfl p1 ?_
 simp only [encP, go_sem, Nat.reduceEqDiff, Nat.reduceAdd, Nat.reduceLeDiff]
 refine callP_eq rfl rfl p2 ?_
 simp only [encP, go_sem, Nat.reduceEqDiff, Nat.reduceAdd, Nat.reduceLeDiff]
 refine callP_eq rfl rfl p3 ?_
 simp only [encP, go_sem, Nat.reduceEqDiff]
 refine callP_eq rfl rfl p4 ?_
 simp only [frC, go_sem, Nat.reduceEqDiff, Nat.reduceAdd, Nat.reduceLeDiff]
 refine callP_eq rfl rfl p5 ?_
 have q0 : ((lb [0, 0, 0]).toList == (⟨#[0, 0, 0]⟩ : ByteArray).toList) = true := beq_self_eq_true (lb [0, 0, 0]).toList
 have q1 : ((lb [1, 1, 2, 0, 0, 0, 0]).toList == (⟨#[1, 1, 2, 0, 0, 0, 0]⟩ : ByteArray).toList) = true := beq_self_eq_true (lb [1, 1, 2, 0, 0, 0, 0]).toList
 have n1 : f1M.client = 2 := rfl
 simp only [frC, q0, q1, n1, beq_self_eq_true, go_sem, Nat.reduceEqDiff, Nat.reduceAdd, Nat.reduceLeDiff]
end Go.Proofs

namespace Go.Proofs
open Go.Vm
set_option linter.unusedSimpArgs false
set_option maxHeartbeats 8000000 in
theorem kFrameReads (s : ByteArray) : PureAt Tryz.prog 4 [.val (.string s)] (· = .val (.bool true)) := by
 refine pure_of r4 (by kernel_rfl) ?_
 unfold m4
 simp only [go_sem, Nat.reduceEqDiff, Nat.reduceAdd]
 refine callP_eq rfl rfl kawake15 ?_
 simp only [go_sem, Nat.reduceEqDiff]
 cases hl : decide ((s.size : Int) > 1500)
 rotate_left
 ·simp only [go_sem]
  refine callP_eq rfl rfl kawake15 ?_
  simp only [go_sem, Nat.reduceEqDiff]
 have hs := of_decide_eq_false hl
 have p1 := kfRead s (by omega)
 have p2 := kRead15 s (by omega)
 have f1 := @readX_ok (bl s) (by rw [size_bl]; omega)
 have f2 := @readX_bad (bl s)
 generalize readX (bl s) = F at *
 have hB : FrB F.1 := by
  by_cases c : F.2 = 0
  ·exact (f1 c).2.2
  ·rw [f2 c]; exact zFrB
 have p3 := kSame15 F.1 F.1 hB
 rw [sameFr_iff.2 rfl] at p3
 have p4 := kfPrint F.1 hB
 have k1 : (F.2 == 0) = decide (F.2 = 0) := by rw [Bool.eq_iff_iff]; simp
 unfold frC at p1 p2 p3 p4
 simp only [go_sem, Nat.reduceEqDiff]
 refine callP_eq rfl rfl p1 ?_
 simp only [go_sem, Nat.reduceEqDiff, Nat.reduceAdd, Nat.reduceLeDiff]
 refine callP_eq rfl rfl p2 ?_
 simp only [go_sem, Nat.reduceEqDiff, Nat.reduceAdd, Nat.reduceLeDiff]
 refine callP_eq rfl rfl p3 ?_
 have lbs : lb (bl s) = s := lb_bl s
 simp only [Bool.not_true, k1, beq_self_eq_true, bne, go_sem, Nat.reduceEqDiff]
 cases cF : decide (F.2 = 0)
 ·have hF2 := f2 (of_decide_eq_false cF)
  have kF : (F.2 == 2) = true := by rw [hF2]; rfl
  simp only [Bool.not_true, kF, beq_self_eq_true, bne, Bool.not_false, go_sem, Nat.reduceEqDiff, Nat.reduceAdd, Nat.reduceLeDiff]
  refine callP_eq rfl rfl p4 ?_
  simp only [encP, Bool.not_false, go_sem, Nat.reduceEqDiff]
 ·have nF := of_decide_eq_true cF
  obtain ⟨f3, f4, f5⟩ := f1 nF
  have hx : printX F.1 = (bl s, 0) := by rw [printX, if_pos f4, f3]
  rw [hx] at p4
  simp only [Bool.not_true, beq_self_eq_true, go_sem, Nat.reduceEqDiff, Nat.reduceAdd, Nat.reduceLeDiff]
  refine callP_eq rfl rfl p4 ?_
  simp only [encP, Bool.not_true, lbs, beq_self_eq_true, go_sem, Nat.reduceEqDiff]
end Go.Proofs
