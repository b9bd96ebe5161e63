/- A part of the proof; what is proved stands in the last text. -/
import Derived.Test.YtcclggbngikppaaGreatDoorT235
set_option linter.unusedVariables false
set_option maxRecDepth 2000
namespace Go.Proofs
open Go.Vm
set_option linter.unusedSimpArgs false
theorem idx_cases (p : SetM → Bool) (l : List SetM) : idxOf p l = -1 ∨ ∃ n, n < l.length ∧ idxOf p l = (n : Int) ∧ p (l.getD n noM) = true := by
 unfold idxOf
 by_cases h : l.any p = true
 ·rw [if_pos h]
  obtain ⟨x, hx, hp⟩ := List.any_eq_true.1 h
  have hlt := List.findIdx_lt_length.2 ⟨x, hx, hp⟩
  exact .inr ⟨_, hlt, rfl, by have := List.findIdx_getElem (w := hlt); simpa [hlt] using this⟩
 ·rw [if_neg h]; exact .inl rfl
def idG (bs : List BoxM) (e : EvM) (i : Nat) : Int := idxOf (fun c => hasM c (e.at i)) (attrM bs i)
def okG (bs : List BoxM) (e : EvM) : Nat → Bool
 | 0 => true
 | k + 1 => okG bs e k && decide (idG bs e k ≥ 0)
def smG (bs : List BoxM) (e : EvM) : Nat → EvM
 | 0 => e
 | k + 1 => if okG bs e (k + 1) = true then putE (smG bs e k) k (sampleM ((attrM bs k).getD (idG bs e k).toNat noM)).1 else smG bs e k
theorem idG_pos {bs : List BoxM} {e : EvM} {i : Nat} (h : decide (idG bs e i ≥ 0) = true) : (attrM bs i).getD (idG bs e i).toNat noM ∈ attrM bs i ∧ hasM ((attrM bs i).getD (idG bs e i).toNat noM) (e.at i) = true := by
 have h : idG bs e i ≥ 0 := by simpa using h
 rcases idx_cases (fun c => hasM c (e.at i)) (attrM bs i) with h1 | ⟨n, h1, h2, h3⟩
 ·have : idG bs e i = -1 := h1
  omega
 ·have : idG bs e i = n := h2
  rw [this, Int.toNat_natCast]
  exact ⟨setD_mem h1, h3⟩
theorem smG_has {bs f : List BoxM} {e : EvM} (h : ∀ b ∈ bs, OKB b) (hl : ∀ i, i < 4 → strsN (attrM bs i) ≤ 100000) (hf : ∀ b ∈ f, b ∈ bs) (hk : okG bs e 4 = true) : hasF f e = hasF f (smG bs e 4) := by
 have h3 : okG bs e 3 = true := by simp only [okG, Bool.and_eq_true] at hk ⊢; exact hk.1
 have h2 : okG bs e 2 = true := by simp only [okG, Bool.and_eq_true] at h3 ⊢; exact h3.1
 have h1 : okG bs e 1 = true := by simp only [okG, Bool.and_eq_true] at h2 ⊢; exact h2.1
 have k0 : decide (idG bs e 0 ≥ 0) = true := (Bool.and_eq_true_iff.1 h1).2
 have k1 : decide (idG bs e 1 ≥ 0) = true := (Bool.and_eq_true_iff.1 h2).2
 have k2 : decide (idG bs e 2 ≥ 0) = true := (Bool.and_eq_true_iff.1 h3).2
 have k3 : decide (idG bs e 3 ≥ 0) = true := (Bool.and_eq_true_iff.1 hk).2
 obtain ⟨m0, q0⟩ := idG_pos k0
 obtain ⟨m1, q1⟩ := idG_pos k1
 obtain ⟨m2, q2⟩ := idG_pos k2
 obtain ⟨m3, q3⟩ := idG_pos k3
 have : smG bs e 4 = ⟨(sampleM ((attrM bs 0).getD (idG bs e 0).toNat noM)).1, (sampleM ((attrM bs 1).getD (idG bs e 1).toNat noM)).1, (sampleM ((attrM bs 2).getD (idG bs e 2).toNat noM)).1, (sampleM ((attrM bs 3).getD (idG bs e 3).toNat noM)).1⟩ := by
  unfold smG; rw [if_pos hk]
  unfold smG; rw [if_pos h3]
  unfold smG; rw [if_pos h2]
  unfold smG; rw [if_pos h1]
  rfl
 rw [this]
 exact grid_has h hl hf m0 m1 m2 m3 q0 q1 q2 q3
def stG (f g : List BoxM) (e : EvM) (k : Nat) : St := ⟨[(0, .sl none (f.map boxC)), (5, .ptr 5 0), (7, .ptr 40 0), (8, .sl (some (41, 60, 16)) ((f ++ g).map boxC)), (9, .ptr 9 0), (10, .val (.bool (okG (f ++ g) e k))), (47, .val (.int .i64 (z4 k)))],
 [(5, evC e), (9, evC (smG (f ++ g) e k)), (40, if k = 0 then gridF [f, g] else gridL [f, g])], [((41, 60, 16), decide (k = 0))]⟩
theorem valC_at (e : EvM) (i : Nat) : valC (e.at i) = [.val (.int .i64 (e.at i).kind), .val (.int .i64 (e.at i).n), .val (.string (e.at i).s)] := rfl
set_option maxHeartbeats 16000000 in
theorem kCellsGrid (f g : List BoxM) (e : EvM) (bf : ∀ x ∈ f, BndB x) (lf : f.length ≤ maxLen) (bg : ∀ x ∈ g, BndB x) (lg : g.length ≤ maxLen) (_ : InE e) : PureAt Tryz.prog 5 [.sl none (f.map boxC), .sl none (g.map boxC), .agg (evC e)] (· = .val (.bool true)) := by
 have p1 := kref6Few f lf
 have p1' := kref6Few g lg
 refine pure_of r5 (by kernel_rfl) ?_
 unfold m5
 simp only [evC, go_sem, Nat.reduceEqDiff, Nat.reduceAdd, Nat.reduceLeDiff, List.length_map, z4, at4, BoxM.at, EvM.at, fillB, Int.reduceLT, Int.reduceLE, Int.reduceToNat, Int.toNat_zero, Int.le_refl, Int.reduceAdd, decide_true, decide_false, wr1, wr2, wr3, wr4, c0, c1, c2, c3, c4, Nat.reduceMul, Nat.reduceLT, Nat.lt_irrefl, true_and, and_self, ↓reduceIte]
 refine callP_eq rfl rfl kawake09 ?_
 simp only [go_sem, Nat.reduceEqDiff, Nat.reduceAdd, Nat.reduceLeDiff, List.length_map, z4, at4, BoxM.at, EvM.at, fillB, Int.reduceLT, Int.reduceLE, Int.reduceToNat, Int.toNat_zero, Int.le_refl, Int.reduceAdd, decide_true, decide_false, wr1, wr2, wr3, wr4, c0, c1, c2, c3, c4, Nat.reduceMul, Nat.reduceLT, Nat.lt_irrefl, true_and, and_self, ↓reduceIte]
 refine callP_eq rfl rfl p1 ?_
 cases h1 : few6 f
 ·simp only [go_sem, Nat.reduceEqDiff, Nat.reduceAdd, Nat.reduceLeDiff, List.length_map, z4, at4, BoxM.at, EvM.at, fillB, Int.reduceLT, Int.reduceLE, Int.reduceToNat, Int.toNat_zero, Int.le_refl, Int.reduceAdd, decide_true, decide_false, wr1, wr2, wr3, wr4, c0, c1, c2, c3, c4, Nat.reduceMul, Nat.reduceLT, Nat.lt_irrefl, true_and, and_self, ↓reduceIte]
  refine callP_eq rfl rfl kawake09 ?_
  simp only [go_sem, Nat.reduceEqDiff, Nat.reduceAdd, Nat.reduceLeDiff, List.length_map, z4, at4, BoxM.at, EvM.at, fillB, Int.reduceLT, Int.reduceLE, Int.reduceToNat, Int.toNat_zero, Int.le_refl, Int.reduceAdd, decide_true, decide_false, wr1, wr2, wr3, wr4, c0, c1, c2, c3, c4, Nat.reduceMul, Nat.reduceLT, Nat.lt_irrefl, true_and, and_self, ↓reduceIte]
 simp only [go_sem, Nat.reduceEqDiff, Nat.reduceAdd, Nat.reduceLeDiff, List.length_map, z4, at4, BoxM.at, EvM.at, fillB, Int.reduceLT, Int.reduceLE, Int.reduceToNat, Int.toNat_zero, Int.le_refl, Int.reduceAdd, decide_true, decide_false, wr1, wr2, wr3, wr4, c0, c1, c2, c3, c4, Nat.reduceMul, Nat.reduceLT, Nat.lt_irrefl, true_and, and_self, ↓reduceIte]
 refine callP_eq rfl rfl p1' ?_
 cases h1' : few6 g
 ·simp only [go_sem, Nat.reduceEqDiff, Nat.reduceAdd, Nat.reduceLeDiff, List.length_map, z4, at4, BoxM.at, EvM.at, fillB, Int.reduceLT, Int.reduceLE, Int.reduceToNat, Int.toNat_zero, Int.le_refl, Int.reduceAdd, decide_true, decide_false, wr1, wr2, wr3, wr4, c0, c1, c2, c3, c4, Nat.reduceMul, Nat.reduceLT, Nat.lt_irrefl, true_and, and_self, ↓reduceIte]
  refine callP_eq rfl rfl kawake09 ?_
  simp only [go_sem, Nat.reduceEqDiff, Nat.reduceAdd, Nat.reduceLeDiff, List.length_map, z4, at4, BoxM.at, EvM.at, fillB, Int.reduceLT, Int.reduceLE, Int.reduceToNat, Int.toNat_zero, Int.le_refl, Int.reduceAdd, decide_true, decide_false, wr1, wr2, wr3, wr4, c0, c1, c2, c3, c4, Nat.reduceMul, Nat.reduceLT, Nat.lt_irrefl, true_and, and_self, ↓reduceIte]
 simp only [few6, Bool.and_eq_true, decide_eq_true_eq] at h1 h1'
 have hfew := few4_of h1.2
 have hfew' := few4_of h1'.2
 have p2 := kref6Right f (by omega) (fun x hx => (hfew x hx).mono (by omega)) bf
 have p2' := kref6Right g (by omega) (fun x hx => (hfew' x hx).mono (by omega)) bg
 simp only [go_sem, Nat.reduceEqDiff, Nat.reduceAdd, Nat.reduceLeDiff, List.length_map, z4, at4, BoxM.at, EvM.at, fillB, Int.reduceLT, Int.reduceLE, Int.reduceToNat, Int.toNat_zero, Int.le_refl, Int.reduceAdd, decide_true, decide_false, wr1, wr2, wr3, wr4, c0, c1, c2, c3, c4, Nat.reduceMul, Nat.reduceLT, Nat.lt_irrefl, true_and, and_self, ↓reduceIte]
 refine callP_eq rfl rfl p2 ?_
 cases h2 : rightF f
 ·simp only [go_sem, Nat.reduceEqDiff, Nat.reduceAdd, Nat.reduceLeDiff, List.length_map, z4, at4, BoxM.at, EvM.at, fillB, Int.reduceLT, Int.reduceLE, Int.reduceToNat, Int.toNat_zero, Int.le_refl, Int.reduceAdd, decide_true, decide_false, wr1, wr2, wr3, wr4, c0, c1, c2, c3, c4, Nat.reduceMul, Nat.reduceLT, Nat.lt_irrefl, true_and, and_self, ↓reduceIte]
  refine callP_eq rfl rfl kawake09 ?_
  simp only [go_sem, Nat.reduceEqDiff, Nat.reduceAdd, Nat.reduceLeDiff, List.length_map, z4, at4, BoxM.at, EvM.at, fillB, Int.reduceLT, Int.reduceLE, Int.reduceToNat, Int.toNat_zero, Int.le_refl, Int.reduceAdd, decide_true, decide_false, wr1, wr2, wr3, wr4, c0, c1, c2, c3, c4, Nat.reduceMul, Nat.reduceLT, Nat.lt_irrefl, true_and, and_self, ↓reduceIte]
 simp only [go_sem, Nat.reduceEqDiff, Nat.reduceAdd, Nat.reduceLeDiff, List.length_map, z4, at4, BoxM.at, EvM.at, fillB, Int.reduceLT, Int.reduceLE, Int.reduceToNat, Int.toNat_zero, Int.le_refl, Int.reduceAdd, decide_true, decide_false, wr1, wr2, wr3, wr4, c0, c1, c2, c3, c4, Nat.reduceMul, Nat.reduceLT, Nat.lt_irrefl, true_and, and_self, ↓reduceIte]
 refine callP_eq rfl rfl p2' ?_
 cases h2' : rightF g
 ·simp only [go_sem, Nat.reduceEqDiff, Nat.reduceAdd, Nat.reduceLeDiff, List.length_map, z4, at4, BoxM.at, EvM.at, fillB, Int.reduceLT, Int.reduceLE, Int.reduceToNat, Int.toNat_zero, Int.le_refl, Int.reduceAdd, decide_true, decide_false, wr1, wr2, wr3, wr4, c0, c1, c2, c3, c4, Nat.reduceMul, Nat.reduceLT, Nat.lt_irrefl, true_and, and_self, ↓reduceIte]
  refine callP_eq rfl rfl kawake09 ?_
  simp only [go_sem, Nat.reduceEqDiff, Nat.reduceAdd, Nat.reduceLeDiff, List.length_map, z4, at4, BoxM.at, EvM.at, fillB, Int.reduceLT, Int.reduceLE, Int.reduceToNat, Int.toNat_zero, Int.le_refl, Int.reduceAdd, decide_true, decide_false, wr1, wr2, wr3, wr4, c0, c1, c2, c3, c4, Nat.reduceMul, Nat.reduceLT, Nat.lt_irrefl, true_and, and_self, ↓reduceIte]
 have hok := rightF_okb bf h2
 have hok' := rightF_okb bg h2'
 have aok : ∀ b ∈ f ++ g, OKB b := fun b hb => (List.mem_append.1 hb).elim (hok b) (hok' b)
 have afew : ∀ b ∈ f ++ g, FewB 40 b := fun b hb => (List.mem_append.1 hb).elim (hfew b) (hfew' b)
 have aln : (f ++ g).length ≤ 100 := by rw [List.length_append]; omega
 have abnd : ∀ b ∈ f ++ g, BndB b := fun b hb i hi => (aok b hb i hi).inb
 have hff : [f, g].flatten = f ++ g := by simp
 have hg : GridOK [f, g] := ⟨by simp, by
  intro x hx; rcases List.mem_cons.1 hx with rfl | hx
  ·exact h1.1
  ·rw [List.mem_singleton.1 hx]; exact h1'.1, by
  intro x hx; rcases List.mem_cons.1 hx with rfl | hx
  ·exact hok
  ·rw [List.mem_singleton.1 hx]; exact hok', by
  intro x hx; rcases List.mem_cons.1 hx with rfl | hx
  ·exact hfew
  ·rw [List.mem_singleton.1 hx]; exact hfew'⟩
 have pa0 := kAttrF0 [f, g] hg
 have pa1 := kAttrL1 [f, g] hg
 have pa2 := kAttrL2 [f, g] hg
 have pa3 := kAttrL3 [f, g] hg
 have pc := kCountL [f, g] hg
 have pc9 := kCount9 (f ++ g) aln afew abnd
 rw [hff] at pa0 pa1 pa2 pa3 pc
 have hfin := smG_has (f := f) (e := e) aok (fun i hi => attr_strs aln afew hi) (fun b hb => List.mem_append.2 (.inl hb))
 have pe := fun e' => kref6Has f e' (by omega) (fun b hb => (hfew b hb).mono (by omega))
 have pq0 := kAttr90 (f ++ g) aln afew abnd
 have hcl0 := (attr_len9 aln afew (i := 0) (by omega)).1
 have hce0 := fun s (hs : s ∈ attrM (f ++ g) 0) => attr_cell aok aln afew (i := 0) (by omega) hs
 have pw0 := kWhich (attrM (f ++ g) 0) (by omega) (fun s hs => ⟨by have := (hce0 s hs).2.1; omega, by have := (hce0 s hs).2.2; omega⟩) (e.at 0)
 have psa0 := kSameAll9 (attrM (f ++ g) 0) (by omega) (fun s hs => ⟨by have := (hce0 s hs).2.1; omega, by have := (hce0 s hs).2.2; omega⟩)
 have pq1 := kAttr91 (f ++ g) aln afew abnd
 have hcl1 := (attr_len9 aln afew (i := 1) (by omega)).1
 have hce1 := fun s (hs : s ∈ attrM (f ++ g) 1) => attr_cell aok aln afew (i := 1) (by omega) hs
 have pw1 := kWhich (attrM (f ++ g) 1) (by omega) (fun s hs => ⟨by have := (hce1 s hs).2.1; omega, by have := (hce1 s hs).2.2; omega⟩) (e.at 1)
 have psa1 := kSameAll9 (attrM (f ++ g) 1) (by omega) (fun s hs => ⟨by have := (hce1 s hs).2.1; omega, by have := (hce1 s hs).2.2; omega⟩)
 have pq2 := kAttr92 (f ++ g) aln afew abnd
 have hcl2 := (attr_len9 aln afew (i := 2) (by omega)).1
 have hce2 := fun s (hs : s ∈ attrM (f ++ g) 2) => attr_cell aok aln afew (i := 2) (by omega) hs
 have pw2 := kWhich (attrM (f ++ g) 2) (by omega) (fun s hs => ⟨by have := (hce2 s hs).2.1; omega, by have := (hce2 s hs).2.2; omega⟩) (e.at 2)
 have psa2 := kSameAll9 (attrM (f ++ g) 2) (by omega) (fun s hs => ⟨by have := (hce2 s hs).2.1; omega, by have := (hce2 s hs).2.2; omega⟩)
 have pq3 := kAttr93 (f ++ g) aln afew abnd
 have hcl3 := (attr_len9 aln afew (i := 3) (by omega)).1
 have hce3 := fun s (hs : s ∈ attrM (f ++ g) 3) => attr_cell aok aln afew (i := 3) (by omega) hs
 have pw3 := kWhich (attrM (f ++ g) 3) (by omega) (fun s hs => ⟨by have := (hce3 s hs).2.1; omega, by have := (hce3 s hs).2.2; omega⟩) (e.at 3)
 have psa3 := kSameAll9 (attrM (f ++ g) 3) (by omega) (fun s hs => ⟨by have := (hce3 s hs).2.1; omega, by have := (hce3 s hs).2.2; omega⟩)
 simp only [go_sem, Nat.reduceEqDiff, Nat.reduceAdd, Nat.reduceLeDiff, List.length_map, z4, at4, BoxM.at, EvM.at, fillB, Int.reduceLT, Int.reduceLE, Int.reduceToNat, Int.toNat_zero, Int.le_refl, Int.reduceAdd, decide_true, decide_false, wr1, wr2, wr3, wr4, c0, c1, c2, c3, c4, Nat.reduceMul, Nat.reduceLT, Nat.lt_irrefl, true_and, and_self, ↓reduceIte]
 refine callO_eq rfl rfl rfl rfl rfl (kNew [f, g] (by simp)) ?_
 simp only [go_sem, Nat.reduceEqDiff, Nat.reduceAdd, Nat.reduceLeDiff, List.length_map, z4, at4, BoxM.at, EvM.at, fillB, Int.reduceLT, Int.reduceLE, Int.reduceToNat, Int.toNat_zero, Int.le_refl, Int.reduceAdd, decide_true, decide_false, wr1, wr2, wr3, wr4, c0, c1, c2, c3, c4, Nat.reduceMul, Nat.reduceLT, Nat.lt_irrefl, true_and, and_self, ↓reduceIte]
 refine ⟨by intro y hy; simp at hy; obtain ⟨b, -, rfl⟩ := hy; rfl, by omega, by omega, ?_⟩
 refine ⟨by intro y hy; simp at hy; obtain ⟨b, -, rfl⟩ := hy; rfl, by intro y hy; simp at hy; obtain ⟨b, -, rfl⟩ := hy; rfl, by omega, by omega, ?_⟩
 refine loop_N 4 (fun _ => True) (stG f g e) trivial (by simp only [stG, List.map_append]; rfl) ?_
 rintro k hk -
 have hk5 : k = 0 ∨ k = 1 ∨ k = 2 ∨ k = 3 ∨ k = 4 := by omega
 have hne : ((cntC (attrM (f ++ g)) 4 : Int) != (cntC (attrM (f ++ g)) 4 : Int)) = false := by simp
 rcases hk5 with rfl | rfl | rfl | rfl | rfl
 ·have hid := idx_cases (fun c => hasM c (e.at 0)) (attrM (f ++ g) 0)
  have hsn : okG (f ++ g) e (0 + 1) = (okG (f ++ g) e 0 && decide (idG (f ++ g) e 0 ≥ 0)) := rfl
  have hst : smG (f ++ g) e (0 + 1) = if okG (f ++ g) e (0 + 1) = true then putE (smG (f ++ g) e 0) 0 (sampleM ((attrM (f ++ g) 0).getD (idG (f ++ g) e 0).toNat noM)).1 else smG (f ++ g) e 0 := rfl
  have hps := idG_pos (bs := f ++ g) (e := e) (i := 0)
  have hpw := pw0
  change PureAt _ _ _ (· = .val (.int .i64 (idG (f ++ g) e 0))) at hpw
  change idG (f ++ g) e 0 = -1 ∨ ∃ n, n < _ ∧ idG (f ++ g) e 0 = ((n : Nat) : Int) ∧ _ at hid
  simp only [stG]
  generalize okG (f ++ g) e 0 = ok at *
  generalize smG (f ++ g) e 0 = sm at *
  generalize hii : idG (f ++ g) e 0 = ii at *
  simp only [reduceIte, go_sem, Nat.reduceEqDiff, Nat.reduceAdd, Nat.reduceLeDiff, List.length_map, z4, at4, BoxM.at, EvM.at, fillB, Int.reduceLT, Int.reduceLE, Int.reduceToNat, Int.toNat_zero, Int.le_refl, Int.reduceAdd, decide_true, decide_false, wr1, wr2, wr3, wr4, c0, c1, c2, c3, c4, Nat.reduceMul, Nat.reduceLT, Nat.lt_irrefl, true_and, and_self, ↓reduceIte]
  refine callO_eq rfl rfl rfl rfl rfl pa0 ?_
  rw [valC_at] at hpw
  simp only [evC, go_sem, Nat.reduceEqDiff, Nat.reduceAdd, Nat.reduceLeDiff, List.length_map, z4, at4, BoxM.at, EvM.at, fillB, Int.reduceLT, Int.reduceLE, Int.reduceToNat, Int.toNat_zero, Int.le_refl, Int.reduceAdd, decide_true, decide_false, wr1, wr2, wr3, wr4, c0, c1, c2, c3, c4, Nat.reduceMul, Nat.reduceLT, Nat.lt_irrefl, true_and, and_self, ↓reduceIte]
  refine callP_eq rfl rfl hpw ?_
  simp only [go_sem, Nat.reduceEqDiff, Nat.reduceAdd, Nat.reduceLeDiff, List.length_map, z4, at4, BoxM.at, EvM.at, fillB, Int.reduceLT, Int.reduceLE, Int.reduceToNat, Int.toNat_zero, Int.le_refl, Int.reduceAdd, decide_true, decide_false, wr1, wr2, wr3, wr4, c0, c1, c2, c3, c4, Nat.reduceMul, Nat.reduceLT, Nat.lt_irrefl, true_and, and_self, ↓reduceIte]
  refine callO_eq rfl rfl rfl rfl rfl pc ?_
  simp only [go_sem, Nat.reduceEqDiff, Nat.reduceAdd, Nat.reduceLeDiff, List.length_map, z4, at4, BoxM.at, EvM.at, fillB, Int.reduceLT, Int.reduceLE, Int.reduceToNat, Int.toNat_zero, Int.le_refl, Int.reduceAdd, decide_true, decide_false, wr1, wr2, wr3, wr4, c0, c1, c2, c3, c4, Nat.reduceMul, Nat.reduceLT, Nat.lt_irrefl, true_and, and_self, ↓reduceIte]
  refine callP_eq rfl rfl pc9 ?_
  simp only [hne, go_sem, Nat.reduceEqDiff, Nat.reduceAdd, Nat.reduceLeDiff, List.length_map, z4, at4, BoxM.at, EvM.at, fillB, Int.reduceLT, Int.reduceLE, Int.reduceToNat, Int.toNat_zero, Int.le_refl, Int.reduceAdd, decide_true, decide_false, wr1, wr2, wr3, wr4, c0, c1, c2, c3, c4, Nat.reduceMul, Nat.reduceLT, Nat.lt_irrefl, true_and, and_self, ↓reduceIte]
  refine callP_eq rfl rfl pq0 ?_
  simp only [go_sem, Nat.reduceEqDiff, Nat.reduceAdd, Nat.reduceLeDiff, List.length_map, z4, at4, BoxM.at, EvM.at, fillB, Int.reduceLT, Int.reduceLE, Int.reduceToNat, Int.toNat_zero, Int.le_refl, Int.reduceAdd, decide_true, decide_false, wr1, wr2, wr3, wr4, c0, c1, c2, c3, c4, Nat.reduceMul, Nat.reduceLT, Nat.lt_irrefl, true_and, and_self, ↓reduceIte]
  refine callP_eq rfl rfl psa0 ?_
  simp only [go_sem, Nat.reduceEqDiff, Nat.reduceAdd, Nat.reduceLeDiff, List.length_map, z4, at4, BoxM.at, EvM.at, fillB, Int.reduceLT, Int.reduceLE, Int.reduceToNat, Int.toNat_zero, Int.le_refl, Int.reduceAdd, decide_true, decide_false, wr1, wr2, wr3, wr4, c0, c1, c2, c3, c4, Nat.reduceMul, Nat.reduceLT, Nat.lt_irrefl, true_and, and_self, ↓reduceIte]
  cases ok
  ·rw [Bool.false_and] at hsn
   rw [hsn] at hst
   simp only [go_sem, Nat.reduceEqDiff, Nat.reduceAdd, Nat.reduceLeDiff, List.length_map, z4, at4, BoxM.at, EvM.at, fillB, Int.reduceLT, Int.reduceLE, Int.reduceToNat, Int.toNat_zero, Int.le_refl, Int.reduceAdd, decide_true, decide_false, wr1, wr2, wr3, wr4, c0, c1, c2, c3, c4, Nat.reduceMul, Nat.reduceLT, Nat.lt_irrefl, true_and, and_self, ↓reduceIte]
   refine invN_next (show 0 < 4 by omega) trivial ?_
   simp only [stG, hsn, hst]
   simp only [evC, go_sem, Nat.reduceEqDiff, Nat.reduceAdd, Nat.reduceLeDiff, List.length_map, z4, at4, BoxM.at, EvM.at, fillB, Int.reduceLT, Int.reduceLE, Int.reduceToNat, Int.toNat_zero, Int.le_refl, Int.reduceAdd, decide_true, decide_false, wr1, wr2, wr3, wr4, c0, c1, c2, c3, c4, Nat.reduceMul, Nat.reduceLT, Nat.lt_irrefl, true_and, and_self, ↓reduceIte]
   rfl
  ·rw [Bool.true_and] at hsn
   cases hdd : decide (ii ≥ 0)
   ·rw [hdd] at hsn
    rw [hsn] at hst
    simp only [hdd, go_sem, Nat.reduceEqDiff, Nat.reduceAdd, Nat.reduceLeDiff, List.length_map, z4, at4, BoxM.at, EvM.at, fillB, Int.reduceLT, Int.reduceLE, Int.reduceToNat, Int.toNat_zero, Int.le_refl, Int.reduceAdd, decide_true, decide_false, wr1, wr2, wr3, wr4, c0, c1, c2, c3, c4, Nat.reduceMul, Nat.reduceLT, Nat.lt_irrefl, true_and, and_self, ↓reduceIte]
    refine invN_next (show 0 < 4 by omega) trivial ?_
    simp only [stG, hsn, hst]
    simp only [evC, go_sem, Nat.reduceEqDiff, Nat.reduceAdd, Nat.reduceLeDiff, List.length_map, z4, at4, BoxM.at, EvM.at, fillB, Int.reduceLT, Int.reduceLE, Int.reduceToNat, Int.toNat_zero, Int.le_refl, Int.reduceAdd, decide_true, decide_false, wr1, wr2, wr3, wr4, c0, c1, c2, c3, c4, Nat.reduceMul, Nat.reduceLT, Nat.lt_irrefl, true_and, and_self, ↓reduceIte]
    rfl
   ·rw [hdd] at hsn
    rw [hsn] at hst
    obtain ⟨hm1, hm2⟩ := hps hdd
    rcases hid with hid | ⟨n, hn1, hn2, -⟩
    ·exact absurd hdd (by rw [hid]; decide)
    subst hn2
    rw [Int.toNat_natCast] at hst hm1
    have gc := get_setC hn1
    obtain ⟨b1, b2, b3⟩ := hce0 _ hm1
    have ps := kSample _ (by omega : ((attrM (f ++ g) 0).getD n noM).ints.length ≤ 100000) (by omega) b1
    generalize (attrM (f ++ g) 0).getD n noM = c at *
    unfold setC at ps
    simp only [hdd, nn0, Int.toNat_natCast, gc, setC, go_sem, Nat.reduceEqDiff, Nat.reduceAdd, Nat.reduceLeDiff, List.length_map, z4, at4, BoxM.at, EvM.at, fillB, Int.reduceLT, Int.reduceLE, Int.reduceToNat, Int.toNat_zero, Int.le_refl, Int.reduceAdd, decide_true, decide_false, wr1, wr2, wr3, wr4, c0, c1, c2, c3, c4, Nat.reduceMul, Nat.reduceLT, Nat.lt_irrefl, true_and, and_self, ↓reduceIte]
    refine callP_eq rfl rfl ps ?_
    simp only [valC, go_sem, Nat.reduceEqDiff, Nat.reduceAdd, Nat.reduceLeDiff, List.length_map, z4, at4, BoxM.at, EvM.at, fillB, Int.reduceLT, Int.reduceLE, Int.reduceToNat, Int.toNat_zero, Int.le_refl, Int.reduceAdd, decide_true, decide_false, wr1, wr2, wr3, wr4, c0, c1, c2, c3, c4, Nat.reduceMul, Nat.reduceLT, Nat.lt_irrefl, true_and, and_self, ↓reduceIte]
    refine invN_next (show 0 < 4 by omega) trivial ?_
    simp only [stG, hsn, hst]
    simp only [evC, putE, reduceIte, go_sem, Nat.reduceEqDiff, Nat.reduceAdd, Nat.reduceLeDiff, List.length_map, z4, at4, BoxM.at, EvM.at, fillB, Int.reduceLT, Int.reduceLE, Int.reduceToNat, Int.toNat_zero, Int.le_refl, Int.reduceAdd, decide_true, decide_false, wr1, wr2, wr3, wr4, c0, c1, c2, c3, c4, Nat.reduceMul, Nat.reduceLT, Nat.lt_irrefl, true_and, and_self, ↓reduceIte]
    rfl
 ·have hid := idx_cases (fun c => hasM c (e.at 1)) (attrM (f ++ g) 1)
  have hsn : okG (f ++ g) e (1 + 1) = (okG (f ++ g) e 1 && decide (idG (f ++ g) e 1 ≥ 0)) := rfl
  have hst : smG (f ++ g) e (1 + 1) = if okG (f ++ g) e (1 + 1) = true then putE (smG (f ++ g) e 1) 1 (sampleM ((attrM (f ++ g) 1).getD (idG (f ++ g) e 1).toNat noM)).1 else smG (f ++ g) e 1 := rfl
  have hps := idG_pos (bs := f ++ g) (e := e) (i := 1)
  have hpw := pw1
  change PureAt _ _ _ (· = .val (.int .i64 (idG (f ++ g) e 1))) at hpw
  change idG (f ++ g) e 1 = -1 ∨ ∃ n, n < _ ∧ idG (f ++ g) e 1 = ((n : Nat) : Int) ∧ _ at hid
  simp only [stG]
  generalize okG (f ++ g) e 1 = ok at *
  generalize smG (f ++ g) e 1 = sm at *
  generalize hii : idG (f ++ g) e 1 = ii at *
  simp only [reduceIte, go_sem, Nat.reduceEqDiff, Nat.reduceAdd, Nat.reduceLeDiff, List.length_map, z4, at4, BoxM.at, EvM.at, fillB, Int.reduceLT, Int.reduceLE, Int.reduceToNat, Int.toNat_zero, Int.le_refl, Int.reduceAdd, decide_true, decide_false, wr1, wr2, wr3, wr4, c0, c1, c2, c3, c4, Nat.reduceMul, Nat.reduceLT, Nat.lt_irrefl, true_and, and_self, ↓reduceIte]
  refine callO_eq rfl rfl rfl rfl rfl pa1 ?_
  rw [valC_at] at hpw
  simp only [evC, go_sem, Nat.reduceEqDiff, Nat.reduceAdd, Nat.reduceLeDiff, List.length_map, z4, at4, BoxM.at, EvM.at, fillB, Int.reduceLT, Int.reduceLE, Int.reduceToNat, Int.toNat_zero, Int.le_refl, Int.reduceAdd, decide_true, decide_false, wr1, wr2, wr3, wr4, c0, c1, c2, c3, c4, Nat.reduceMul, Nat.reduceLT, Nat.lt_irrefl, true_and, and_self, ↓reduceIte]
  refine callP_eq rfl rfl hpw ?_
  simp only [go_sem, Nat.reduceEqDiff, Nat.reduceAdd, Nat.reduceLeDiff, List.length_map, z4, at4, BoxM.at, EvM.at, fillB, Int.reduceLT, Int.reduceLE, Int.reduceToNat, Int.toNat_zero, Int.le_refl, Int.reduceAdd, decide_true, decide_false, wr1, wr2, wr3, wr4, c0, c1, c2, c3, c4, Nat.reduceMul, Nat.reduceLT, Nat.lt_irrefl, true_and, and_self, ↓reduceIte]
  refine callO_eq rfl rfl rfl rfl rfl pc ?_
  simp only [go_sem, Nat.reduceEqDiff, Nat.reduceAdd, Nat.reduceLeDiff, List.length_map, z4, at4, BoxM.at, EvM.at, fillB, Int.reduceLT, Int.reduceLE, Int.reduceToNat, Int.toNat_zero, Int.le_refl, Int.reduceAdd, decide_true, decide_false, wr1, wr2, wr3, wr4, c0, c1, c2, c3, c4, Nat.reduceMul, Nat.reduceLT, Nat.lt_irrefl, true_and, and_self, ↓reduceIte]
  refine callP_eq rfl rfl pc9 ?_
  simp only [hne, go_sem, Nat.reduceEqDiff, Nat.reduceAdd, Nat.reduceLeDiff, List.length_map, z4, at4, BoxM.at, EvM.at, fillB, Int.reduceLT, Int.reduceLE, Int.reduceToNat, Int.toNat_zero, Int.le_refl, Int.reduceAdd, decide_true, decide_false, wr1, wr2, wr3, wr4, c0, c1, c2, c3, c4, Nat.reduceMul, Nat.reduceLT, Nat.lt_irrefl, true_and, and_self, ↓reduceIte]
  refine callP_eq rfl rfl pq1 ?_
  simp only [go_sem, Nat.reduceEqDiff, Nat.reduceAdd, Nat.reduceLeDiff, List.length_map, z4, at4, BoxM.at, EvM.at, fillB, Int.reduceLT, Int.reduceLE, Int.reduceToNat, Int.toNat_zero, Int.le_refl, Int.reduceAdd, decide_true, decide_false, wr1, wr2, wr3, wr4, c0, c1, c2, c3, c4, Nat.reduceMul, Nat.reduceLT, Nat.lt_irrefl, true_and, and_self, ↓reduceIte]
  refine callP_eq rfl rfl psa1 ?_
  simp only [go_sem, Nat.reduceEqDiff, Nat.reduceAdd, Nat.reduceLeDiff, List.length_map, z4, at4, BoxM.at, EvM.at, fillB, Int.reduceLT, Int.reduceLE, Int.reduceToNat, Int.toNat_zero, Int.le_refl, Int.reduceAdd, decide_true, decide_false, wr1, wr2, wr3, wr4, c0, c1, c2, c3, c4, Nat.reduceMul, Nat.reduceLT, Nat.lt_irrefl, true_and, and_self, ↓reduceIte]
  cases ok
  ·rw [Bool.false_and] at hsn
   rw [hsn] at hst
   simp only [go_sem, Nat.reduceEqDiff, Nat.reduceAdd, Nat.reduceLeDiff, List.length_map, z4, at4, BoxM.at, EvM.at, fillB, Int.reduceLT, Int.reduceLE, Int.reduceToNat, Int.toNat_zero, Int.le_refl, Int.reduceAdd, decide_true, decide_false, wr1, wr2, wr3, wr4, c0, c1, c2, c3, c4, Nat.reduceMul, Nat.reduceLT, Nat.lt_irrefl, true_and, and_self, ↓reduceIte]
   refine invN_next (show 1 < 4 by omega) trivial ?_
   simp only [stG, hsn, hst]
   simp only [evC, go_sem, Nat.reduceEqDiff, Nat.reduceAdd, Nat.reduceLeDiff, List.length_map, z4, at4, BoxM.at, EvM.at, fillB, Int.reduceLT, Int.reduceLE, Int.reduceToNat, Int.toNat_zero, Int.le_refl, Int.reduceAdd, decide_true, decide_false, wr1, wr2, wr3, wr4, c0, c1, c2, c3, c4, Nat.reduceMul, Nat.reduceLT, Nat.lt_irrefl, true_and, and_self, ↓reduceIte]
   rfl
  ·rw [Bool.true_and] at hsn
   cases hdd : decide (ii ≥ 0)
   ·rw [hdd] at hsn
    rw [hsn] at hst
    simp only [hdd, go_sem, Nat.reduceEqDiff, Nat.reduceAdd, Nat.reduceLeDiff, List.length_map, z4, at4, BoxM.at, EvM.at, fillB, Int.reduceLT, Int.reduceLE, Int.reduceToNat, Int.toNat_zero, Int.le_refl, Int.reduceAdd, decide_true, decide_false, wr1, wr2, wr3, wr4, c0, c1, c2, c3, c4, Nat.reduceMul, Nat.reduceLT, Nat.lt_irrefl, true_and, and_self, ↓reduceIte]
    refine invN_next (show 1 < 4 by omega) trivial ?_
    simp only [stG, hsn, hst]
    simp only [evC, go_sem, Nat.reduceEqDiff, Nat.reduceAdd, Nat.reduceLeDiff, List.length_map, z4, at4, BoxM.at, EvM.at, fillB, Int.reduceLT, Int.reduceLE, Int.reduceToNat, Int.toNat_zero, Int.le_refl, Int.reduceAdd, decide_true, decide_false, wr1, wr2, wr3, wr4, c0, c1, c2, c3, c4, Nat.reduceMul, Nat.reduceLT, Nat.lt_irrefl, true_and, and_self, ↓reduceIte]
    rfl
   ·rw [hdd] at hsn
    rw [hsn] at hst
    obtain ⟨hm1, hm2⟩ := hps hdd
    rcases hid with hid | ⟨n, hn1, hn2, -⟩
    ·exact absurd hdd (by rw [hid]; decide)
    subst hn2
    rw [Int.toNat_natCast] at hst hm1
    have gc := get_setC hn1
    obtain ⟨b1, b2, b3⟩ := hce1 _ hm1
    have ps := kSample _ (by omega : ((attrM (f ++ g) 1).getD n noM).ints.length ≤ 100000) (by omega) b1
    generalize (attrM (f ++ g) 1).getD n noM = c at *
    unfold setC at ps
    simp only [hdd, nn0, Int.toNat_natCast, gc, setC, go_sem, Nat.reduceEqDiff, Nat.reduceAdd, Nat.reduceLeDiff, List.length_map, z4, at4, BoxM.at, EvM.at, fillB, Int.reduceLT, Int.reduceLE, Int.reduceToNat, Int.toNat_zero, Int.le_refl, Int.reduceAdd, decide_true, decide_false, wr1, wr2, wr3, wr4, c0, c1, c2, c3, c4, Nat.reduceMul, Nat.reduceLT, Nat.lt_irrefl, true_and, and_self, ↓reduceIte]
    refine callP_eq rfl rfl ps ?_
    simp only [valC, go_sem, Nat.reduceEqDiff, Nat.reduceAdd, Nat.reduceLeDiff, List.length_map, z4, at4, BoxM.at, EvM.at, fillB, Int.reduceLT, Int.reduceLE, Int.reduceToNat, Int.toNat_zero, Int.le_refl, Int.reduceAdd, decide_true, decide_false, wr1, wr2, wr3, wr4, c0, c1, c2, c3, c4, Nat.reduceMul, Nat.reduceLT, Nat.lt_irrefl, true_and, and_self, ↓reduceIte]
    refine invN_next (show 1 < 4 by omega) trivial ?_
    simp only [stG, hsn, hst]
    simp only [evC, putE, reduceIte, go_sem, Nat.reduceEqDiff, Nat.reduceAdd, Nat.reduceLeDiff, List.length_map, z4, at4, BoxM.at, EvM.at, fillB, Int.reduceLT, Int.reduceLE, Int.reduceToNat, Int.toNat_zero, Int.le_refl, Int.reduceAdd, decide_true, decide_false, wr1, wr2, wr3, wr4, c0, c1, c2, c3, c4, Nat.reduceMul, Nat.reduceLT, Nat.lt_irrefl, true_and, and_self, ↓reduceIte]
    rfl
 ·have hid := idx_cases (fun c => hasM c (e.at 2)) (attrM (f ++ g) 2)
  have hsn : okG (f ++ g) e (2 + 1) = (okG (f ++ g) e 2 && decide (idG (f ++ g) e 2 ≥ 0)) := rfl
  have hst : smG (f ++ g) e (2 + 1) = if okG (f ++ g) e (2 + 1) = true then putE (smG (f ++ g) e 2) 2 (sampleM ((attrM (f ++ g) 2).getD (idG (f ++ g) e 2).toNat noM)).1 else smG (f ++ g) e 2 := rfl
  have hps := idG_pos (bs := f ++ g) (e := e) (i := 2)
  have hpw := pw2
  change PureAt _ _ _ (· = .val (.int .i64 (idG (f ++ g) e 2))) at hpw
  change idG (f ++ g) e 2 = -1 ∨ ∃ n, n < _ ∧ idG (f ++ g) e 2 = ((n : Nat) : Int) ∧ _ at hid
  simp only [stG]
  generalize okG (f ++ g) e 2 = ok at *
  generalize smG (f ++ g) e 2 = sm at *
  generalize hii : idG (f ++ g) e 2 = ii at *
  simp only [reduceIte, go_sem, Nat.reduceEqDiff, Nat.reduceAdd, Nat.reduceLeDiff, List.length_map, z4, at4, BoxM.at, EvM.at, fillB, Int.reduceLT, Int.reduceLE, Int.reduceToNat, Int.toNat_zero, Int.le_refl, Int.reduceAdd, decide_true, decide_false, wr1, wr2, wr3, wr4, c0, c1, c2, c3, c4, Nat.reduceMul, Nat.reduceLT, Nat.lt_irrefl, true_and, and_self, ↓reduceIte]
  refine callO_eq rfl rfl rfl rfl rfl pa2 ?_
  rw [valC_at] at hpw
  simp only [evC, go_sem, Nat.reduceEqDiff, Nat.reduceAdd, Nat.reduceLeDiff, List.length_map, z4, at4, BoxM.at, EvM.at, fillB, Int.reduceLT, Int.reduceLE, Int.reduceToNat, Int.toNat_zero, Int.le_refl, Int.reduceAdd, decide_true, decide_false, wr1, wr2, wr3, wr4, c0, c1, c2, c3, c4, Nat.reduceMul, Nat.reduceLT, Nat.lt_irrefl, true_and, and_self, ↓reduceIte]
  refine callP_eq rfl rfl hpw ?_
  simp only [go_sem, Nat.reduceEqDiff, Nat.reduceAdd, Nat.reduceLeDiff, List.length_map, z4, at4, BoxM.at, EvM.at, fillB, Int.reduceLT, Int.reduceLE, Int.reduceToNat, Int.toNat_zero, Int.le_refl, Int.reduceAdd, decide_true, decide_false, wr1, wr2, wr3, wr4, c0, c1, c2, c3, c4, Nat.reduceMul, Nat.reduceLT, Nat.lt_irrefl, true_and, and_self, ↓reduceIte]
  refine callO_eq rfl rfl rfl rfl rfl pc ?_
  simp only [go_sem, Nat.reduceEqDiff, Nat.reduceAdd, Nat.reduceLeDiff, List.length_map, z4, at4, BoxM.at, EvM.at, fillB, Int.reduceLT, Int.reduceLE, Int.reduceToNat, Int.toNat_zero, Int.le_refl, Int.reduceAdd, decide_true, decide_false, wr1, wr2, wr3, wr4, c0, c1, c2, c3, c4, Nat.reduceMul, Nat.reduceLT, Nat.lt_irrefl, true_and, and_self, ↓reduceIte]
  refine callP_eq rfl rfl pc9 ?_
  simp only [hne, go_sem, Nat.reduceEqDiff, Nat.reduceAdd, Nat.reduceLeDiff, List.length_map, z4, at4, BoxM.at, EvM.at, fillB, Int.reduceLT, Int.reduceLE, Int.reduceToNat, Int.toNat_zero, Int.le_refl, Int.reduceAdd, decide_true, decide_false, wr1, wr2, wr3, wr4, c0, c1, c2, c3, c4, Nat.reduceMul, Nat.reduceLT, Nat.lt_irrefl, true_and, and_self, ↓reduceIte]
  refine callP_eq rfl rfl pq2 ?_
  simp only [go_sem, Nat.reduceEqDiff, Nat.reduceAdd, Nat.reduceLeDiff, List.length_map, z4, at4, BoxM.at, EvM.at, fillB, Int.reduceLT, Int.reduceLE, Int.reduceToNat, Int.toNat_zero, Int.le_refl, Int.reduceAdd, decide_true, decide_false, wr1, wr2, wr3, wr4, c0, c1, c2, c3, c4, Nat.reduceMul, Nat.reduceLT, Nat.lt_irrefl, true_and, and_self, ↓reduceIte]
  refine callP_eq rfl rfl psa2 ?_
  simp only [go_sem, Nat.reduceEqDiff, Nat.reduceAdd, Nat.reduceLeDiff, List.length_map, z4, at4, BoxM.at, EvM.at, fillB, Int.reduceLT, Int.reduceLE, Int.reduceToNat, Int.toNat_zero, Int.le_refl, Int.reduceAdd, decide_true, decide_false, wr1, wr2, wr3, wr4, c0, c1, c2, c3, c4, Nat.reduceMul, Nat.reduceLT, Nat.lt_irrefl, true_and, and_self, ↓reduceIte]
  cases ok
  ·rw [Bool.false_and] at hsn
   rw [hsn] at hst
   simp only [go_sem, Nat.reduceEqDiff, Nat.reduceAdd, Nat.reduceLeDiff, List.length_map, z4, at4, BoxM.at, EvM.at, fillB, Int.reduceLT, Int.reduceLE, Int.reduceToNat, Int.toNat_zero, Int.le_refl, Int.reduceAdd, decide_true, decide_false, wr1, wr2, wr3, wr4, c0, c1, c2, c3, c4, Nat.reduceMul, Nat.reduceLT, Nat.lt_irrefl, true_and, and_self, ↓reduceIte]
   refine invN_next (show 2 < 4 by omega) trivial ?_
   simp only [stG, hsn, hst]
   simp only [evC, go_sem, Nat.reduceEqDiff, Nat.reduceAdd, Nat.reduceLeDiff, List.length_map, z4, at4, BoxM.at, EvM.at, fillB, Int.reduceLT, Int.reduceLE, Int.reduceToNat, Int.toNat_zero, Int.le_refl, Int.reduceAdd, decide_true, decide_false, wr1, wr2, wr3, wr4, c0, c1, c2, c3, c4, Nat.reduceMul, Nat.reduceLT, Nat.lt_irrefl, true_and, and_self, ↓reduceIte]
   rfl
  ·rw [Bool.true_and] at hsn
   cases hdd : decide (ii ≥ 0)
   ·rw [hdd] at hsn
    rw [hsn] at hst
    simp only [hdd, go_sem, Nat.reduceEqDiff, Nat.reduceAdd, Nat.reduceLeDiff, List.length_map, z4, at4, BoxM.at, EvM.at, fillB, Int.reduceLT, Int.reduceLE, Int.reduceToNat, Int.toNat_zero, Int.le_refl, Int.reduceAdd, decide_true, decide_false, wr1, wr2, wr3, wr4, c0, c1, c2, c3, c4, Nat.reduceMul, Nat.reduceLT, Nat.lt_irrefl, true_and, and_self, ↓reduceIte]
    refine invN_next (show 2 < 4 by omega) trivial ?_
    simp only [stG, hsn, hst]
    simp only [evC, go_sem, Nat.reduceEqDiff, Nat.reduceAdd, Nat.reduceLeDiff, List.length_map, z4, at4, BoxM.at, EvM.at, fillB, Int.reduceLT, Int.reduceLE, Int.reduceToNat, Int.toNat_zero, Int.le_refl, Int.reduceAdd, decide_true, decide_false, wr1, wr2, wr3, wr4, c0, c1, c2, c3, c4, Nat.reduceMul, Nat.reduceLT, Nat.lt_irrefl, true_and, and_self, ↓reduceIte]
    rfl
   ·rw [hdd] at hsn
    rw [hsn] at hst
    obtain ⟨hm1, hm2⟩ := hps hdd
    rcases hid with hid | ⟨n, hn1, hn2, -⟩
    ·exact absurd hdd (by rw [hid]; decide)
    subst hn2
    rw [Int.toNat_natCast] at hst hm1
    have gc := get_setC hn1
    obtain ⟨b1, b2, b3⟩ := hce2 _ hm1
    have ps := kSample _ (by omega : ((attrM (f ++ g) 2).getD n noM).ints.length ≤ 100000) (by omega) b1
    generalize (attrM (f ++ g) 2).getD n noM = c at *
    unfold setC at ps
    simp only [hdd, nn0, Int.toNat_natCast, gc, setC, go_sem, Nat.reduceEqDiff, Nat.reduceAdd, Nat.reduceLeDiff, List.length_map, z4, at4, BoxM.at, EvM.at, fillB, Int.reduceLT, Int.reduceLE, Int.reduceToNat, Int.toNat_zero, Int.le_refl, Int.reduceAdd, decide_true, decide_false, wr1, wr2, wr3, wr4, c0, c1, c2, c3, c4, Nat.reduceMul, Nat.reduceLT, Nat.lt_irrefl, true_and, and_self, ↓reduceIte]
    refine callP_eq rfl rfl ps ?_
    simp only [valC, go_sem, Nat.reduceEqDiff, Nat.reduceAdd, Nat.reduceLeDiff, List.length_map, z4, at4, BoxM.at, EvM.at, fillB, Int.reduceLT, Int.reduceLE, Int.reduceToNat, Int.toNat_zero, Int.le_refl, Int.reduceAdd, decide_true, decide_false, wr1, wr2, wr3, wr4, c0, c1, c2, c3, c4, Nat.reduceMul, Nat.reduceLT, Nat.lt_irrefl, true_and, and_self, ↓reduceIte]
    refine invN_next (show 2 < 4 by omega) trivial ?_
    simp only [stG, hsn, hst]
    simp only [evC, putE, reduceIte, go_sem, Nat.reduceEqDiff, Nat.reduceAdd, Nat.reduceLeDiff, List.length_map, z4, at4, BoxM.at, EvM.at, fillB, Int.reduceLT, Int.reduceLE, Int.reduceToNat, Int.toNat_zero, Int.le_refl, Int.reduceAdd, decide_true, decide_false, wr1, wr2, wr3, wr4, c0, c1, c2, c3, c4, Nat.reduceMul, Nat.reduceLT, Nat.lt_irrefl, true_and, and_self, ↓reduceIte]
    rfl
 ·have hid := idx_cases (fun c => hasM c (e.at 3)) (attrM (f ++ g) 3)
  have hsn : okG (f ++ g) e (3 + 1) = (okG (f ++ g) e 3 && decide (idG (f ++ g) e 3 ≥ 0)) := rfl
  have hst : smG (f ++ g) e (3 + 1) = if okG (f ++ g) e (3 + 1) = true then putE (smG (f ++ g) e 3) 3 (sampleM ((attrM (f ++ g) 3).getD (idG (f ++ g) e 3).toNat noM)).1 else smG (f ++ g) e 3 := rfl
  have hps := idG_pos (bs := f ++ g) (e := e) (i := 3)
  have hpw := pw3
  change PureAt _ _ _ (· = .val (.int .i64 (idG (f ++ g) e 3))) at hpw
  change idG (f ++ g) e 3 = -1 ∨ ∃ n, n < _ ∧ idG (f ++ g) e 3 = ((n : Nat) : Int) ∧ _ at hid
  simp only [stG]
  generalize okG (f ++ g) e 3 = ok at *
  generalize smG (f ++ g) e 3 = sm at *
  generalize hii : idG (f ++ g) e 3 = ii at *
  simp only [reduceIte, go_sem, Nat.reduceEqDiff, Nat.reduceAdd, Nat.reduceLeDiff, List.length_map, z4, at4, BoxM.at, EvM.at, fillB, Int.reduceLT, Int.reduceLE, Int.reduceToNat, Int.toNat_zero, Int.le_refl, Int.reduceAdd, decide_true, decide_false, wr1, wr2, wr3, wr4, c0, c1, c2, c3, c4, Nat.reduceMul, Nat.reduceLT, Nat.lt_irrefl, true_and, and_self, ↓reduceIte]
  refine callO_eq rfl rfl rfl rfl rfl pa3 ?_
  rw [valC_at] at hpw
  simp only [evC, go_sem, Nat.reduceEqDiff, Nat.reduceAdd, Nat.reduceLeDiff, List.length_map, z4, at4, BoxM.at, EvM.at, fillB, Int.reduceLT, Int.reduceLE, Int.reduceToNat, Int.toNat_zero, Int.le_refl, Int.reduceAdd, decide_true, decide_false, wr1, wr2, wr3, wr4, c0, c1, c2, c3, c4, Nat.reduceMul, Nat.reduceLT, Nat.lt_irrefl, true_and, and_self, ↓reduceIte]
  refine callP_eq rfl rfl hpw ?_
  simp only [go_sem, Nat.reduceEqDiff, Nat.reduceAdd, Nat.reduceLeDiff, List.length_map, z4, at4, BoxM.at, EvM.at, fillB, Int.reduceLT, Int.reduceLE, Int.reduceToNat, Int.toNat_zero, Int.le_refl, Int.reduceAdd, decide_true, decide_false, wr1, wr2, wr3, wr4, c0, c1, c2, c3, c4, Nat.reduceMul, Nat.reduceLT, Nat.lt_irrefl, true_and, and_self, ↓reduceIte]
  refine callO_eq rfl rfl rfl rfl rfl pc ?_
  simp only [go_sem, Nat.reduceEqDiff, Nat.reduceAdd, Nat.reduceLeDiff, List.length_map, z4, at4, BoxM.at, EvM.at, fillB, Int.reduceLT, Int.reduceLE, Int.reduceToNat, Int.toNat_zero, Int.le_refl, Int.reduceAdd, decide_true, decide_false, wr1, wr2, wr3, wr4, c0, c1, c2, c3, c4, Nat.reduceMul, Nat.reduceLT, Nat.lt_irrefl, true_and, and_self, ↓reduceIte]
  refine callP_eq rfl rfl pc9 ?_
  simp only [hne, go_sem, Nat.reduceEqDiff, Nat.reduceAdd, Nat.reduceLeDiff, List.length_map, z4, at4, BoxM.at, EvM.at, fillB, Int.reduceLT, Int.reduceLE, Int.reduceToNat, Int.toNat_zero, Int.le_refl, Int.reduceAdd, decide_true, decide_false, wr1, wr2, wr3, wr4, c0, c1, c2, c3, c4, Nat.reduceMul, Nat.reduceLT, Nat.lt_irrefl, true_and, and_self, ↓reduceIte]
  refine callP_eq rfl rfl pq3 ?_
  simp only [go_sem, Nat.reduceEqDiff, Nat.reduceAdd, Nat.reduceLeDiff, List.length_map, z4, at4, BoxM.at, EvM.at, fillB, Int.reduceLT, Int.reduceLE, Int.reduceToNat, Int.toNat_zero, Int.le_refl, Int.reduceAdd, decide_true, decide_false, wr1, wr2, wr3, wr4, c0, c1, c2, c3, c4, Nat.reduceMul, Nat.reduceLT, Nat.lt_irrefl, true_and, and_self, ↓reduceIte]
  refine callP_eq rfl rfl psa3 ?_
  simp only [go_sem, Nat.reduceEqDiff, Nat.reduceAdd, Nat.reduceLeDiff, List.length_map, z4, at4, BoxM.at, EvM.at, fillB, Int.reduceLT, Int.reduceLE, Int.reduceToNat, Int.toNat_zero, Int.le_refl, Int.reduceAdd, decide_true, decide_false, wr1, wr2, wr3, wr4, c0, c1, c2, c3, c4, Nat.reduceMul, Nat.reduceLT, Nat.lt_irrefl, true_and, and_self, ↓reduceIte]
  cases ok
  ·rw [Bool.false_and] at hsn
   rw [hsn] at hst
   simp only [go_sem, Nat.reduceEqDiff, Nat.reduceAdd, Nat.reduceLeDiff, List.length_map, z4, at4, BoxM.at, EvM.at, fillB, Int.reduceLT, Int.reduceLE, Int.reduceToNat, Int.toNat_zero, Int.le_refl, Int.reduceAdd, decide_true, decide_false, wr1, wr2, wr3, wr4, c0, c1, c2, c3, c4, Nat.reduceMul, Nat.reduceLT, Nat.lt_irrefl, true_and, and_self, ↓reduceIte]
   refine invN_next (show 3 < 4 by omega) trivial ?_
   simp only [stG, hsn, hst]
   simp only [evC, go_sem, Nat.reduceEqDiff, Nat.reduceAdd, Nat.reduceLeDiff, List.length_map, z4, at4, BoxM.at, EvM.at, fillB, Int.reduceLT, Int.reduceLE, Int.reduceToNat, Int.toNat_zero, Int.le_refl, Int.reduceAdd, decide_true, decide_false, wr1, wr2, wr3, wr4, c0, c1, c2, c3, c4, Nat.reduceMul, Nat.reduceLT, Nat.lt_irrefl, true_and, and_self, ↓reduceIte]
   rfl
  ·rw [Bool.true_and] at hsn
   cases hdd : decide (ii ≥ 0)
   ·rw [hdd] at hsn
    rw [hsn] at hst
    simp only [hdd, go_sem, Nat.reduceEqDiff, Nat.reduceAdd, Nat.reduceLeDiff, List.length_map, z4, at4, BoxM.at, EvM.at, fillB, Int.reduceLT, Int.reduceLE, Int.reduceToNat, Int.toNat_zero, Int.le_refl, Int.reduceAdd, decide_true, decide_false, wr1, wr2, wr3, wr4, c0, c1, c2, c3, c4, Nat.reduceMul, Nat.reduceLT, Nat.lt_irrefl, true_and, and_self, ↓reduceIte]
    refine invN_next (show 3 < 4 by omega) trivial ?_
    simp only [stG, hsn, hst]
    simp only [evC, go_sem, Nat.reduceEqDiff, Nat.reduceAdd, Nat.reduceLeDiff, List.length_map, z4, at4, BoxM.at, EvM.at, fillB, Int.reduceLT, Int.reduceLE, Int.reduceToNat, Int.toNat_zero, Int.le_refl, Int.reduceAdd, decide_true, decide_false, wr1, wr2, wr3, wr4, c0, c1, c2, c3, c4, Nat.reduceMul, Nat.reduceLT, Nat.lt_irrefl, true_and, and_self, ↓reduceIte]
    rfl
   ·rw [hdd] at hsn
    rw [hsn] at hst
    obtain ⟨hm1, hm2⟩ := hps hdd
    rcases hid with hid | ⟨n, hn1, hn2, -⟩
    ·exact absurd hdd (by rw [hid]; decide)
    subst hn2
    rw [Int.toNat_natCast] at hst hm1
    have gc := get_setC hn1
    obtain ⟨b1, b2, b3⟩ := hce3 _ hm1
    have ps := kSample _ (by omega : ((attrM (f ++ g) 3).getD n noM).ints.length ≤ 100000) (by omega) b1
    generalize (attrM (f ++ g) 3).getD n noM = c at *
    unfold setC at ps
    simp only [hdd, nn0, Int.toNat_natCast, gc, setC, go_sem, Nat.reduceEqDiff, Nat.reduceAdd, Nat.reduceLeDiff, List.length_map, z4, at4, BoxM.at, EvM.at, fillB, Int.reduceLT, Int.reduceLE, Int.reduceToNat, Int.toNat_zero, Int.le_refl, Int.reduceAdd, decide_true, decide_false, wr1, wr2, wr3, wr4, c0, c1, c2, c3, c4, Nat.reduceMul, Nat.reduceLT, Nat.lt_irrefl, true_and, and_self, ↓reduceIte]
    refine callP_eq rfl rfl ps ?_
    simp only [valC, go_sem, Nat.reduceEqDiff, Nat.reduceAdd, Nat.reduceLeDiff, List.length_map, z4, at4, BoxM.at, EvM.at, fillB, Int.reduceLT, Int.reduceLE, Int.reduceToNat, Int.toNat_zero, Int.le_refl, Int.reduceAdd, decide_true, decide_false, wr1, wr2, wr3, wr4, c0, c1, c2, c3, c4, Nat.reduceMul, Nat.reduceLT, Nat.lt_irrefl, true_and, and_self, ↓reduceIte]
    refine invN_next (show 3 < 4 by omega) trivial ?_
    simp only [stG, hsn, hst]
    simp only [evC, putE, reduceIte, go_sem, Nat.reduceEqDiff, Nat.reduceAdd, Nat.reduceLeDiff, List.length_map, z4, at4, BoxM.at, EvM.at, fillB, Int.reduceLT, Int.reduceLE, Int.reduceToNat, Int.toNat_zero, Int.le_refl, Int.reduceAdd, decide_true, decide_false, wr1, wr2, wr3, wr4, c0, c1, c2, c3, c4, Nat.reduceMul, Nat.reduceLT, Nat.lt_irrefl, true_and, and_self, ↓reduceIte]
    rfl
 ·simp only [stG]
  generalize hkk : okG (f ++ g) e 4 = ok at *
  cases ok
  ·simp only [go_sem, Nat.reduceEqDiff, Nat.reduceAdd, Nat.reduceLeDiff, List.length_map, z4, at4, BoxM.at, EvM.at, fillB, Int.reduceLT, Int.reduceLE, Int.reduceToNat, Int.toNat_zero, Int.le_refl, Int.reduceAdd, decide_true, decide_false, wr1, wr2, wr3, wr4, c0, c1, c2, c3, c4, Nat.reduceMul, Nat.reduceLT, Nat.lt_irrefl, true_and, and_self, ↓reduceIte]
  ·have hfin' := hfin rfl
   have pe1 := pe e
   have pe2 := pe (smG (f ++ g) e 4)
   rw [hfin'] at pe1
   generalize smG (f ++ g) e 4 = sm at *
   simp only [evC, go_sem, Nat.reduceEqDiff, Nat.reduceAdd, Nat.reduceLeDiff, List.length_map, z4, at4, BoxM.at, EvM.at, fillB, Int.reduceLT, Int.reduceLE, Int.reduceToNat, Int.toNat_zero, Int.le_refl, Int.reduceAdd, decide_true, decide_false, wr1, wr2, wr3, wr4, c0, c1, c2, c3, c4, Nat.reduceMul, Nat.reduceLT, Nat.lt_irrefl, true_and, and_self, ↓reduceIte]
   unfold evC at pe1 pe2
   refine callQ_by _ rfl rfl pe1 ?_
   simp only [go_sem, Nat.reduceEqDiff, Nat.reduceAdd, Nat.reduceLeDiff, List.length_map, z4, at4, BoxM.at, EvM.at, fillB, Int.reduceLT, Int.reduceLE, Int.reduceToNat, Int.toNat_zero, Int.le_refl, Int.reduceAdd, decide_true, decide_false, wr1, wr2, wr3, wr4, c0, c1, c2, c3, c4, Nat.reduceMul, Nat.reduceLT, Nat.lt_irrefl, true_and, and_self, ↓reduceIte]
   refine callQ_by _ rfl rfl pe2 ?_
   simp only [beq_self_eq_true, go_sem, Nat.reduceEqDiff, Nat.reduceAdd, Nat.reduceLeDiff, List.length_map, z4, at4, BoxM.at, EvM.at, fillB, Int.reduceLT, Int.reduceLE, Int.reduceToNat, Int.toNat_zero, Int.le_refl, Int.reduceAdd, decide_true, decide_false, wr1, wr2, wr3, wr4, c0, c1, c2, c3, c4, Nat.reduceMul, Nat.reduceLT, Nat.lt_irrefl, true_and, and_self, ↓reduceIte]
end Go.Proofs
