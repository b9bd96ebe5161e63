/- A part of the proof; what is proved stands in the last text. -/
import Derived.Test.YtcclggbngikppaaGreatDoorCB
import Derived.Test.YtcclggbngikppaaGreatDoorTG
set_option linter.unusedVariables false
set_option maxRecDepth 2000
namespace Go.Proofs
open Go.Vm
set_option linter.unusedSimpArgs false
def setsAt (bs : List BoxM) (i : Nat) : List SetM := bs.map fun b => b.at i
def attrM (bs : List BoxM) (i : Nat) : List SetM := cutM (setsAt bs i)
theorem setsAt_ok {bs : List BoxM} (h : ∀ b ∈ bs, OKB b) {i : Nat} (hi : i < 4) : AllOK (setsAt bs i) := fun s hs => by
 obtain ⟨b, hb, rfl⟩ := List.mem_map.1 hs
 exact h b hb i hi
theorem cut_all {r : List SetM} (h : AllOK r) : cutM r = cutR r := by
 unfold cutM
 rw [List.filter_eq_self.2 fun s hs => (h s hs).right]
theorem attr_cut {bs : List BoxM} (h : ∀ b ∈ bs, OKB b) {i : Nat} (hi : i < 4) : attrM bs i = cutR (setsAt bs i) := cut_all (setsAt_ok h hi)
theorem cell_tells {bs : List BoxM} (h : ∀ b ∈ bs, OKB b) {i : Nat} (hi : i < 4) (hl : strsN (attrM bs i) ≤ 100000) {b : BoxM} (hb : b ∈ bs) {c : SetM} (hc : c ∈ attrM bs i) {v : ValM} (hv : hasM c v = true) :
    hasM (b.at i) (sampleM c).1 = hasM (b.at i) v ∧ rightV (sampleM c).1 = true := by
 rw [attr_cut h hi] at hc hl
 have ho := setsAt_ok h hi
 have hle : c.strs.length ≤ strsN (cutR (setsAt bs i)) := by
  unfold strsN
  generalize cutR (setsAt bs i) = L at *
  clear hl
  induction L with
  | nil => simp at hc
  | cons a L ih =>
   rcases List.mem_cons.1 hc with rfl | hc
   ·simp
   ·have := ih hc; simp; omega
 obtain ⟨-, s2, s3, -⟩ := sample_has (cut_ok ho hc) (by omega) (cut_full ho hc)
 exact ⟨cut_whole ho hc (List.mem_map.2 ⟨b, hb, rfl⟩) s2 hv, s3⟩
end Go.Proofs

namespace Go.Proofs
open Go.Vm
set_option linter.unusedSimpArgs false
def zE9 : EvM := ⟨⟨0, 0, ⟨#[]⟩⟩, ⟨0, 0, ⟨#[]⟩⟩, ⟨0, 0, ⟨#[]⟩⟩, ⟨0, 0, ⟨#[]⟩⟩⟩
def putE (e : EvM) (k : Nat) (v : ValM) : EvM := match k with
 | 0 => { e with v0 := v }
 | 1 => { e with v1 := v }
 | 2 => { e with v2 := v }
 | _ => { e with v3 := v }
def mixE (C : Nat → List SetM) : Nat → List EvM
 | 0 => [zE9]
 | k + 1 => (mixE C k).flatMap fun e => (C k).map fun c => putE e k (sampleM c).1
def cntC (C : Nat → List SetM) : Nat → Nat
 | 0 => 1
 | k + 1 => min (cntC C k * (C k).length) 1099511627776
theorem mix_mem {C : Nat → List SetM} {k : Nat} {e : EvM} {c : SetM} (h : e ∈ mixE C k) (hc : c ∈ C k) : putE e k (sampleM c).1 ∈ mixE C (k + 1) :=
 List.mem_flatMap.2 ⟨e, h, List.mem_map.2 ⟨c, hc, rfl⟩⟩
theorem mix_four {C : Nat → List SetM} {c0 c1 c2 c3 : SetM} (h0 : c0 ∈ C 0) (h1 : c1 ∈ C 1) (h2 : c2 ∈ C 2) (h3 : c3 ∈ C 3) : (⟨(sampleM c0).1, (sampleM c1).1, (sampleM c2).1, (sampleM c3).1⟩ : EvM) ∈ mixE C 4 := by
 have := mix_mem (mix_mem (mix_mem (mix_mem (C := C) (k := 0) (e := zE9) (by simp [mixE]) h0) h1) h2) h3
 exact this
theorem len_flat {α β : Type} (f : α → List β) (n : Nat) : ∀ (l : List α), (∀ x ∈ l, (f x).length = n) → (l.flatMap f).length = l.length * n
 | [], _ => by simp
 | a :: l, h => by
  rw [List.flatMap_cons, List.length_append, h a (by simp), len_flat f n l (fun x hx => h x (by simp [hx])), List.length_cons, Nat.succ_mul]
  omega
theorem mix_len (C : Nat → List SetM) (k : Nat) : (mixE C (k + 1)).length = (mixE C k).length * (C k).length := by
 show ((mixE C k).flatMap _).length = _
 exact len_flat _ _ _ (fun e _ => by simp)
theorem cnt_full {C : Nat → List SetM} (h : ∀ i, 1 ≤ (C i).length) : ∀ k, cntC C k = 1099511627776 → ∀ j, cntC C (k + j) = 1099511627776
 | k, hk, 0 => hk
 | k, hk, j + 1 => by
  have := cnt_full h k hk j
  show min (cntC C (k + j) * (C (k + j)).length) 1099511627776 = _
  rw [this]
  have h1 := h (k + j)
  have : 1099511627776 * 1 ≤ 1099511627776 * (C (k + j)).length := Nat.mul_le_mul_left _ h1
  omega
theorem cnt_len {C : Nat → List SetM} (h : ∀ i, 1 ≤ (C i).length) (h4 : cntC C 4 ≤ 5000) : ∀ k, k ≤ 4 → cntC C k = (mixE C k).length
 | 0, _ => rfl
 | k + 1, hk => by
  have ih := cnt_len h h4 k (by omega)
  have hne : cntC C (k + 1) ≠ 1099511627776 := fun he => by
   have := cnt_full h (k + 1) he (4 - (k + 1))
   rw [show k + 1 + (4 - (k + 1)) = 4 by omega] at this
   omega
  rw [mix_len, ← ih]
  have hd : cntC C (k + 1) = min (cntC C k * (C k).length) 1099511627776 := rfl
  rw [hd] at hne ⊢
  omega
theorem cnt_le {C : Nat → List SetM} (h : ∀ i, 1 ≤ (C i).length) (h4 : cntC C 4 ≤ 5000) : ∀ j, j ≤ 4 → cntC C (4 - j) ≤ 5000
 | 0, _ => h4
 | j + 1, hj => by
  have ih := cnt_le h h4 j (by omega)
  have e1 := cnt_len h h4 (4 - j) (by omega)
  have e2 := cnt_len h h4 (4 - (j + 1)) (by omega)
  have hs : 4 - j = (4 - (j + 1)) + 1 := by omega
  rw [hs] at e1 ih
  rw [mix_len] at e1
  have h1 := h (4 - (j + 1))
  have : (mixE C (4 - (j + 1))).length * 1 ≤ (mixE C (4 - (j + 1))).length * (C (4 - (j + 1))).length := Nat.mul_le_mul_left _ h1
  omega
theorem attr_pos (bs : List BoxM) (i : Nat) : 1 ≤ (attrM bs i).length := by
 unfold attrM cutM
 rw [cut_len]; omega
theorem mix_has {bs : List BoxM} (h : ∀ b ∈ bs, OKB b) (hl : ∀ i, i < 4 → strsN (attrM bs i) ≤ 100000) {x : BoxM} (hx : x ∈ bs) {e : EvM} (he : InE e) (hh : hasB x e = true) : ∃ v ∈ mixE (attrM bs) 4, hasB x v = true := by
 unfold hasB at hh
 rw [Bool.and_eq_true, all4_iff] at hh
 obtain ⟨hr, ha⟩ := hh
 have hr4 := all4_iff.1 hr
 have pick : ∀ i, i < 4 → ∃ c ∈ attrM bs i, hasM c (e.at i) = true := fun i hi => by
  rw [attr_cut h hi]
  have := cut_one (setsAt_ok h hi) (v := e.at i) (he i hi)
  rw [if_pos (hr4 i hi)] at this
  exact List.countP_pos_iff.1 (show 0 < (cutR (setsAt bs i)).countP (fun c => hasM c (e.at i)) by omega)
 obtain ⟨c0, m0, q0⟩ := pick 0 (by omega)
 obtain ⟨c1, m1, q1⟩ := pick 1 (by omega)
 obtain ⟨c2, m2, q2⟩ := pick 2 (by omega)
 obtain ⟨c3, m3, q3⟩ := pick 3 (by omega)
 refine ⟨_, mix_four m0 m1 m2 m3, ?_⟩
 obtain ⟨t0, u0⟩ := cell_tells h (by omega) (hl 0 (by omega)) hx m0 q0
 obtain ⟨t1, u1⟩ := cell_tells h (by omega) (hl 1 (by omega)) hx m1 q1
 obtain ⟨t2, u2⟩ := cell_tells h (by omega) (hl 2 (by omega)) hx m2 q2
 obtain ⟨t3, u3⟩ := cell_tells h (by omega) (hl 3 (by omega)) hx m3 q3
 unfold hasB
 rw [Bool.and_eq_true]
 refine ⟨all4_iff.2 fun i hi => ?_, all4_iff.2 fun i hi => ?_⟩
 ·rcases lt4 hi with rfl | rfl | rfl | rfl
  ·exact u0
  ·exact u1
  ·exact u2
  ·exact u3
 ·rcases lt4 hi with rfl | rfl | rfl | rfl
  ·show hasM (x.at 0) (sampleM c0).1 = true
   rw [t0]; exact ha 0 (by omega)
  ·show hasM (x.at 1) (sampleM c1).1 = true
   rw [t1]; exact ha 1 (by omega)
  ·show hasM (x.at 2) (sampleM c2).1 = true
   rw [t2]; exact ha 2 (by omega)
  ·show hasM (x.at 3) (sampleM c3).1 = true
   rw [t3]; exact ha 3 (by omega)
theorem grid_has {bs f : List BoxM} (h : ∀ b ∈ bs, OKB b) (hl : ∀ i, i < 4 → strsN (attrM bs i) ≤ 100000) (hf : ∀ b ∈ f, b ∈ bs) {e : EvM} {c0 c1 c2 c3 : SetM}
    (m0 : c0 ∈ attrM bs 0) (m1 : c1 ∈ attrM bs 1) (m2 : c2 ∈ attrM bs 2) (m3 : c3 ∈ attrM bs 3) (q0 : hasM c0 e.v0 = true) (q1 : hasM c1 e.v1 = true) (q2 : hasM c2 e.v2 = true) (q3 : hasM c3 e.v3 = true) :
    hasF f e = hasF f ⟨(sampleM c0).1, (sampleM c1).1, (sampleM c2).1, (sampleM c3).1⟩ := by
 have right : ∀ {c : SetM} {v : ValM}, hasM c v = true → rightV v = true := fun {c v} hv => by
  cases hh : rightV v
  ·rw [has_no c hh] at hv; cases hv
  ·rfl
 have key : ∀ b ∈ f, hasB b e = hasB b ⟨(sampleM c0).1, (sampleM c1).1, (sampleM c2).1, (sampleM c3).1⟩ := fun b hb => by
  have hx := hf b hb
  obtain ⟨t0, u0⟩ := cell_tells h (i := 0) (by omega) (hl 0 (by omega)) hx m0 q0
  obtain ⟨t1, u1⟩ := cell_tells h (i := 1) (by omega) (hl 1 (by omega)) hx m1 q1
  obtain ⟨t2, u2⟩ := cell_tells h (i := 2) (by omega) (hl 2 (by omega)) hx m2 q2
  obtain ⟨t3, u3⟩ := cell_tells h (i := 3) (by omega) (hl 3 (by omega)) hx m3 q3
  have r1 : rightE e = true := all4_iff.2 fun i hi => by
   rcases lt4 hi with rfl | rfl | rfl | rfl
   ·exact right q0
   ·exact right q1
   ·exact right q2
   ·exact right q3
  have r2 : rightE ⟨(sampleM c0).1, (sampleM c1).1, (sampleM c2).1, (sampleM c3).1⟩ = true := all4_iff.2 fun i hi => by
   rcases lt4 hi with rfl | rfl | rfl | rfl
   ·exact u0
   ·exact u1
   ·exact u2
   ·exact u3
  unfold hasB
  rw [r1, r2]
  unfold all4
  show (true && (((hasM (b.at 0) e.v0 && hasM (b.at 1) e.v1) && hasM (b.at 2) e.v2) && hasM (b.at 3) e.v3)) = (true && (((hasM (b.at 0) (sampleM c0).1 && hasM (b.at 1) (sampleM c1).1) && hasM (b.at 2) (sampleM c2).1) && hasM (b.at 3) (sampleM c3).1))
  rw [t0, t1, t2, t3]
 unfold hasF
 rw [Bool.eq_iff_iff, List.any_eq_true, List.any_eq_true]
 exact ⟨fun ⟨b, hb, h1⟩ => ⟨b, hb, by rw [← key b hb]; exact h1⟩, fun ⟨b, hb, h1⟩ => ⟨b, hb, by rw [key b hb]; exact h1⟩⟩
end Go.Proofs

namespace Go.Proofs
open Go.Vm
set_option linter.unusedSimpArgs false
theorem names_nodup (r : List SetM) : (namesM r).Nodup := (namesM_SS r).imp (S := fun a b => a ≠ b) (fun {a b} (h : ltB a b) (e : a = b) => ltB_irrefl a (by rw [← e] at h; exact h))
theorem names_len (r : List SetM) : (namesM r).length ≤ (strsOf r).length := len_sub _ _ (names_nodup r) fun _ h => mem_strsOf.2 h
theorem ends1_len (gs : List Rg) : (gs.flatMap ends1).length ≤ 2 * gs.length := by
 induction gs with
 | nil => simp
 | cons g gs ih =>
  rw [List.flatMap_cons, List.length_append]
  have : (ends1 g).length ≤ 2 := by unfold ends1; split <;> simp
  simp only [List.length_cons]; omega
theorem ends_len (r : List SetM) : (endsM r).length ≤ 1 + 2 * (rgsOf r).length := by
 have h := len_sub (endsM r) (endsL r) ((endsM_incr r).imp (fun h e => by omega)) (fun e he => by
  unfold endsM at he
  rw [mem_compactI] at he
  unfold sortI at he
  exact List.mem_mergeSort.1 he)
 have h2 : (endsL r).length = 1 + ((rgsOf r).flatMap ends1).length := by
  unfold endsL rgsOf
  rw [List.length_cons, List.flatMap_assoc]; omega
 have := ends1_len (rgsOf r)
 omega
theorem strsN_append (a b : List SetM) : strsN (a ++ b) = strsN a + strsN b := by unfold strsN; simp
theorem strsN_cells (E : List Int) : ∀ lo, strsN (cellsI lo E) = 0 := by
 induction E with
 | nil => intro lo; rfl
 | cons a E ih =>
  intro lo
  rw [cellsI_cons]
  have : strsN (cellN lo a :: cellsI (a + 1) E) = 0 + strsN (cellsI (a + 1) E) := by unfold strsN cellN; simp
  rw [this, ih]
theorem strsN_names (L : List ByteArray) : strsN (L.map cellS) = L.length := by
 induction L with
 | nil => rfl
 | cons a L ih =>
  have : strsN ((a :: L).map cellS) = 1 + strsN (L.map cellS) := by unfold strsN cellS; simp
  rw [this, ih, List.length_cons]; omega
theorem strsN_cut (r : List SetM) : strsN (cutR r) = 2 * (namesM r).length := by
 have : strsN (cutR r) = strsN (⟨true, [], false, []⟩ :: cellsI minI (endsM r)) + strsN ((namesM r).map cellS) + strsN [⟨false, [], true, namesM r⟩] := by
  unfold cutR
  rw [← List.cons_append, strsN_append, strsN_append]; omega
 have h1 : strsN (⟨true, [], false, []⟩ :: cellsI minI (endsM r)) = strsN (cellsI minI (endsM r)) := by unfold strsN; simp
 have h2 : strsN [⟨false, [], true, namesM r⟩] = (namesM r).length := by unfold strsN; simp
 rw [this, h1, h2, strsN_cells, strsN_names]; omega
theorem strsOf_len {r : List SetM} {k : Nat} (h : ∀ s ∈ r, s.strs.length ≤ k) : (strsOf r).length ≤ k * r.length := by
 unfold strsOf
 induction r with
 | nil => simp
 | cons s r ih =>
  have h1 := h s (by simp)
  have := ih fun x hx => h x (by simp [hx])
  rw [List.flatMap_cons, List.length_append, List.length_cons, Nat.mul_succ]; omega
theorem rgsOf_len {r : List SetM} {k : Nat} (h : ∀ s ∈ r, s.ints.length ≤ k) : (rgsOf r).length ≤ k * r.length := by
 unfold rgsOf
 induction r with
 | nil => simp
 | cons s r ih =>
  have h1 := h s (by simp)
  have := ih fun x hx => h x (by simp [hx])
  rw [List.flatMap_cons, List.length_append, List.length_cons, Nat.mul_succ]; omega
theorem cut_ints {r : List SetM} {x : SetM} (hx : x ∈ cutR r) : x.ints.length ≤ 1 := by
 have hc : ∀ (E : List Int) (lo : Int), ∀ c ∈ cellsI lo E, c.ints.length ≤ 1 := fun E => by
  induction E with
  | nil => intro lo c h; simp [cellsI] at h
  | cons a E ih =>
   intro lo c h
   rw [cellsI_cons] at h
   rcases List.mem_cons.1 h with rfl | h
   ·simp [cellN]
   ·exact ih _ c h
 unfold cutR at hx
 rcases List.mem_cons.1 hx with rfl | hx
 ·simp
 rcases List.mem_append.1 hx with hx | hx
 ·exact hc _ _ x hx
 rcases List.mem_append.1 hx with hx | hx
 ·obtain ⟨t, -, rfl⟩ := List.mem_map.1 hx; simp [cellS]
 ·have : x = ⟨false, [], true, namesM r⟩ := by simpa using hx
  rw [this]; simp
theorem cut_strs {r : List SetM} {x : SetM} (hx : x ∈ cutR r) : x.strs.length ≤ (namesM r).length + 1 := by
 unfold cutR at hx
 rcases List.mem_cons.1 hx with rfl | hx
 ·simp
 rcases List.mem_append.1 hx with hx | hx
 ·rw [(intless hx).2.2]; simp
 rcases List.mem_append.1 hx with hx | hx
 ·obtain ⟨t, -, rfl⟩ := List.mem_map.1 hx; simp [cellS]
 ·have : x = ⟨false, [], true, namesM r⟩ := by simpa using hx
  rw [this]; simp
end Go.Proofs
