/- A part of the proof; what is proved stands in the last text. -/
import Derived.Test.YtipppgiimemloaaGreatWG
set_option linter.unusedVariables false
set_option maxRecDepth 2000

namespace Go.Proofs
open Go.Vm
set_option linter.unusedSimpArgs false

def Pref {α : Type} (f : α → List UInt8) (P : α → Prop) : Prop := ∀ x y r r', P x → P y → f x ++ r = f y ++ r' → x = y ∧ r = r'
theorem pref_uint : Pref encB (fun n => n < 18446744073709551616) := fun x y r r' hx hy h => by
  have h1 := uint_back x hx r
  have h2 := uint_back y hy r'
  rw [h, h2] at h1
  simp only [Prod.mk.injEq] at h1
  exact ⟨h1.1.symm, h1.2.1.symm⟩
theorem pref_int : Pref (fun n => encB (foldN n)) InRange := fun x y r r' hx hy h => by
  obtain ⟨h1, h2⟩ := pref_uint _ _ _ _ (unfold_fold hx).2 (unfold_fold hy).2 h
  exact ⟨by rw [← (unfold_fold hx).1, h1, (unfold_fold hy).1], h2⟩
theorem pref_str : Pref strB (fun s => s.size ≤ 1000) := fun x y r r' hx hy h => by
  rw [strB, strB, List.append_assoc, List.append_assoc] at h
  obtain ⟨h1, h2⟩ := pref_uint _ _ _ _ (by omega) (by omega) h
  obtain ⟨h3, h4⟩ := List.append_inj h2 (by rw [size_bl, size_bl]; exact h1)
  exact ⟨by rw [← lb_bl x, h3, lb_bl], h4⟩
theorem pref_list {α : Type} {f : α → List UInt8} {P : α → Prop} (hf : Pref f P) : ∀ (l m : List α) (r r' : List UInt8), l.length = m.length → (∀ x ∈ l, P x) → (∀ x ∈ m, P x) → l.flatMap f ++ r = m.flatMap f ++ r' → l = m ∧ r = r'
  | [], [], r, r', _, _, _, h => ⟨rfl, by simpa using h⟩
  | [], _ :: _, _, _, h, _, _, _ => by simp at h
  | _ :: _, [], _, _, h, _, _, _ => by simp at h
  | x :: l, y :: m, r, r', hl, h1, h2, h => by
    simp only [List.flatMap_cons, List.append_assoc] at h
    obtain ⟨rfl, h3⟩ := hf _ _ _ _ (h1 x (by simp)) (h2 y (by simp)) h
    obtain ⟨rfl, h4⟩ := pref_list hf l m r r' (by simpa using hl) (fun z hz => h1 z (by simp [hz])) (fun z hz => h2 z (by simp [hz])) h3
    exact ⟨rfl, h4⟩
theorem pref_rg : Pref rgB InB := fun x y r r' hx hy h => by
  obtain ⟨⟨a1, a2⟩, a3, a4⟩ := hx
  obtain ⟨⟨b1, b2⟩, b3, b4⟩ := hy
  rw [rgB, rgB, List.append_assoc, List.append_assoc] at h
  obtain ⟨h1, h2⟩ := pref_int _ _ _ _ ⟨by omega, by omega⟩ ⟨by omega, by omega⟩ h
  obtain ⟨h3, h4⟩ := pref_int _ _ _ _ ⟨by omega, by omega⟩ ⟨by omega, by omega⟩ h2
  exact ⟨Prod.ext h1 h3, h4⟩
theorem flag_inj {x y : SetM} (h : flagN x = flagN y) : x.absent = y.absent ∧ x.co = y.co := by
  unfold flagN at h
  cases hx : x.absent <;> cases hy : y.absent <;> cases hx' : x.co <;> cases hy' : y.co <;> simp [hx, hy, hx', hy'] at h <;> simp
theorem pref_set : Pref setB Wsm := fun x y r r' hx hy h => by
  simp only [setB, List.append_assoc, List.cons_append, List.nil_append, List.cons.injEq] at h
  obtain ⟨h0, h⟩ := h
  have h0' := congrArg UInt8.toNat h0
  rw [toNat_of _ (by have := flag_lt x; omega), toNat_of _ (by have := flag_lt y; omega)] at h0'
  obtain ⟨ha, hc⟩ := flag_inj h0'
  have := hx.ni; have := hx.ns; have := hy.ni; have := hy.ns
  obtain ⟨h1, h⟩ := pref_uint _ _ _ _ (by omega) (by omega) h
  obtain ⟨h2, h⟩ := pref_list pref_rg _ _ _ _ h1 hx.bd hy.bd h
  obtain ⟨h3, h⟩ := pref_uint _ _ _ _ (by omega) (by omega) h
  obtain ⟨h4, h⟩ := pref_list pref_str _ _ _ _ h3 hx.sz hy.sz h
  refine ⟨?_, h⟩
  obtain ⟨xa, xi, xc, xs⟩ := x
  obtain ⟨ya, yi, yc, ys⟩ := y
  simp only at ha hc h2 h4
  rw [ha, hc, h2, h4]
theorem boxB_four (b : BoxM) : boxB b = setB b.s0 ++ (setB b.s1 ++ (setB b.s2 ++ setB b.s3)) := by
  simp [boxB, setsB, List.range_succ, BoxM.at, at4]
theorem pref_box : Pref boxB WsmB := fun x y r r' hx hy h => by
  rw [boxB_four, boxB_four] at h
  simp only [List.append_assoc] at h
  obtain ⟨h0, h⟩ := pref_set _ _ _ _ (hx 0 (by omega)) (hy 0 (by omega)) h
  obtain ⟨h1, h⟩ := pref_set _ _ _ _ (hx 1 (by omega)) (hy 1 (by omega)) h
  obtain ⟨h2, h⟩ := pref_set _ _ _ _ (hx 2 (by omega)) (hy 2 (by omega)) h
  obtain ⟨h3, h⟩ := pref_set _ _ _ _ (hx 3 (by omega)) (hy 3 (by omega)) h
  refine ⟨?_, h⟩
  obtain ⟨x0, x1, x2, x3⟩ := x
  obtain ⟨y0, y1, y2, y3⟩ := y
  cases h0; cases h1; cases h2; cases h3
  rfl
theorem pref_filter : Pref filterB (fun f => f.length ≤ 100 ∧ ∀ b ∈ f, WsmB b) := fun x y r r' hx hy h => by
  have := hx.1; have := hy.1
  rw [filterB, filterB, List.append_assoc, List.append_assoc] at h
  obtain ⟨h1, h⟩ := pref_uint _ _ _ _ (by omega) (by omega) h
  exact pref_list pref_box _ _ _ _ h1 hx.2 hy.2 h
theorem pref_event : Pref eventB (fun e => WvE e ∧ rightE e = true) := fun x y r r' hx hy h => by
  have h1 := take_back hx.1 hx.2 r
  have h2 := take_back hy.1 hy.2 r'
  rw [h, h2] at h1
  simp only [Prod.mk.injEq] at h1
  exact ⟨h1.1.symm, h1.2.1.symm⟩
theorem Pref.iff {α : Type} {f : α → List UInt8} {P : α → Prop} (h : Pref f P) {x y : α} (hx : P x) (hy : P y) : f x = f y ↔ x = y :=
  ⟨fun e => (h x y [] [] hx hy (by rw [e])).1, fun e => by rw [e]⟩
theorem Pref.take {α : Type} {f : α → List UInt8} {P : α → Prop} (h : Pref f P) {x y : α} (hx : P x) (hy : P y) (e : (f y).take (f x).length = f x) : x = y :=
  (h x y ((f y).drop (f x).length) [] hx hy (by rw [List.append_nil]; conv => lhs; rw [← e]
                                                rw [e]; exact (by have := List.take_append_drop (f x).length (f y); rw [e] at this; exact this))).1

theorem boxSame_iff {a b : BoxM} : boxSame a b = true ↔ a = b := by
  obtain ⟨x0, x1, x2, x3⟩ := a
  obtain ⟨y0, y1, y2, y3⟩ := b
  simp [boxSame, all4, sameB, BoxM.at, at4, sameM_iff, and_assoc]
theorem sameF_iff {l m : List BoxM} : sameF l m = true ↔ l = m := by
  simp only [sameF, Bool.and_eq_true, decide_eq_true_eq, List.all_eq_true, List.mem_range, boxSame_iff]
  constructor
  · rintro ⟨h1, h2⟩
    refine List.ext_getElem h1 fun i hi hj => ?_
    have := h2 i hi
    simpa [List.getD_eq_getElem?_getD, List.getElem?_eq_getElem hi, List.getElem?_eq_getElem hj] using this
  · rintro rfl; exact ⟨rfl, fun i _ => rfl⟩
theorem lb_eq (x y : List UInt8) : ((lb x).toList == (lb y).toList) = decide (x = y) := by
  rw [Bool.eq_iff_iff, beq_iff_eq, decide_eq_true_eq, ByteArray.toList_eq, ByteArray.toList_eq]
  simp [lb]
theorem lb_take (x : List UInt8) (n : Nat) : (lb x).extract 0 n = lb (x.take n) := by
  apply ByteArray.ext
  rw [ByteArray.data_extract]
  apply Array.toList_inj.1
  simp [lb, List.take_eq_take_iff]
def eqEv (a b : EvM) : Bool := a.v0.kind == b.v0.kind && (a.v0.n == b.v0.n && (a.v0.s.toList == b.v0.s.toList && (a.v1.kind == b.v1.kind && (a.v1.n == b.v1.n && (a.v1.s.toList == b.v1.s.toList &&
  (a.v2.kind == b.v2.kind && (a.v2.n == b.v2.n && (a.v2.s.toList == b.v2.s.toList && (a.v3.kind == b.v3.kind && (a.v3.n == b.v3.n && a.v3.s.toList == b.v3.s.toList))))))))))
theorem val_ext {a b : ValM} (h1 : a.kind = b.kind) (h2 : a.n = b.n) (h3 : a.s.toList = b.s.toList) : a = b := by
  obtain ⟨k, n, s⟩ := a
  obtain ⟨k', n', s'⟩ := b
  simp only at h1 h2 h3
  rw [ByteArray.toList_eq, ByteArray.toList_eq] at h3
  rw [h1, h2, ByteArray.ext (Array.toList_inj.1 h3)]
theorem eqEv_iff {a b : EvM} : eqEv a b = true ↔ a = b := by
  constructor
  · intro h
    simp only [eqEv, Bool.and_eq_true, beq_iff_eq] at h
    obtain ⟨h1, h2, h3, h4, h5, h6, h7, h8, h9, h10, h11, h12⟩ := h
    obtain ⟨a0, a1, a2, a3⟩ := a
    obtain ⟨b0, b1, b2, b3⟩ := b
    simp only at *
    rw [val_ext h1 h2 h3, val_ext h4 h5 h6, val_ext h7 h8 h9, val_ext h10 h11 h12]
  · rintro rfl
    simp [eqEv]
end Go.Proofs



namespace Go.Proofs
open Go.Vm
set_option linter.unusedSimpArgs false

set_option maxHeartbeats 4000000 in
theorem kWireOne (f g : List BoxM) (a b : EvM) (bf : ∀ x ∈ f, BndB x) (lf : f.length ≤ maxLen) (bg : ∀ x ∈ g, BndB x) (lg : g.length ≤ maxLen) (ia : InE a) (ib : InE b) :
    PureAt Tryz.prog 11 [.sl none (f.map boxC), .sl none (g.map boxC), .agg (evC a), .agg (evC b)] (· = .val (.bool true)) := by
  have p1 := kref6Few f lf
  have p1' := kref6Few g lg
  refine pure_of r11 (by kernel_rfl) ?_
  unfold m11
  simp only [evC, go_sem, Nat.reduceEqDiff, Nat.reduceAdd, Nat.reduceLeDiff, List.length_map, z4, at4, BoxM.at, EvM.at, fillB, Int.reduceLT, Int.reduceLE, Int.reduceToNat, Int.toNat_zero, Int.le_refl, Int.reduceAdd, decide_true, decide_false, wr1, wr2, wr3, wr4, c0, c1, c2, c3, c4, Nat.reduceMul, Nat.reduceLT, Nat.lt_irrefl, true_and, and_self, ↓reduceIte]
  refine callP_eq rfl rfl kawake08 ?_
  simp only [go_sem, Nat.reduceEqDiff, Nat.reduceAdd, Nat.reduceLeDiff, List.length_map, z4, at4, BoxM.at, EvM.at, fillB, Int.reduceLT, Int.reduceLE, Int.reduceToNat, Int.toNat_zero, Int.le_refl, Int.reduceAdd, decide_true, decide_false, wr1, wr2, wr3, wr4, c0, c1, c2, c3, c4, Nat.reduceMul, Nat.reduceLT, Nat.lt_irrefl, true_and, and_self, ↓reduceIte]
  refine callP_eq rfl rfl p1 ?_
  cases h1 : few6 f
  · simp only [go_sem, Nat.reduceEqDiff, Nat.reduceAdd, Nat.reduceLeDiff, List.length_map, z4, at4, BoxM.at, EvM.at, fillB, Int.reduceLT, Int.reduceLE, Int.reduceToNat, Int.toNat_zero, Int.le_refl, Int.reduceAdd, decide_true, decide_false, wr1, wr2, wr3, wr4, c0, c1, c2, c3, c4, Nat.reduceMul, Nat.reduceLT, Nat.lt_irrefl, true_and, and_self, ↓reduceIte]
    refine callP_eq rfl rfl kawake08 ?_
    simp only [go_sem, Nat.reduceEqDiff, Nat.reduceAdd, Nat.reduceLeDiff, List.length_map, z4, at4, BoxM.at, EvM.at, fillB, Int.reduceLT, Int.reduceLE, Int.reduceToNat, Int.toNat_zero, Int.le_refl, Int.reduceAdd, decide_true, decide_false, wr1, wr2, wr3, wr4, c0, c1, c2, c3, c4, Nat.reduceMul, Nat.reduceLT, Nat.lt_irrefl, true_and, and_self, ↓reduceIte]
  simp only [go_sem, Nat.reduceEqDiff, Nat.reduceAdd, Nat.reduceLeDiff, List.length_map, z4, at4, BoxM.at, EvM.at, fillB, Int.reduceLT, Int.reduceLE, Int.reduceToNat, Int.toNat_zero, Int.le_refl, Int.reduceAdd, decide_true, decide_false, wr1, wr2, wr3, wr4, c0, c1, c2, c3, c4, Nat.reduceMul, Nat.reduceLT, Nat.lt_irrefl, true_and, and_self, ↓reduceIte]
  refine callP_eq rfl rfl p1' ?_
  cases h1' : few6 g
  · simp only [go_sem, Nat.reduceEqDiff, Nat.reduceAdd, Nat.reduceLeDiff, List.length_map, z4, at4, BoxM.at, EvM.at, fillB, Int.reduceLT, Int.reduceLE, Int.reduceToNat, Int.toNat_zero, Int.le_refl, Int.reduceAdd, decide_true, decide_false, wr1, wr2, wr3, wr4, c0, c1, c2, c3, c4, Nat.reduceMul, Nat.reduceLT, Nat.lt_irrefl, true_and, and_self, ↓reduceIte]
    refine callP_eq rfl rfl kawake08 ?_
    simp only [go_sem, Nat.reduceEqDiff, Nat.reduceAdd, Nat.reduceLeDiff, List.length_map, z4, at4, BoxM.at, EvM.at, fillB, Int.reduceLT, Int.reduceLE, Int.reduceToNat, Int.toNat_zero, Int.le_refl, Int.reduceAdd, decide_true, decide_false, wr1, wr2, wr3, wr4, c0, c1, c2, c3, c4, Nat.reduceMul, Nat.reduceLT, Nat.lt_irrefl, true_and, and_self, ↓reduceIte]
  simp only [few6, Bool.and_eq_true, decide_eq_true_eq] at h1 h1'
  have p2 := kref6Right f (by omega) (fun x hx => (few4_of h1.2 x hx).mono (by omega)) bf
  have p2' := kref6Right g (by omega) (fun x hx => (few4_of h1'.2 x hx).mono (by omega)) bg
  simp only [go_sem, Nat.reduceEqDiff, Nat.reduceAdd, Nat.reduceLeDiff, List.length_map, z4, at4, BoxM.at, EvM.at, fillB, Int.reduceLT, Int.reduceLE, Int.reduceToNat, Int.toNat_zero, Int.le_refl, Int.reduceAdd, decide_true, decide_false, wr1, wr2, wr3, wr4, c0, c1, c2, c3, c4, Nat.reduceMul, Nat.reduceLT, Nat.lt_irrefl, true_and, and_self, ↓reduceIte]
  refine callP_eq rfl rfl p2 ?_
  cases h2 : rightF f
  · simp only [go_sem, Nat.reduceEqDiff, Nat.reduceAdd, Nat.reduceLeDiff, List.length_map, z4, at4, BoxM.at, EvM.at, fillB, Int.reduceLT, Int.reduceLE, Int.reduceToNat, Int.toNat_zero, Int.le_refl, Int.reduceAdd, decide_true, decide_false, wr1, wr2, wr3, wr4, c0, c1, c2, c3, c4, Nat.reduceMul, Nat.reduceLT, Nat.lt_irrefl, true_and, and_self, ↓reduceIte]
    refine callP_eq rfl rfl kawake08 ?_
    simp only [go_sem, Nat.reduceEqDiff, Nat.reduceAdd, Nat.reduceLeDiff, List.length_map, z4, at4, BoxM.at, EvM.at, fillB, Int.reduceLT, Int.reduceLE, Int.reduceToNat, Int.toNat_zero, Int.le_refl, Int.reduceAdd, decide_true, decide_false, wr1, wr2, wr3, wr4, c0, c1, c2, c3, c4, Nat.reduceMul, Nat.reduceLT, Nat.lt_irrefl, true_and, and_self, ↓reduceIte]
  simp only [go_sem, Nat.reduceEqDiff, Nat.reduceAdd, Nat.reduceLeDiff, List.length_map, z4, at4, BoxM.at, EvM.at, fillB, Int.reduceLT, Int.reduceLE, Int.reduceToNat, Int.toNat_zero, Int.le_refl, Int.reduceAdd, decide_true, decide_false, wr1, wr2, wr3, wr4, c0, c1, c2, c3, c4, Nat.reduceMul, Nat.reduceLT, Nat.lt_irrefl, true_and, and_self, ↓reduceIte]
  refine callP_eq rfl rfl p2' ?_
  cases h2' : rightF g
  · simp only [go_sem, Nat.reduceEqDiff, Nat.reduceAdd, Nat.reduceLeDiff, List.length_map, z4, at4, BoxM.at, EvM.at, fillB, Int.reduceLT, Int.reduceLE, Int.reduceToNat, Int.toNat_zero, Int.le_refl, Int.reduceAdd, decide_true, decide_false, wr1, wr2, wr3, wr4, c0, c1, c2, c3, c4, Nat.reduceMul, Nat.reduceLT, Nat.lt_irrefl, true_and, and_self, ↓reduceIte]
    refine callP_eq rfl rfl kawake08 ?_
    simp only [go_sem, Nat.reduceEqDiff, Nat.reduceAdd, Nat.reduceLeDiff, List.length_map, z4, at4, BoxM.at, EvM.at, fillB, Int.reduceLT, Int.reduceLE, Int.reduceToNat, Int.toNat_zero, Int.le_refl, Int.reduceAdd, decide_true, decide_false, wr1, wr2, wr3, wr4, c0, c1, c2, c3, c4, Nat.reduceMul, Nat.reduceLT, Nat.lt_irrefl, true_and, and_self, ↓reduceIte]
  simp only [go_sem, Nat.reduceEqDiff, Nat.reduceAdd, Nat.reduceLeDiff, List.length_map, z4, at4, BoxM.at, EvM.at, fillB, Int.reduceLT, Int.reduceLE, Int.reduceToNat, Int.toNat_zero, Int.le_refl, Int.reduceAdd, decide_true, decide_false, wr1, wr2, wr3, wr4, c0, c1, c2, c3, c4, Nat.reduceMul, Nat.reduceLT, Nat.lt_irrefl, true_and, and_self, ↓reduceIte]
  refine callP_eq rfl rfl (kref1Event a) ?_
  cases h3 : rightE a
  · simp only [go_sem, Nat.reduceEqDiff, Nat.reduceAdd, Nat.reduceLeDiff, List.length_map, z4, at4, BoxM.at, EvM.at, fillB, Int.reduceLT, Int.reduceLE, Int.reduceToNat, Int.toNat_zero, Int.le_refl, Int.reduceAdd, decide_true, decide_false, wr1, wr2, wr3, wr4, c0, c1, c2, c3, c4, Nat.reduceMul, Nat.reduceLT, Nat.lt_irrefl, true_and, and_self, ↓reduceIte]
    refine callP_eq rfl rfl kawake08 ?_
    simp only [go_sem, Nat.reduceEqDiff, Nat.reduceAdd, Nat.reduceLeDiff, List.length_map, z4, at4, BoxM.at, EvM.at, fillB, Int.reduceLT, Int.reduceLE, Int.reduceToNat, Int.toNat_zero, Int.le_refl, Int.reduceAdd, decide_true, decide_false, wr1, wr2, wr3, wr4, c0, c1, c2, c3, c4, Nat.reduceMul, Nat.reduceLT, Nat.lt_irrefl, true_and, and_self, ↓reduceIte]
  simp only [go_sem, Nat.reduceEqDiff, Nat.reduceAdd, Nat.reduceLeDiff, List.length_map, z4, at4, BoxM.at, EvM.at, fillB, Int.reduceLT, Int.reduceLE, Int.reduceToNat, Int.toNat_zero, Int.le_refl, Int.reduceAdd, decide_true, decide_false, wr1, wr2, wr3, wr4, c0, c1, c2, c3, c4, Nat.reduceMul, Nat.reduceLT, Nat.lt_irrefl, true_and, and_self, ↓reduceIte]
  refine callP_eq rfl rfl (kref1Event b) ?_
  cases h3' : rightE b
  · simp only [go_sem, Nat.reduceEqDiff, Nat.reduceAdd, Nat.reduceLeDiff, List.length_map, z4, at4, BoxM.at, EvM.at, fillB, Int.reduceLT, Int.reduceLE, Int.reduceToNat, Int.toNat_zero, Int.le_refl, Int.reduceAdd, decide_true, decide_false, wr1, wr2, wr3, wr4, c0, c1, c2, c3, c4, Nat.reduceMul, Nat.reduceLT, Nat.lt_irrefl, true_and, and_self, ↓reduceIte]
    refine callP_eq rfl rfl kawake08 ?_
    simp only [go_sem, Nat.reduceEqDiff, Nat.reduceAdd, Nat.reduceLeDiff, List.length_map, z4, at4, BoxM.at, EvM.at, fillB, Int.reduceLT, Int.reduceLE, Int.reduceToNat, Int.toNat_zero, Int.le_refl, Int.reduceAdd, decide_true, decide_false, wr1, wr2, wr3, wr4, c0, c1, c2, c3, c4, Nat.reduceMul, Nat.reduceLT, Nat.lt_irrefl, true_and, and_self, ↓reduceIte]
  have wf := wsmF bf h2
  have wg := wsmF bg h2'
  have wa := wvE ia h3
  have wb := wvE ib h3'
  simp only [go_sem, Nat.reduceEqDiff, Nat.reduceAdd, Nat.reduceLeDiff, List.length_map, z4, at4, BoxM.at, EvM.at, fillB, Int.reduceLT, Int.reduceLE, Int.reduceToNat, Int.toNat_zero, Int.le_refl, Int.reduceAdd, decide_true, decide_false, wr1, wr2, wr3, wr4, c0, c1, c2, c3, c4, Nat.reduceMul, Nat.reduceLT, Nat.lt_irrefl, true_and, and_self, ↓reduceIte]
  refine callP_eq rfl rfl (kPutFilter f (by omega) wf.2) ?_
  simp only [go_sem, Nat.reduceEqDiff, Nat.reduceAdd, Nat.reduceLeDiff, List.length_map, z4, at4, BoxM.at, EvM.at, fillB, Int.reduceLT, Int.reduceLE, Int.reduceToNat, Int.toNat_zero, Int.le_refl, Int.reduceAdd, decide_true, decide_false, wr1, wr2, wr3, wr4, c0, c1, c2, c3, c4, Nat.reduceMul, Nat.reduceLT, Nat.lt_irrefl, true_and, and_self, ↓reduceIte]
  refine callP_eq rfl rfl (kPutFilter g (by omega) wg.2) ?_
  simp only [go_sem, Nat.reduceEqDiff, Nat.reduceAdd, Nat.reduceLeDiff, List.length_map, z4, at4, BoxM.at, EvM.at, fillB, Int.reduceLT, Int.reduceLE, Int.reduceToNat, Int.toNat_zero, Int.le_refl, Int.reduceAdd, decide_true, decide_false, wr1, wr2, wr3, wr4, c0, c1, c2, c3, c4, Nat.reduceMul, Nat.reduceLT, Nat.lt_irrefl, true_and, and_self, ↓reduceIte]
  refine callQ_by _ rfl rfl (kPutEvent a wa) ?_
  simp only [go_sem, Nat.reduceEqDiff, Nat.reduceAdd, Nat.reduceLeDiff, List.length_map, z4, at4, BoxM.at, EvM.at, fillB, Int.reduceLT, Int.reduceLE, Int.reduceToNat, Int.toNat_zero, Int.le_refl, Int.reduceAdd, decide_true, decide_false, wr1, wr2, wr3, wr4, c0, c1, c2, c3, c4, Nat.reduceMul, Nat.reduceLT, Nat.lt_irrefl, true_and, and_self, ↓reduceIte]
  refine callQ_by _ rfl rfl (kPutEvent b wb) ?_
  simp only [go_sem, Nat.reduceEqDiff, Nat.reduceAdd, Nat.reduceLeDiff, List.length_map, z4, at4, BoxM.at, EvM.at, fillB, Int.reduceLT, Int.reduceLE, Int.reduceToNat, Int.toNat_zero, Int.le_refl, Int.reduceAdd, decide_true, decide_false, wr1, wr2, wr3, wr4, c0, c1, c2, c3, c4, Nat.reduceMul, Nat.reduceLT, Nat.lt_irrefl, true_and, and_self, ↓reduceIte]
  refine callP_eq rfl rfl (kref6Same f g (by omega) (fun x hx => (few4_of h1.2 x hx).mono (by omega))) ?_
  have qf : sameF f g = decide (filterB f = filterB g) := by
    rw [Bool.eq_iff_iff, sameF_iff, decide_eq_true_eq]
    exact (pref_filter.iff (x := f) (y := g) ⟨by omega, wf.2⟩ ⟨by omega, wg.2⟩).symm
  have tf := @Pref.take _ _ _ pref_filter f g ⟨by omega, wf.2⟩ ⟨by omega, wg.2⟩
  have qe := pref_event.iff (x := a) (y := b) ⟨wa, h3⟩ ⟨wb, h3'⟩
  have te := @Pref.take _ _ _ pref_event a b ⟨wa, h3⟩ ⟨wb, h3'⟩
  have qv : eqEv a b = decide (eventB a = eventB b) := by
    rw [Bool.eq_iff_iff, eqEv_iff, decide_eq_true_eq, qe]
  unfold eqEv at qv
  rw [qf]
  cases c1 : decide (filterB f = filterB g)
  · have n1 : ¬ f = g := fun h => of_decide_eq_false c1 (by rw [h])
    simp only [size_lb, lb_eq, c1, beq_self_eq_true, Bool.true_and, go_sem, Nat.reduceEqDiff, Nat.reduceAdd, Nat.reduceLeDiff, List.length_map, z4, at4, BoxM.at, EvM.at, fillB, Int.reduceLT, Int.reduceLE, Int.reduceToNat, Int.toNat_zero, Int.le_refl, Int.reduceAdd, decide_true, decide_false, wr1, wr2, wr3, wr4, c0, c1, c2, c3, c4, Nat.reduceMul, Nat.reduceLT, Nat.lt_irrefl, true_and, and_self, ↓reduceIte]
    cases c2 : decide (((filterB f).length : Int) > ((filterB g).length : Int))
    · have z2 : (0 ≤ ((filterB f).length : Int) ∧ ((filterB f).length : Int) ≤ (((filterB g).length : Nat) : Int)) = True := by have := of_decide_eq_false c2; simp; omega
      have n2 : decide ((filterB g).take (filterB f).length = filterB f) = false := decide_eq_false fun h => n1 (tf h)
      simp only [c2, z2, if_true, lb_take, size_lb, lb_eq, Int.toNat_natCast, n2, Bool.not_false, beq_self_eq_true, evC, go_sem, Nat.reduceEqDiff, Nat.reduceAdd, Nat.reduceLeDiff, List.length_map, z4, at4, BoxM.at, EvM.at, fillB, Int.reduceLT, Int.reduceLE, Int.reduceToNat, Int.toNat_zero, Int.le_refl, Int.reduceAdd, decide_true, decide_false, wr1, wr2, wr3, wr4, c0, c1, c2, c3, c4, Nat.reduceMul, Nat.reduceLT, Nat.lt_irrefl, true_and, and_self, ↓reduceIte]
      cases c3 : decide (eventB a = eventB b)
      · have n3 : ¬ a = b := fun h => of_decide_eq_false c3 (qe.2 h)
        rw [c3] at qv
        simp only [size_lb, lb_eq, c3, beq_self_eq_true, Bool.true_and, evC, qv, go_sem, Nat.reduceEqDiff, Nat.reduceAdd, Nat.reduceLeDiff, List.length_map, z4, at4, BoxM.at, EvM.at, fillB, Int.reduceLT, Int.reduceLE, Int.reduceToNat, Int.toNat_zero, Int.le_refl, Int.reduceAdd, decide_true, decide_false, wr1, wr2, wr3, wr4, c0, c1, c2, c3, c4, Nat.reduceMul, Nat.reduceLT, Nat.lt_irrefl, true_and, and_self, ↓reduceIte]
        cases c4 : decide (((eventB a).length : Int) > ((eventB b).length : Int))
        · have z4' : (0 ≤ ((eventB a).length : Int) ∧ ((eventB a).length : Int) ≤ (((eventB b).length : Nat) : Int)) = True := by have := of_decide_eq_false c4; simp; omega
          have n4 : decide ((eventB b).take (eventB a).length = eventB a) = false := decide_eq_false fun h => n3 (te h)
          simp only [c4, z4', if_true, lb_take, size_lb, lb_eq, Int.toNat_natCast, n4, Bool.not_false, beq_self_eq_true, go_sem, Nat.reduceEqDiff, Nat.reduceAdd, Nat.reduceLeDiff, List.length_map, z4, at4, BoxM.at, EvM.at, fillB, Int.reduceLT, Int.reduceLE, Int.reduceToNat, Int.toNat_zero, Int.le_refl, Int.reduceAdd, decide_true, decide_false, wr1, wr2, wr3, wr4, c0, c1, c2, c3, c4, Nat.reduceMul, Nat.reduceLT, Nat.lt_irrefl, true_and, and_self, ↓reduceIte]
        · simp only [c4, beq_self_eq_true, go_sem, Nat.reduceEqDiff, Nat.reduceAdd, Nat.reduceLeDiff, List.length_map, z4, at4, BoxM.at, EvM.at, fillB, Int.reduceLT, Int.reduceLE, Int.reduceToNat, Int.toNat_zero, Int.le_refl, Int.reduceAdd, decide_true, decide_false, wr1, wr2, wr3, wr4, c0, c1, c2, c3, c4, Nat.reduceMul, Nat.reduceLT, Nat.lt_irrefl, true_and, and_self, ↓reduceIte]
      · rw [c3] at qv
        simp only [size_lb, lb_eq, c3, beq_self_eq_true, Bool.true_and, evC, qv, go_sem, Nat.reduceEqDiff, Nat.reduceAdd, Nat.reduceLeDiff, List.length_map, z4, at4, BoxM.at, EvM.at, fillB, Int.reduceLT, Int.reduceLE, Int.reduceToNat, Int.toNat_zero, Int.le_refl, Int.reduceAdd, decide_true, decide_false, wr1, wr2, wr3, wr4, c0, c1, c2, c3, c4, Nat.reduceMul, Nat.reduceLT, Nat.lt_irrefl, true_and, and_self, ↓reduceIte]
    · simp only [c2, lb_eq, beq_self_eq_true, evC, go_sem, Nat.reduceEqDiff, Nat.reduceAdd, Nat.reduceLeDiff, List.length_map, z4, at4, BoxM.at, EvM.at, fillB, Int.reduceLT, Int.reduceLE, Int.reduceToNat, Int.toNat_zero, Int.le_refl, Int.reduceAdd, decide_true, decide_false, wr1, wr2, wr3, wr4, c0, c1, c2, c3, c4, Nat.reduceMul, Nat.reduceLT, Nat.lt_irrefl, true_and, and_self, ↓reduceIte]
      cases c3 : decide (eventB a = eventB b)
      · have n3 : ¬ a = b := fun h => of_decide_eq_false c3 (qe.2 h)
        rw [c3] at qv
        simp only [size_lb, lb_eq, c3, beq_self_eq_true, Bool.true_and, evC, qv, go_sem, Nat.reduceEqDiff, Nat.reduceAdd, Nat.reduceLeDiff, List.length_map, z4, at4, BoxM.at, EvM.at, fillB, Int.reduceLT, Int.reduceLE, Int.reduceToNat, Int.toNat_zero, Int.le_refl, Int.reduceAdd, decide_true, decide_false, wr1, wr2, wr3, wr4, c0, c1, c2, c3, c4, Nat.reduceMul, Nat.reduceLT, Nat.lt_irrefl, true_and, and_self, ↓reduceIte]
        cases c4 : decide (((eventB a).length : Int) > ((eventB b).length : Int))
        · have z4' : (0 ≤ ((eventB a).length : Int) ∧ ((eventB a).length : Int) ≤ (((eventB b).length : Nat) : Int)) = True := by have := of_decide_eq_false c4; simp; omega
          have n4 : decide ((eventB b).take (eventB a).length = eventB a) = false := decide_eq_false fun h => n3 (te h)
          simp only [c4, z4', if_true, lb_take, size_lb, lb_eq, Int.toNat_natCast, n4, Bool.not_false, beq_self_eq_true, go_sem, Nat.reduceEqDiff, Nat.reduceAdd, Nat.reduceLeDiff, List.length_map, z4, at4, BoxM.at, EvM.at, fillB, Int.reduceLT, Int.reduceLE, Int.reduceToNat, Int.toNat_zero, Int.le_refl, Int.reduceAdd, decide_true, decide_false, wr1, wr2, wr3, wr4, c0, c1, c2, c3, c4, Nat.reduceMul, Nat.reduceLT, Nat.lt_irrefl, true_and, and_self, ↓reduceIte]
        · simp only [c4, beq_self_eq_true, go_sem, Nat.reduceEqDiff, Nat.reduceAdd, Nat.reduceLeDiff, List.length_map, z4, at4, BoxM.at, EvM.at, fillB, Int.reduceLT, Int.reduceLE, Int.reduceToNat, Int.toNat_zero, Int.le_refl, Int.reduceAdd, decide_true, decide_false, wr1, wr2, wr3, wr4, c0, c1, c2, c3, c4, Nat.reduceMul, Nat.reduceLT, Nat.lt_irrefl, true_and, and_self, ↓reduceIte]
      · rw [c3] at qv
        simp only [size_lb, lb_eq, c3, beq_self_eq_true, Bool.true_and, evC, qv, go_sem, Nat.reduceEqDiff, Nat.reduceAdd, Nat.reduceLeDiff, List.length_map, z4, at4, BoxM.at, EvM.at, fillB, Int.reduceLT, Int.reduceLE, Int.reduceToNat, Int.toNat_zero, Int.le_refl, Int.reduceAdd, decide_true, decide_false, wr1, wr2, wr3, wr4, c0, c1, c2, c3, c4, Nat.reduceMul, Nat.reduceLT, Nat.lt_irrefl, true_and, and_self, ↓reduceIte]
  · simp only [size_lb, lb_eq, c1, beq_self_eq_true, Bool.true_and, evC, go_sem, Nat.reduceEqDiff, Nat.reduceAdd, Nat.reduceLeDiff, List.length_map, z4, at4, BoxM.at, EvM.at, fillB, Int.reduceLT, Int.reduceLE, Int.reduceToNat, Int.toNat_zero, Int.le_refl, Int.reduceAdd, decide_true, decide_false, wr1, wr2, wr3, wr4, c0, c1, c2, c3, c4, Nat.reduceMul, Nat.reduceLT, Nat.lt_irrefl, true_and, and_self, ↓reduceIte]
    cases c3 : decide (eventB a = eventB b)
    · have n3 : ¬ a = b := fun h => of_decide_eq_false c3 (qe.2 h)
      rw [c3] at qv
      simp only [size_lb, lb_eq, c3, beq_self_eq_true, Bool.true_and, evC, qv, go_sem, Nat.reduceEqDiff, Nat.reduceAdd, Nat.reduceLeDiff, List.length_map, z4, at4, BoxM.at, EvM.at, fillB, Int.reduceLT, Int.reduceLE, Int.reduceToNat, Int.toNat_zero, Int.le_refl, Int.reduceAdd, decide_true, decide_false, wr1, wr2, wr3, wr4, c0, c1, c2, c3, c4, Nat.reduceMul, Nat.reduceLT, Nat.lt_irrefl, true_and, and_self, ↓reduceIte]
      cases c4 : decide (((eventB a).length : Int) > ((eventB b).length : Int))
      · have z4' : (0 ≤ ((eventB a).length : Int) ∧ ((eventB a).length : Int) ≤ (((eventB b).length : Nat) : Int)) = True := by have := of_decide_eq_false c4; simp; omega
        have n4 : decide ((eventB b).take (eventB a).length = eventB a) = false := decide_eq_false fun h => n3 (te h)
        simp only [c4, z4', if_true, lb_take, size_lb, lb_eq, Int.toNat_natCast, n4, Bool.not_false, beq_self_eq_true, go_sem, Nat.reduceEqDiff, Nat.reduceAdd, Nat.reduceLeDiff, List.length_map, z4, at4, BoxM.at, EvM.at, fillB, Int.reduceLT, Int.reduceLE, Int.reduceToNat, Int.toNat_zero, Int.le_refl, Int.reduceAdd, decide_true, decide_false, wr1, wr2, wr3, wr4, c0, c1, c2, c3, c4, Nat.reduceMul, Nat.reduceLT, Nat.lt_irrefl, true_and, and_self, ↓reduceIte]
      · simp only [c4, beq_self_eq_true, go_sem, Nat.reduceEqDiff, Nat.reduceAdd, Nat.reduceLeDiff, List.length_map, z4, at4, BoxM.at, EvM.at, fillB, Int.reduceLT, Int.reduceLE, Int.reduceToNat, Int.toNat_zero, Int.le_refl, Int.reduceAdd, decide_true, decide_false, wr1, wr2, wr3, wr4, c0, c1, c2, c3, c4, Nat.reduceMul, Nat.reduceLT, Nat.lt_irrefl, true_and, and_self, ↓reduceIte]
    · rw [c3] at qv
      simp only [size_lb, lb_eq, c3, beq_self_eq_true, Bool.true_and, evC, qv, go_sem, Nat.reduceEqDiff, Nat.reduceAdd, Nat.reduceLeDiff, List.length_map, z4, at4, BoxM.at, EvM.at, fillB, Int.reduceLT, Int.reduceLE, Int.reduceToNat, Int.toNat_zero, Int.le_refl, Int.reduceAdd, decide_true, decide_false, wr1, wr2, wr3, wr4, c0, c1, c2, c3, c4, Nat.reduceMul, Nat.reduceLT, Nat.lt_irrefl, true_and, and_self, ↓reduceIte]
end Go.Proofs

