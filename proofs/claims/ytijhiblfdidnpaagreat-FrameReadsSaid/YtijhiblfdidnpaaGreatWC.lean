/- A part of the proof; what is proved stands in the last text. -/
import Derived.Test.YtijhiblfdidnpaaGreatWB
set_option linter.unusedVariables false
set_option maxRecDepth 2000
namespace Go.Proofs
open Go.Vm
set_option linter.unusedSimpArgs false
theorem repNar {F : Reg} {w : World} {cs : List D} {off : Nat} {v : Value} (n : Nat) (h : RepF F w (.rp none cs off) v) : RepF F w (.rp none ((cs.drop off).take n) 0) v := by
 cases h with
 | rp b o _ _ us hF hw hr =>
  have hl : ∀ j, j < ((cs.drop off).take n).length → off + j < cs.length := fun j hj => by simp at hj; omega
  have := RepF.rp (F := F) (w := w) b (o + off) ((cs.drop off).take n) 0 (fun j => us (off + j)) (fun j hj => by have := hF (off + j) (hl j hj); rw [Nat.add_assoc]; exact this)
   (fun j hj => by have := hw (off + j) (hl j hj); rw [Nat.add_assoc]; exact this) (fun j d hj => by
    have hlt := hl j (List.getElem?_eq_some_iff.1 hj).1
    refine hr (off + j) d ?_
    rw [List.getElem?_take] at hj
    split at hj
    ·rwa [List.getElem?_drop] at hj
    ·cases hj)
  exact this
theorem hidArgs {P : Program} {σ : Type} {H : HidT σ} {k : FuncId} {s : σ} {ds ds' : List D} {R : D → σ → Prop} (h : HidAt P H k s ds' R) (hl : ds.length = ds'.length)
    (hd : ∀ (i : Nat) (d' : D), ds'[i]? = some d' → ∃ d, ds[i]? = some d ∧ ∀ (F : Reg) (w : World) (v : Value), RepF F w d v → RepF F w d' v) : HidAt P H k s ds R :=
 ⟨h.1, fun F w B vs h1 h2 h3 h4 h5 => h.2 F w B vs h1 h2 h3 (by omega) fun i d' v hi hv => by
  obtain ⟨d, h6, h7⟩ := hd i d' hi
  exact h7 F w v (h5 i d v h6 hv)⟩
theorem hidNar {P : Program} {σ : Type} {H : HidT σ} {k : FuncId} {s : σ} {d0 : D} {cs cs' : List D} {off : Nat} {R : D → σ → Prop} (n : Nat) (hc : (cs.drop off).take n = cs') (h : HidAt P H k s [d0, .rp none cs' 0] R) : HidAt P H k s [d0, .rp none cs off] R := by
 subst hc
 refine hidArgs h rfl fun i d' hi => ?_
 match i with
 | 0 => exact ⟨d0, rfl, fun F w v hv => by simp at hi; subst hi; exact hv⟩
 | 1 => exact ⟨_, rfl, fun F w v hv => by simp at hi; subst hi; exact repNar n hv⟩
 | i + 2 => simp at hi
theorem takeB {f : List BoxM} {i : Nat} (hi : i < f.length) : f.take (i + 1) = f.take i ++ [f.getD i allB] := by
 rw [List.take_succ_eq_append_getElem hi]; simp [List.getD_eq_getElem?_getD, List.getElem?_eq_getElem hi]
def setsB (b : BoxM) (k : Nat) : List UInt8 := (List.range k).flatMap fun j => setB (b.at j)
def boxB (b : BoxM) : List UInt8 := setsB b 4
def filterB (f : List BoxM) : List UInt8 := encB f.length ++ f.flatMap boxB
def WsmB (b : BoxM) : Prop := ∀ i, i < 4 → Wsm (b.at i)
theorem setB_len {s : SetM} (h : Wsm s) : (setB s).length ≤ 100000 := by
 have n1 := (encB_len (n := s.ints.length) (by have := h.ni; omega)).1
 have n2 := (encB_len (n := s.strs.length) (by have := h.ns; omega)).1
 have f1 := Nat.le_trans (flat_len (f := rgB) s.ints (fun x hx => rgB_len (h.bd x hx))) (Nat.mul_le_mul_left 22 h.ni)
 have f2 := Nat.le_trans (flat_len (f := strB) s.strs (fun x hx => strB_len (h.sz x hx))) (Nat.mul_le_mul_left 1011 h.ns)
 simp only [setB, List.length_append, List.length_cons, List.length_nil]; omega
theorem setsB_succ (b : BoxM) (k : Nat) : setsB b (k + 1) = setsB b k ++ setB (b.at k) := by simp [setsB, List.range_succ]
theorem setsB_len {b : BoxM} (h : WsmB b) : ∀ k, k ≤ 4 → (setsB b k).length ≤ 100000 * k
 | 0, _ => by simp [setsB]
 | k + 1, hk => by
  have := setsB_len h k (by omega)
  have := setB_len (h k (by omega))
  rw [setsB_succ, List.length_append]; omega
theorem infoBld : ∃ i z, Tryz.prog.info? 54 = some i ∧ i.zero = some z ∧ [D.val (.pointer none), .sl none []] = zeroD z ∧ z.cells = #[.pointer none, .slice none 0 0] := by
 have e : (Tryz.prog.info? 54).bind (·.zero) = some (.agg #[.pointer none, .slice none 0 0]) := by kernel_rfl
 obtain ⟨i, hi, hz⟩ := Option.bind_eq_some_iff.1 e
 exact ⟨i, _, hi, hz, rfl, rfl⟩
set_option maxHeartbeats 4000000 in
theorem kPutFilter (f : List BoxM) (hl : f.length ≤ 100) (hw : ∀ b ∈ f, WsmB b) : PureAt Tryz.prog 24 [.sl none (f.map boxC)] (· = .val (.string (lb (filterB f)))) := by
 have n1 := (encB_len (n := f.length) (by omega)).1
 have n2 := (encB_len (n := f.length) (by omega)).2
 have w1 : IntKind.u64.wrap (f.length : Int) = (f.length : Int) := wrap_u64 (by omega) (by omega)
 have ff : ∀ i, ((f.take i).flatMap boxB).length ≤ 400000 * 100 := fun i => Nat.le_trans (flat_len _ (fun x hx => setsB_len (hw x (List.mem_of_mem_take hx)) 4 (by omega))) (Nat.mul_le_mul_left _ (by rw [List.length_take]; omega))
 refine pure_of_hid (H := BH) (s := none) r24 (by kernel_rfl) BH0 ?_
 unfold m24
 simp only [go_sem, Nat.reduceEqDiff, Nat.reduceAdd]
 obtain ⟨i0, z0, hi0, hz0, hzd, hzc⟩ := infoBld
 refine ⟨rfl, i0, z0, hi0, hz0, hzd, fun b => ⟨some (b, []), ⟨rfl, rfl, hzc, rfl⟩, ?_⟩⟩
 simp only [w1, go_sem, Nat.reduceEqDiff, List.length_map]
 refine callP_eq rfl rfl (kcUintS f.length (by omega)) ?_
 simp only [go_sem, Nat.reduceEqDiff]
 refine callH_eq rfl rfl rfl (kWS' b [] (encB f.length) (by omega) (by simp)) ?_
 simp only [go_sem, Nat.reduceEqDiff, List.length_map]
 refine loop_NH f.length (fun _ => True) (fun i => ⟨[(0, .sl none (f.map boxC)), (3, .val (.pointer (some ⟨b, 0, none⟩))), (15, .val (.int .i64 f.length)), (16, .val (.int .i64 i))], [], []⟩) (fun i => some (b, encB f.length ++ (f.take i).flatMap boxB)) trivial (by simp only [go_sem, Nat.reduceEqDiff]; rfl) (by simp) ?_
 rintro i hil -
 simp only [go_sem, Nat.reduceEqDiff]
 refine condE_split (fun h => ?_) (fun h => ?_)
 ·have hi' : i < f.length := by simpa using h
  have hx := hw _ (getD_mem hi')
  have hget := get_boxC hi'
  have hnx : (f.take (i + 1)).flatMap boxB = (f.take i).flatMap boxB ++ boxB (f.getD i allB) := by
   rw [takeB hi', List.flatMap_append]; simp
  have hfi := ff i
  simp only [go_sem, Nat.reduceEqDiff]
  generalize hpre : encB f.length ++ (f.take i).flatMap boxB = pre at *
  have hpl : pre.length ≤ 50000000 := by rw [← hpre, List.length_append]; omega
  generalize hx0 : f.getD i allB = x at *
  refine loop_NH 4 (fun _ => True) (fun k => ⟨[(0, .sl none (f.map boxC)), (3, .val (.pointer (some ⟨b, 0, none⟩))), (4, .val (.int .i64 i)), (15, .val (.int .i64 f.length)), (16, .val (.int .i64 i)), (19, .val (.int .i64 (z4 k)))], [], []⟩) (fun k => some (b, pre ++ setsB x k)) trivial (by simp only [go_sem, Nat.reduceEqDiff]; rfl) (by simp [setsB]) ?_
  rintro k hk -
  have hsl := setsB_len hx k hk
  have hsn := setsB_succ x k
  have hk5 : k = 0 ∨ k = 1 ∨ k = 2 ∨ k = 3 ∨ k = 4 := by omega
  rcases hk5 with rfl | rfl | rfl | rfl | rfl
  ·have p := kputSet b (pre ++ setsB x 0) (x.at 0) (hx 0 (by omega)) (by rw [List.length_append]; omega)
   simp only [nn0, Int.toNat_natCast, hget, go_sem, Nat.reduceEqDiff, Nat.reduceAdd, z4, Int.reduceLT, Int.toNat_zero, Int.le_refl, decide_true, c4, Nat.reduceMul, and_self, ↓reduceIte]
   refine callH_eq rfl rfl rfl (hidNar 4 rfl p) ?_
   simp only [go_sem, Nat.reduceEqDiff]
   refine invH_next (by omega) trivial ?_ ?_
   ·simp only [go_sem, Nat.reduceEqDiff, Nat.reduceAdd]; rfl
   ·rw [hsn, List.append_assoc]
  ·have p := kputSet b (pre ++ setsB x 1) (x.at 1) (hx 1 (by omega)) (by rw [List.length_append]; omega)
   simp only [nn0, Int.toNat_natCast, hget, go_sem, Nat.reduceEqDiff, Nat.reduceAdd, z4, Int.reduceLT, Int.reduceLE, Int.reduceToNat, decide_true, c4, Nat.reduceMul, and_self, ↓reduceIte]
   refine callH_eq rfl rfl rfl (hidNar 4 rfl p) ?_
   simp only [go_sem, Nat.reduceEqDiff]
   refine invH_next (by omega) trivial ?_ ?_
   ·simp only [go_sem, Nat.reduceEqDiff, Nat.reduceAdd]; rfl
   ·rw [hsn, List.append_assoc]
  ·have p := kputSet b (pre ++ setsB x 2) (x.at 2) (hx 2 (by omega)) (by rw [List.length_append]; omega)
   simp only [nn0, Int.toNat_natCast, hget, go_sem, Nat.reduceEqDiff, Nat.reduceAdd, z4, Int.reduceLT, Int.reduceLE, Int.reduceToNat, decide_true, c4, Nat.reduceMul, and_self, ↓reduceIte]
   refine callH_eq rfl rfl rfl (hidNar 4 rfl p) ?_
   simp only [go_sem, Nat.reduceEqDiff]
   refine invH_next (by omega) trivial ?_ ?_
   ·simp only [go_sem, Nat.reduceEqDiff, Nat.reduceAdd]; rfl
   ·rw [hsn, List.append_assoc]
  ·have p := kputSet b (pre ++ setsB x 3) (x.at 3) (hx 3 (by omega)) (by rw [List.length_append]; omega)
   simp only [nn0, Int.toNat_natCast, hget, go_sem, Nat.reduceEqDiff, Nat.reduceAdd, z4, Int.reduceLT, Int.reduceLE, Int.reduceToNat, decide_true, c4, Nat.reduceMul, and_self, ↓reduceIte]
   refine callH_eq rfl rfl rfl (hidNar 4 rfl p) ?_
   simp only [go_sem, Nat.reduceEqDiff]
   refine invH_next (by omega) trivial ?_ ?_
   ·simp only [go_sem, Nat.reduceEqDiff, Nat.reduceAdd]; rfl
   ·rw [hsn, List.append_assoc]
  ·simp only [up64 (show i < 1000000 by omega), go_sem, Nat.reduceEqDiff, z4, Int.reduceLT, decide_false, ↓reduceIte]
   refine invH_next hi' trivial ?_ ?_
   ·simp only [go_sem, Nat.reduceEqDiff]
   ·rw [hnx, ← hpre, List.append_assoc]; rfl
 ·have hil' : i = f.length := by simp at h; omega
  subst hil'
  have hfi := ff f.length
  rw [List.take_length] at hfi ⊢
  simp only [go_sem, Nat.reduceEqDiff]
  refine callH_eq rfl rfl rfl (kBS b (encB f.length ++ f.flatMap boxB) (fun e => by rw [List.append_eq_nil_iff] at e; rw [e.1] at n2; simp at n2)) ?_
  simp only [go_sem, Nat.reduceEqDiff]
  rfl
end Go.Proofs

namespace Go.Proofs
open Go.Vm
set_option linter.unusedSimpArgs false
def valB (v : ValM) : List UInt8 := UInt8.ofNat v.kind.toNat :: (if v.kind = 1 then encB (foldN v.n) else if v.kind = 2 then strB v.s else [])
def valsB (e : EvM) (k : Nat) : List UInt8 := (List.range k).flatMap fun j => valB (e.at j)
def eventB (e : EvM) : List UInt8 := valsB e 4
structure Wv (v : ValM) : Prop where
 r : rightV v = true
 n : InRange v.n
def WvE (e : EvM) : Prop := ∀ i, i < 4 → Wv (e.at i)
theorem Wv.kd {v : ValM} (h : Wv v) : v.kind = 0 ∨ v.kind = 1 ∨ v.kind = 2 ∧ v.s.size ≤ 8 := by
 have := h.r
 unfold rightV at this
 split at this
 ·simp_all
 ·split at this
  ·simp_all
  ·split at this
   ·simp at this; right; right; exact ⟨by assumption, by omega⟩
   ·cases this
theorem valB_len {v : ValM} (h : Wv v) : (valB v).length ≤ 1100 := by
 rcases h.kd with e | e | ⟨e, hs⟩
 ·simp [valB, e]
 ·have := (encB_len (unfold_fold h.n).2).1
  simp [valB, e]; omega
 ·have := strB_len (s := v.s) (by omega)
  simp [valB, e]; omega
theorem valsB_succ (b : EvM) (k : Nat) : valsB b (k + 1) = valsB b k ++ valB (b.at k) := by simp [valsB, List.range_succ]
theorem valsB_len {b : EvM} (h : WvE b) : ∀ k, k ≤ 4 → (valsB b k).length ≤ 1100 * k
 | 0, _ => by simp [valsB]
 | k + 1, hk => by
  have := valsB_len h k (by omega)
  have := valB_len (h k (by omega))
  rw [valsB_succ, List.length_append]; omega
theorem u8_0 : IntKind.u8.wrap 0 = 0 := rfl
theorem u8_1 : IntKind.u8.wrap 1 = 1 := rfl
theorem u8_2 : IntKind.u8.wrap 2 = 2 := rfl
set_option maxHeartbeats 4000000 in
theorem kPutEvent (e : EvM) (hw : WvE e) : PureAt Tryz.prog 21 [.agg (evC e)] (· = .val (.string (lb (eventB e)))) := by
 refine pure_of_hid (H := BH) (s := none) r21 (by kernel_rfl) BH0 ?_
 unfold m21
 simp only [evC, go_sem, Nat.reduceEqDiff, Nat.reduceAdd]
 obtain ⟨i0, z0, hi0, hz0, hzd, hzc⟩ := infoBld
 refine ⟨rfl, i0, z0, hi0, hz0, hzd, fun b => ⟨some (b, []), ⟨rfl, rfl, hzc, rfl⟩, ?_⟩⟩
 simp only [go_sem, Nat.reduceEqDiff, Nat.reduceAdd, Nat.reduceLeDiff]
 refine loop_NH 4 (fun _ => True) (fun k => ⟨[(3, .val (.pointer (some ⟨b, 0, none⟩))), (8, .agg (evC e)), (9, .val (.int .i64 (z4 k)))], [], []⟩) (fun k => some (b, valsB e k)) trivial (by simp only [go_sem, Nat.reduceEqDiff]; rfl) (by simp [valsB]) ?_
 rintro k hk -
 have hsl := valsB_len hw k hk
 have hsn := valsB_succ e k
 have hk5 : k = 0 ∨ k = 1 ∨ k = 2 ∨ k = 3 ∨ k = 4 := by omega
 rcases hk5 with rfl | rfl | rfl | rfl | rfl
 ·have hv := hw 0 (by omega)
  have hkd : e.v0.kind = 0 ∨ e.v0.kind = 1 ∨ e.v0.kind = 2 ∧ e.v0.s.size ≤ 8 := hv.kd
  have hin : InRange e.v0.n := hv.n
  have hvb : valB (e.at 0) = valB e.v0 := rfl
  have q1 := (encB_len (unfold_fold hin).2).1
  rcases hkd with e0 | e0 | ⟨e0, hs⟩
  ·simp only [evC, e0, u8_0, go_sem, Nat.reduceEqDiff, Nat.reduceAdd, Nat.reduceLeDiff, z4, Int.reduceLT, Int.toNat_zero, Int.le_refl, decide_true, c4, Nat.reduceMul, true_and, and_self, ↓reduceIte]
   refine callH_eq rfl rfl rfl (kWB' b (valsB e 0) 0 (by omega) (by omega)) ?_
   simp only [Int.reduceBEq, go_sem, Nat.reduceEqDiff, Nat.reduceAdd, Int.reduceAdd, wr1, ↓reduceIte]
   refine invH_next (by omega) trivial ?_ ?_
   ·simp only [go_sem, Nat.reduceEqDiff, Nat.reduceAdd]
   ·rw [hsn, hvb]; simp [valB, e0]
  ·simp only [evC, e0, u8_1, go_sem, Nat.reduceEqDiff, Nat.reduceAdd, Nat.reduceLeDiff, z4, Int.reduceLT, Int.toNat_zero, Int.le_refl, decide_true, c4, Nat.reduceMul, true_and, and_self, ↓reduceIte]
   refine callH_eq rfl rfl rfl (kWB' b (valsB e 0) 1 (by omega) (by omega)) ?_
   simp only [beq_self_eq_true, go_sem, Nat.reduceEqDiff, Nat.reduceAdd]
   refine callP_eq rfl rfl (kcInt e.v0.n hin) ?_
   simp only [go_sem, Nat.reduceEqDiff]
   refine callH_eq rfl rfl rfl (kWS' b _ (encB (foldN e.v0.n)) (by omega) (by simp only [List.length_append, List.length_cons, List.length_nil]; omega)) ?_
   simp only [go_sem, Nat.reduceEqDiff, Int.reduceAdd, wr1, ↓reduceIte]
   refine invH_next (by omega) trivial ?_ ?_
   ·simp only [go_sem, Nat.reduceEqDiff, Nat.reduceAdd]
   ·rw [hsn, hvb]; simp [valB, e0]
  ·simp only [evC, e0, u8_2, go_sem, Nat.reduceEqDiff, Nat.reduceAdd, Nat.reduceLeDiff, z4, Int.reduceLT, Int.toNat_zero, Int.le_refl, decide_true, c4, Nat.reduceMul, true_and, and_self, ↓reduceIte]
   refine callH_eq rfl rfl rfl (kWB' b (valsB e 0) 2 (by omega) (by omega)) ?_
   simp only [beq_self_eq_true, Int.reduceBEq, go_sem, Nat.reduceEqDiff, Nat.reduceAdd]
   refine callP_eq rfl rfl (kcStr e.v0.s (by omega)) ?_
   simp only [go_sem, Nat.reduceEqDiff]
   refine callH_eq rfl rfl rfl (kWS' b _ (strB e.v0.s) (by have := strB_len (s := e.v0.s) (by omega); omega) (by simp only [List.length_append, List.length_cons, List.length_nil]; omega)) ?_
   simp only [go_sem, Nat.reduceEqDiff, Int.reduceAdd, wr1, ↓reduceIte]
   refine invH_next (by omega) trivial ?_ ?_
   ·simp only [go_sem, Nat.reduceEqDiff, Nat.reduceAdd]
   ·rw [hsn, hvb]; simp [valB, e0]
 ·have hv := hw 1 (by omega)
  have hkd : e.v1.kind = 0 ∨ e.v1.kind = 1 ∨ e.v1.kind = 2 ∧ e.v1.s.size ≤ 8 := hv.kd
  have hin : InRange e.v1.n := hv.n
  have hvb : valB (e.at 1) = valB e.v1 := rfl
  have q1 := (encB_len (unfold_fold hin).2).1
  rcases hkd with e0 | e0 | ⟨e0, hs⟩
  ·simp only [evC, e0, u8_0, go_sem, Nat.reduceEqDiff, Nat.reduceAdd, Nat.reduceLeDiff, z4, Int.reduceLT, Int.reduceLE, Int.reduceToNat, decide_true, c4, Nat.reduceMul, true_and, and_self, ↓reduceIte]
   refine callH_eq rfl rfl rfl (kWB' b (valsB e 1) 0 (by omega) (by omega)) ?_
   simp only [Int.reduceBEq, go_sem, Nat.reduceEqDiff, Nat.reduceAdd, Int.reduceAdd, wr2, ↓reduceIte]
   refine invH_next (by omega) trivial ?_ ?_
   ·simp only [go_sem, Nat.reduceEqDiff, Nat.reduceAdd]
   ·rw [hsn, hvb]; simp [valB, e0]
  ·simp only [evC, e0, u8_1, go_sem, Nat.reduceEqDiff, Nat.reduceAdd, Nat.reduceLeDiff, z4, Int.reduceLT, Int.reduceLE, Int.reduceToNat, decide_true, c4, Nat.reduceMul, true_and, and_self, ↓reduceIte]
   refine callH_eq rfl rfl rfl (kWB' b (valsB e 1) 1 (by omega) (by omega)) ?_
   simp only [beq_self_eq_true, go_sem, Nat.reduceEqDiff, Nat.reduceAdd]
   refine callP_eq rfl rfl (kcInt e.v1.n hin) ?_
   simp only [go_sem, Nat.reduceEqDiff]
   refine callH_eq rfl rfl rfl (kWS' b _ (encB (foldN e.v1.n)) (by omega) (by simp only [List.length_append, List.length_cons, List.length_nil]; omega)) ?_
   simp only [go_sem, Nat.reduceEqDiff, Int.reduceAdd, wr2, ↓reduceIte]
   refine invH_next (by omega) trivial ?_ ?_
   ·simp only [go_sem, Nat.reduceEqDiff, Nat.reduceAdd]
   ·rw [hsn, hvb]; simp [valB, e0]
  ·simp only [evC, e0, u8_2, go_sem, Nat.reduceEqDiff, Nat.reduceAdd, Nat.reduceLeDiff, z4, Int.reduceLT, Int.reduceLE, Int.reduceToNat, decide_true, c4, Nat.reduceMul, true_and, and_self, ↓reduceIte]
   refine callH_eq rfl rfl rfl (kWB' b (valsB e 1) 2 (by omega) (by omega)) ?_
   simp only [beq_self_eq_true, Int.reduceBEq, go_sem, Nat.reduceEqDiff, Nat.reduceAdd]
   refine callP_eq rfl rfl (kcStr e.v1.s (by omega)) ?_
   simp only [go_sem, Nat.reduceEqDiff]
   refine callH_eq rfl rfl rfl (kWS' b _ (strB e.v1.s) (by have := strB_len (s := e.v1.s) (by omega); omega) (by simp only [List.length_append, List.length_cons, List.length_nil]; omega)) ?_
   simp only [go_sem, Nat.reduceEqDiff, Int.reduceAdd, wr2, ↓reduceIte]
   refine invH_next (by omega) trivial ?_ ?_
   ·simp only [go_sem, Nat.reduceEqDiff, Nat.reduceAdd]
   ·rw [hsn, hvb]; simp [valB, e0]
 ·have hv := hw 2 (by omega)
  have hkd : e.v2.kind = 0 ∨ e.v2.kind = 1 ∨ e.v2.kind = 2 ∧ e.v2.s.size ≤ 8 := hv.kd
  have hin : InRange e.v2.n := hv.n
  have hvb : valB (e.at 2) = valB e.v2 := rfl
  have q1 := (encB_len (unfold_fold hin).2).1
  rcases hkd with e0 | e0 | ⟨e0, hs⟩
  ·simp only [evC, e0, u8_0, go_sem, Nat.reduceEqDiff, Nat.reduceAdd, Nat.reduceLeDiff, z4, Int.reduceLT, Int.reduceLE, Int.reduceToNat, decide_true, c4, Nat.reduceMul, true_and, and_self, ↓reduceIte]
   refine callH_eq rfl rfl rfl (kWB' b (valsB e 2) 0 (by omega) (by omega)) ?_
   simp only [Int.reduceBEq, go_sem, Nat.reduceEqDiff, Nat.reduceAdd, Int.reduceAdd, wr3, ↓reduceIte]
   refine invH_next (by omega) trivial ?_ ?_
   ·simp only [go_sem, Nat.reduceEqDiff, Nat.reduceAdd]
   ·rw [hsn, hvb]; simp [valB, e0]
  ·simp only [evC, e0, u8_1, go_sem, Nat.reduceEqDiff, Nat.reduceAdd, Nat.reduceLeDiff, z4, Int.reduceLT, Int.reduceLE, Int.reduceToNat, decide_true, c4, Nat.reduceMul, true_and, and_self, ↓reduceIte]
   refine callH_eq rfl rfl rfl (kWB' b (valsB e 2) 1 (by omega) (by omega)) ?_
   simp only [beq_self_eq_true, go_sem, Nat.reduceEqDiff, Nat.reduceAdd]
   refine callP_eq rfl rfl (kcInt e.v2.n hin) ?_
   simp only [go_sem, Nat.reduceEqDiff]
   refine callH_eq rfl rfl rfl (kWS' b _ (encB (foldN e.v2.n)) (by omega) (by simp only [List.length_append, List.length_cons, List.length_nil]; omega)) ?_
   simp only [go_sem, Nat.reduceEqDiff, Int.reduceAdd, wr3, ↓reduceIte]
   refine invH_next (by omega) trivial ?_ ?_
   ·simp only [go_sem, Nat.reduceEqDiff, Nat.reduceAdd]
   ·rw [hsn, hvb]; simp [valB, e0]
  ·simp only [evC, e0, u8_2, go_sem, Nat.reduceEqDiff, Nat.reduceAdd, Nat.reduceLeDiff, z4, Int.reduceLT, Int.reduceLE, Int.reduceToNat, decide_true, c4, Nat.reduceMul, true_and, and_self, ↓reduceIte]
   refine callH_eq rfl rfl rfl (kWB' b (valsB e 2) 2 (by omega) (by omega)) ?_
   simp only [beq_self_eq_true, Int.reduceBEq, go_sem, Nat.reduceEqDiff, Nat.reduceAdd]
   refine callP_eq rfl rfl (kcStr e.v2.s (by omega)) ?_
   simp only [go_sem, Nat.reduceEqDiff]
   refine callH_eq rfl rfl rfl (kWS' b _ (strB e.v2.s) (by have := strB_len (s := e.v2.s) (by omega); omega) (by simp only [List.length_append, List.length_cons, List.length_nil]; omega)) ?_
   simp only [go_sem, Nat.reduceEqDiff, Int.reduceAdd, wr3, ↓reduceIte]
   refine invH_next (by omega) trivial ?_ ?_
   ·simp only [go_sem, Nat.reduceEqDiff, Nat.reduceAdd]
   ·rw [hsn, hvb]; simp [valB, e0]
 ·have hv := hw 3 (by omega)
  have hkd : e.v3.kind = 0 ∨ e.v3.kind = 1 ∨ e.v3.kind = 2 ∧ e.v3.s.size ≤ 8 := hv.kd
  have hin : InRange e.v3.n := hv.n
  have hvb : valB (e.at 3) = valB e.v3 := rfl
  have q1 := (encB_len (unfold_fold hin).2).1
  rcases hkd with e0 | e0 | ⟨e0, hs⟩
  ·simp only [evC, e0, u8_0, go_sem, Nat.reduceEqDiff, Nat.reduceAdd, Nat.reduceLeDiff, z4, Int.reduceLT, Int.reduceLE, Int.reduceToNat, decide_true, c4, Nat.reduceMul, true_and, and_self, ↓reduceIte]
   refine callH_eq rfl rfl rfl (kWB' b (valsB e 3) 0 (by omega) (by omega)) ?_
   simp only [Int.reduceBEq, go_sem, Nat.reduceEqDiff, Nat.reduceAdd, Int.reduceAdd, wr4, ↓reduceIte]
   refine invH_next (by omega) trivial ?_ ?_
   ·simp only [go_sem, Nat.reduceEqDiff, Nat.reduceAdd]
   ·rw [hsn, hvb]; simp [valB, e0]
  ·simp only [evC, e0, u8_1, go_sem, Nat.reduceEqDiff, Nat.reduceAdd, Nat.reduceLeDiff, z4, Int.reduceLT, Int.reduceLE, Int.reduceToNat, decide_true, c4, Nat.reduceMul, true_and, and_self, ↓reduceIte]
   refine callH_eq rfl rfl rfl (kWB' b (valsB e 3) 1 (by omega) (by omega)) ?_
   simp only [beq_self_eq_true, go_sem, Nat.reduceEqDiff, Nat.reduceAdd]
   refine callP_eq rfl rfl (kcInt e.v3.n hin) ?_
   simp only [go_sem, Nat.reduceEqDiff]
   refine callH_eq rfl rfl rfl (kWS' b _ (encB (foldN e.v3.n)) (by omega) (by simp only [List.length_append, List.length_cons, List.length_nil]; omega)) ?_
   simp only [go_sem, Nat.reduceEqDiff, Int.reduceAdd, wr4, ↓reduceIte]
   refine invH_next (by omega) trivial ?_ ?_
   ·simp only [go_sem, Nat.reduceEqDiff, Nat.reduceAdd]
   ·rw [hsn, hvb]; simp [valB, e0]
  ·simp only [evC, e0, u8_2, go_sem, Nat.reduceEqDiff, Nat.reduceAdd, Nat.reduceLeDiff, z4, Int.reduceLT, Int.reduceLE, Int.reduceToNat, decide_true, c4, Nat.reduceMul, true_and, and_self, ↓reduceIte]
   refine callH_eq rfl rfl rfl (kWB' b (valsB e 3) 2 (by omega) (by omega)) ?_
   simp only [beq_self_eq_true, Int.reduceBEq, go_sem, Nat.reduceEqDiff, Nat.reduceAdd]
   refine callP_eq rfl rfl (kcStr e.v3.s (by omega)) ?_
   simp only [go_sem, Nat.reduceEqDiff]
   refine callH_eq rfl rfl rfl (kWS' b _ (strB e.v3.s) (by have := strB_len (s := e.v3.s) (by omega); omega) (by simp only [List.length_append, List.length_cons, List.length_nil]; omega)) ?_
   simp only [go_sem, Nat.reduceEqDiff, Int.reduceAdd, wr4, ↓reduceIte]
   refine invH_next (by omega) trivial ?_ ?_
   ·simp only [go_sem, Nat.reduceEqDiff, Nat.reduceAdd]
   ·rw [hsn, hvb]; simp [valB, e0]
 ·simp only [go_sem, Nat.reduceEqDiff, z4, Int.reduceLT, decide_false, ↓reduceIte]
  refine callH_eq rfl rfl rfl (kBS b (valsB e 4) (fun h => by simp [valsB, valB, List.range_succ] at h)) ?_
  simp only [go_sem, Nat.reduceEqDiff]
  rfl
end Go.Proofs

namespace Go.Proofs
open Go.Vm
set_option linter.unusedSimpArgs false
theorem wsmB_fine {b : BoxM} (hb : BndB b) (h : fineB b = true) : WsmB b := by
 simp only [fineB, smallB, Bool.and_eq_true] at h
 intro i hi
 have h1 := (rightB_iff hb).1 h.1 i hi
 have h2 := all4_iff.1 h.2 i hi
 simp only [smallM, Bool.and_eq_true, decide_eq_true_eq] at h2
 exact ⟨by omega, by omega, fun t ht => by have := h1.sz t ht; omega, hb i hi⟩
theorem wsmF {l : List BoxM} (hb : ∀ b ∈ l, BndB b) (h : rightF l = true) : l.length ≤ 4 ∧ ∀ b ∈ l, WsmB b := by
 simp only [rightF, Bool.and_eq_true, decide_eq_true_eq, List.all_eq_true] at h
 exact ⟨h.1.1, fun b hm => wsmB_fine (hb b hm) (h.1.2 b hm)⟩
theorem wvE {e : EvM} (hi : InE e) (h : rightE e = true) : WvE e := fun i hl => ⟨all4_iff.1 h i hl, hi i hl⟩
def encP (p : List UInt8 × Int) : D := .tup [.val (.string (lb p.1)), .val (.int .i64 p.2)]
end Go.Proofs
