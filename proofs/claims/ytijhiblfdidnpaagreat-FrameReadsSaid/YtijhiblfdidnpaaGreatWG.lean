/- A part of the proof; what is proved stands in the last text. -/
import Derived.Test.YtijhiblfdidnpaaGreatWF
set_option linter.unusedVariables false
set_option maxRecDepth 2000
namespace Go.Proofs
open Go.Vm
set_option linter.unusedSimpArgs false
end Go.Proofs

namespace Go.Proofs
open Go.Vm
set_option linter.unusedSimpArgs false
theorem toL_nil {s : ByteArray} (h : s.toList = []) : s = ⟨#[]⟩ := by
 rw [ByteArray.toList_eq] at h
 exact lb_of h
theorem right_cases {v : ValM} (h : rightV v = true) : v = ⟨0, 0, ⟨#[]⟩⟩ ∨ (∃ n, v = ⟨1, n, ⟨#[]⟩⟩) ∨ ∃ s : ByteArray, v = ⟨2, 0, s⟩ ∧ s.size ≤ 8 := by
 obtain ⟨k, n, s⟩ := v
 unfold rightV at h
 split at h
 ·rename_i hk
  simp only [Bool.and_eq_true, beq_iff_eq] at h hk
  left; rw [hk, h.1, toL_nil h.2]
 ·split at h
  ·rename_i hk
   simp only [beq_iff_eq] at h hk
   right; left; exact ⟨n, by rw [hk, toL_nil h]⟩
  ·split at h
   ·rename_i hk
    simp only [Bool.and_eq_true, beq_iff_eq, decide_eq_true_eq] at h hk
    right; right; exact ⟨s, by rw [hk, h.1], by omega⟩
   ·cases h
theorem val_back {v : ValM} (h : Wv v) (t : List UInt8) : valR (valB v ++ t, 0) = (v, (t, 0)) := by
 rcases right_cases h.r with rfl | ⟨n, rfl⟩ | ⟨s, rfl, hs⟩
 ·rfl
 ·have hb : byteR (valB ⟨1, n, ⟨#[]⟩⟩ ++ t, 0) = (1, (encB (foldN n) ++ t, 0)) := rfl
  obtain ⟨h1, h2⟩ := int_back n h.n t
  unfold valR
  rw [hb, if_pos rfl, h1, h2]
 ·have hb : byteR (valB ⟨2, 0, s⟩ ++ t, 0) = (2, (strB s ++ t, 0)) := rfl
  unfold valR
  rw [hb, if_neg (by simp), if_pos rfl, str_back 8 s hs (by omega) t]
  simp only [lb_bl]
theorem take_back {e : EvM} (h : WvE e) (hr : rightE e = true) (t : List UInt8) : takeEX (eventB e ++ t, 0) = (e, (t, 0)) := by
 have e4 : eventB e ++ t = valB (e.at 0) ++ (valB (e.at 1) ++ (valB (e.at 2) ++ (valB (e.at 3) ++ t))) := by simp [eventB, valsB, List.range_succ]
 have s0 := val_back (h 0 (by omega)) (valB (e.at 1) ++ (valB (e.at 2) ++ (valB (e.at 3) ++ t)))
 have s1 := val_back (h 1 (by omega)) (valB (e.at 2) ++ (valB (e.at 3) ++ t))
 have s2 := val_back (h 2 (by omega)) (valB (e.at 3) ++ t)
 have s3 := val_back (h 3 (by omega)) t
 rw [e4]
 generalize valB (e.at 0) ++ (valB (e.at 1) ++ (valB (e.at 2) ++ (valB (e.at 3) ++ t))) = l0 at *
 have r1 : rdK (l0, 0) 1 = (valB (e.at 1) ++ (valB (e.at 2) ++ (valB (e.at 3) ++ t)), 0) := congrArg Prod.snd s0
 have r2 : rdK (l0, 0) 2 = (valB (e.at 2) ++ (valB (e.at 3) ++ t), 0) := by show (valR (rdK (l0, 0) 1)).2 = _; rw [r1]; exact congrArg Prod.snd s1
 have r3 : rdK (l0, 0) 3 = (valB (e.at 3) ++ t, 0) := by show (valR (rdK (l0, 0) 2)).2 = _; rw [r2]; exact congrArg Prod.snd s2
 have r4 : rdK (l0, 0) 4 = (t, 0) := by show (valR (rdK (l0, 0) 3)).2 = _; rw [r3]; exact congrArg Prod.snd s3
 have v0 : vK (l0, 0) 0 = e.at 0 := congrArg Prod.fst s0
 have v1 : vK (l0, 0) 1 = e.at 1 := by unfold vK; rw [r1]; exact congrArg Prod.fst s1
 have v2 : vK (l0, 0) 2 = e.at 2 := by unfold vK; rw [r2]; exact congrArg Prod.fst s2
 have v3 : vK (l0, 0) 3 = e.at 3 := by unfold vK; rw [r3]; exact congrArg Prod.fst s3
 have ev : evK (l0, 0) 4 = e := by
  unfold evK
  rw [if_pos (by omega), if_pos (by omega), if_pos (by omega), if_pos (by omega), v0, v1, v2, v3]
  rfl
 unfold takeEX
 rw [ev, r4, if_pos hr]
 rfl
end Go.Proofs

namespace Go.Proofs
open Go.Vm
set_option linter.unusedSimpArgs false
end Go.Proofs

namespace Go.Proofs
open Go.Vm
set_option linter.unusedSimpArgs false
theorem boxB_four (b : BoxM) : boxB b = setB b.s0 ++ (setB b.s1 ++ (setB b.s2 ++ setB b.s3)) := by
 simp [boxB, setsB, List.range_succ, BoxM.at, at4]
theorem boxSame_iff {a b : BoxM} : boxSame a b = true ↔ a = b := by
 obtain ⟨x0, x1, x2, x3⟩ := a
 obtain ⟨y0, y1, y2, y3⟩ := b
 simp [boxSame, all4, sameB, BoxM.at, at4, sameM_iff, and_assoc]
theorem sameF_iff {l m : List BoxM} : sameF l m = true ↔ l = m := by
 simp only [sameF, Bool.and_eq_true, decide_eq_true_eq, List.all_eq_true, List.mem_range, boxSame_iff]
 constructor
 ·rintro ⟨h1, h2⟩
  refine List.ext_getElem h1 fun i hi hj => ?_
  have := h2 i hi
  simpa [List.getD_eq_getElem?_getD, List.getElem?_eq_getElem hi, List.getElem?_eq_getElem hj] using this
 ·rintro rfl; exact ⟨rfl, fun i _ => rfl⟩
def eqEv (a b : EvM) : Bool := a.v0.kind == b.v0.kind && (a.v0.n == b.v0.n && (a.v0.s.toList == b.v0.s.toList && (a.v1.kind == b.v1.kind && (a.v1.n == b.v1.n && (a.v1.s.toList == b.v1.s.toList &&
 (a.v2.kind == b.v2.kind && (a.v2.n == b.v2.n && (a.v2.s.toList == b.v2.s.toList && (a.v3.kind == b.v3.kind && (a.v3.n == b.v3.n && a.v3.s.toList == b.v3.s.toList))))))))))
theorem val_ext {a b : ValM} (h1 : a.kind = b.kind) (h2 : a.n = b.n) (h3 : a.s.toList = b.s.toList) : a = b := by
 obtain ⟨k, n, s⟩ := a
 obtain ⟨k', n', s'⟩ := b
 simp only at h1 h2 h3
 rw [ByteArray.toList_eq, ByteArray.toList_eq] at h3
 rw [h1, h2, ByteArray.ext (Array.toList_inj.1 h3)]
theorem eqEv_iff {a b : EvM} : eqEv a b = true ↔ a = b := by
 constructor
 ·intro h
  simp only [eqEv, Bool.and_eq_true, beq_iff_eq] at h
  obtain ⟨h1, h2, h3, h4, h5, h6, h7, h8, h9, h10, h11, h12⟩ := h
  obtain ⟨a0, a1, a2, a3⟩ := a
  obtain ⟨b0, b1, b2, b3⟩ := b
  simp only at *
  rw [val_ext h1 h2 h3, val_ext h4 h5 h6, val_ext h7 h8 h9, val_ext h10 h11 h12]
 ·rintro rfl
  simp [eqEv]
end Go.Proofs

namespace Go.Proofs
open Go.Vm
set_option linter.unusedSimpArgs false
end Go.Proofs
