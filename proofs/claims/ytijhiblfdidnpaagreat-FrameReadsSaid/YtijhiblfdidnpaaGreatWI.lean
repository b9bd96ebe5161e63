/- A part of the proof; what is proved stands in the last text. -/
import Derived.Test.YtijhiblfdidnpaaGreatWG
set_option linter.unusedVariables false
set_option maxRecDepth 2000
namespace Go.Proofs
open Go.Vm
set_option linter.unusedSimpArgs false
end Go.Proofs

namespace Go.Proofs
open Go.Vm
set_option linter.unusedSimpArgs false
theorem rdRgs_head (s : Rdr) : ∀ k, rdRgs s (k + 1) = ((rgR s).1 :: (rdRgs (rgR s).2 k).1, (rdRgs (rgR s).2 k).2)
 | 0 => rfl
 | k + 1 => by
  rw [rdRgs, rdRgs_head s k]
  rfl
theorem rdStrs_head (s : Rdr) : ∀ k, rdStrs s (k + 1) = (lb (strR 8 s).1 :: (rdStrs (strR 8 s).2 k).1, (rdStrs (strR 8 s).2 k).2)
 | 0 => rfl
 | k + 1 => by
  rw [rdStrs, rdStrs_head s k]
  rfl
theorem rdBoxes_head (s : Rdr) (k : Nat) : rdBoxes s (k + 1) = ((bxR s).1 :: (rdBoxes (bxR s).2 k).1, (rdBoxes (bxR s).2 k).2) := by
 induction k with
 | zero => simp only [rdBoxes, List.nil_append]
 | succ k ih =>
  rw [rdBoxes, ih]
  simp only [rdBoxes, List.cons_append]
theorem rg_back {r : Rg} (h : InB r) (t : List UInt8) : rgR (rgB r ++ t, 0) = (r, (t, 0)) := by
 obtain ⟨⟨a1, a2⟩, a3, a4⟩ := h
 have h1 := int_back r.1 ⟨by omega, by omega⟩ (encB (foldN r.2) ++ t)
 have h2 := int_back r.2 ⟨by omega, by omega⟩ t
 unfold rgR
 rw [rgB, List.append_assoc, h1.1]
 simp only
 rw [h2.1, h1.2, h2.2]
theorem rgs_back : ∀ (l : List Rg) (_ : ∀ r ∈ l, InB r) (t : List UInt8), rdRgs (l.flatMap rgB ++ t, 0) l.length = (l, (t, 0))
 | [], _, t => rfl
 | r :: l, h, t => by
  rw [List.length_cons, rdRgs_head, List.flatMap_cons, List.append_assoc, rg_back (h r (by simp)), rgs_back l (fun x hx => h x (by simp [hx]))]
theorem strs_back : ∀ (l : List ByteArray) (_ : ∀ s ∈ l, s.size ≤ 8) (t : List UInt8), rdStrs (l.flatMap strB ++ t, 0) l.length = (l, (t, 0))
 | [], _, t => rfl
 | s :: l, h, t => by
  rw [List.length_cons, rdStrs_head, List.flatMap_cons, List.append_assoc, str_back 8 s (h s (by simp)) (by omega), strs_back l (fun x hx => h x (by simp [hx])), lb_bl]
theorem count_back (m n : Nat) (h : n ≤ m) (hm : m < 1000) (t : List UInt8) : countR m (encB n ++ t, 0) = (n, (t, 0)) := by
 unfold countR
 rw [uint_back n (by omega) t, if_neg (by simp; omega)]
theorem abs_flag (s : SetM) : absN (flagN s) = s.absent := by
 unfold absN flagN
 cases s.absent <;> cases s.co <;> rfl
theorem co_flag (s : SetM) : coN (flagN s) = s.co := by
 unfold coN flagN
 cases s.absent <;> cases s.co <;> rfl
structure Sml (s : SetM) : Prop where
 ni : s.ints.length ≤ 6
 ns : s.strs.length ≤ 6
 sz : ∀ t ∈ s.strs, t.size ≤ 8
 bd : Bnd s
theorem set_back {s : SetM} (h : Sml s) (t : List UInt8) : takeSX (setB s ++ t, 0) = (s, (t, 0)) := by
 have hf := flag_lt s
 have e1 : setB s ++ t = UInt8.ofNat (flagN s) :: (encB s.ints.length ++ (s.ints.flatMap rgB ++ (encB s.strs.length ++ (s.strs.flatMap strB ++ t)))) := by simp [setB]
 have hb : byteR (setB s ++ t, 0) = (flagN s, (encB s.ints.length ++ (s.ints.flatMap rgB ++ (encB s.strs.length ++ (s.strs.flatMap strB ++ t))), 0)) := by
  rw [e1, byteR_cons, toNat_of _ (by omega)]
 have h1 : flR (setB s ++ t, 0) = (encB s.ints.length ++ (s.ints.flatMap rgB ++ (encB s.strs.length ++ (s.strs.flatMap strB ++ t))), 0) := by
  unfold flR
  rw [hb, if_neg (by simp; omega)]
 have h2 : isR (setB s ++ t, 0) = (s.ints, (encB s.strs.length ++ (s.strs.flatMap strB ++ t), 0)) := by
  unfold isR
  rw [h1, count_back 6 _ h.ni (by omega)]
  exact rgs_back _ h.bd _
 have h3 : ssR (setB s ++ t, 0) = (s.strs, (t, 0)) := by
  unfold ssR
  rw [h2]
  simp only
  rw [count_back 6 _ h.ns (by omega)]
  exact strs_back _ h.sz _
 unfold takeSX
 rw [h2, h3, hb]
 simp only [abs_flag, co_flag]
def SmlB (b : BoxM) : Prop := ∀ i, i < 4 → Sml (b.at i)
theorem bx_back {b : BoxM} (h : SmlB b) (t : List UInt8) : bxR (boxB b ++ t, 0) = (b, (t, 0)) := by
 have e4 : boxB b ++ t = setB b.s0 ++ (setB b.s1 ++ (setB b.s2 ++ (setB b.s3 ++ t))) := by rw [boxB_four]; simp
 have s0 := set_back (s := b.s0) (h 0 (by omega)) (setB b.s1 ++ (setB b.s2 ++ (setB b.s3 ++ t)))
 have s1 := set_back (s := b.s1) (h 1 (by omega)) (setB b.s2 ++ (setB b.s3 ++ t))
 have s2 := set_back (s := b.s2) (h 2 (by omega)) (setB b.s3 ++ t)
 have s3 := set_back (s := b.s3) (h 3 (by omega)) t
 rw [e4]
 generalize setB b.s0 ++ (setB b.s1 ++ (setB b.s2 ++ (setB b.s3 ++ t))) = l0 at *
 have r1 : rdS (l0, 0) 1 = (setB b.s1 ++ (setB b.s2 ++ (setB b.s3 ++ t)), 0) := congrArg Prod.snd s0
 have r2 : rdS (l0, 0) 2 = (setB b.s2 ++ (setB b.s3 ++ t), 0) := by show (takeSX (rdS (l0, 0) 1)).2 = _; rw [r1]; exact congrArg Prod.snd s1
 have r3 : rdS (l0, 0) 3 = (setB b.s3 ++ t, 0) := by show (takeSX (rdS (l0, 0) 2)).2 = _; rw [r2]; exact congrArg Prod.snd s2
 have r4 : rdS (l0, 0) 4 = (t, 0) := by show (takeSX (rdS (l0, 0) 3)).2 = _; rw [r3]; exact congrArg Prod.snd s3
 have v0 : sK (l0, 0) 0 = b.s0 := congrArg Prod.fst s0
 have v1 : sK (l0, 0) 1 = b.s1 := by unfold sK; rw [r1]; exact congrArg Prod.fst s1
 have v2 : sK (l0, 0) 2 = b.s2 := by unfold sK; rw [r2]; exact congrArg Prod.fst s2
 have v3 : sK (l0, 0) 3 = b.s3 := by unfold sK; rw [r3]; exact congrArg Prod.fst s3
 unfold bxR
 rw [v0, v1, v2, v3, r4]
theorem bxs_back : ∀ (l : List BoxM) (_ : ∀ b ∈ l, SmlB b) (t : List UInt8), rdBoxes (l.flatMap boxB ++ t, 0) l.length = (l, (t, 0))
 | [], _, t => rfl
 | b :: l, h, t => by
  rw [List.length_cons, rdBoxes_head, List.flatMap_cons, List.append_assoc, bx_back (h b (by simp)), bxs_back l (fun x hx => h x (by simp [hx]))]
theorem sml_fine {b : BoxM} (hb : BndB b) (h : fineB b = true) : SmlB b := by
 simp only [fineB, smallB, Bool.and_eq_true] at h
 intro i hi
 have h1 := (rightB_iff hb).1 h.1 i hi
 have h2 := all4_iff.1 h.2 i hi
 simp only [smallM, Bool.and_eq_true, decide_eq_true_eq] at h2
 exact ⟨by omega, by omega, fun t ht => h1.sz t ht, hb i hi⟩
theorem take_filter {f : List BoxM} (hb : ∀ b ∈ f, BndB b) (h : rightF f = true) (t : List UInt8) : takeFX (filterB f ++ t, 0) = (f, (t, 0)) := by
 have h0 := h
 simp only [rightF, Bool.and_eq_true, decide_eq_true_eq, List.all_eq_true] at h
 have h1 : filR (filterB f ++ t, 0) = (f, (t, 0)) := by
  unfold filR
  rw [filterB, List.append_assoc, count_back 4 _ h.1.1 (by omega)]
  exact bxs_back f (fun b hm => sml_fine (hb b hm) (h.1.2 b hm)) t
 have h2 : takeFR (filterB f ++ t, 0) = (t, 0) := by
  unfold takeFR
  rw [h1, if_neg (by rintro ⟨-, hf⟩; rw [h0] at hf; cases hf)]
 unfold takeFX
 rw [h2, h1]
 rfl
theorem setB_sml {s : SetM} (h : Sml s) : (setB s).length ≤ 300 := by
 have n1 := (encB_len (n := s.ints.length) (by have := h.ni; omega)).1
 have n2 := (encB_len (n := s.strs.length) (by have := h.ns; omega)).1
 have f1 := Nat.le_trans (flat_len (f := rgB) s.ints (fun x hx => rgB_len (h.bd x hx))) (Nat.mul_le_mul_left 22 h.ni)
 have f2 := Nat.le_trans (flat_len (f := strB) (k := 19) s.strs (fun x hx => by
  have h8 := h.sz x hx
  have := (encB_len (n := x.size) (by omega)).1
  simp only [strB, List.length_append, size_bl]; omega)) (Nat.mul_le_mul_left 19 h.ns)
 simp only [setB, List.length_append, List.length_cons, List.length_nil]; omega
theorem boxB_sml {b : BoxM} (h : SmlB b) : (boxB b).length ≤ 1200 := by
 have h0 := setB_sml (s := b.s0) (h 0 (by omega))
 have h1 := setB_sml (s := b.s1) (h 1 (by omega))
 have h2 := setB_sml (s := b.s2) (h 2 (by omega))
 have h3 := setB_sml (s := b.s3) (h 3 (by omega))
 rw [boxB_four]; simp only [List.length_append]; omega
theorem filterB_len {f : List BoxM} (hb : ∀ b ∈ f, BndB b) (h : rightF f = true) : (filterB f).length ≤ 5000 := by
 simp only [rightF, Bool.and_eq_true, decide_eq_true_eq, List.all_eq_true] at h
 have hl := h.1.1
 have n1 := (encB_len (n := f.length) (by omega)).1
 have := Nat.le_trans (flat_len (f := boxB) f (fun x hx => boxB_sml (sml_fine (hb x hx) (h.1.2 x hx)))) (Nat.mul_le_mul_left _ hl)
 rw [filterB, List.length_append]; omega
end Go.Proofs
