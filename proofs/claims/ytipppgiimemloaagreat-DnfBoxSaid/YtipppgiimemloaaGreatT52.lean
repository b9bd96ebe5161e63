/- A part of the proof; what is proved stands in the last text. -/
import Derived.Test.YtipppgiimemloaaGreatT51
set_option linter.unusedVariables false
set_option maxRecDepth 2000
namespace Go.Proofs
open Go.Vm
set_option linter.unusedSimpArgs false

/-! ### boxes, in plain Lean -/
theorem lt4 {i : Nat} (h : i < 4) : i = 0 ∨ i = 1 ∨ i = 2 ∨ i = 3 := by omega
theorem at_andB (a b : BoxM) (i : Nat) : (andB a b).at i = andM normR (a.at i) (b.at i) := by
  match i with
  | 0 => rfl
  | 1 => rfl
  | 2 => rfl
  | _ + 3 => rfl
theorem at_allB (i : Nat) : allB.at i = allM := by
  match i with
  | 0 => rfl
  | 1 => rfl
  | 2 => rfl
  | _ + 3 => rfl
theorem at_withB (b : BoxM) (n : Int) (s : SetM) {i : Nat} (h : i < 4) : (withB b n s).at i = if n = (i : Int) then s else b.at i := by
  rcases lt4 h with rfl | rfl | rfl | rfl <;> rfl
theorem BoxM.ext4 {a b : BoxM} (h : ∀ i, i < 4 → a.at i = b.at i) : a = b := by
  obtain ⟨a0, a1, a2, a3⟩ := a
  obtain ⟨b0, b1, b2, b3⟩ := b
  have h0 : a0 = b0 := h 0 (by omega)
  have h1 : a1 = b1 := h 1 (by omega)
  have h2 : a2 = b2 := h 2 (by omega)
  have h3 : a3 = b3 := h 3 (by omega)
  subst h0; subst h1; subst h2; subst h3; rfl
def OKB (b : BoxM) : Prop := ∀ i, i < 4 → OK (b.at i)
def BndB (b : BoxM) : Prop := ∀ i, i < 4 → Bnd (b.at i)
theorem rightB_iff {b : BoxM} (hb : BndB b) : rightB b = true ↔ OKB b := by
  unfold rightB
  rw [all4_iff]
  exact ⟨fun h i hi => (right_iff (hb i hi)).1 (h i hi), fun h i hi => (h i hi).right⟩
theorem OKB.right {b : BoxM} (h : OKB b) : rightB b = true := all4_iff.2 fun i hi => (h i hi).right
theorem OKB.all : OKB allB := fun i _ => by rw [at_allB]; exact OK.all
theorem OKB.and {a b : BoxM} (ha : OKB a) (hb : OKB b) : OKB (andB a b) := fun i hi => by rw [at_andB]; exact ((ha i hi).and (hb i hi)).1
theorem OKB.with {b : BoxM} (h : OKB b) {s : SetM} (hs : OK s) (n : Int) : OKB (withB b n s) := fun i hi => by
  rw [at_withB b n s hi]; split
  · exact hs
  · exact h i hi
theorem FewB.mono {k m : Nat} {b : BoxM} (h : FewB k b) (hk : k ≤ m) : FewB m b := fun i hi => ⟨Nat.le_trans (h i hi).1 hk, Nat.le_trans (h i hi).2 hk⟩
theorem FewB.and {k m : Nat} {a b : BoxM} (ha : FewB k a) (hb : FewB m b) : FewB (k + m + 3) (andB a b) := fun i hi => by
  rw [at_andB]
  have h1 := andM_ints (a.at i) (b.at i)
  have h2 := andM_strs (a.at i) (b.at i)
  have := ha i hi
  have := hb i hi
  omega
theorem FewB.all : FewB 1 allB := fun i _ => by rw [at_allB]; simp [allM]
theorem FewB.with {k : Nat} {b : BoxM} (h : FewB k b) {s : SetM} (h1 : s.ints.length ≤ k) (h2 : s.strs.length ≤ k) (n : Int) : FewB k (withB b n s) := fun i hi => by
  rw [at_withB b n s hi]; split
  · exact ⟨h1, h2⟩
  · exact h i hi

theorem emptyM_iff {s : SetM} : emptyM s = true ↔ s = noM := by
  obtain ⟨sa, si, sc, ss⟩ := s
  simp [emptyM, noM]
  grind
theorem emptyB_iff {b : BoxM} : emptyB b = true ↔ ∃ i, i < 4 ∧ b.at i = noM := by
  unfold emptyB
  constructor
  · intro h
    apply Classical.byContradiction
    intro hn
    have : all4 (fun i => !emptyM (b.at i)) = true := all4_iff.2 fun i hi => by
      cases he : emptyM (b.at i)
      · rfl
      · exact absurd ⟨i, hi, emptyM_iff.1 he⟩ hn
    rw [this] at h; cases h
  · rintro ⟨i, hi, h⟩
    rw [all4_f (p := fun i => !emptyM (b.at i)) hi (by rw [emptyM_iff.2 h]; rfl)]; rfl
theorem Sub.no (s : SetM) : Sub noM s := ⟨fun h => (by cases h), fun n h => absurd h (Cov_nil n), fun t _ h => by simp [StrIn, noM] at h⟩
theorem Sub.trans {a b c : SetM} (h : Sub a b) (h' : Sub b c) : Sub a c := ⟨fun x => h'.1 (h.1 x), fun n x => h'.2.1 n (h.2.1 n x), fun t ht x => h'.2.2 t ht (h.2.2 t ht x)⟩
theorem Sub.all {a : SetM} (ha : OK a) : Sub a allM := ⟨fun _ => rfl, fun _ h => Cov_all.2 (ha.cov h), fun t _ _ => StrIn_all t⟩
theorem sub_and {a b c : SetM} (hb : OK b) (hc : OK c) : Sub a (andM normR b c) ↔ Sub a b ∧ Sub a c := by
  obtain ⟨-, x2, x3, x4⟩ := hb.and hc
  unfold Sub
  rw [x4]
  simp only [x2, x3, Bool.and_eq_true]
  grind
theorem sub_or_l {a b : SetM} (ha : OK a) (hb : OK b) : Sub a (orM normR a b) := by
  obtain ⟨-, x2, x3, x4⟩ := ha.or hb
  exact ⟨fun h => by rw [x4, h]; rfl, fun n h => (x2 n).2 (.inl h), fun t _ h => (x3 t).2 (.inl h)⟩
theorem sub_or_r {a b : SetM} (ha : OK a) (hb : OK b) : Sub b (orM normR a b) := by
  obtain ⟨-, x2, x3, x4⟩ := ha.or hb
  exact ⟨fun h => by rw [x4, h, Bool.or_true], fun n h => (x2 n).2 (.inr h), fun t _ h => (x3 t).2 (.inr h)⟩
theorem inB4_iff {a b : BoxM} (ha : OKB a) (hb : OKB b) (fa : FewB 400 a) (fb : FewB 400 b) : inB4 a b = true ↔ (∃ i, i < 4 ∧ a.at i = noM) ∨ ∀ i, i < 4 → Sub (a.at i) (b.at i) := by
  unfold inB4
  rw [Bool.or_eq_true, emptyB_iff, all4_iff]
  have : ∀ i, i < 4 → (inM (a.at i) (b.at i) = true ↔ Sub (a.at i) (b.at i)) := fun i hi => inM_iff (ha i hi) (hb i hi) (fa i hi).2 (fb i hi).2
  exact ⟨fun h => h.imp id fun h i hi => (this i hi).1 (h i hi), fun h => h.imp id fun h i hi => (this i hi).2 (h i hi)⟩
theorem inB4_of {a b : BoxM} (ha : OKB a) (hb : OKB b) (fa : FewB 400 a) (fb : FewB 400 b) (h : ∀ i, i < 4 → Sub (a.at i) (b.at i)) : inB4 a b = true := (inB4_iff ha hb fa fb).2 (.inr h)
theorem hasB_and {a b : BoxM} (ha : OKB a) (hb : OKB b) (e : EvM) : hasB (andB a b) e = (hasB a e && hasB b e) := by
  unfold hasB
  cases hr : rightE e
  · rfl
  · have hri := all4_iff.1 hr
    rw [Bool.eq_iff_iff]
    simp only [Bool.true_and, Bool.and_eq_true, all4_iff]
    constructor
    · intro h
      refine ⟨fun i hi => ?_, fun i hi => ?_⟩
      · have := h i hi
        rw [at_andB, hasM_and (ha i hi) (hb i hi) (hri i hi), Bool.and_eq_true] at this
        exact this.1
      · have := h i hi
        rw [at_andB, hasM_and (ha i hi) (hb i hi) (hri i hi), Bool.and_eq_true] at this
        exact this.2
    · rintro ⟨h1, h2⟩ i hi
      rw [at_andB, hasM_and (ha i hi) (hb i hi) (hri i hi), h1 i hi, h2 i hi]; rfl
def InE (e : EvM) : Prop := ∀ i, i < 4 → InRange (e.at i).n
theorem hasB_all {e : EvM} (he : InE e) : hasB allB e = rightE e := by
  unfold hasB
  cases hr : rightE e
  · rfl
  · rw [all4_iff.2 fun i hi => by rw [at_allB, hasM_all _ (he i hi)]; exact all4_iff.1 hr i hi]; rfl

theorem box_order {a b c : BoxM} (ha : OKB a) (hb : OKB b) (hc : OKB c) (fa : FewB 40 a) (fb : FewB 40 b) (fc : FewB 40 c) (h1 : inB4 a b = true) (h2 : inB4 b c = true) : inB4 a c = true := by
  rw [inB4_iff ha hb (fa.mono (by omega)) (fb.mono (by omega))] at h1
  rw [inB4_iff hb hc (fb.mono (by omega)) (fc.mono (by omega))] at h2
  rw [inB4_iff ha hc (fa.mono (by omega)) (fc.mono (by omega))]
  rcases h1 with h1 | h1
  · exact .inl h1
  · rcases h2 with ⟨i, hi, h2⟩ | h2
    · left
      refine ⟨i, hi, Sub.antisymm (ha i hi) OK.no (by have := (fa i hi).2; omega) (by simp [noM]) ?_ (Sub.no _)⟩
      have := h1 i hi
      rwa [h2] at this
    · exact .inr fun i hi => (h1 i hi).trans (h2 i hi)
theorem box_and {a b c : BoxM} (ha : OKB a) (hb : OKB b) (hc : OKB c) (fa : FewB 40 a) (fb : FewB 40 b) (fc : FewB 40 c) : inB4 a (andB b c) = (inB4 a b && inB4 a c) := by
  rw [Bool.eq_iff_iff, Bool.and_eq_true, inB4_iff ha hb (fa.mono (by omega)) (fb.mono (by omega)), inB4_iff ha hc (fa.mono (by omega)) (fc.mono (by omega)), inB4_iff ha (hb.and hc) (fa.mono (by omega)) ((fb.and fc).mono (by omega))]
  have : ∀ i, i < 4 → (Sub (a.at i) ((andB b c).at i) ↔ Sub (a.at i) (b.at i) ∧ Sub (a.at i) (c.at i)) := fun i hi => by rw [at_andB]; exact sub_and (hb i hi) (hc i hi)
  constructor
  · rintro (h | h)
    · exact ⟨.inl h, .inl h⟩
    · exact ⟨.inr fun i hi => ((this i hi).1 (h i hi)).1, .inr fun i hi => ((this i hi).1 (h i hi)).2⟩
  · rintro ⟨h | h, h' | h'⟩
    · exact .inl h
    · exact .inl h
    · exact .inl h'
    · exact .inr fun i hi => (this i hi).2 ⟨h i hi, h' i hi⟩
theorem and_allB {a : BoxM} (ha : OKB a) (fa : FewB 40 a) : andB a allB = a := BoxM.ext4 fun i hi => by
  rw [at_andB, at_allB]
  obtain ⟨x1, x2, x3, x4⟩ := (ha i hi).and OK.all
  have hl := andM_strs (a.at i) allM
  have := (fa i hi).2
  have h0 : allM.strs.length = 0 := rfl
  refine x1.ext (ha i hi) (by omega) (by omega) ?_ (fun n hn => ?_) (fun t _ => ?_)
  · rw [x4]; simp [allM]
  · rw [x2]; simp [Cov_all, hn]
  · rw [x3]; simp [StrIn_all]
theorem sameB_self (a : BoxM) : boxSame a a = true := all4_iff.2 fun _ _ => sameM_self _

/-! ### awake -/
def setR15 : SetM := ⟨false, [(1, 5)], false, []⟩
def setX : SetM := ⟨false, [], false, [⟨#[120]⟩]⟩
def boxR : BoxM := withB allB 0 setR15
def boxX : BoxM := withB allB 1 setX
def evA : EvM := ⟨⟨1, 3, ⟨#[]⟩⟩, ⟨2, 0, ⟨#[120]⟩⟩, ⟨0, 0, ⟨#[]⟩⟩, ⟨0, 0, ⟨#[]⟩⟩⟩
def ev0 : EvM := ⟨⟨0, 0, ⟨#[]⟩⟩, ⟨0, 0, ⟨#[]⟩⟩, ⟨0, 0, ⟨#[]⟩⟩, ⟨0, 0, ⟨#[]⟩⟩⟩
theorem OK.r15 : OK setR15 := ⟨⟨by simp [setR15], by simp [setR15]⟩, by simp [setR15, InB], .nil, by simp [setR15]⟩
theorem OK.x : OK setX := ⟨NF.nil, by simp [setX], by simp [SS, setX], by simp [setX]; decide⟩
theorem okR : OKB boxR := OKB.all.with OK.r15 0
theorem okX : OKB boxX := OKB.all.with OK.x 1
theorem fewR : FewB 1 boxR := FewB.all.with (by simp [setR15]) (by simp [setR15]) 0
theorem fewX : FewB 1 boxX := FewB.all.with (by simp [setX]) (by simp [setX]) 1
theorem b120 : (ByteArray.mk #[120]).toList = [120] := by rw [ByteArray.toList_eq]
theorem rightA : rightE evA = true := all4_iff.2 fun i hi => by rcases lt4 hi with rfl | rfl | rfl | rfl <;> simp [EvM.at, at4, evA, rightV, emptyBytes] <;> decide
theorem inA : InE evA := fun i hi => by rcases lt4 hi with rfl | rfl | rfl | rfl <;> simp [EvM.at, at4, evA, InRange]
theorem hasRA : hasB boxR evA = true := by
  unfold hasB
  rw [rightA, Bool.true_and]
  refine all4_iff.2 fun i hi => ?_
  have hr := all4_iff.1 rightA i hi
  rw [boxR, at_withB allB 0 setR15 hi, at_allB]
  rcases lt4 hi with rfl | rfl | rfl | rfl
  · rw [if_pos (show (0 : Int) = ((0 : Nat) : Int) from rfl), has_iff _ hr]; exact .inr (.inl ⟨rfl, (1, 5), by simp [setR15], by simp [EvM.at, at4, evA]⟩)
  all_goals
    rw [if_neg (by simp), hasM_all _ (inA _ (by omega))]
    exact hr
theorem hasXA : hasB boxX evA = true := by
  unfold hasB
  rw [rightA, Bool.true_and]
  refine all4_iff.2 fun i hi => ?_
  have hr := all4_iff.1 rightA i hi
  rw [boxX, at_withB allB 1 setX hi, at_allB]
  rcases lt4 hi with rfl | rfl | rfl | rfl
  · rw [if_neg (by simp), hasM_all _ (inA _ (by omega))]; exact hr
  · rw [if_pos (show (1 : Int) = ((1 : Nat) : Int) from rfl), has_iff _ hr]; exact .inr (.inr ⟨rfl, by simp [StrIn, setX, EvM.at, at4, evA]⟩)
  all_goals
    rw [if_neg (by simp), hasM_all _ (inA _ (by omega))]
    exact hr
theorem hasR0 : hasB boxR ev0 = false := by
  unfold hasB
  rw [all4_f (p := fun i => hasM (boxR.at i) (ev0.at i)) (i := 0) (by omega) ?_, Bool.and_false]
  rw [← Bool.not_eq_true, has_iff _ (by simp [EvM.at, at4, ev0, rightV, emptyBytes])]
  simp [EvM.at, BoxM.at, at4, ev0, boxR, withB, setR15]
theorem difRX : dif (sameB boxR boxX) 4 = (2, 0) := by
  have h0 : sameB boxR boxX 0 = false := by
    rw [← Bool.not_eq_true, sameB, sameM_iff]
    intro h
    have := congrArg SetM.absent h
    simp [BoxM.at, at4, boxR, boxX, withB, allB, allM, setR15] at this
  have h1 : sameB boxR boxX 1 = false := by
    rw [← Bool.not_eq_true, sameB, sameM_iff]
    intro h
    have := congrArg SetM.absent h
    simp [BoxM.at, at4, boxR, boxX, withB, allB, allM, setX] at this
  have h2 : sameB boxR boxX 2 = true := sameM_self _
  have h3 : sameB boxR boxX 3 = true := sameM_self _
  simp [dif, h0, h1, h2, h3, z4]
theorem notInRX : inB4 boxR boxX = false := by
  rw [← Bool.not_eq_true, inB4_iff okR okX (fewR.mono (by omega)) (fewX.mono (by omega))]
  rintro (⟨i, hi, h⟩ | h)
  · rcases lt4 hi with rfl | rfl | rfl | rfl <;> simp [BoxM.at, at4, boxR, withB, allB, allM, setR15, noM] at h
  · have := (h 1 (by omega)).1
    simp [BoxM.at, at4, boxR, boxX, withB, allB, allM, setX] at this
theorem notEmptyR : emptyB boxR = false := by
  rw [← Bool.not_eq_true, emptyB_iff]
  rintro ⟨i, hi, h⟩
  rcases lt4 hi with rfl | rfl | rfl | rfl <;> simp [BoxM.at, at4, boxR, withB, allB, allM, setR15, noM] at h
def noB : BoxM := ⟨noM, noM, noM, noM⟩
theorem emptyNo : emptyB noB = true := rfl

end Go.Proofs
