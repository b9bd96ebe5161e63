/- A part of the proof; what is proved stands in the last text. -/
import Derived.Test.YtijhiblfdidnpaaGreatTN
set_option linter.unusedVariables false
set_option maxRecDepth 2000
namespace Go.Proofs
open Go.Vm
set_option linter.unusedSimpArgs false

def ltB (a b : ByteArray) : Prop := bl a < bl b
theorem ltB_trans {a b c : ByteArray} (h : ltB a b) (h' : ltB b c) : ltB a c := List.lt_trans h h'
def SS (l : List ByteArray) : Prop := l.Pairwise ltB
structure OK (s : SetM) : Prop where
  nf : NF s.ints
  inb : ∀ r ∈ s.ints, InB r
  ss : SS s.strs
  sz : ∀ t ∈ s.strs, t.size ≤ 8
def StrIn (s : SetM) (t : ByteArray) : Prop := ¬ (t ∈ s.strs ↔ s.co = true)
def InRange (n : Int) : Prop := -9223372036854775808 ≤ n ∧ n ≤ 9223372036854775807
theorem OK.cov {s : SetM} (h : OK s) {n : Int} (hc : Cov s.ints n) : InRange n := by
  obtain ⟨r, hr, h1, h2⟩ := hc
  obtain ⟨⟨b1, b2⟩, b3, b4⟩ := h.inb r hr
  exact ⟨by omega, by omega⟩
theorem NF_okI {rs : List Rg} (hb : ∀ r ∈ rs, InB r) (h : okI rs = true) : NF rs := by
  have hbad : ∀ i, i < rs.length → badR rs i = false := fun i hi => by
    have := List.all_eq_true.1 h i (List.mem_range.2 hi)
    simpa using this
  have hle : ∀ i (hi : i < rs.length), rs[i].1 ≤ rs[i].2 := fun i hi => by
    have := hbad i hi
    unfold badR at this
    rw [List.getElem?_eq_getElem hi] at this
    simp only [Bool.or_eq_false_iff, decide_eq_false_iff_not] at this
    omega
  have hstep : ∀ i (hi : i + 1 < rs.length), (rs[i]'(by omega)).2 + 1 < rs[i + 1].1 := fun i hi => by
    have := hbad (i + 1) hi
    unfold badR at this
    rw [List.getElem?_eq_getElem hi, show i + 1 - 1 = i from rfl, List.getElem?_eq_getElem (by omega : i < rs.length)] at this
    simp only [Bool.or_eq_false_iff, Nat.zero_lt_succ, decide_true, Bool.true_and, decide_eq_false_iff_not] at this
    obtain ⟨-, h1, h2⟩ := this
    obtain ⟨⟨b1, b2⟩, b3, b4⟩ := hb rs[i + 1] (List.getElem_mem _)
    obtain ⟨⟨c1, c2⟩, c3, c4⟩ := hb (rs[i]'(by omega)) (List.getElem_mem _)
    rw [wrap64 (by omega) (by omega)] at h2
    omega
  refine ⟨fun r hr => ?_, List.pairwise_iff_getElem.2 fun i j hi hj hij => ?_⟩
  · obtain ⟨i, hi, rfl⟩ := List.getElem_of_mem hr
    exact hle i hi
  · obtain ⟨d, rfl⟩ : ∃ d, j = i + 1 + d := ⟨j - (i + 1), by omega⟩
    clear hij
    induction d with
    | zero => exact hstep i hj
    | succ d ih =>
      have h1 := ih (by omega)
      have h2 := hle (i + 1 + d) (by omega)
      have h3 := hstep (i + 1 + d) hj
      have h4 : rs[i + 1 + (d + 1)] = rs[i + 1 + d + 1] := rfl
      rw [h4]
      omega

theorem bytesLess_lt (x y : List UInt8) : Op.bytesLess x y = decide (x < y) := by
  induction x generalizing y with
  | nil => cases y <;> simp [Op.bytesLess]
  | cons a x ih =>
    cases y with
    | nil => simp [Op.bytesLess]
    | cons b y =>
      rw [Op.bytesLess, ih y]
      simp only [List.cons_lt_cons_iff]
      by_cases h1 : a < b <;> by_cases h2 : a = b <;> by_cases h3 : x < y <;> simp [h1, h2, h3]
theorem okS_iff {ss : List ByteArray} : okS ss = true ↔ SS ss ∧ ∀ t ∈ ss, t.size ≤ 8 := by
  have hbad : okS ss = true ↔ ∀ i (hi : i < ss.length), ss[i].size ≤ 8 ∧ (0 < i → ltB (ss[i - 1]'(by omega)) ss[i]) := by
    constructor
    · intro h i hi
      have := List.all_eq_true.1 h i (List.mem_range.2 hi)
      simp only [badS, List.getElem?_eq_getElem hi, List.getElem?_eq_getElem (by omega : i - 1 < ss.length), bytesLess_lt, ByteArray.toList_eq] at this
      simp at this
      refine ⟨by omega, fun h0 => ?_⟩
      rcases this.2 with h1 | h1
      · omega
      · exact h1
    · intro h
      refine List.all_eq_true.2 fun i hi => ?_
      have hi := List.mem_range.1 hi
      obtain ⟨h1, h2⟩ := h i hi
      simp only [badS, List.getElem?_eq_getElem hi, List.getElem?_eq_getElem (by omega : i - 1 < ss.length), bytesLess_lt, ByteArray.toList_eq]
      simp
      refine ⟨by omega, ?_⟩
      by_cases h0 : i = 0
      · exact .inl h0
      · exact .inr (h2 (by omega))
  rw [hbad]
  constructor
  · intro h
    refine ⟨List.pairwise_iff_getElem.2 fun i j hi hj hij => ?_, fun t ht => ?_⟩
    · obtain ⟨d, rfl⟩ : ∃ d, j = i + 1 + d := ⟨j - (i + 1), by omega⟩
      clear hij
      induction d with
      | zero => exact (h (i + 1) hj).2 (by omega)
      | succ d ih => exact ltB_trans (ih (by omega)) ((h (i + 1 + d + 1) hj).2 (by omega))
    · obtain ⟨i, hi, rfl⟩ := List.getElem_of_mem ht
      exact (h i hi).1
  · rintro ⟨h1, h2⟩ i hi
    exact ⟨h2 _ (List.getElem_mem _), fun h0 => List.pairwise_iff_getElem.1 h1 (i - 1) i (by omega) hi (by omega)⟩
theorem right_iff {s : SetM} (hb : ∀ r ∈ s.ints, InB r) : rightM s = true ↔ OK s := by
  unfold rightM
  rw [Bool.and_eq_true, okS_iff]
  constructor
  · rintro ⟨h1, h2, h3⟩; exact ⟨NF_okI hb h1, hb, h2, h3⟩
  · intro h; exact ⟨okI_NF h.nf hb, h.ss, h.sz⟩
theorem OK.right {s : SetM} (h : OK s) : rightM s = true := (right_iff h.inb).2 h

end Go.Proofs


namespace Go.Proofs
open Go.Vm
set_option linter.unusedSimpArgs false

def Sub (a b : SetM) : Prop := (a.absent = true → b.absent = true) ∧ (∀ n, Cov a.ints n → Cov b.ints n) ∧ ∀ t, t.size ≤ 8 → StrIn a t → StrIn b t
theorem sameM_iff {a b : SetM} : sameM a b = true ↔ a = b := by
  obtain ⟨aa, ai, ac, sa⟩ := a
  obtain ⟨ba, bi, bc, sb⟩ := b
  simp [sameM]
  grind
def allM : SetM := ⟨true, [(-9223372036854775808, 9223372036854775807)], true, []⟩
def emptyM (s : SetM) : Bool := !s.absent && s.ints.isEmpty && !s.co && s.strs.isEmpty
theorem OK.all : OK allM := ⟨⟨by simp [allM], by simp [allM]⟩, by simp [allM, InB], .nil, by simp [allM]⟩
theorem Cov_all {n : Int} : Cov allM.ints n ↔ InRange n := by simp [Cov, allM, InRange]
theorem StrIn_all (t : ByteArray) : StrIn allM t := by simp [StrIn, allM]
theorem kEmpty' (s : SetM) : PureAt Tryz.prog 106 [.agg (setC s)] (· = .val (.bool (emptyM s))) := kEmpty s
end Go.Proofs


namespace Go.Proofs
open Go.Vm
set_option linter.unusedSimpArgs false

def Bnd (s : SetM) : Prop := ∀ r ∈ s.ints, InB r
end Go.Proofs


namespace Go.Proofs
open Go.Vm
set_option linter.unusedSimpArgs false

end Go.Proofs


namespace Go.Proofs
open Go.Vm
set_option linter.unusedSimpArgs false

end Go.Proofs

