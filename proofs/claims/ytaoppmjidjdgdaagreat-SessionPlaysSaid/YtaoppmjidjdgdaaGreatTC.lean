/- A part of the proof; what is proved stands in the last text. -/
import Derived.Test.YtaoppmjidjdgdaaGreatTN
set_option linter.unusedVariables false
set_option maxRecDepth 2000
namespace Go.Proofs
open Go.Vm
set_option linter.unusedSimpArgs false
def ltB (a b : ByteArray) : Prop := bl a < bl b
theorem ltB_trans {a b c : ByteArray} (h : ltB a b) (h' : ltB b c) : ltB a c := List.lt_trans h h'
theorem ltB_irrefl (a : ByteArray) : ¬ ltB a a := List.lt_irrefl (bl a)
theorem bl_inj {a b : ByteArray} (h : bl a = bl b) : a = b := by rw [← lb_bl a, ← lb_bl b, h]
def SS (l : List ByteArray) : Prop := l.Pairwise ltB
theorem SS_unique : ∀ {a b : List ByteArray}, SS a → SS b → (∀ t, t ∈ a ↔ t ∈ b) → a = b
 | [], [], _, _, _ => rfl
 | [], y :: b, _, _, h => by have := (h y).2 (by simp); simp at this
 | x :: a, [], _, _, h => by have := (h x).1 (by simp); simp at this
 | x :: a, y :: b, ha, hb, h => by
  obtain ⟨a1, a2⟩ := List.pairwise_cons.1 ha
  obtain ⟨b1, b2⟩ := List.pairwise_cons.1 hb
  have hxy : x = y := by
   rcases List.mem_cons.1 ((h x).1 (by simp)) with e | e
   ·exact e
   ·rcases List.mem_cons.1 ((h y).2 (by simp)) with e' | e'
    ·exact e'.symm
    ·exact absurd (ltB_trans (b1 x e) (a1 y e')) (ltB_irrefl _)
  subst hxy
  rw [SS_unique a2 b2 fun t => ?_]
  constructor
  ·intro ht
   rcases List.mem_cons.1 ((h t).1 (by simp [ht])) with e | e
   ·subst e; exact absurd (a1 t ht) (ltB_irrefl _)
   ·exact e
  ·intro ht
   rcases List.mem_cons.1 ((h t).2 (by simp [ht])) with e | e
   ·subst e; exact absurd (b1 t ht) (ltB_irrefl _)
   ·exact e
theorem mem_compact (zs : List (List UInt8)) (x : List UInt8) : x ∈ Lib.compact zs ↔ x ∈ zs := by
 unfold Lib.compact Lib.compactUpTo
 constructor
 ·intro h
  obtain ⟨j, hj, rfl⟩ := List.mem_map.1 h
  have hj' := List.mem_range.1 (List.mem_filter.1 hj).1
  rw [getElem!_pos _ j (by simpa using hj')]
  simp
 ·intro h
  obtain ⟨j, hj, rfl⟩ := List.getElem_of_mem h
  clear h
  induction j with
  | zero =>
   refine List.mem_map.2 ⟨0, List.mem_filter.2 ⟨List.mem_range.2 hj, by simp [Lib.keeps]⟩, ?_⟩
   rw [getElem!_pos _ 0 (by simpa using hj)]; simp
  | succ j ih =>
   by_cases hk : Lib.keeps zs.toArray (j + 1) = true
   ·refine List.mem_map.2 ⟨j + 1, List.mem_filter.2 ⟨List.mem_range.2 hj, hk⟩, ?_⟩
    rw [getElem!_pos _ (j + 1) (by simpa using hj)]; simp
   ·have he : zs[j + 1] = zs[j]'(by omega) := by
      simp only [Lib.keeps, decide_eq_true_eq] at hk
      have h2 : zs.toArray[j + 1]! = zs.toArray[j + 1 - 1]! := by
       apply Classical.byContradiction
       intro hne
       exact hk (.inr hne)
      rw [getElem!_pos _ (j + 1) (by simpa using hj), getElem!_pos _ (j + 1 - 1) (by simp; omega)] at h2
      simpa using h2
    rw [he]
    exact ih (by omega)
theorem compact_SS {zs : List (List UInt8)} (h : zs.Pairwise (· ≤ ·)) : (Lib.compact zs).Pairwise (· < ·) := by
 unfold Lib.compact Lib.compactUpTo
 rw [List.pairwise_map]
 refine List.Pairwise.imp_of_mem ?_ ((List.pairwise_lt_range).filter _)
 intro i j hi hj hij
 obtain ⟨-, hi⟩ := List.mem_filter.1 hi
 obtain ⟨hj1, hj⟩ := List.mem_filter.1 hj
 have hj1 := List.mem_range.1 hj1
 simp only [Lib.keeps, decide_eq_true_eq] at hj
 have hne : zs.toArray[j]! ≠ zs.toArray[j - 1]! := by
  rcases hj with h0 | h0
  ·omega
  ·exact h0
 rw [getElem!_pos _ j (by simpa using hj1), getElem!_pos _ (j - 1) (by simp; omega)] at hne
 rw [getElem!_pos _ j (by simpa using hj1), getElem!_pos _ i (by simp; omega)]
 simp only [List.getElem_toArray] at hne ⊢
 have hp := List.pairwise_iff_getElem.1 h
 have h1 : zs[j - 1]'(by omega) ≤ zs[j] := hp (j - 1) j (by omega) hj1 (by omega)
 have h2 : zs[j - 1]'(by omega) < zs[j] := Std.lt_of_le_of_ne h1 (Ne.symm hne)
 by_cases e : i = j - 1
 ·subst e; exact h2
 ·exact List.lt_of_le_of_lt (hp i (j - 1) (by omega) (by omega) (by omega)) h2
theorem mem_joinM (a b : List ByteArray) (t : ByteArray) : t ∈ joinM a b ↔ t ∈ a ∨ t ∈ b := by
 have h1 : ∀ (l : List (List UInt8)), t ∈ l.map lb ↔ bl t ∈ l := fun l => by
  constructor
  ·intro h
   obtain ⟨x, hx, rfl⟩ := List.mem_map.1 h
   exact hx
  ·intro h; exact List.mem_map.2 ⟨bl t, h, rfl⟩
 have h2 : ∀ (l : List ByteArray), bl t ∈ l.map bl ↔ t ∈ l := fun l => by
  constructor
  ·intro h
   obtain ⟨x, hx, he⟩ := List.mem_map.1 h
   rw [← bl_inj he]; exact hx
  ·intro h; exact List.mem_map.2 ⟨t, h, rfl⟩
 unfold joinM compactS sortS
 rw [h1, mem_compact, h2, h1, List.mem_mergeSort, h2, List.mem_append]
theorem joinM_SS (a b : List ByteArray) : SS (joinM a b) := by
 unfold SS joinM compactS
 rw [List.pairwise_map]
 refine compact_SS ?_
 unfold sortS
 rw [List.pairwise_map, List.pairwise_map]
 have := List.pairwise_mergeSort (le := fun x y : List UInt8 => decide (x ≤ y)) (fun a b c h1 h2 => by simp at h1 h2 ⊢; exact List.le_trans h1 h2) (fun a b => by simp; exact Std.le_total) ((a ++ b).map bl)
 exact this.imp fun h => of_decide_eq_true h
theorem mem_pickM (a b : List ByteArray) (inn : Bool) (t : ByteArray) : t ∈ pickM a b inn ↔ t ∈ a ∧ (t ∈ b ↔ inn = true) := by
 unfold pickM
 rw [List.mem_filter]
 have : (b.any fun x => decide (t = x)) = true ↔ t ∈ b := by
  rw [List.any_eq_true]
  constructor
  ·rintro ⟨x, hx, he⟩
   have : t = x := by simpa using he
   rw [this]; exact hx
  ·intro h; exact ⟨t, h, by simp⟩
 rw [← this]
 cases (b.any fun x => decide (t = x)) <;> cases inn <;> simp
theorem pickM_SS {a : List ByteArray} (b : List ByteArray) (inn : Bool) (h : SS a) : SS (pickM a b inn) := h.filter _
structure OK (s : SetM) : Prop where
 nf : NF s.ints
 inb : ∀ r ∈ s.ints, InB r
 ss : SS s.strs
 sz : ∀ t ∈ s.strs, t.size ≤ 8
def StrIn (s : SetM) (t : ByteArray) : Prop := ¬ (t ∈ s.strs ↔ s.co = true)
def InRange (n : Int) : Prop := -9223372036854775808 ≤ n ∧ n ≤ 9223372036854775807
theorem OK.cov {s : SetM} (h : OK s) {n : Int} (hc : Cov s.ints n) : InRange n := by
 obtain ⟨r, hr, h1, h2⟩ := hc
 obtain ⟨⟨b1, b2⟩, b3, b4⟩ := h.inb r hr
 exact ⟨by omega, by omega⟩
theorem OK.or {a b : SetM} (ha : OK a) (hb : OK b) : OK (orM normR a b) ∧ (∀ n, Cov (orM normR a b).ints n ↔ Cov a.ints n ∨ Cov b.ints n) ∧ (∀ t, StrIn (orM normR a b) t ↔ StrIn a t ∨ StrIn b t) ∧ (orM normR a b).absent = (a.absent || b.absent) := by
 have hbb : ∀ r ∈ a.ints ++ b.ints, InB r := fun r hr => by
  rcases List.mem_append.1 hr with hr | hr
  ·exact ha.inb r hr
  ·exact hb.inb r hr
 obtain ⟨n1, n2, n3⟩ := normR_ok hbb
 refine ⟨⟨n1, n2, ?_, ?_⟩, fun n => ?_, fun t => ?_, rfl⟩
 ·simp only [orM]
  cases a.co <;> cases b.co <;> simp only [if_true, if_false, Bool.false_eq_true, ↓reduceIte]
  ·exact joinM_SS _ _
  ·exact pickM_SS _ _ hb.ss
  ·exact pickM_SS _ _ ha.ss
  ·exact pickM_SS _ _ ha.ss
 ·intro t
  simp only [orM]
  cases a.co <;> cases b.co <;> simp only [if_true, if_false, Bool.false_eq_true, ↓reduceIte]
  ·rw [mem_joinM]; rintro (h | h)
   ·exact ha.sz t h
   ·exact hb.sz t h
  ·rw [mem_pickM]; exact fun h => hb.sz t h.1
  ·rw [mem_pickM]; exact fun h => ha.sz t h.1
  ·rw [mem_pickM]; exact fun h => ha.sz t h.1
 ·rw [show (orM normR a b).ints = normR (a.ints ++ b.ints) from rfl, n3, Cov_append]
 ·simp only [StrIn, orM]
  cases a.co <;> cases b.co <;> simp [mem_joinM, mem_pickM]
  all_goals grind
theorem OK.ext {a b : SetM} (ha : OK a) (hb : OK b) (la : a.strs.length ≤ 1000) (lb' : b.strs.length ≤ 1000) (h1 : a.absent = b.absent) (h2 : ∀ n, InRange n → (Cov a.ints n ↔ Cov b.ints n)) (h3 : ∀ t, t.size ≤ 8 → (StrIn a t ↔ StrIn b t)) : a = b := by
 have hi : a.ints = b.ints := NF_unique ha.nf hb.nf fun n => ⟨fun h => (h2 n (ha.cov h)).1 h, fun h => (h2 n (hb.cov h)).2 h⟩
 have hfr : ∃ k, k < 10000 ∧ lb (digL k) ∉ a.strs ++ b.strs := by
  apply Classical.byContradiction
  intro hn
  have := pigeon (fun k => ByteArray.empty ++ lb (digL k)) (fun i j h => dec_inj h) 10000 (a.strs ++ b.strs) (fun k hk => by
   apply Classical.byContradiction
   intro hm
   exact hn ⟨k, hk, by simpa using hm⟩)
  rw [List.length_append] at this
  omega
 obtain ⟨k, hk, hm⟩ := hfr
 have hks : (lb (digL k)).size ≤ 8 := by
  have := digL_len k 4 (by omega) (by omega)
  rw [lb_size]; omega
 have hco : a.co = b.co := by
  have := h3 _ hks
  simp only [List.mem_append, not_or] at hm
  simp only [StrIn, hm.1, hm.2] at this
  cases hca : a.co <;> cases hcb : b.co <;> simp [hca, hcb] at this ⊢
 have hs : a.strs = b.strs := SS_unique ha.ss hb.ss fun t => by
  by_cases hsz : t.size ≤ 8
  ·have := h3 t hsz
   simp only [StrIn, hco] at this
   cases hcb : b.co <;> simp [hcb] at this
   ·exact this
   ·grind
  ·exact ⟨fun h => absurd (ha.sz t h) hsz, fun h => absurd (hb.sz t h) hsz⟩
 obtain ⟨aa, ai, ac, sa⟩ := a
 obtain ⟨ba, bi, bc, sb⟩ := b
 simp_all
theorem NF_okI {rs : List Rg} (hb : ∀ r ∈ rs, InB r) (h : okI rs = true) : NF rs := by
 have hbad : ∀ i, i < rs.length → badR rs i = false := fun i hi => by
  have := List.all_eq_true.1 h i (List.mem_range.2 hi)
  simpa using this
 have hle : ∀ i (hi : i < rs.length), rs[i].1 ≤ rs[i].2 := fun i hi => by
  have := hbad i hi
  unfold badR at this
  rw [List.getElem?_eq_getElem hi] at this
  simp only [Bool.or_eq_false_iff, decide_eq_false_iff_not] at this
  omega
 have hstep : ∀ i (hi : i + 1 < rs.length), (rs[i]'(by omega)).2 + 1 < rs[i + 1].1 := fun i hi => by
  have := hbad (i + 1) hi
  unfold badR at this
  rw [List.getElem?_eq_getElem hi, show i + 1 - 1 = i from rfl, List.getElem?_eq_getElem (by omega : i < rs.length)] at this
  simp only [Bool.or_eq_false_iff, Nat.zero_lt_succ, decide_true, Bool.true_and, decide_eq_false_iff_not] at this
  obtain ⟨-, h1, h2⟩ := this
  obtain ⟨⟨b1, b2⟩, b3, b4⟩ := hb rs[i + 1] (List.getElem_mem _)
  obtain ⟨⟨c1, c2⟩, c3, c4⟩ := hb (rs[i]'(by omega)) (List.getElem_mem _)
  rw [wrap64 (by omega) (by omega)] at h2
  omega
 refine ⟨fun r hr => ?_, List.pairwise_iff_getElem.2 fun i j hi hj hij => ?_⟩
 ·obtain ⟨i, hi, rfl⟩ := List.getElem_of_mem hr
  exact hle i hi
 ·obtain ⟨d, rfl⟩ : ∃ d, j = i + 1 + d := ⟨j - (i + 1), by omega⟩
  clear hij
  induction d with
  | zero => exact hstep i hj
  | succ d ih =>
   have h1 := ih (by omega)
   have h2 := hle (i + 1 + d) (by omega)
   have h3 := hstep (i + 1 + d) hj
   have h4 : rs[i + 1 + (d + 1)] = rs[i + 1 + d + 1] := rfl
   rw [h4]
   omega
theorem bytesLess_lt (x y : List UInt8) : Op.bytesLess x y = decide (x < y) := by
 induction x generalizing y with
 | nil => cases y <;> simp [Op.bytesLess]
 | cons a x ih =>
  cases y with
  | nil => simp [Op.bytesLess]
  | cons b y =>
   rw [Op.bytesLess, ih y]
   simp only [List.cons_lt_cons_iff]
   by_cases h1 : a < b <;> by_cases h2 : a = b <;> by_cases h3 : x < y <;> simp [h1, h2, h3]
theorem okS_iff {ss : List ByteArray} : okS ss = true ↔ SS ss ∧ ∀ t ∈ ss, t.size ≤ 8 := by
 have hbad : okS ss = true ↔ ∀ i (hi : i < ss.length), ss[i].size ≤ 8 ∧ (0 < i → ltB (ss[i - 1]'(by omega)) ss[i]) := by
  constructor
  ·intro h i hi
   have := List.all_eq_true.1 h i (List.mem_range.2 hi)
   simp only [badS, List.getElem?_eq_getElem hi, List.getElem?_eq_getElem (by omega : i - 1 < ss.length), bytesLess_lt, ByteArray.toList_eq] at this
   simp at this
   refine ⟨by omega, fun h0 => ?_⟩
   rcases this.2 with h1 | h1
   ·omega
   ·exact h1
  ·intro h
   refine List.all_eq_true.2 fun i hi => ?_
   have hi := List.mem_range.1 hi
   obtain ⟨h1, h2⟩ := h i hi
   simp only [badS, List.getElem?_eq_getElem hi, List.getElem?_eq_getElem (by omega : i - 1 < ss.length), bytesLess_lt, ByteArray.toList_eq]
   simp
   refine ⟨by omega, ?_⟩
   by_cases h0 : i = 0
   ·exact .inl h0
   ·exact .inr (h2 (by omega))
 rw [hbad]
 constructor
 ·intro h
  refine ⟨List.pairwise_iff_getElem.2 fun i j hi hj hij => ?_, fun t ht => ?_⟩
  ·obtain ⟨d, rfl⟩ : ∃ d, j = i + 1 + d := ⟨j - (i + 1), by omega⟩
   clear hij
   induction d with
   | zero => exact (h (i + 1) hj).2 (by omega)
   | succ d ih => exact ltB_trans (ih (by omega)) ((h (i + 1 + d + 1) hj).2 (by omega))
  ·obtain ⟨i, hi, rfl⟩ := List.getElem_of_mem ht
   exact (h i hi).1
 ·rintro ⟨h1, h2⟩ i hi
  exact ⟨h2 _ (List.getElem_mem _), fun h0 => List.pairwise_iff_getElem.1 h1 (i - 1) i (by omega) hi (by omega)⟩
theorem right_iff {s : SetM} (hb : ∀ r ∈ s.ints, InB r) : rightM s = true ↔ OK s := by
 unfold rightM
 rw [Bool.and_eq_true, okS_iff]
 constructor
 ·rintro ⟨h1, h2, h3⟩; exact ⟨NF_okI hb h1, hb, h2, h3⟩
 ·intro h; exact ⟨okI_NF h.nf hb, h.ss, h.sz⟩
theorem OK.right {s : SetM} (h : OK s) : rightM s = true := (right_iff h.inb).2 h
theorem any_eq {l : List ByteArray} {t : ByteArray} : (l.any fun x => decide (t = x)) = true ↔ t ∈ l := by
 rw [List.any_eq_true]
 constructor
 ·rintro ⟨x, hx, he⟩
  have : t = x := by simpa using he
  rw [this]; exact hx
 ·intro h; exact ⟨t, h, by simp⟩
theorem inI_iff {rs : List Rg} {n : Int} : inI rs n = true ↔ Cov rs n := by
 unfold inI Cov
 rw [List.any_eq_true]
 simp
theorem has_iff (s : SetM) {v : ValM} (hr : rightV v = true) : hasM s v = true ↔ (v.kind = 0 ∧ s.absent = true) ∨ (v.kind = 1 ∧ Cov s.ints v.n) ∨ (v.kind = 2 ∧ StrIn s v.s) := by
 unfold hasM
 rw [hr]
 have h1 : (s.ints.any fun r => decide (r.1 ≤ v.n) && decide (v.n ≤ r.2)) = inI s.ints v.n := rfl
 have h2 := any_eq (l := s.strs) (t := v.s)
 have h3 : v.kind = 0 ∨ v.kind = 1 ∨ v.kind = 2 := by
  unfold rightV at hr
  grind
 rw [h1]
 rcases h3 with h | h | h
 ·simp [h]
 ·simp [h, inI_iff]
 ·have e1 : ((2 : Int) = 0) = False := by simp
  have e2 : ((2 : Int) = 1) = False := by simp
  simp only [h, StrIn, ← h2, e1, e2, false_and, false_or, true_and, Bool.not_true, Bool.false_eq_true, if_false, if_true]
  cases (s.strs.any fun x => decide (v.s = x)) <;> cases s.co <;> simp
theorem has_no (s : SetM) {v : ValM} (hr : rightV v = false) : hasM s v = false := by simp [hasM, hr]
theorem rightV_size {v : ValM} (hr : rightV v = true) (hk : v.kind = 2) : v.s.size ≤ 8 := by
 unfold rightV at hr
 simp [hk] at hr
 omega
end Go.Proofs

namespace Go.Proofs
open Go.Vm
set_option linter.unusedSimpArgs false
def Sub (a b : SetM) : Prop := (a.absent = true → b.absent = true) ∧ (∀ n, Cov a.ints n → Cov b.ints n) ∧ ∀ t, t.size ≤ 8 → StrIn a t → StrIn b t
theorem sameM_iff {a b : SetM} : sameM a b = true ↔ a = b := by
 obtain ⟨aa, ai, ac, sa⟩ := a
 obtain ⟨ba, bi, bc, sb⟩ := b
 simp [sameM]
 grind
theorem inM_iff5 {a b : SetM} (ha : OK a) (hb : OK b) (la : a.strs.length ≤ 490) (l' : b.strs.length ≤ 490) : inM a b = true ↔ Sub a b := by
 obtain ⟨o1, o2, o3, o4⟩ := ha.or hb
 have ol := orM_strs a b
 unfold inM
 rw [sameM_iff]
 constructor
 ·intro h
  rw [h] at o2 o3 o4
  refine ⟨fun h1 => ?_, fun n h1 => (o2 n).2 (.inl h1), fun t _ h1 => (o3 t).2 (.inl h1)⟩
  rw [o4, h1]; rfl
 ·rintro ⟨h1, h2, h3⟩
  refine o1.ext hb (by omega) (by omega) ?_ (fun n _ => ?_) (fun t ht => ?_)
  ·rw [o4]
   cases h : a.absent
   ·simp
   ·rw [h1 h]; rfl
  ·rw [o2]; exact ⟨fun h => h.elim (h2 n) id, .inr⟩
  ·rw [o3]; exact ⟨fun h => h.elim (h3 t ht) id, .inr⟩
theorem emptyBytes : (ByteArray.mk #[]).toList = [] := by rw [ByteArray.toList_eq]
theorem right0 : rightV ⟨0, 0, ⟨#[]⟩⟩ = true := by simp [rightV, emptyBytes]
theorem rightI (n : Int) : rightV (ptI n) = true := by simp [rightV, ptI, emptyBytes]
theorem rightS {t : ByteArray} (h : t.size ≤ 8) : rightV (ptS t) = true := by
 have h8 : (t.size : Int) ≤ 8 := by omega
 simp [rightV, ptS, h8]
theorem leaves_iff {a b : SetM} {p : ValM} : leaves a b p = true ↔ hasM a p = true ∧ ¬ hasM b p = true := by
 unfold leaves
 cases hasM a p <;> cases hasM b p <;> simp
theorem points_tell {a b : SetM} (ha : OK a) {ps : List ValM} (hp : PtsOf [a, b] ps) : ps.any (leaves a b) = false ↔ Sub a b := by
 obtain ⟨t0, rfl, hfr, hsz⟩ := hp
 have hfa : t0 ∉ a.strs ∧ t0 ∉ b.strs := by
  simp only [List.any_cons, List.any_nil, Bool.or_false, Bool.or_eq_false_iff, inStrs] at hfr
  exact ⟨fun h => by rw [any_eq.2 h] at hfr; exact absurd hfr.1 (by simp), fun h => by rw [any_eq.2 h] at hfr; exact absurd hfr.2 (by simp)⟩
 constructor
 ·intro h
  have hall : ∀ p ∈ ptsM [a, b] t0, hasM a p = true → hasM b p = true := fun p hp h1 => by
   have := List.any_eq_false.1 h p hp
   rw [leaves_iff] at this
   exact Classical.byContradiction fun h2 => this ⟨h1, h2⟩
  have mem0 : (⟨0, 0, ⟨#[]⟩⟩ : ValM) ∈ ptsM [a, b] t0 := by simp [ptsM, pts0]
  have memI : ∀ s ∈ [a, b], ∀ r ∈ s.ints, ∀ p ∈ ptsR r, p ∈ ptsM [a, b] t0 := fun s hs r hr p hp => by
   refine List.mem_append_left _ (List.mem_append_right _ (List.mem_flatMap.2 ⟨s, hs, List.mem_append_left _ (List.mem_flatMap.2 ⟨r, hr, hp⟩)⟩))
  have memS : ∀ s ∈ [a, b], ∀ t ∈ s.strs, ptS t ∈ ptsM [a, b] t0 := fun s hs t ht => by
   refine List.mem_append_left _ (List.mem_append_right _ (List.mem_flatMap.2 ⟨s, hs, List.mem_append_right _ (List.mem_map.2 ⟨t, ht, rfl⟩)⟩))
  have memF : ptS t0 ∈ ptsM [a, b] t0 := by simp [ptsM]
  have hI : ∀ n, ptI n ∈ ptsM [a, b] t0 → Cov a.ints n → Cov b.ints n := fun n hn hc => by
   have h1 := hall _ hn
   rw [has_iff a (rightI n), has_iff b (rightI n)] at h1
   have := h1 (.inr (.inl ⟨rfl, hc⟩))
   rcases this with h | h | h
   ·exact absurd h.1 (by simp [ptI])
   ·exact h.2
   ·exact absurd h.1 (by simp [ptI])
  have hS : ∀ t, t.size ≤ 8 → ptS t ∈ ptsM [a, b] t0 → StrIn a t → StrIn b t := fun t ht hm hc => by
   have h1 := hall _ hm
   rw [has_iff a (rightS ht), has_iff b (rightS ht)] at h1
   have := h1 (.inr (.inr ⟨rfl, hc⟩))
   rcases this with h | h | h
   ·exact absurd h.1 (by simp [ptS])
   ·exact absurd h.1 (by simp [ptS])
   ·exact h.2
  refine ⟨fun h1 => ?_, fun n hn => ?_, fun t ht h1 => ?_⟩
  ·have := hall _ mem0
   rw [has_iff a right0, has_iff b right0] at this
   rcases this (.inl ⟨rfl, h1⟩) with h | h | h
   ·exact h.2
   ·exact absurd h.1 (by simp)
   ·exact absurd h.1 (by simp)
  ·obtain ⟨r, hr, r1, r2⟩ := hn
   have hbnd := ha.cov ⟨r, hr, r1, r2⟩
   apply Classical.byContradiction
   intro hnb
   have key : ∀ d : Nat, ∀ m : Int, (n - m).toNat ≤ d → r.1 ≤ m → m ≤ n → ptI m ∈ ptsM [a, b] t0 → False := by
    intro d
    induction d with
    | zero =>
     intro m hd h1 h2 hm
     have : m = n := by omega
     subst this
     exact hnb (hI m hm ⟨r, hr, r1, r2⟩)
    | succ d ih =>
     intro m hd h1 h2 hm
     obtain ⟨q, hq, q1, q2⟩ := hI m hm ⟨r, hr, h1, by omega⟩
     have hqn : q.2 < n := Classical.byContradiction fun h => hnb ⟨q, hq, by omega, by omega⟩
     refine ih (q.2 + 1) (by omega) (by omega) (by omega) (memI b (by simp) q hq _ ?_)
     have : q.2 < 9223372036854775807 := by have := hbnd.2; omega
     simp [ptsR, this]
   exact key _ r.1 (Nat.le_refl _) (Int.le_refl _) r1 (memI a (by simp) r hr _ (by simp [ptsR]))
  ·by_cases hta : t ∈ a.strs
   ·exact hS t ht (memS a (by simp) t hta) h1
   ·by_cases htb : t ∈ b.strs
    ·exact hS t ht (memS b (by simp) t htb) h1
    ·have h2 : StrIn a t0 := by
       simp only [StrIn, hfa.1, hta] at h1 ⊢; exact h1
     have h3 := hS t0 hsz memF h2
     simp only [StrIn, hfa.2, htb] at h3 ⊢; exact h3
 ·rintro ⟨h1, h2, h3⟩
  rw [List.any_eq_false]
  intro p hp
  rw [leaves_iff]
  rintro ⟨h4, h5⟩
  cases hr : rightV p with
  | false => rw [has_no a hr] at h4; cases h4
  | true =>
   rw [has_iff _ hr] at h4 h5
   refine h5 ?_
   rcases h4 with h | h | h
   ·exact .inl ⟨h.1, h1 h.2⟩
   ·exact .inr (.inl ⟨h.1, h2 _ h.2⟩)
   ·exact .inr (.inr ⟨h.1, h3 _ (rightV_size hr h.1) h.2⟩)
theorem krefIn35' {a b : SetM} (ha : OK a) (hb : OK b) (fa : a.ints.length ≤ 490 ∧ a.strs.length ≤ 490) (fb : b.ints.length ≤ 490 ∧ b.strs.length ≤ 490) : PureAt Tryz.prog 71 [.agg (setC a), .agg (setC b)] (· = .val (.bool (inM a b))) := by
 refine (krefIn35 a b (by intro s hs; simp at hs; rcases hs with rfl | rfl; exact fa; exact fb) (by intro s hs; simp at hs; rcases hs with rfl | rfl; exact ha.inb; exact hb.inb)).mono ?_
 rintro d ⟨ps, hps, rfl⟩
 have h1 := points_tell ha hps
 have h2 := inM_iff5 ha hb (by have := fa.2; omega) (by have := fb.2; omega)
 have : (!ps.any (leaves a b)) = inM a b := by
  rw [Bool.eq_iff_iff, h2, ← h1]; simp
 rw [this]
theorem krefIn3' {a b : SetM} (ha : OK a) (hb : OK b) (fa : a.ints.length ≤ 400 ∧ a.strs.length ≤ 400) (fb : b.ints.length ≤ 400 ∧ b.strs.length ≤ 400) : PureAt Tryz.prog 71 [.agg (setC a), .agg (setC b)] (· = .val (.bool (inM a b))) :=
 krefIn35' ha hb ⟨by omega, by omega⟩ ⟨by omega, by omega⟩
def allM : SetM := ⟨true, [(-9223372036854775808, 9223372036854775807)], true, []⟩
def emptyM (s : SetM) : Bool := !s.absent && s.ints.isEmpty && !s.co && s.strs.isEmpty
theorem OK.all : OK allM := ⟨⟨by simp [allM], by simp [allM]⟩, by simp [allM, InB], .nil, by simp [allM]⟩
theorem Cov_all {n : Int} : Cov allM.ints n ↔ InRange n := by simp [Cov, allM, InRange]
theorem StrIn_all (t : ByteArray) : StrIn allM t := by simp [StrIn, allM]
def noM : SetM := ⟨false, [], false, []⟩
theorem kEmpty' (s : SetM) : PureAt Tryz.prog 68 [.agg (setC s)] (· = .val (.bool (emptyM s))) := kEmpty s
theorem kAll' : PureAt Tryz.prog 37 [] (· = .agg (setC allM)) := kAll
end Go.Proofs

namespace Go.Proofs
open Go.Vm
set_option linter.unusedSimpArgs false
def Bnd (s : SetM) : Prop := ∀ r ∈ s.ints, InB r
end Go.Proofs

namespace Go.Proofs
open Go.Vm
set_option linter.unusedSimpArgs false
end Go.Proofs

namespace Go.Proofs
open Go.Vm
set_option linter.unusedSimpArgs false
end Go.Proofs
