/- A part of the proof; what is proved stands in the last text. -/
import Derived.Test.YtoojpeidgdadgaaT26
namespace Go.Proofs
open Go.Vm
set_option linter.unusedSimpArgs false

/-! ### lying in one another -/
def Sub (a b : SetM) : Prop := (a.absent = true → b.absent = true) ∧ (∀ n, Cov a.ints n → Cov b.ints n) ∧ ∀ t, t.size ≤ 8 → StrIn a t → StrIn b t
theorem sameM_iff {a b : SetM} : sameM a b = true ↔ a = b := by
  obtain ⟨aa, ai, ac, sa⟩ := a
  obtain ⟨ba, bi, bc, sb⟩ := b
  simp [sameM]
  grind
theorem sameM_self (a : SetM) : sameM a a = true := sameM_iff.2 rfl
def Few1 (s : SetM) : Prop := s.ints.length ≤ 40 ∧ s.strs.length ≤ 40
theorem inM_iff {a b : SetM} (ha : OK a) (hb : OK b) (la : a.strs.length ≤ 400) (l' : b.strs.length ≤ 400) : inM a b = true ↔ Sub a b := by
  obtain ⟨o1, o2, o3, o4⟩ := ha.or hb
  have ol := orM_strs a b
  unfold inM
  rw [sameM_iff]
  constructor
  · intro h
    rw [h] at o2 o3 o4
    refine ⟨fun h1 => ?_, fun n h1 => (o2 n).2 (.inl h1), fun t _ h1 => (o3 t).2 (.inl h1)⟩
    rw [o4, h1]; rfl
  · rintro ⟨h1, h2, h3⟩
    refine o1.ext hb (by omega) (by omega) ?_ (fun n _ => ?_) (fun t ht => ?_)
    · rw [o4]
      cases h : a.absent
      · simp
      · rw [h1 h]; rfl
    · rw [o2]; exact ⟨fun h => h.elim (h2 n) id, .inr⟩
    · rw [o3]; exact ⟨fun h => h.elim (h3 t ht) id, .inr⟩
theorem Sub.antisymm {a b : SetM} (ha : OK a) (hb : OK b) (la : a.strs.length ≤ 400) (l' : b.strs.length ≤ 400) (h : Sub a b) (h' : Sub b a) : a = b :=
  ha.ext hb (by omega) (by omega) (Bool.eq_iff_iff.2 ⟨h.1, h'.1⟩) (fun n _ => ⟨h.2.1 n, h'.2.1 n⟩) (fun t ht => ⟨h.2.2 t ht, h'.2.2 t ht⟩)
theorem Sub.refl (a : SetM) : Sub a a := ⟨id, fun _ => id, fun _ _ => id⟩
theorem sameM_in {a b : SetM} (ha : OK a) (hb : OK b) (la : a.strs.length ≤ 400) (l' : b.strs.length ≤ 400) : sameM a b = (inM a b && inM b a) := by
  rw [Bool.eq_iff_iff, Bool.and_eq_true, inM_iff ha hb la l', inM_iff hb ha l' la, sameM_iff]
  exact ⟨fun h => by subst h; exact ⟨Sub.refl _, Sub.refl _⟩, fun h => Sub.antisymm ha hb la l' h.1 h.2⟩

theorem emptyBytes : (ByteArray.mk #[]).toList = [] := by rw [ByteArray.toList_eq]
theorem right0 : rightV ⟨0, 0, ⟨#[]⟩⟩ = true := by simp [rightV, emptyBytes]
theorem rightI (n : Int) : rightV (ptI n) = true := by simp [rightV, ptI, emptyBytes]
theorem rightS {t : ByteArray} (h : t.size ≤ 8) : rightV (ptS t) = true := by
  have h8 : (t.size : Int) ≤ 8 := by omega
  simp [rightV, ptS, h8]
theorem leaves_iff {a b : SetM} {p : ValM} : leaves a b p = true ↔ hasM a p = true ∧ ¬ hasM b p = true := by
  unfold leaves
  cases hasM a p <;> cases hasM b p <;> simp

theorem points_tell {a b : SetM} (ha : OK a) {ps : List ValM} (hp : PtsOf [a, b] ps) : ps.any (leaves a b) = false ↔ Sub a b := by
  obtain ⟨t0, rfl, hfr, hsz⟩ := hp
  have hfa : t0 ∉ a.strs ∧ t0 ∉ b.strs := by
    simp only [List.any_cons, List.any_nil, Bool.or_false, Bool.or_eq_false_iff, inStrs] at hfr
    exact ⟨fun h => by rw [any_eq.2 h] at hfr; exact absurd hfr.1 (by simp), fun h => by rw [any_eq.2 h] at hfr; exact absurd hfr.2 (by simp)⟩
  constructor
  · intro h
    have hall : ∀ p ∈ ptsM [a, b] t0, hasM a p = true → hasM b p = true := fun p hp h1 => by
      have := List.any_eq_false.1 h p hp
      rw [leaves_iff] at this
      exact Classical.byContradiction fun h2 => this ⟨h1, h2⟩
    have mem0 : (⟨0, 0, ⟨#[]⟩⟩ : ValM) ∈ ptsM [a, b] t0 := by simp [ptsM, pts0]
    have memI : ∀ s ∈ [a, b], ∀ r ∈ s.ints, ∀ p ∈ ptsR r, p ∈ ptsM [a, b] t0 := fun s hs r hr p hp => by
      refine List.mem_append_left _ (List.mem_append_right _ (List.mem_flatMap.2 ⟨s, hs, List.mem_append_left _ (List.mem_flatMap.2 ⟨r, hr, hp⟩)⟩))
    have memS : ∀ s ∈ [a, b], ∀ t ∈ s.strs, ptS t ∈ ptsM [a, b] t0 := fun s hs t ht => by
      refine List.mem_append_left _ (List.mem_append_right _ (List.mem_flatMap.2 ⟨s, hs, List.mem_append_right _ (List.mem_map.2 ⟨t, ht, rfl⟩)⟩))
    have memF : ptS t0 ∈ ptsM [a, b] t0 := by simp [ptsM]
    have hI : ∀ n, ptI n ∈ ptsM [a, b] t0 → Cov a.ints n → Cov b.ints n := fun n hn hc => by
      have h1 := hall _ hn
      rw [has_iff a (rightI n), has_iff b (rightI n)] at h1
      have := h1 (.inr (.inl ⟨rfl, hc⟩))
      rcases this with h | h | h
      · exact absurd h.1 (by simp [ptI])
      · exact h.2
      · exact absurd h.1 (by simp [ptI])
    have hS : ∀ t, t.size ≤ 8 → ptS t ∈ ptsM [a, b] t0 → StrIn a t → StrIn b t := fun t ht hm hc => by
      have h1 := hall _ hm
      rw [has_iff a (rightS ht), has_iff b (rightS ht)] at h1
      have := h1 (.inr (.inr ⟨rfl, hc⟩))
      rcases this with h | h | h
      · exact absurd h.1 (by simp [ptS])
      · exact absurd h.1 (by simp [ptS])
      · exact h.2
    refine ⟨fun h1 => ?_, fun n hn => ?_, fun t ht h1 => ?_⟩
    · have := hall _ mem0
      rw [has_iff a right0, has_iff b right0] at this
      rcases this (.inl ⟨rfl, h1⟩) with h | h | h
      · exact h.2
      · exact absurd h.1 (by simp)
      · exact absurd h.1 (by simp)
    · obtain ⟨r, hr, r1, r2⟩ := hn
      have hbnd := ha.cov ⟨r, hr, r1, r2⟩
      apply Classical.byContradiction
      intro hnb
      have key : ∀ d : Nat, ∀ m : Int, (n - m).toNat ≤ d → r.1 ≤ m → m ≤ n → ptI m ∈ ptsM [a, b] t0 → False := by
        intro d
        induction d with
        | zero =>
          intro m hd h1 h2 hm
          have : m = n := by omega
          subst this
          exact hnb (hI m hm ⟨r, hr, r1, r2⟩)
        | succ d ih =>
          intro m hd h1 h2 hm
          obtain ⟨q, hq, q1, q2⟩ := hI m hm ⟨r, hr, h1, by omega⟩
          have hqn : q.2 < n := Classical.byContradiction fun h => hnb ⟨q, hq, by omega, by omega⟩
          refine ih (q.2 + 1) (by omega) (by omega) (by omega) (memI b (by simp) q hq _ ?_)
          have : q.2 < 9223372036854775807 := by have := hbnd.2; omega
          simp [ptsR, this]
      exact key _ r.1 (Nat.le_refl _) (Int.le_refl _) r1 (memI a (by simp) r hr _ (by simp [ptsR]))
    · by_cases hta : t ∈ a.strs
      · exact hS t ht (memS a (by simp) t hta) h1
      · by_cases htb : t ∈ b.strs
        · exact hS t ht (memS b (by simp) t htb) h1
        · have h2 : StrIn a t0 := by
            simp only [StrIn, hfa.1, hta] at h1 ⊢; exact h1
          have h3 := hS t0 hsz memF h2
          simp only [StrIn, hfa.2, htb] at h3 ⊢; exact h3
  · rintro ⟨h1, h2, h3⟩
    rw [List.any_eq_false]
    intro p hp
    rw [leaves_iff]
    rintro ⟨h4, h5⟩
    cases hr : rightV p with
    | false => rw [has_no a hr] at h4; cases h4
    | true =>
      rw [has_iff _ hr] at h4 h5
      refine h5 ?_
      rcases h4 with h | h | h
      · exact .inl ⟨h.1, h1 h.2⟩
      · exact .inr (.inl ⟨h.1, h2 _ h.2⟩)
      · exact .inr (.inr ⟨h.1, h3 _ (rightV_size hr h.1) h.2⟩)

theorem krefIn3' {a b : SetM} (ha : OK a) (hb : OK b) (fa : Few1 a) (fb : Few1 b) : PureAt Try.prog 24 [.agg (setC a), .agg (setC b)] (· = .val (.bool (inM a b))) := by
  refine (krefIn3 a b (by intro s hs; simp at hs; rcases hs with rfl | rfl; exact fa; exact fb) (by intro s hs; simp at hs; rcases hs with rfl | rfl; exact ha.inb; exact hb.inb)).mono ?_
  rintro d ⟨ps, hps, rfl⟩
  have h1 := points_tell ha hps
  have h2 := inM_iff ha hb (by have := fa.2; omega) (by have := fb.2; omega)
  have : (!ps.any (leaves a b)) = inM a b := by
    rw [Bool.eq_iff_iff, h2, ← h1]; simp
  rw [this]

/-! ### the ends -/
def allM : SetM := ⟨true, [(-9223372036854775808, 9223372036854775807)], true, []⟩
def emptyM (s : SetM) : Bool := !s.absent && s.ints.isEmpty && !s.co && s.strs.isEmpty
theorem OK.all : OK allM := ⟨⟨by simp [allM], by simp [allM]⟩, by simp [allM, InB], .nil, by simp [allM]⟩
theorem Cov_all {n : Int} : Cov allM.ints n ↔ InRange n := by simp [Cov, allM, InRange]
theorem StrIn_all (t : ByteArray) : StrIn allM t := by simp [StrIn, allM]
def noM : SetM := ⟨false, [], false, []⟩
theorem OK.no : OK noM := ⟨NF.nil, by simp [noM], .nil, by simp [noM]⟩
theorem emptyM_no : emptyM noM = true := rfl
theorem and_not {a : SetM} (ha : OK a) (la : a.strs.length ≤ 400) : andM normR a (notM normR a) = noM := by
  obtain ⟨n1, n2, n3, n4⟩ := ha.not
  obtain ⟨x1, x2, x3, x4⟩ := ha.and n1
  have hl := andM_strs a (notM normR a)
  rw [notM_strs] at hl
  refine x1.ext OK.no (by omega) (by simp [noM]) ?_ (fun n _ => ?_) (fun t _ => ?_)
  · rw [x4, n4]; simp [noM]
  · rw [x2, n2]; simp [Cov_nil, noM]; grind
  · rw [x3, n3]; simp [StrIn, noM]
theorem or_not {a : SetM} (ha : OK a) (la : a.strs.length ≤ 400) : orM normR a (notM normR a) = allM := by
  obtain ⟨n1, n2, n3, n4⟩ := ha.not
  obtain ⟨x1, x2, x3, x4⟩ := ha.or n1
  have hl := orM_strs a (notM normR a)
  rw [notM_strs] at hl
  refine x1.ext OK.all (by omega) (by simp [allM]) ?_ (fun n hn => ?_) (fun t _ => ?_)
  · rw [x4, n4]; simp [allM]
  · rw [x2, n2, Cov_all]; grind
  · rw [x3, n3]; have := StrIn_all t; grind
theorem not_all : notM normR allM = noM := by
  obtain ⟨n1, n2, n3, n4⟩ := OK.all.not
  refine n1.ext OK.no (by simp [notM, allM]) (by simp [noM]) n4 (fun n hn => ?_) (fun t _ => ?_)
  · rw [n2, Cov_all]; simp [Cov_nil, noM]
  · rw [n3]; have := StrIn_all t; simp [this]; simp [StrIn, noM]
theorem kEmpty' (s : SetM) : PureAt Try.prog 22 [.agg (setC s)] (· = .val (.bool (emptyM s))) := kEmpty s
theorem kAll' : PureAt Try.prog 21 [] (· = .agg (setC allM)) := kAll
theorem kSame' {a b : SetM} (h : a = b) (ha : a.ints.length ≤ 1000000) (hs : a.strs.length ≤ 1000000) : PureAt Try.prog 17 [.agg (setC a), .agg (setC b)] (· = .val (.bool true)) := by
  have := kSame a b ha hs
  rw [sameM_iff.2 h] at this
  exact this

end Go.Proofs
