/- A part of the proof; what is proved stands in the last text. -/
import Derived.Test.YtncekmflajjmkaaT11
namespace Go.Proofs
open Go.Vm
set_option linter.unusedSimpArgs false

/-! ### arbourref03.Ranges -/
def candB (out : List Rg) (r : Rg) : Bool := !decide (r.1 > r.2) && !(match out.getLast? with | none => false | some q => decide (r.2 ≤ q.2))

/-- The best one so far: none, or one of those that may be, that comes first. -/
def Best (l out : List Rg) (i : Nat) (best : Int) : Prop :=
  (best = -1 ∧ ∀ (j : Nat) (r : Rg), j < i → l[j]? = some r → candB out r = false) ∨
  ∃ (k : Nat) (q : Rg), best = k ∧ k < i ∧ l[k]? = some q ∧ candB out q = true ∧ ∀ (j : Nat) (r : Rg), j < i → l[j]? = some r → candB out r = true → q.1 < r.1 ∨ q.1 = r.1 ∧ r.2 ≤ q.2

theorem Best.zero (l out : List Rg) : Best l out 0 (-1) := .inl ⟨rfl, fun j r h => by omega⟩
theorem Best.skip {l out : List Rg} {i : Nat} {best : Int} {r : Rg} (h : Best l out i best) (hr : l[i]? = some r) (hc : candB out r = false) : Best l out (i + 1) best := by
  rcases h with ⟨h1, h2⟩ | ⟨k, q, h1, h2, h3, h4, h5⟩
  · refine .inl ⟨h1, fun j r' hj hr' => ?_⟩
    by_cases hji : j = i
    · subst hji; rw [hr] at hr'; injection hr' with hr'; subst hr'; exact hc
    · exact h2 j r' (by omega) hr'
  · refine .inr ⟨k, q, h1, by omega, h3, h4, fun j r' hj hr' hc' => ?_⟩
    by_cases hji : j = i
    · subst hji; rw [hr] at hr'; injection hr' with hr'; subst hr'; rw [hc] at hc'; cases hc'
    · exact h5 j r' (by omega) hr' hc'
theorem Best.first {l out : List Rg} {i : Nat} {r : Rg} (h : Best l out i (-1)) (hr : l[i]? = some r) (hc : candB out r = true) : Best l out (i + 1) i := by
  rcases h with ⟨h1, h2⟩ | ⟨k, q, h1, -⟩
  · refine .inr ⟨i, r, rfl, by omega, hr, hc, fun j r' hj hr' hc' => ?_⟩
    by_cases hji : j = i
    · subst hji; rw [hr] at hr'; injection hr' with hr'; subst hr'; exact .inr ⟨rfl, Int.le_refl _⟩
    · rw [h2 j r' (by omega) hr'] at hc'; cases hc'
  · omega
theorem Best.turn {l out : List Rg} {i k : Nat} {r q : Rg} (h : Best l out i k) (hk : l[k]? = some q) (hr : l[i]? = some r) (hc : candB out r = true) (hb : r.1 < q.1 ∨ r.1 = q.1 ∧ r.2 > q.2) : Best l out (i + 1) i := by
  rcases h with ⟨h1, h2⟩ | ⟨k', q', h1, h2, h3, h4, h5⟩
  · omega
  · have : k' = k := by omega
    subst this
    rw [hk] at h3; injection h3 with h3; subst h3
    refine .inr ⟨i, r, rfl, by omega, hr, hc, fun j r' hj hr' hc' => ?_⟩
    by_cases hji : j = i
    · subst hji; rw [hr] at hr'; injection hr' with hr'; subst hr'; exact .inr ⟨rfl, Int.le_refl _⟩
    · have := h5 j r' (by omega) hr' hc'
      omega
theorem Best.keep {l out : List Rg} {i k : Nat} {r q : Rg} (h : Best l out i k) (hk : l[k]? = some q) (hr : l[i]? = some r) (hb : ¬ (r.1 < q.1 ∨ r.1 = q.1 ∧ r.2 > q.2)) : Best l out (i + 1) k := by
  rcases h with ⟨h1, h2⟩ | ⟨k', q', h1, h2, h3, h4, h5⟩
  · omega
  · have : k' = k := by omega
    subst this
    rw [hk] at h3; injection h3 with h3; subst h3
    refine .inr ⟨k', q, rfl, by omega, hk, h4, fun j r' hj hr' hc' => ?_⟩
    by_cases hji : j = i
    · subst hji; rw [hr] at hr'; injection hr' with hr'; subst hr'; omega
    · exact h5 j r' (by omega) hr' hc'

/-- What a round makes of what there is. -/
def step6 (out : List Rg) (r : Rg) : List Rg := match out.getLast? with
  | some q => if r.1 ≤ IntKind.i64.wrap (q.2 + 1) then out.dropLast ++ [(q.1, r.2)] else out ++ [r]
  | none => out ++ [r]

/-- How many may still come. -/
def left6 (l out : List Rg) : Nat := (l.filter (candB out)).length

def inv6i (l out : List Rg) (S : St) (n : Nat) : Prop := ∃ (i : Nat) (best : Int), i ≤ l.length ∧ n = l.length - i ∧ Best l out i best ∧
  S.trim [0, 3, 4, 5] [] [(3, 33, 2)] = ⟨[(0, .sl none (l.map encR)), (3, .sl (some (3, 33, 2)) (out.map encR)), (4, .val (.int .i64 best)), (5, .val (.int .i64 i))], [], [((3, 33, 2), true)]⟩
def inv6 (l : List Rg) (G : List Rg → Prop) (S : St) (n : Nat) : Prop := ∃ out : List Rg, G out ∧ n = left6 l out ∧ out.length + n ≤ l.length ∧
  S.trim [0, 3] [] [(3, 33, 2)] = ⟨[(0, .sl none (l.map encR)), (3, .sl (some (3, 33, 2)) (out.map encR))], [], [((3, 33, 2), true)]⟩

theorem k6 (l : List Rg) (hl : l.length ≤ 1000000) (G : List Rg → Prop) (h0 : G [])
    (hstep : ∀ (out : List Rg) (k : Nat) (r : Rg), G out → l[k]? = some r → Best l out l.length k → G (step6 out r) ∧ left6 l (step6 out r) < left6 l out) :
    PureAt Try.prog 6 [.sl none (l.map encR)] (fun d => ∃ out, G out ∧ Best l out l.length (-1) ∧ d = .sl none (out.map encR)) := by
  refine pure_of r6 (by kernel_rfl) ?_
  unfold m6
  simp only [go_sem, Nat.reduceEqDiff, Nat.reduceAdd, Nat.reduceLeDiff, List.length_map]
  refine ev_loop_by (inv6 l G) (left6 l []) ⟨[], h0, rfl, by unfold left6; simpa using List.length_filter_le (candB []) l, by simp only [go_sem, Nat.reduceEqDiff, Nat.reduceAdd, Nat.reduceLeDiff, List.length_map]⟩ ?_
  rintro n S ⟨out, hG, hn, hlen, hS⟩
  rw [ev_trim, hS]
  clear hS S
  simp only [go_sem, Nat.reduceEqDiff, Nat.reduceAdd, Nat.reduceLeDiff, List.length_map]
  refine ev_loop_by (inv6i l out) l.length ⟨0, -1, by simp, by simp, Best.zero l out, by simp only [go_sem, Nat.reduceEqDiff, Nat.reduceAdd, Nat.reduceLeDiff, List.length_map]; rfl⟩ ?_
  rintro n' S ⟨i, best, hi, hn', hB, hS⟩
  rw [ev_trim, hS]
  subst hn'
  clear hS S
  simp only [go_sem, Nat.reduceEqDiff, Nat.reduceAdd, Nat.reduceLeDiff, List.length_map]
  refine condE_split (fun h => ?_) (fun h => ?_)
  · have hi' : i < l.length := by simpa using h
    have hr : l[i]? = some l[i] := List.getElem?_eq_getElem hi'
    have hget : (l.map encR)[i]? = some [.val (.int .i64 l[i].1), .val (.int .i64 l[i].2)] := by simp [encR, hi']
    have h0 : (0 ≤ (i : Int)) = True := by simp
    have hw : IntKind.i64.wrap ((i : Int) + 1) = ((i + 1 : Nat) : Int) := by rw [wrap64 (by omega) (by omega)]; rfl
    have next : ∀ best' S, Best l out (i + 1) best' → S.trim [0, 3, 4, 5] [] [(3, 33, 2)] = ⟨[(0, .sl none (l.map encR)), (3, .sl (some (3, 33, 2)) (out.map encR)), (4, .val (.int .i64 best')), (5, .val (.int .i64 (i + 1 : Nat)))], [], [((3, 33, 2), true)]⟩ → ∃ k, k < l.length - i ∧ inv6i l out S k := fun best' S h1 h2 =>
      ⟨l.length - (i + 1), by omega, i + 1, best', by omega, rfl, h1, h2⟩
    generalize l[i] = r at hr hget
    obtain ⟨lo, up⟩ := r
    simp only at hget
    simp only [h0, Int.toNat_natCast, hget, go_sem, Nat.reduceEqDiff, Nat.reduceAdd, Nat.reduceLeDiff, List.length_map]
    refine wantQ_split (fun h1 => ?_) (fun h1 => ?_)
    · simp only [h1, h0, Int.toNat_natCast, hget, hw, go_sem, Nat.reduceEqDiff, Nat.reduceAdd, Nat.reduceLeDiff, List.length_map]
      refine next best _ (hB.skip hr (by simp only [candB]; rw [h1]; rfl)) ?_
      simp only [go_sem, Nat.reduceEqDiff, Nat.reduceAdd, Nat.reduceLeDiff, List.length_map]
    · cases hgl : out.getLast? with
      | none =>
        have hz : out.length = 0 := by simpa using hgl
        have e0 : decide ((out.length : Int) > 0) = false := by rw [hz]; rfl
        have hc : candB out (lo, up) = true := by simp only [candB]; rw [h1, hgl]; rfl
        simp only [h1, e0, h0, Int.toNat_natCast, hget, hw, go_sem, Nat.reduceEqDiff, Nat.reduceAdd, Nat.reduceLeDiff, List.length_map]
        refine wantQ_split (fun h3 => ?_) (fun h3 => ?_)
        · simp only [h3, h0, Int.toNat_natCast, hget, hw, go_sem, Nat.reduceEqDiff, Nat.reduceAdd, Nat.reduceLeDiff, List.length_map]
          have hb : best = -1 := by
            rcases hB with ⟨h4, -⟩ | ⟨k, q', h4, -⟩
            · exact h4
            · simp at h3; omega
          subst hb
          refine next i _ (hB.first hr hc) ?_
          simp only [go_sem, Nat.reduceEqDiff, Nat.reduceAdd, Nat.reduceLeDiff, List.length_map]
        · obtain ⟨k, q', rfl, hk1, hk2⟩ : ∃ (k : Nat) (q' : Rg), best = k ∧ k < i ∧ l[k]? = some q' := by
            rcases hB with ⟨h4, -⟩ | ⟨k, q', h4, h5, h6, -⟩
            · subst h4; simp at h3
            · exact ⟨k, q', h4, h5, h6⟩
          have hgetk : (l.map encR)[k]? = some [.val (.int .i64 q'.1), .val (.int .i64 q'.2)] := by
            rw [List.getElem?_map, hk2]; rfl
          have hk0 : (0 ≤ (k : Int)) = True := by simp
          simp only [h3, h0, hk0, Int.toNat_natCast, hget, hgetk, hw, go_sem, Nat.reduceEqDiff, Nat.reduceAdd, Nat.reduceLeDiff, List.length_map]
          refine wantQ_split (fun h5 => ?_) (fun h5 => ?_)
          · simp only [h5, h0, hk0, Int.toNat_natCast, hget, hgetk, hw, go_sem, Nat.reduceEqDiff, Nat.reduceAdd, Nat.reduceLeDiff, List.length_map]
            refine next i _ (hB.turn hk2 hr hc (.inl (by simpa using h5))) ?_
            simp only [go_sem, Nat.reduceEqDiff, Nat.reduceAdd, Nat.reduceLeDiff, List.length_map]
          · simp only [h5, h0, hk0, Int.toNat_natCast, hget, hgetk, hw, go_sem, Nat.reduceEqDiff, Nat.reduceAdd, Nat.reduceLeDiff, List.length_map]
            refine wantQ_split (fun h6 => ?_) (fun h6 => ?_)
            · simp only [h6, h0, hk0, Int.toNat_natCast, hget, hgetk, hw, go_sem, Nat.reduceEqDiff, Nat.reduceAdd, Nat.reduceLeDiff, List.length_map]
              refine condE_split (fun h7 => ?_) (fun h7 => ?_)
              · simp only [hw, go_sem, Nat.reduceEqDiff, Nat.reduceAdd, Nat.reduceLeDiff, List.length_map]
                refine next i _ (hB.turn hk2 hr hc (.inr ⟨by simpa using h6, by simpa using h7⟩)) ?_
                simp only [go_sem, Nat.reduceEqDiff, Nat.reduceAdd, Nat.reduceLeDiff, List.length_map]
              · simp only [hw, go_sem, Nat.reduceEqDiff, Nat.reduceAdd, Nat.reduceLeDiff, List.length_map]
                refine next k _ (hB.keep hk2 hr (by simp at h5 h6 h7; omega)) ?_
                simp only [go_sem, Nat.reduceEqDiff, Nat.reduceAdd, Nat.reduceLeDiff, List.length_map]
            · simp only [h6, h0, hk0, Int.toNat_natCast, hget, hgetk, hw, go_sem, Nat.reduceEqDiff, Nat.reduceAdd, Nat.reduceLeDiff, List.length_map]
              refine next k _ (hB.keep hk2 hr (by simp at h5 h6; omega)) ?_
              simp only [go_sem, Nat.reduceEqDiff, Nat.reduceAdd, Nat.reduceLeDiff, List.length_map]
      | some q =>
        have hpos : 0 < out.length := by
          cases out with
          | nil => simp at hgl
          | cons a b => simp
        have e0 : decide ((out.length : Int) > 0) = true := by simpa using hpos
        have e1 : IntKind.i64.wrap ((out.length : Int) - 1) = ((out.length - 1 : Nat) : Int) := by rw [wrap64 (by omega) (by omega)]; omega
        have e2 : (0 ≤ ((out.length - 1 : Nat) : Int)) = True := by simp
        have hget2 : (out.map encR)[out.length - 1]? = some [.val (.int .i64 q.1), .val (.int .i64 q.2)] := by
          rw [List.getElem?_map, ← List.getLast?_eq_getElem?, hgl]; rfl
        have hc : candB out (lo, up) = !decide (up ≤ q.2) := by simp only [candB]; rw [h1, hgl]; rfl
        simp only [h1, e0, e1, e2, h0, Int.toNat_natCast, hget, hget2, hw, go_sem, Nat.reduceEqDiff, Nat.reduceAdd, Nat.reduceLeDiff, List.length_map]
        refine condE_split (fun h2 => ?_) (fun h2 => ?_)
        · simp only [hw, go_sem, Nat.reduceEqDiff, Nat.reduceAdd, Nat.reduceLeDiff, List.length_map]
          refine next best _ (hB.skip hr (by rw [hc, h2]; rfl)) ?_
          simp only [go_sem, Nat.reduceEqDiff, Nat.reduceAdd, Nat.reduceLeDiff, List.length_map]
        · rw [h2] at hc
          replace hc : candB out (lo, up) = true := hc
          simp only [go_sem, Nat.reduceEqDiff, Nat.reduceAdd, Nat.reduceLeDiff, List.length_map]
          refine wantQ_split (fun h3 => ?_) (fun h3 => ?_)
          · simp only [h3, h0, Int.toNat_natCast, hget, hw, go_sem, Nat.reduceEqDiff, Nat.reduceAdd, Nat.reduceLeDiff, List.length_map]
            have hb : best = -1 := by
              rcases hB with ⟨h4, -⟩ | ⟨k, q', h4, -⟩
              · exact h4
              · simp at h3; omega
            subst hb
            refine next i _ (hB.first hr hc) ?_
            simp only [go_sem, Nat.reduceEqDiff, Nat.reduceAdd, Nat.reduceLeDiff, List.length_map]
          · obtain ⟨k, q', rfl, hk1, hk2⟩ : ∃ (k : Nat) (q' : Rg), best = k ∧ k < i ∧ l[k]? = some q' := by
              rcases hB with ⟨h4, -⟩ | ⟨k, q', h4, h5, h6, -⟩
              · subst h4; simp at h3
              · exact ⟨k, q', h4, h5, h6⟩
            have hgetk : (l.map encR)[k]? = some [.val (.int .i64 q'.1), .val (.int .i64 q'.2)] := by
              rw [List.getElem?_map, hk2]; rfl
            have hk0 : (0 ≤ (k : Int)) = True := by simp
            simp only [h3, h0, hk0, Int.toNat_natCast, hget, hgetk, hw, go_sem, Nat.reduceEqDiff, Nat.reduceAdd, Nat.reduceLeDiff, List.length_map]
            refine wantQ_split (fun h5 => ?_) (fun h5 => ?_)
            · simp only [h5, h0, hk0, Int.toNat_natCast, hget, hgetk, hw, go_sem, Nat.reduceEqDiff, Nat.reduceAdd, Nat.reduceLeDiff, List.length_map]
              refine next i _ (hB.turn hk2 hr hc (.inl (by simpa using h5))) ?_
              simp only [go_sem, Nat.reduceEqDiff, Nat.reduceAdd, Nat.reduceLeDiff, List.length_map]
            · simp only [h5, h0, hk0, Int.toNat_natCast, hget, hgetk, hw, go_sem, Nat.reduceEqDiff, Nat.reduceAdd, Nat.reduceLeDiff, List.length_map]
              refine wantQ_split (fun h6 => ?_) (fun h6 => ?_)
              · simp only [h6, h0, hk0, Int.toNat_natCast, hget, hgetk, hw, go_sem, Nat.reduceEqDiff, Nat.reduceAdd, Nat.reduceLeDiff, List.length_map]
                refine condE_split (fun h7 => ?_) (fun h7 => ?_)
                · simp only [hw, go_sem, Nat.reduceEqDiff, Nat.reduceAdd, Nat.reduceLeDiff, List.length_map]
                  refine next i _ (hB.turn hk2 hr hc (.inr ⟨by simpa using h6, by simpa using h7⟩)) ?_
                  simp only [go_sem, Nat.reduceEqDiff, Nat.reduceAdd, Nat.reduceLeDiff, List.length_map]
                · simp only [hw, go_sem, Nat.reduceEqDiff, Nat.reduceAdd, Nat.reduceLeDiff, List.length_map]
                  refine next k _ (hB.keep hk2 hr (by simp at h5 h6 h7; omega)) ?_
                  simp only [go_sem, Nat.reduceEqDiff, Nat.reduceAdd, Nat.reduceLeDiff, List.length_map]
              · simp only [h6, h0, hk0, Int.toNat_natCast, hget, hgetk, hw, go_sem, Nat.reduceEqDiff, Nat.reduceAdd, Nat.reduceLeDiff, List.length_map]
                refine next k _ (hB.keep hk2 hr (by simp at h5 h6; omega)) ?_
                simp only [go_sem, Nat.reduceEqDiff, Nat.reduceAdd, Nat.reduceLeDiff, List.length_map]
  · have hge : ¬ i < l.length := by simpa using h
    have hil : i = l.length := by omega
    subst hil
    clear hge h hi
    simp only [go_sem, Nat.reduceEqDiff, Nat.reduceAdd, Nat.reduceLeDiff, List.length_map]
    refine condE_split (fun h1 => ?_) (fun h1 => ?_)
    · simp only [go_sem, Nat.reduceEqDiff, Nat.reduceAdd, Nat.reduceLeDiff, List.length_map]
      have hb : best = -1 := by
        rcases hB with ⟨h4, -⟩ | ⟨k, q', h4, -⟩
        · exact h4
        · simp at h1; omega
      subst hb
      exact ⟨out, hG, hB, rfl⟩
    · obtain ⟨k, r, rfl, hk1, hk2⟩ : ∃ (k : Nat) (q' : Rg), best = k ∧ k < l.length ∧ l[k]? = some q' := by
        rcases hB with ⟨h4, -⟩ | ⟨k, q', h4, h5, h6, -⟩
        · subst h4; simp at h1
        · exact ⟨k, q', h4, h5, h6⟩
      have hgetk : (l.map encR)[k]? = some [.val (.int .i64 r.1), .val (.int .i64 r.2)] := by
        rw [List.getElem?_map, hk2]; rfl
      have hk0 : (0 ≤ (k : Int)) = True := by simp
      obtain ⟨hG', hlt⟩ := hstep out k r hG hk2 hB
      have hlen1 : (step6 out r).length ≤ out.length + 1 := by
        unfold step6
        split
        · split <;> simp
        · simp
      have next : ∀ S, S.trim [0, 3] [] [(3, 33, 2)] = ⟨[(0, .sl none (l.map encR)), (3, .sl (some (3, 33, 2)) ((step6 out r).map encR))], [], [((3, 33, 2), true)]⟩ → ∃ k, k < n ∧ inv6 l G S k := fun S hS =>
        ⟨left6 l (step6 out r), by omega, step6 out r, hG', rfl, by omega, hS⟩
      simp only [h1, hk0, Int.toNat_natCast, hgetk, go_sem, Nat.reduceEqDiff, Nat.reduceAdd, Nat.reduceLeDiff, List.length_map]
      cases hgl : out.getLast? with
      | none =>
        have hz : out = [] := by simpa using hgl
        subst hz
        have e0 : decide (((0 : Nat) : Int) > 0) = false := rfl
        simp only [e0, go_sem, Nat.reduceEqDiff, Nat.reduceAdd, Nat.reduceLeDiff, List.length_map]
        refine ⟨by simp, by omega, next _ ?_⟩
        simp only [step6, List.getLast?_nil, encR, go_sem, Nat.reduceEqDiff, Nat.reduceAdd, Nat.reduceLeDiff, List.length_map]
      | some q =>
        obtain ⟨out0, rfl⟩ : ∃ out0, out = out0 ++ [q] := by
          rcases List.eq_nil_or_concat out with rfl | ⟨o, q', rfl⟩
          · simp at hgl
          · simp at hgl; subst hgl; exact ⟨o, by simp⟩
        have e0 : decide ((((out0 ++ [q]).length : Nat) : Int) > 0) = true := by simp
        have hll : (out0 ++ [q]).length = out0.length + 1 := by simp
        have e1 : IntKind.i64.wrap ((((out0 ++ [q]).length : Nat) : Int) - 1) = (out0.length : Int) := by
          rw [wrap64 (by omega) (by omega)]; omega
        have e2 : (0 ≤ (out0.length : Int)) = True := by simp
        have hget2 : (List.map encR (out0 ++ [q]))[out0.length]? = some [.val (.int .i64 q.1), .val (.int .i64 q.2)] := by simp [encR]
        have hmod : ∀ v, (List.map encR (out0 ++ [q])).modify out0.length (fun e => List.set e 1 (.val (.int .i64 v))) = List.map encR (out0 ++ [(q.1, v)]) := by intro v; rw [List.map_append, List.map_append]; exact (modify_end _ _ _ (by simp)).trans rfl
        have hst : step6 (out0 ++ [q]) r = if r.1 ≤ IntKind.i64.wrap (q.2 + 1) then out0 ++ [(q.1, r.2)] else out0 ++ [q] ++ [r] := by simp [step6]
        simp only [e0, e1, e2, Int.toNat_natCast, hget2, go_sem, Nat.reduceEqDiff, Nat.reduceAdd, Nat.reduceLeDiff, List.length_map]
        refine condE_split (fun h2 => ?_) (fun h2 => ?_)
        · simp only [e0, e1, e2, Int.toNat_natCast, hget2, hmod, go_sem, Nat.reduceEqDiff, Nat.reduceAdd, Nat.reduceLeDiff, List.length_map]
          refine next _ ?_
          rw [hst, if_pos (by simpa using h2)]
          simp only [go_sem, Nat.reduceEqDiff, Nat.reduceAdd, Nat.reduceLeDiff, List.length_map]
        · simp only [e0, e1, e2, Int.toNat_natCast, hget2, go_sem, Nat.reduceEqDiff, Nat.reduceAdd, Nat.reduceLeDiff, List.length_map]
          refine ⟨?_, ?_, ?_, ?_, next _ ?_⟩
          · intro e he; obtain ⟨r, _, rfl⟩ := List.mem_map.1 he; rfl
          · simp
          · simp at hlen ⊢; omega
          · simp at hlen ⊢; omega
          · rw [hst, if_neg (by simpa using h2)]
            simp only [go_sem, Nat.reduceEqDiff, Nat.reduceAdd, Nat.reduceLeDiff, List.length_map]
            simp [encR]
end Go.Proofs
