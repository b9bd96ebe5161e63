/- A part of the proof; what is proved stands in the last text. -/
import Derived.Test.YtipppgiimemloaaGreatTL
set_option linter.unusedVariables false
set_option maxRecDepth 2000
namespace Go.Proofs
open Go.Vm
set_option linter.unusedSimpArgs false

/-! ### arbourref03.Ranges -/
def candB (out : List Rg) (r : Rg) : Bool := !decide (r.1 > r.2) && !(match out.getLast? with | none => false | some q => decide (r.2 ≤ q.2))

/-- The best one so far: none, or one of those that may be, that comes first. -/
def Best (l out : List Rg) (i : Nat) (best : Int) : Prop :=
  (best = -1 ∧ ∀ (j : Nat) (r : Rg), j < i → l[j]? = some r → candB out r = false) ∨
  ∃ (k : Nat) (q : Rg), best = k ∧ k < i ∧ l[k]? = some q ∧ candB out q = true ∧ ∀ (j : Nat) (r : Rg), j < i → l[j]? = some r → candB out r = true → q.1 < r.1 ∨ q.1 = r.1 ∧ r.2 ≤ q.2

theorem Best.zero (l out : List Rg) : Best l out 0 (-1) := .inl ⟨rfl, fun j r h => by omega⟩
theorem Best.skip {l out : List Rg} {i : Nat} {best : Int} {r : Rg} (h : Best l out i best) (hr : l[i]? = some r) (hc : candB out r = false) : Best l out (i + 1) best := by
  rcases h with ⟨h1, h2⟩ | ⟨k, q, h1, h2, h3, h4, h5⟩
  · refine .inl ⟨h1, fun j r' hj hr' => ?_⟩
    by_cases hji : j = i
    · subst hji; rw [hr] at hr'; injection hr' with hr'; subst hr'; exact hc
    · exact h2 j r' (by omega) hr'
  · refine .inr ⟨k, q, h1, by omega, h3, h4, fun j r' hj hr' hc' => ?_⟩
    by_cases hji : j = i
    · subst hji; rw [hr] at hr'; injection hr' with hr'; subst hr'; rw [hc] at hc'; cases hc'
    · exact h5 j r' (by omega) hr' hc'
theorem Best.first {l out : List Rg} {i : Nat} {r : Rg} (h : Best l out i (-1)) (hr : l[i]? = some r) (hc : candB out r = true) : Best l out (i + 1) i := by
  rcases h with ⟨h1, h2⟩ | ⟨k, q, h1, -⟩
  · refine .inr ⟨i, r, rfl, by omega, hr, hc, fun j r' hj hr' hc' => ?_⟩
    by_cases hji : j = i
    · subst hji; rw [hr] at hr'; injection hr' with hr'; subst hr'; exact .inr ⟨rfl, Int.le_refl _⟩
    · rw [h2 j r' (by omega) hr'] at hc'; cases hc'
  · omega
theorem Best.turn {l out : List Rg} {i k : Nat} {r q : Rg} (h : Best l out i k) (hk : l[k]? = some q) (hr : l[i]? = some r) (hc : candB out r = true) (hb : r.1 < q.1 ∨ r.1 = q.1 ∧ r.2 > q.2) : Best l out (i + 1) i := by
  rcases h with ⟨h1, h2⟩ | ⟨k', q', h1, h2, h3, h4, h5⟩
  · omega
  · have : k' = k := by omega
    subst this
    rw [hk] at h3; injection h3 with h3; subst h3
    refine .inr ⟨i, r, rfl, by omega, hr, hc, fun j r' hj hr' hc' => ?_⟩
    by_cases hji : j = i
    · subst hji; rw [hr] at hr'; injection hr' with hr'; subst hr'; exact .inr ⟨rfl, Int.le_refl _⟩
    · have := h5 j r' (by omega) hr' hc'
      omega
theorem Best.keep {l out : List Rg} {i k : Nat} {r q : Rg} (h : Best l out i k) (hk : l[k]? = some q) (hr : l[i]? = some r) (hb : ¬ (r.1 < q.1 ∨ r.1 = q.1 ∧ r.2 > q.2)) : Best l out (i + 1) k := by
  rcases h with ⟨h1, h2⟩ | ⟨k', q', h1, h2, h3, h4, h5⟩
  · omega
  · have : k' = k := by omega
    subst this
    rw [hk] at h3; injection h3 with h3; subst h3
    refine .inr ⟨k', q, rfl, by omega, hk, h4, fun j r' hj hr' hc' => ?_⟩
    by_cases hji : j = i
    · subst hji; rw [hr] at hr'; injection hr' with hr'; subst hr'; omega
    · exact h5 j r' (by omega) hr' hc'

/-- What a round makes of what there is. -/
def step6 (out : List Rg) (r : Rg) : List Rg := match out.getLast? with
  | some q => if r.1 ≤ IntKind.i64.wrap (q.2 + 1) then out.dropLast ++ [(q.1, r.2)] else out ++ [r]
  | none => out ++ [r]

/-- How many may still come. -/
def left6 (l out : List Rg) : Nat := (l.filter (candB out)).length

def inv6i (l out : List Rg) (S : St) (n : Nat) : Prop := ∃ (i : Nat) (best : Int), i ≤ l.length ∧ n = l.length - i ∧ Best l out i best ∧
  S.trim [0, 3, 4, 5] [] [(3, 114, 2)] = ⟨[(0, .sl none (l.map encR)), (3, .sl (some (3, 114, 2)) (out.map encR)), (4, .val (.int .i64 best)), (5, .val (.int .i64 i))], [], [((3, 114, 2), true)]⟩
def inv6 (l : List Rg) (G : List Rg → Prop) (S : St) (n : Nat) : Prop := ∃ out : List Rg, G out ∧ n = left6 l out ∧ out.length + n ≤ l.length ∧
  S.trim [0, 3] [] [(3, 114, 2)] = ⟨[(0, .sl none (l.map encR)), (3, .sl (some (3, 114, 2)) (out.map encR))], [], [((3, 114, 2), true)]⟩

end Go.Proofs
