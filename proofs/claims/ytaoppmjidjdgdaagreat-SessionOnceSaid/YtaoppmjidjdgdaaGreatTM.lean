/- A part of the proof; what is proved stands in the last text. -/
import Derived.Test.YtaoppmjidjdgdaaGreatTL
import Derived.Test.YtaoppmjidjdgdaaGreatT4
set_option linter.unusedVariables false
set_option maxRecDepth 2000
namespace Go.Proofs
open Go.Vm
def Cov (rs : List Rg) (n : Int) : Prop := ∃ r ∈ rs, r.1 ≤ n ∧ n ≤ r.2
def NF (rs : List Rg) : Prop := (∀ r ∈ rs, r.1 ≤ r.2) ∧ rs.Pairwise (fun a b => a.2 + 1 < b.1)
def InB (r : Rg) : Prop := (-9223372036854775808 ≤ r.1 ∧ r.1 ≤ 9223372036854775807) ∧ -9223372036854775808 ≤ r.2 ∧ r.2 ≤ 9223372036854775807
theorem last_cases (out : List Rg) : out = [] ∨ ∃ o q, out = o ++ [q] := by
 rcases List.eq_nil_or_concat out with h | ⟨o, q, h⟩
 ·exact .inl h
 ·exact .inr ⟨o, q, by simpa using h⟩
def normR (rs : List Rg) : List Rg := (sortRg rs).foldl merge1 []
theorem merge1_len (out : List Rg) (s : Rg) : (merge1 out s).length ≤ out.length + 1 := by
 unfold merge1
 split
 ·omega
 ·rcases last_cases out with rfl | ⟨o, q, rfl⟩
  ·simp
  ·simp only [List.getLast?_append, List.getLast?_singleton, Option.some_or, List.dropLast_concat]
   split <;> simp
theorem foldl_len : ∀ (rs out : List Rg), (rs.foldl merge1 out).length ≤ out.length + rs.length
 | [], out => by simp
 | s :: rs, out => by
  have h1 := foldl_len rs (merge1 out s)
  have h2 := merge1_len out s
  simp only [List.foldl_cons, List.length_cons]
  omega
theorem normR_len (rs : List Rg) : (normR rs).length ≤ rs.length := by
 have := foldl_len (sortRg rs) []
 rw [(sortRg_spec rs).1] at this
 simpa [normR] using this
end Go.Proofs

namespace Go.Proofs
open Go.Vm
set_option linter.unusedSimpArgs false
end Go.Proofs
