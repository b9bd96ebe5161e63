/- A part of the proof; what is proved stands in the last text. -/
import Derived.Test.YtoojpeidgdadgaaT10
namespace Go.Proofs
open Go.Vm
set_option linter.unusedSimpArgs false

def inv7a (a b : SetM) (S : St) (n : Nat) : Prop := ∃ i : Nat, i ≤ a.ints.length ∧ n = a.ints.length - i ∧ a.ints.take i = b.ints.take i ∧
  S.trim [2, 3, 5] [2, 3] [] = ⟨[(2, .ptr 2 0), (3, .ptr 3 0), (5, .val (.int .i64 i))], [(2, setC a), (3, setC b)], []⟩
def inv7b (a b : SetM) (S : St) (n : Nat) : Prop := ∃ i : Nat, i ≤ a.strs.length ∧ n = a.strs.length - i ∧ a.strs.take i = b.strs.take i ∧
  S.trim [2, 3, 6] [2, 3] [] = ⟨[(2, .ptr 2 0), (3, .ptr 3 0), (6, .val (.int .i64 i))], [(2, setC a), (3, setC b)], []⟩

theorem take_eq_succ {α : Type} {xs ys : List α} {i : Nat} (h : xs.take i = ys.take i) (hi : i < xs.length) (hj : i < ys.length) (he : xs[i] = ys[i]) : xs.take (i + 1) = ys.take (i + 1) := by
  rw [List.take_succ_eq_append_getElem hi, List.take_succ_eq_append_getElem hj, h, he]

end Go.Proofs
