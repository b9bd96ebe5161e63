/- A part of the proof; what is proved stands in the last text. -/
import Derived.Test.YtijhiblfdidnpaaGreatWL
import Derived.Test.YtijhiblfdidnpaaGreatMM
set_option linter.unusedVariables false
set_option maxRecDepth 2000

namespace Go.Proofs
open Go.Vm
set_option linter.unusedSimpArgs false

structure EntM where
  id : Int
  f : List BoxM
  slack : Nat
def entC (x : EntM) : List D := [.val (.int .i64 x.id), .sl none (x.f.map boxC), .val (.int .u64 x.slack)]
def zEnt : EntM := ⟨0, [], 0⟩
structure FrM where
  pub : Bool
  adds : List EntM
  rems : List Int
  id : Int
  client : Int
  e : EvM
def frC (f : FrM) : List D := [.val (.bool f.pub), .sl none (f.adds.map entC), .sl none (f.rems.map fun n => [.val (.int .i64 n)]), .val (.int .i64 f.id), .val (.int .i64 f.client),
  .val (.int .i64 f.e.v0.kind), .val (.int .i64 f.e.v0.n), .val (.string f.e.v0.s),
  .val (.int .i64 f.e.v1.kind), .val (.int .i64 f.e.v1.n), .val (.string f.e.v1.s),
  .val (.int .i64 f.e.v2.kind), .val (.int .i64 f.e.v2.n), .val (.string f.e.v2.s),
  .val (.int .i64 f.e.v3.kind), .val (.int .i64 f.e.v3.n), .val (.string f.e.v3.s)]
theorem getD_ent {l : List EntM} {i : Nat} (h : i < l.length) : l.getD i zEnt = l[i] := by simp [h]
theorem get_entC {l : List EntM} {i : Nat} (h : i < l.length) : (l.map entC)[i]? = some (entC (l.getD i zEnt)) := by
  rw [List.getElem?_map, List.getElem?_eq_getElem h, getD_ent h]; rfl
theorem entD_mem {l : List EntM} {i : Nat} (h : i < l.length) : l.getD i zEnt ∈ l := by rw [getD_ent h]; exact List.getElem_mem h
theorem get_intC {l : List Int} {i : Nat} (h : i < l.length) : (l.map fun n => [D.val (.int .i64 n)])[i]? = some [.val (.int .i64 (l.getD i 0))] := by
  rw [List.getElem?_map, List.getElem?_eq_getElem h]; simp [h]
theorem intD_mem {l : List Int} {i : Nat} (h : i < l.length) : l.getD i 0 ∈ l := by simp [h]

def cntM (n : Int) : Bool := decide (n ≥ 0) && decide (n ≤ 1099511627776)
theorem kcount15 (n : Int) : PureAt Tryz.prog 25 [.val (.int .i64 n)] (· = .val (.bool (cntM n))) := by
  refine pure_of r25 (by kernel_rfl) ?_
  unfold m25 cntM
  simp only [go_sem, Nat.reduceEqDiff, Nat.reduceAdd]
  cases d1 : decide (n ≥ 0)
  · simp only [Bool.false_and, go_sem, Nat.reduceEqDiff]
    done
  · simp only [Bool.true_and, go_sem, Nat.reduceEqDiff]
    done
theorem kfcount (n : Int) : PureAt Tryz.prog 51 [.val (.int .i64 n)] (· = .val (.bool (cntM n))) := by
  refine pure_of r51 (by kernel_rfl) ?_
  unfold m51 cntM
  simp only [go_sem, Nat.reduceEqDiff, Nat.reduceAdd]
  cases d1 : decide (n ≥ 0)
  · simp only [Bool.false_and, go_sem, Nat.reduceEqDiff]
    done
  · simp only [Bool.true_and, go_sem, Nat.reduceEqDiff]
    done
def FineF (k : Nat) (l : List BoxM) : Prop := l.length ≤ 10000 ∧ ∀ b ∈ l, FewB k b
end Go.Proofs



namespace Go.Proofs
open Go.Vm
set_option linter.unusedSimpArgs false

abbrev intsC (l : List Int) : List (List D) := l.map fun n => [.val (.int .i64 n)]
end Go.Proofs



namespace Go.Proofs
open Go.Vm
set_option linter.unusedSimpArgs false

def eqPub (a b : FrM) : Bool := a.id == b.id && (a.client == b.client && eqEv a.e b.e)
structure FrB (f : FrM) : Prop where
  na : f.adds.length ≤ 100000
  nr : f.rems.length ≤ 100000
  fa : ∀ x ∈ f.adds, FineF 900 x.f
  ba : ∀ x ∈ f.adds, ∀ b ∈ x.f, BndB b
  ia : ∀ x ∈ f.adds, InRange x.id
  sa : ∀ x ∈ f.adds, x.slack < 18446744073709551616
  ir : ∀ n ∈ f.rems, InRange n
  ii : InRange f.id
  ic : InRange f.client
  ie : InE f.e
theorem FineF.mono {j k : Nat} {l : List BoxM} (h : FineF j l) (hk : j ≤ k) : FineF k l := ⟨h.1, fun b hb => (h.2 b hb).mono hk⟩
end Go.Proofs

