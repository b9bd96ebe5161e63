/- A part of the proof; what is proved stands in the last text. -/
import Derived.Test.YtijhiblfdidnpaaGreatWL
import Derived.Test.YtijhiblfdidnpaaGreatMM
set_option linter.unusedVariables false
set_option maxRecDepth 2000
namespace Go.Proofs
open Go.Vm
set_option linter.unusedSimpArgs false
structure EntM where
 id : Int
 f : List BoxM
 slack : Nat
def entC (x : EntM) : List D := [.val (.int .i64 x.id), .sl none (x.f.map boxC), .val (.int .u64 x.slack)]
def zEnt : EntM := ⟨0, [], 0⟩
structure FrM where
 pub : Bool
 adds : List EntM
 rems : List Int
 id : Int
 client : Int
 e : EvM
def frC (f : FrM) : List D := [.val (.bool f.pub), .sl none (f.adds.map entC), .sl none (f.rems.map fun n => [.val (.int .i64 n)]), .val (.int .i64 f.id), .val (.int .i64 f.client),
 .val (.int .i64 f.e.v0.kind), .val (.int .i64 f.e.v0.n), .val (.string f.e.v0.s),
 .val (.int .i64 f.e.v1.kind), .val (.int .i64 f.e.v1.n), .val (.string f.e.v1.s),
 .val (.int .i64 f.e.v2.kind), .val (.int .i64 f.e.v2.n), .val (.string f.e.v2.s),
 .val (.int .i64 f.e.v3.kind), .val (.int .i64 f.e.v3.n), .val (.string f.e.v3.s)]
theorem getD_ent {l : List EntM} {i : Nat} (h : i < l.length) : l.getD i zEnt = l[i] := by simp [h]
theorem get_entC {l : List EntM} {i : Nat} (h : i < l.length) : (l.map entC)[i]? = some (entC (l.getD i zEnt)) := by
 rw [List.getElem?_map, List.getElem?_eq_getElem h, getD_ent h]; rfl
theorem entD_mem {l : List EntM} {i : Nat} (h : i < l.length) : l.getD i zEnt ∈ l := by rw [getD_ent h]; exact List.getElem_mem h
theorem get_intC {l : List Int} {i : Nat} (h : i < l.length) : (l.map fun n => [D.val (.int .i64 n)])[i]? = some [.val (.int .i64 (l.getD i 0))] := by
 rw [List.getElem?_map, List.getElem?_eq_getElem h]; simp [h]
theorem intD_mem {l : List Int} {i : Nat} (h : i < l.length) : l.getD i 0 ∈ l := by simp [h]
def cntM (n : Int) : Bool := decide (n ≥ 0) && decide (n ≤ 1099511627776)
theorem kcount15 (n : Int) : PureAt Tryz.prog 25 [.val (.int .i64 n)] (· = .val (.bool (cntM n))) := by
 refine pure_of r25 (by kernel_rfl) ?_
 unfold m25 cntM
 simp only [go_sem, Nat.reduceEqDiff, Nat.reduceAdd]
 cases d1 : decide (n ≥ 0)
 ·simp only [Bool.false_and, go_sem, Nat.reduceEqDiff]
  done
 ·simp only [Bool.true_and, go_sem, Nat.reduceEqDiff]
  done
theorem kfcount (n : Int) : PureAt Tryz.prog 51 [.val (.int .i64 n)] (· = .val (.bool (cntM n))) := by
 refine pure_of r51 (by kernel_rfl) ?_
 unfold m51 cntM
 simp only [go_sem, Nat.reduceEqDiff, Nat.reduceAdd]
 cases d1 : decide (n ≥ 0)
 ·simp only [Bool.false_and, go_sem, Nat.reduceEqDiff]
  done
 ·simp only [Bool.true_and, go_sem, Nat.reduceEqDiff]
  done
def FineF (k : Nat) (l : List BoxM) : Prop := l.length ≤ 10000 ∧ ∀ b ∈ l, FewB k b
def sameEn (a b : EntM) : Bool := (a.id == b.id) && ((a.slack : Int) == (b.slack : Int)) && sameF a.f b.f
end Go.Proofs

namespace Go.Proofs
open Go.Vm
set_option linter.unusedSimpArgs false
def sameEs (l m : List EntM) : Bool := decide (l.length = m.length) && (List.range l.length).all fun i => sameEn (l.getD i zEnt) (m.getD i zEnt)
def sameIs (l m : List Int) : Bool := decide (l.length = m.length) && (List.range l.length).all fun i => l.getD i 0 == m.getD i 0
set_option maxHeartbeats 2000000 in
theorem kSameEnt14 (l m : List EntM) (hl : l.length ≤ 100000) (hf : ∀ x ∈ l, FineF 1000000 x.f) : PureAt Tryz.prog 40 [.sl none (l.map entC), .sl none (m.map entC)] (· = .val (.bool (sameEs l m))) := by
 refine pure_of r40 (by kernel_rfl) ?_
 unfold m40 sameEs
 simp only [int_ne, go_sem, Nat.reduceEqDiff, Nat.reduceAdd, List.length_map]
 refine condE_split (fun h0 => ?_) (fun h0 => ?_)
 ·simp only [go_sem, Nat.reduceEqDiff]
  have : ¬ l.length = m.length := by simpa using h0
  simp [this]
 have h0 : l.length = m.length := by simpa using h0
 simp only [go_sem, Nat.reduceEqDiff]
 refine loop_N l.length (fun i => ∀ j, j < i → sameEn (l.getD j zEnt) (m.getD j zEnt) = true) (fun i => ⟨[(0, .sl none (l.map entC)), (1, .sl none (m.map entC)), (5, .val (.int .i64 i))], [], []⟩) (fun j hj => by omega) (by simp only [go_sem, Nat.reduceEqDiff]; rfl) ?_
 intro i hil hp
 simp only [go_sem, Nat.reduceEqDiff, List.length_map]
 refine condE_split (fun h => ?_) (fun h => ?_)
 ·have hi' : i < l.length := by simpa using h
  have hi2 : i < m.length := by omega
  have hup := up64 (show i < 1000000 by omega)
  have hfx := hf _ (entD_mem hi')
  have bad : sameEn (l.getD i zEnt) (m.getD i zEnt) = false → ((List.range l.length).all fun i => sameEn (l.getD i zEnt) (m.getD i zEnt)) = false := fun hb => by
   rw [List.all_eq_false]; exact ⟨i, List.mem_range.2 hi', by simpa using hb⟩
  have nxt : sameEn (l.getD i zEnt) (m.getD i zEnt) = true → ∀ j, j < i + 1 → sameEn (l.getD j zEnt) (m.getD j zEnt) = true := fun hb => nextP hp hb
  have g1 := get_entC hi'
  have g2 := get_entC hi2
  simp only [nn0, Int.toNat_natCast, g1, g2, entC, go_sem, Nat.reduceEqDiff, Nat.reduceAdd]
  generalize l.getD i zEnt = x at *
  generalize m.getD i zEnt = y at *
  cases d1 : x.id == y.id
  ·simp only [bne, d1, Bool.not_false, go_sem, Nat.reduceEqDiff]
   rw [bad (by simp only [sameEn, d1, Bool.false_and]), Bool.and_false]
  cases d2 : (x.slack : Int) == (y.slack : Int)
  ·simp only [nn0, Int.toNat_natCast, g1, g2, entC, bne, d1, d2, Bool.not_false, Bool.not_true, go_sem, Nat.reduceEqDiff, Nat.reduceAdd]
   rw [bad (by simp only [sameEn, d2, Bool.false_and, Bool.and_false]), Bool.and_false]
  simp only [nn0, Int.toNat_natCast, g1, g2, entC, bne, d1, d2, Bool.not_true, go_sem, Nat.reduceEqDiff, Nat.reduceAdd]
  refine callQ_by _ rfl rfl (kref6Same _ _ hfx.1 hfx.2) ?_
  simp only [go_sem, Nat.reduceEqDiff]
  cases d3 : sameF x.f y.f
  ·simp only [Bool.not_false, go_sem, Nat.reduceEqDiff]
   rw [bad (by simp only [sameEn, d3, Bool.and_false]), Bool.and_false]
  ·simp only [Bool.not_true, hup, go_sem, Nat.reduceEqDiff]
   exact invN_next hi' (nxt (by simp only [sameEn, d1, d2, d3, Bool.and_self])) (by simp only [go_sem, Nat.reduceEqDiff])
 ·have hil' : i = l.length := by simp at h; omega
  subst hil'
  simp only [go_sem]
  have : ((List.range l.length).all fun i => sameEn (l.getD i zEnt) (m.getD i zEnt)) = true := by
   rw [List.all_eq_true]; intro i hi; exact hp i (List.mem_range.1 hi)
  rw [this]; simp [h0]
abbrev intsC (l : List Int) : List (List D) := l.map fun n => [.val (.int .i64 n)]
set_option maxHeartbeats 1000000 in
theorem kSameInts14 (l m : List Int) (hl : l.length ≤ 100000) : PureAt Tryz.prog 41 [.sl none (intsC l), .sl none (intsC m)] (· = .val (.bool (sameIs l m))) := by
 refine pure_of r41 (by kernel_rfl) ?_
 unfold m41 sameIs
 simp only [int_ne, go_sem, Nat.reduceEqDiff, Nat.reduceAdd, List.length_map]
 refine condE_split (fun h0 => ?_) (fun h0 => ?_)
 ·simp only [go_sem, Nat.reduceEqDiff]
  have : ¬ l.length = m.length := by simpa using h0
  simp [this]
 have h0 : l.length = m.length := by simpa using h0
 simp only [go_sem, Nat.reduceEqDiff]
 refine loop_N l.length (fun i => ∀ j, j < i → (l.getD j 0 == m.getD j 0) = true) (fun i => ⟨[(0, .sl none (intsC l)), (1, .sl none (intsC m)), (5, .val (.int .i64 i))], [], []⟩) (fun j hj => by omega) (by simp only [go_sem, Nat.reduceEqDiff]; rfl) ?_
 intro i hil hp
 simp only [go_sem, Nat.reduceEqDiff, List.length_map]
 refine condE_split (fun h => ?_) (fun h => ?_)
 ·have hi' : i < l.length := by simpa using h
  have hi2 : i < m.length := by omega
  have hup := up64 (show i < 1000000 by omega)
  simp only [nn0, Int.toNat_natCast, get_intC hi', get_intC hi2, go_sem, Nat.reduceEqDiff, Nat.reduceAdd]
  cases h2 : (l.getD i 0 == m.getD i 0)
  ·simp only [bne, h2, Bool.not_false, go_sem, Nat.reduceEqDiff]
   have : ((List.range l.length).all fun i => l.getD i 0 == m.getD i 0) = false := by
    rw [List.all_eq_false]; exact ⟨i, List.mem_range.2 hi', by simp only [h2]; simp⟩
   rw [this, Bool.and_false]
  ·simp only [bne, h2, Bool.not_true, hup, go_sem, Nat.reduceEqDiff]
   exact invN_next hi' (nextP hp h2) (by simp only [go_sem, Nat.reduceEqDiff])
 ·have hil' : i = l.length := by simp at h; omega
  subst hil'
  simp only [go_sem]
  have : ((List.range l.length).all fun i => l.getD i 0 == m.getD i 0) = true := by
   rw [List.all_eq_true]; intro i hi; exact hp i (List.mem_range.1 hi)
  rw [this]; simp [h0]
end Go.Proofs

namespace Go.Proofs
open Go.Vm
set_option linter.unusedSimpArgs false
def eqPub (a b : FrM) : Bool := a.id == b.id && (a.client == b.client && eqEv a.e b.e)
def sameFr (a b : FrM) : Bool := (a.pub == b.pub) && (eqPub a b && (sameEs a.adds b.adds && sameIs a.rems b.rems))
structure FrB (f : FrM) : Prop where
 na : f.adds.length ≤ 100000
 nr : f.rems.length ≤ 100000
 fa : ∀ x ∈ f.adds, FineF 900 x.f
 ba : ∀ x ∈ f.adds, ∀ b ∈ x.f, BndB b
 ia : ∀ x ∈ f.adds, InRange x.id
 sa : ∀ x ∈ f.adds, x.slack < 18446744073709551616
 ir : ∀ n ∈ f.rems, InRange n
 ii : InRange f.id
 ic : InRange f.client
 ie : InE f.e
theorem FineF.mono {j k : Nat} {l : List BoxM} (h : FineF j l) (hk : j ≤ k) : FineF k l := ⟨h.1, fun b hb => (h.2 b hb).mono hk⟩
set_option maxHeartbeats 2000000 in
theorem kSame15 (a b : FrM) (h : FrB a) : PureAt Tryz.prog 13 [.agg (frC a), .agg (frC b)] (· = .val (.bool (sameFr a b))) := by
 have p1 := kSameEnt14 a.adds b.adds h.na (fun x hx => (h.fa x hx).mono (by omega))
 have p2 := kSameInts14 a.rems b.rems h.nr
 refine pure_of r13 (by kernel_rfl) ?_
 unfold m13 sameFr
 simp only [frC, go_sem, Nat.reduceEqDiff, Nat.reduceAdd]
 cases d1 : a.pub == b.pub
 ·simp only [Bool.false_and, go_sem, Nat.reduceEqDiff]
  done
 simp only [Bool.true_and, go_sem, Nat.reduceEqDiff, Nat.reduceAdd, Nat.reduceLeDiff]
 have hq : eqPub a b = eqPub a b := rfl
 conv at hq => lhs; unfold eqPub eqEv
 cases d2 : eqPub a b
 ·rw [d2] at hq
  simp only [hq, Bool.false_and, go_sem, Nat.reduceEqDiff]
  done
 rw [d2] at hq
 simp only [hq, Bool.true_and, go_sem, Nat.reduceEqDiff, Nat.reduceAdd]
 refine callP_eq rfl rfl p1 ?_
 simp only [go_sem, Nat.reduceEqDiff]
 cases d3 : sameEs a.adds b.adds
 ·simp only [Bool.false_and, go_sem, Nat.reduceEqDiff]
  done
 simp only [Bool.true_and, go_sem, Nat.reduceEqDiff, Nat.reduceAdd]
 refine callP_eq rfl rfl p2 ?_
 simp only [go_sem, Nat.reduceEqDiff]
end Go.Proofs
