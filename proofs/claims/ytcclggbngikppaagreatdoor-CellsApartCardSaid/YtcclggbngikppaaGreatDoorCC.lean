/- A part of the proof; what is proved stands in the last text. -/
import Derived.Test.YtcclggbngikppaaGreatDoorCB
import Derived.Test.YtcclggbngikppaaGreatDoorTG
set_option linter.unusedVariables false
set_option maxRecDepth 2000
namespace Go.Proofs
open Go.Vm
set_option linter.unusedSimpArgs false
def setsAt (bs : List BoxM) (i : Nat) : List SetM := bs.map fun b => b.at i
def attrM (bs : List BoxM) (i : Nat) : List SetM := cutM (setsAt bs i)
theorem setsAt_ok {bs : List BoxM} (h : ∀ b ∈ bs, OKB b) {i : Nat} (hi : i < 4) : AllOK (setsAt bs i) := fun s hs => by
 obtain ⟨b, hb, rfl⟩ := List.mem_map.1 hs
 exact h b hb i hi
theorem cut_all {r : List SetM} (h : AllOK r) : cutM r = cutR r := by
 unfold cutM
 rw [List.filter_eq_self.2 fun s hs => (h s hs).right]
theorem attr_cut {bs : List BoxM} (h : ∀ b ∈ bs, OKB b) {i : Nat} (hi : i < 4) : attrM bs i = cutR (setsAt bs i) := cut_all (setsAt_ok h hi)
end Go.Proofs

namespace Go.Proofs
open Go.Vm
set_option linter.unusedSimpArgs false
def zE9 : EvM := ⟨⟨0, 0, ⟨#[]⟩⟩, ⟨0, 0, ⟨#[]⟩⟩, ⟨0, 0, ⟨#[]⟩⟩, ⟨0, 0, ⟨#[]⟩⟩⟩
def putE (e : EvM) (k : Nat) (v : ValM) : EvM := match k with
 | 0 => { e with v0 := v }
 | 1 => { e with v1 := v }
 | 2 => { e with v2 := v }
 | _ => { e with v3 := v }
def mixE (C : Nat → List SetM) : Nat → List EvM
 | 0 => [zE9]
 | k + 1 => (mixE C k).flatMap fun e => (C k).map fun c => putE e k (sampleM c).1
def cntC (C : Nat → List SetM) : Nat → Nat
 | 0 => 1
 | k + 1 => min (cntC C k * (C k).length) 1099511627776
end Go.Proofs

namespace Go.Proofs
open Go.Vm
set_option linter.unusedSimpArgs false
theorem names_nodup (r : List SetM) : (namesM r).Nodup := (namesM_SS r).imp (S := fun a b => a ≠ b) (fun {a b} (h : ltB a b) (e : a = b) => ltB_irrefl a (by rw [← e] at h; exact h))
theorem names_len (r : List SetM) : (namesM r).length ≤ (strsOf r).length := len_sub _ _ (names_nodup r) fun _ h => mem_strsOf.2 h
theorem ends1_len (gs : List Rg) : (gs.flatMap ends1).length ≤ 2 * gs.length := by
 induction gs with
 | nil => simp
 | cons g gs ih =>
  rw [List.flatMap_cons, List.length_append]
  have : (ends1 g).length ≤ 2 := by unfold ends1; split <;> simp
  simp only [List.length_cons]; omega
theorem ends_len (r : List SetM) : (endsM r).length ≤ 1 + 2 * (rgsOf r).length := by
 have h := len_sub (endsM r) (endsL r) ((endsM_incr r).imp (fun h e => by omega)) (fun e he => by
  unfold endsM at he
  rw [mem_compactI] at he
  unfold sortI at he
  exact List.mem_mergeSort.1 he)
 have h2 : (endsL r).length = 1 + ((rgsOf r).flatMap ends1).length := by
  unfold endsL rgsOf
  rw [List.length_cons, List.flatMap_assoc]; omega
 have := ends1_len (rgsOf r)
 omega
theorem strsOf_len {r : List SetM} {k : Nat} (h : ∀ s ∈ r, s.strs.length ≤ k) : (strsOf r).length ≤ k * r.length := by
 unfold strsOf
 induction r with
 | nil => simp
 | cons s r ih =>
  have h1 := h s (by simp)
  have := ih fun x hx => h x (by simp [hx])
  rw [List.flatMap_cons, List.length_append, List.length_cons, Nat.mul_succ]; omega
theorem rgsOf_len {r : List SetM} {k : Nat} (h : ∀ s ∈ r, s.ints.length ≤ k) : (rgsOf r).length ≤ k * r.length := by
 unfold rgsOf
 induction r with
 | nil => simp
 | cons s r ih =>
  have h1 := h s (by simp)
  have := ih fun x hx => h x (by simp [hx])
  rw [List.flatMap_cons, List.length_append, List.length_cons, Nat.mul_succ]; omega
end Go.Proofs
