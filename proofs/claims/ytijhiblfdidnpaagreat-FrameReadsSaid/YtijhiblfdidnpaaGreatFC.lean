/- A part of the proof; what is proved stands in the last text. -/
import Derived.Test.YtijhiblfdidnpaaGreatFB
set_option linter.unusedVariables false
set_option maxRecDepth 2000
namespace Go.Proofs
open Go.Vm
set_option linter.unusedSimpArgs false
def entB (x : EntM) : List UInt8 := encB x.id.toNat ++ (encB x.slack ++ filterB x.f)
def frameB (f : FrM) : List UInt8 :=
 if f.pub then 1 :: (encB f.id.toNat ++ (encB f.client.toNat ++ eventB f.e)) else 0 :: (encB f.adds.length ++ (f.adds.flatMap entB ++ (encB f.rems.length ++ numsB f.rems)))
def printX (f : FrM) : List UInt8 × Int := if mayX f = true then (frameB f, 0) else ([], 1)
theorem cnt_in {n : Int} (h : cntM n = true) : 0 ≤ n ∧ n ≤ 1099511627776 := by simpa [cntM] using h
theorem entB_len {x : EntM} (h : okEnt x = true) (hb : ∀ b ∈ x.f, BndB b) (hs : x.slack < 18446744073709551616) : (entB x).length ≤ 5030 := by
 simp only [okEnt, Bool.and_eq_true] at h
 have h1 := cnt_in h.1
 have q1 := (encB_len (n := x.id.toNat) (by omega)).1
 have q2 := (encB_len (n := x.slack) hs).1
 have q3 := filterB_len hb h.2.1
 simp only [entB, List.length_append]; omega
theorem may_pub {f : FrM} (h : mayX f = true) (hp : f.pub = true) : cntM f.id = true ∧ cntM f.client = true ∧ rightE f.e = true ∧ f.adds = [] ∧ f.rems = [] := by
 simp only [mayX, if_pos hp, Bool.and_eq_true, decide_eq_true_eq, List.length_eq_zero_iff] at h
 exact h
theorem may_tab {f : FrM} (h : mayX f = true) (hp : f.pub = false) : (∀ x ∈ f.adds, okEnt x = true) ∧ eqPub f zFr = true ∧ ∀ n ∈ f.rems, cntM n = true := by
 simp only [mayX, hp, Bool.false_eq_true, if_false, Bool.and_eq_true, List.all_eq_true] at h
 exact h
set_option maxHeartbeats 8000000 in
theorem kfPrint (f : FrM) (hB : FrB f) : PureAt Tryz.prog 9 [.agg (frC f)] (· = encP (printX f)) := by
 have na := hB.na
 have nr := hB.nr
 refine pure_of_hid (H := BH) (s := none) r9 (by kernel_rfl) BH0 ?_
 unfold m9
 simp only [frC, go_sem, Nat.reduceEqDiff, Nat.reduceAdd]
 have p0 := kmay f hB
 unfold frC at p0
 refine callP_eq rfl rfl p0 ?_
 cases d0 : mayX f
 ·have hx : printX f = ([], 1) := by rw [printX, if_neg (by rw [d0]; simp)]
  rw [hx]
  simp only [Bool.not_false, encP, go_sem, Nat.reduceEqDiff]
  rfl
 have hx : printX f = (frameB f, 0) := by rw [printX, if_pos d0]
 rw [hx]
 simp only [Bool.not_true, encP, go_sem, Nat.reduceEqDiff]
 obtain ⟨i0, z0, hi0, hz0, hzd, hzc⟩ := infoBld
 refine ⟨rfl, i0, z0, hi0, hz0, hzd, fun b => ⟨some (b, []), ⟨rfl, rfl, hzc, rfl⟩, ?_⟩⟩
 cases d1 : f.pub
 rotate_left
 ·obtain ⟨m1, m2, m3, m4, m5⟩ := may_pub d0 d1
  have c1' := cnt_in m1
  have c2' := cnt_in m2
  have wv := wvE hB.ie m3
  have lv := valsB_len wv 4 (by omega)
  have q1 := (encB_len (n := f.id.toNat) (by omega)).1
  have q2 := (encB_len (n := f.client.toNat) (by omega)).1
  simp only [go_sem, Nat.reduceEqDiff, Nat.reduceAdd]
  refine callH_eq rfl rfl rfl (kWB' b [] 1 (by omega) (by simp)) ?_
  simp only [go_sem, Nat.reduceEqDiff, Nat.reduceAdd, Nat.reduceLeDiff]
  refine callH_eq rfl rfl rfl (knums b _ [f.id, f.client] (by simp) (by intro n hn; simp at hn; rcases hn with rfl | rfl <;> assumption) (by simp)) ?_
  simp only [go_sem, Nat.reduceEqDiff, Nat.reduceAdd, Nat.reduceLeDiff]
  have p3 := kPutEvent f.e wv
  unfold evC at p3
  refine callP_eq rfl rfl p3 ?_
  simp only [go_sem, Nat.reduceEqDiff]
  refine callH_eq rfl rfl rfl (kWS' b _ (eventB f.e) (by unfold eventB; omega) (by simp [numsB]; omega)) ?_
  simp only [go_sem, Nat.reduceEqDiff]
  refine callH_eq rfl rfl rfl (kBS b _ (fun h => by simp at h)) ?_
  simp only [go_sem, Nat.reduceEqDiff]
  simp only [frameB, if_pos d1, numsB]
  simp
  rfl
 obtain ⟨m1, m2, m3⟩ := may_tab d0 d1
 simp only [go_sem, Nat.reduceEqDiff, Nat.reduceAdd]
 refine callH_eq rfl rfl rfl (kWB' b [] 0 (by omega) (by simp)) ?_
 simp only [go_sem, Nat.reduceEqDiff, Nat.reduceAdd, Nat.reduceLeDiff, List.length_map]
 refine callH_eq rfl rfl rfl (knums b _ [(f.adds.length : Int)] (by simp) (by intro n hn; simp at hn; subst hn; simp [cntM]; omega) (by simp)) ?_
 simp only [go_sem, Nat.reduceEqDiff, Nat.reduceAdd, List.length_map]
 have q1 := (encB_len (n := f.adds.length) (by omega)).1
 have q2 := (encB_len (n := f.rems.length) (by omega)).1
 generalize hl1 : [] ++ [UInt8.ofNat 0] ++ numsB [(f.adds.length : Int)] = l1
 have len1 : l1.length ≤ 100 := by rw [← hl1]; simp [numsB]; omega
 have fl : ∀ i, ((f.adds.take i).flatMap entB).length ≤ 5030 * 100000 := fun i => Nat.le_trans (flat_len _ (fun x hx => entB_len (m1 x (List.mem_of_mem_take hx)) (hB.ba x (List.mem_of_mem_take hx)) (hB.sa x (List.mem_of_mem_take hx)))) (Nat.mul_le_mul_left _ (by rw [List.length_take]; omega))
 refine loop_NH f.adds.length (fun _ => True) (fun i => ⟨[(1, .rp none (frC f) 0), (4, .val (.pointer (some ⟨b, 0, none⟩))), (43, .sl none (f.adds.map entC)), (44, .val (.int .i64 f.adds.length)), (45, .val (.int .i64 i))], [], []⟩) (fun i => some (b, l1 ++ (f.adds.take i).flatMap entB)) trivial (by simp only [frC, d1, go_sem, Nat.reduceEqDiff]; rfl) (by rw [← hl1]; simp) ?_
 rintro i hil -
 have hfi := fl i
 simp only [frC, go_sem, Nat.reduceEqDiff]
 refine condE_split (fun h => ?_) (fun h => ?_)
 ·have hi' : i < f.adds.length := by simpa using h
  have hup := up64 (show i < 1000000 by omega)
  have g1 := get_entC hi'
  have hm := entD_mem hi'
  have hnx : (f.adds.take (i + 1)).flatMap entB = (f.adds.take i).flatMap entB ++ entB (f.adds.getD i zEnt) := by
   rw [List.take_succ_eq_append_getElem hi', List.flatMap_append]; simp [hi']
  simp only [nn0, Int.toNat_natCast, g1, entC, go_sem, Nat.reduceEqDiff, Nat.reduceAdd, Nat.reduceLeDiff]
  generalize f.adds.getD i zEnt = x at *
  have hx := m1 x hm
  have hbx := hB.ba x hm
  have hsx := hB.sa x hm
  simp only [okEnt, Bool.and_eq_true] at hx
  have wf := wsmF hbx hx.2.1
  have q3 := (encB_len (n := x.id.toNat) (by have := cnt_in hx.1; omega)).1
  have q4 := (encB_len (n := x.slack) hsx).1
  have q5 := filterB_len hbx hx.2.1
  refine callH_eq rfl rfl rfl (knums b _ [x.id] (by simp) (by intro n hn; simp at hn; subst hn; exact hx.1) (by simp only [List.length_append]; omega)) ?_
  simp only [go_sem, Nat.reduceEqDiff, Nat.reduceAdd]
  refine callQ_by _ rfl rfl (kcUintS x.slack hsx) ?_
  simp only [go_sem, Nat.reduceEqDiff, Nat.reduceAdd]
  refine callQ_by _ rfl rfl (kPutFilter x.f (by omega) wf.2) ?_
  have hsz : ((lb (encB x.slack)).size + (lb (filterB x.f)).size ≤ 9223372036854775807) = True := by rw [size_lb, size_lb]; simp; omega
  simp only [hsz, if_true, app_lb2, go_sem, Nat.reduceEqDiff]
  have e1 : (numsB [x.id]).length = (encB x.id.toNat).length := by simp [numsB]
  have e2 : (l1 ++ (f.adds.take i).flatMap entB ++ numsB [x.id]).length ≤ 1000000000 := by
   simp only [List.length_append]; omega
  refine callH_eq rfl rfl rfl (kWS' b _ (encB x.slack ++ filterB x.f) (by simp only [List.length_append]; omega) (Nat.le_trans e2 (by omega))) ?_
  simp only [hup, go_sem, Nat.reduceEqDiff]
  refine invH_next hi' trivial (by simp only [go_sem, Nat.reduceEqDiff]) ?_
  rw [hnx]; simp [entB, numsB]
 ·have hil' : i = f.adds.length := by simp at h; omega
  subst hil'
  simp only [go_sem, Nat.reduceEqDiff, Nat.reduceAdd, Nat.reduceLeDiff, List.length_map]
  refine callH_eq rfl rfl rfl (knums b _ [(f.rems.length : Int)] (by simp) (by intro n hn; simp at hn; subst hn; simp [cntM]; omega) (by simp only [List.length_append]; omega)) ?_
  simp only [go_sem, Nat.reduceEqDiff, Nat.reduceAdd]
  have e1 : (numsB [(f.rems.length : Int)]).length = (encB f.rems.length).length := by simp [numsB]
  have e2 : (l1 ++ f.adds.flatMap entB ++ numsB [(f.rems.length : Int)]).length ≤ 1000000000 := by
   rw [List.take_length] at hfi; simp only [List.length_append]; omega
  rw [List.take_length]
  refine callH_eq rfl rfl rfl (knums b _ f.rems nr m3 e2) ?_
  simp only [go_sem, Nat.reduceEqDiff]
  refine callH_eq rfl rfl rfl (kBS b _ (fun h => by rw [← hl1] at h; simp at h)) ?_
  simp only [go_sem, Nat.reduceEqDiff]
  rw [← hl1]
  simp only [frameB, d1, Bool.false_eq_true, if_false]
  simp [numsB]
  rfl
end Go.Proofs

namespace Go.Proofs
open Go.Vm
set_option linter.unusedSimpArgs false
end Go.Proofs
