/- A part of the proof; what is proved stands in the last text. -/
import Derived.Test.YtaoppmjidjdgdaaT337
set_option linter.unusedVariables false
set_option maxRecDepth 2000
namespace Go.Proofs
open Go.Vm
set_option linter.unusedSimpArgs false
def thR (L : List SEnt) : List (List D) := L.map fun x => [.val (.int .i64 x.id), .val (.bool true)]
theorem len_thR (L : List SEnt) : (thR L).length = L.length := by simp [thR]
theorem findE_thR (k : Int) : ∀ (L : List SEnt) (i0 : Nat), findE [.i] (.val (.int .i64 k)) (thR L) i0 = some (if L.any (fun x => x.id == k) = true then some (i0 + L.findIdx (fun x => x.id == k), .val (.bool true)) else none)
 | [], i0 => rfl
 | x :: L, i0 => by
  have e : findE [.i] (.val (.int .i64 k)) (thR (x :: L)) i0 = match (some (k == x.id) : Option Bool) with | some true => some (some (i0, .val (.bool true))) | some false => findE [.i] (.val (.int .i64 k)) (thR L) (i0 + 1) | none => none := rfl
  rw [e]
  by_cases h : x.id = k
  ·have h1 : (k == x.id) = true := by simp [h]
   have h2 : (x.id == k) = true := by simp [h]
   rw [h1]
   simp [List.findIdx_cons, h2]
  ·have h1 : (k == x.id) = false := by simpa using fun e => h e.symm
   have h2 : (x.id == k) = false := by simpa using h
   rw [h1]
   simp only [findE_thR k L (i0 + 1), List.any_cons, h2, Bool.false_or, List.findIdx_cons, cond_false]
   split <;> simp [Nat.add_assoc, Nat.add_comm 1]
def bxS (n : Int) (L : List SEnt) : List D := [.val (.int .i64 n), .sl (some (20, 44, 3)) (L.map entS), .mh 10502001, .sl (some (502001, 3, 1)) []]
def hpR (n : Int) (L : List SEnt) : List (Nat × List D) := [(20, bxS n L), (10000021, [.mpc (thR L), .undef, .undef]), (10502001, [.mpc [], .undef, .undef])]
def tgR : List (Tag × Bool) := [((20, 44, 3), true), ((502001, 3, 1), true)]
def stR (ops : List OpM) (n : Int) (L : List SEnt) (i : Nat) : St := ⟨[(3, .ptr 20 0), (4, .val (.int .i64 n)), (5, .mh 10000021), (22, .sl none (ops.map opC)), (23, .val (.int .i64 ops.length)), (24, .val (.int .i64 i))], hpR n L, tgR⟩
structure SesOk (n : Int) (L : List SEnt) (i : Nat) : Prop where
 n0 : 0 ≤ n
 n1 : n ≤ i
 len : L.length ≤ 6
 few : FewE L
 inc : L.Pairwise (fun a b => a.id < b.id)
 ids : ∀ x ∈ L, 1 ≤ x.id ∧ x.id ≤ n
theorem inc_at {L : List SEnt} (h : L.Pairwise (fun a b => a.id < b.id)) {k : Nat} (hk : k + 1 < L.length) : (L.getD k ent0).id < (L.getD (k + 1) ent0).id := by
 rw [eget (by omega), eget hk]
 exact List.pairwise_iff_getElem.1 h k (k + 1) (by omega) hk (by omega)
theorem iaddr_ent {L : List SEnt} {k : Nat} (hk : k < L.length) : iaddrSD 3 (.sl none (L.map entS)) (.val (.int .i64 (k : Int))) = some (.rp none (entS (L.getD k ent0)) 0) := by
 simp only [iaddrSD, Int.toNat_natCast, get_entS hk, len_entS, Int.natCast_nonneg, if_true, Option.map_none]
theorem any_at {L : List SEnt} {x : SEnt} (h : x ∈ L) : (L.any fun y => y.id == x.id) = true := List.any_eq_true.2 ⟨x, h, by simp⟩
theorem pos1 (k : Nat) : decide (((k + 1 : Nat) : Int) > 0) = true := by simp
set_option maxHeartbeats 4000000 in
set_option maxRecDepth 4000 in
theorem tail_ok (ops : List OpM) (n : Int) (L : List SEnt) (i m : Nat) (h : SesOk n L m) {Q : Ex → St → Prop} (hQ : ∀ S, S.trim [3, 4, 5, 22, 23, 24] [20, 10000021, 10502001] [(20, 44, 3), (502001, 3, 1)] = stR ops n L i → Q .normal S) : ev Try.prog tlS (stR ops n L i) Q := by
 have hlen := h.len
 have h6 : decide ((L.length : Int) > 6) = false := by simp; omega
 have h6' : ((L.length : Int) > 6) = False := by simp; omega
 unfold tlS
 simp only [stR, hpR, bxS, tgR, go_sem, Nat.reduceEqDiff, Nat.reduceAdd, Nat.reduceLeDiff, List.length_map, Int.reduceLT, Int.reduceLE, Int.reduceToNat, Int.toNat_zero, Int.le_refl, Int.reduceAdd, decide_true, decide_false, Nat.reduceMul, Nat.reduceLT, Nat.lt_irrefl, true_and, and_self, ↓reduceIte]
 refine callO_eq rfl rfl rfl rfl rfl (ksActive n L [] (by omega)) ?_
 simp only [hpS, sBox, tE, tInt, tgS, seenR, List.map_nil, len_thR, bne_self_eq_false, h6, h6', go_sem, Nat.reduceEqDiff, Nat.reduceAdd, Nat.reduceLeDiff, List.length_map, Int.reduceLT, Int.reduceLE, Int.reduceToNat, Int.toNat_zero, Int.le_refl, Int.reduceAdd, decide_true, decide_false, Nat.reduceMul, Nat.reduceLT, Nat.lt_irrefl, true_and, and_self, ↓reduceIte]
 refine loop_N L.length (fun _ => True) (fun j => ⟨[(3, .ptr 20 0), (4, .val (.int .i64 n)), (5, .mh 10000021), (10, .sl none (L.map entS)), (22, .sl none (ops.map opC)), (23, .val (.int .i64 ops.length)), (24, .val (.int .i64 i)), (87, .sl none (L.map entS)), (88, .val (.int .i64 L.length)), (89, .val (.int .i64 j))], hpR n L, tgR⟩) trivial (by simp only [hpR, bxS, tgR, go_sem, Nat.reduceEqDiff, Nat.reduceAdd, Nat.reduceLeDiff, List.length_map, Int.reduceLT, Int.reduceLE, Int.reduceToNat, Int.toNat_zero, Int.le_refl, Int.reduceAdd, decide_true, decide_false, Nat.reduceMul, Nat.reduceLT, Nat.lt_irrefl, true_and, and_self, ↓reduceIte]; rfl) ?_
 intro j hj _
 simp only [hpR, bxS, tgR, go_sem, Nat.reduceEqDiff, Nat.reduceAdd, Nat.reduceLeDiff, List.length_map, Int.reduceLT, Int.reduceLE, Int.reduceToNat, Int.toNat_zero, Int.le_refl, Int.reduceAdd, decide_true, decide_false, Nat.reduceMul, Nat.reduceLT, Nat.lt_irrefl, true_and, and_self, ↓reduceIte]
 refine condE_split (fun hc => ?_) (fun hc => ?_)
 ·have hj' : j < L.length := by simpa using hc
  have hup := up64 (show j < 1000000 by omega)
  have hm := egetm hj'
  have hfind := findE_thR (L.getD j ent0).id L 0
  rw [if_pos (any_at hm)] at hfind
  simp only [nn0, Int.toNat_natCast, get_entS hj', entS, go_sem, Nat.reduceEqDiff, Nat.reduceAdd, Nat.reduceLeDiff, List.length_map, Int.reduceLT, Int.reduceLE, Int.reduceToNat, Int.toNat_zero, Int.le_refl, Int.reduceAdd, decide_true, decide_false, Nat.reduceMul, Nat.reduceLT, Nat.lt_irrefl, true_and, and_self, ↓reduceIte]
  refine dany_at (q := _) rfl ?_
  refine por_s 0 rfl (by kernel_rfl) trim_ex rfl rfl rfl rfl rfl ?_
  refine por_s 1 rfl (by kernel_rfl) trim_ex rfl rfl rfl rfl rfl ?_
  refine por_l 2 rfl (by kernel_rfl) trim_ex rfl rfl rfl rfl rfl ?_
  refine any_1 3 _ rfl rfl ?_
  refine v_mget_by _ rfl rfl rfl rfl rfl hfind ?_
  refine any_q 4 _ (.val (.bool false)) rfl rfl rfl ?_
  refine any_q 5 _ _ rfl rfl rfl ?_
  refine any_q 6 _ _ rfl rfl rfl ?_
  refine any_q 7 _ _ rfl rfl rfl ?_
  refine any_q 8 _ (.val (.bool false)) rfl rfl rfl ?_
  refine any_q 9 _ (.val (.bool false)) rfl rfl rfl ?_
  refine any_q 10 _ _ rfl rfl rfl ?_
  refine any_q 11 _ _ rfl rfl rfl ?_
  rcases Nat.eq_zero_or_pos j with h0 | h0
  ·subst h0
   refine any_q 12 _ (.val (.bool false)) rfl rfl rfl ?_
   refine any_q 13 _ _ rfl rfl rfl ?_
   refine por_f 15 rfl (by kernel_rfl) trim_ex rfl rfl ?_
   refine por_f 16 rfl (by kernel_rfl) trim_ex rfl rfl ?_
   refine por_f 20 rfl (by kernel_rfl) trim_ex rfl rfl ?_
   refine por_f 21 rfl (by kernel_rfl) trim_ex rfl rfl ?_
   refine any_f 14 _ rfl rfl ?_
   refine any_f 17 _ rfl rfl ?_
   refine any_f 18 _ rfl rfl ?_
   refine any_f 19 _ rfl rfl ?_
   refine any_f 22 _ rfl rfl ?_
   refine any_q 23 _ (.val (.bool false)) rfl rfl rfl ?_
   refine any_q 24 _ (.val (.bool false)) rfl rfl rfl ?_
   simp only [hup, go_sem, Nat.reduceEqDiff, Nat.reduceAdd, Nat.reduceLeDiff, List.length_map, Int.reduceLT, Int.reduceLE, Int.reduceToNat, Int.toNat_zero, Int.le_refl, Int.reduceAdd, decide_true, decide_false, Nat.reduceMul, Nat.reduceLT, Nat.lt_irrefl, true_and, and_self, ↓reduceIte]
   exact invN_next hj' trivial (by simp only [hpR, bxS, tgR, go_sem, Nat.reduceEqDiff, Nat.reduceAdd, Nat.reduceLeDiff, List.length_map, Int.reduceLT, Int.reduceLE, Int.reduceToNat, Int.toNat_zero, Int.le_refl, Int.reduceAdd, decide_true, decide_false, Nat.reduceMul, Nat.reduceLT, Nat.lt_irrefl, true_and, and_self, ↓reduceIte])
  ·obtain ⟨k, rfl⟩ : ∃ k, j = k + 1 := ⟨j - 1, by omega⟩
   have hw : IntKind.i64.wrap (((k + 1 : Nat) : Int) - 1) = (k : Int) := by rw [wrap64 (by omega) (by omega)]; omega
   have hlt : decide ((L.getD k ent0).id ≥ (L.getD (k + 1) ent0).id) = false := by
    have := inc_at h.inc hj'
    exact decide_eq_false (by omega)
   refine any_q 12 _ (.val (.bool true)) rfl rfl (congrArg (fun b => some (D.val (Value.bool b))) (pos1 k)) ?_
   refine any_q 13 _ _ rfl rfl rfl ?_
   refine por_s 15 rfl (by kernel_rfl) trim_ex rfl rfl rfl rfl rfl ?_
   refine por_s 16 rfl (by kernel_rfl) trim_ex rfl rfl rfl (congrArg (fun b => some (D.val (Value.int .i64 b))) hw) rfl ?_
   refine por_s 20 rfl (by kernel_rfl) trim_ex rfl rfl rfl rfl rfl ?_
   refine por_l 21 rfl (by kernel_rfl) trim_ex rfl rfl rfl rfl rfl ?_
   refine any_q 14 _ _ rfl rfl rfl ?_
   refine any_q 17 _ _ rfl rfl (iaddr_ent (L := L) (k := k) (by omega)) ?_
   refine any_q 18 _ _ rfl rfl rfl ?_
   refine any_q 19 _ _ rfl rfl rfl ?_
   refine any_q 22 _ (.val (.bool false)) rfl rfl (congrArg (fun b => some (D.val (Value.bool b))) hlt) ?_
   refine any_q 23 _ (.val (.bool false)) rfl rfl rfl ?_
   refine any_q 24 _ (.val (.bool false)) rfl rfl rfl ?_
   simp only [hup, go_sem, Nat.reduceEqDiff, Nat.reduceAdd, Nat.reduceLeDiff, List.length_map, Int.reduceLT, Int.reduceLE, Int.reduceToNat, Int.toNat_zero, Int.le_refl, Int.reduceAdd, decide_true, decide_false, Nat.reduceMul, Nat.reduceLT, Nat.lt_irrefl, true_and, and_self, ↓reduceIte]
   exact invN_next hj' trivial (by simp only [hpR, bxS, tgR, go_sem, Nat.reduceEqDiff, Nat.reduceAdd, Nat.reduceLeDiff, List.length_map, Int.reduceLT, Int.reduceLE, Int.reduceToNat, Int.toNat_zero, Int.le_refl, Int.reduceAdd, decide_true, decide_false, Nat.reduceMul, Nat.reduceLT, Nat.lt_irrefl, true_and, and_self, ↓reduceIte])
 ·have hj' : j = L.length := by simp at hc; omega
  subst hj'
  simp only [hpR, bxS, tgR, go_sem, Nat.reduceEqDiff, Nat.reduceAdd, Nat.reduceLeDiff, List.length_map, Int.reduceLT, Int.reduceLE, Int.reduceToNat, Int.toNat_zero, Int.le_refl, Int.reduceAdd, decide_true, decide_false, Nat.reduceMul, Nat.reduceLT, Nat.lt_irrefl, true_and, and_self, ↓reduceIte]
  refine hQ _ ?_
  simp only [stR, hpR, bxS, tgR, go_sem, Nat.reduceEqDiff, Nat.reduceAdd, Nat.reduceLeDiff, List.length_map, Int.reduceLT, Int.reduceLE, Int.reduceToNat, Int.toNat_zero, Int.le_refl, Int.reduceAdd, decide_true, decide_false, Nat.reduceMul, Nat.reduceLT, Nat.lt_irrefl, true_and, and_self, ↓reduceIte]
end Go.Proofs
