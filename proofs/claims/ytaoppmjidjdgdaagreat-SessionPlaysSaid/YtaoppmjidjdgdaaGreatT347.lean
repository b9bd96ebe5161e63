/- A part of the proof; what is proved stands in the last text. -/
import Derived.Test.YtaoppmjidjdgdaaGreatT334
import Derived.Test.YtaoppmjidjdgdaaGreatT337
import Derived.Test.YtaoppmjidjdgdaaGreatMP
set_option linter.unusedVariables false
set_option maxRecDepth 2000
namespace Go.Proofs
open Go.Vm
set_option linter.unusedSimpArgs false
def hpW (N : Int) (L : List SEnt) (G : List Int) : List (Nat × List D) := [(1000000, [.val (.int .i64 N), .sl none (L.map entS), .sl (some tInt) (G.map intS)])]
def tgW : List (Tag × Bool) := [(tInt, true)]
set_option maxHeartbeats 4000000 in
theorem kwHas (N : Int) (L : List SEnt) (G : List Int) (e : EvM) (hl : L.length ≤ 100000) (hf : FewE L) : ObjAt Tryz.prog 19 ⟨[(0, .ptr 1000000 0), (1, .agg (evC e))], hpW N L G, tgW⟩ 2 (fun r hp tg => r = .val (.bool (hasL L e)) ∧ hp = hpW N L G ∧ tg = tgW) := by
 refine obj_of [1000000] [tInt] r19 (by kernel_rfl) ?_
 unfold m19
 simp only [hpW, tgW, tInt, evC, go_sem, Nat.reduceEqDiff, Nat.reduceAdd, Nat.reduceLeDiff, List.length_map, Int.reduceLT, Int.reduceLE, Int.reduceToNat, Int.toNat_zero, Int.le_refl, Int.reduceAdd, decide_true, decide_false, Nat.reduceMul, Nat.reduceLT, Nat.lt_irrefl, true_and, and_self, ↓reduceIte]
 refine loop_N L.length (fun i => ∀ j, j < i → hasF (L.getD j ent0).f e = false) (fun i => ⟨[(0, .ptr 1000000 0), (3, .rp none (evC e) 0), (5, .val (.int .i64 i))], hpW N L G, tgW⟩) (fun j hj => by omega) (by simp only [hpW, tgW, tInt, evC, go_sem, Nat.reduceEqDiff, Nat.reduceAdd, Nat.reduceLeDiff, List.length_map, Int.reduceLT, Int.reduceLE, Int.reduceToNat, Int.toNat_zero, Int.le_refl, Int.reduceAdd, decide_true, decide_false, Nat.reduceMul, Nat.reduceLT, Nat.lt_irrefl, true_and, and_self, ↓reduceIte]; rfl) ?_
 intro i hil hp
 simp only [hpW, tgW, tInt, evC, go_sem, Nat.reduceEqDiff, Nat.reduceAdd, Nat.reduceLeDiff, List.length_map, Int.reduceLT, Int.reduceLE, Int.reduceToNat, Int.toNat_zero, Int.le_refl, Int.reduceAdd, decide_true, decide_false, Nat.reduceMul, Nat.reduceLT, Nat.lt_irrefl, true_and, and_self, ↓reduceIte]
 refine condE_split (fun hc => ?_) (fun hc => ?_)
 ·have hi' : i < L.length := by simpa using hc
  have hup := up64 (show i < 1000000 by omega)
  have hm := hf _ (egetm hi')
  simp only [nn0, Int.toNat_natCast, get_entS hi', entS, go_sem, Nat.reduceEqDiff, Nat.reduceAdd, Nat.reduceLeDiff, List.length_map, Int.reduceLT, Int.reduceLE, Int.reduceToNat, Int.toNat_zero, Int.le_refl, Int.reduceAdd, decide_true, decide_false, Nat.reduceMul, Nat.reduceLT, Nat.lt_irrefl, true_and, and_self, ↓reduceIte]
  refine callQ_by _ rfl rfl (kref6Has _ e hm.1 (fun b hb => few_of (hm.2.1 b hb))) ?_
  cases h2 : hasF (L.getD i ent0).f e
  ·simp only [hup, go_sem, Nat.reduceEqDiff, Nat.reduceAdd, Nat.reduceLeDiff, List.length_map, Int.reduceLT, Int.reduceLE, Int.reduceToNat, Int.toNat_zero, Int.le_refl, Int.reduceAdd, decide_true, decide_false, Nat.reduceMul, Nat.reduceLT, Nat.lt_irrefl, true_and, and_self, ↓reduceIte]
   exact invN_next hi' (nextP hp h2) (by simp only [hpW, tgW, tInt, evC, go_sem, Nat.reduceEqDiff, Nat.reduceAdd, Nat.reduceLeDiff, List.length_map, Int.reduceLT, Int.reduceLE, Int.reduceToNat, Int.toNat_zero, Int.le_refl, Int.reduceAdd, decide_true, decide_false, Nat.reduceMul, Nat.reduceLT, Nat.lt_irrefl, true_and, and_self, ↓reduceIte])
  ·simp only [hpW, tgW, tInt, go_sem, Nat.reduceEqDiff, Nat.reduceAdd, Nat.reduceLeDiff, List.length_map, Int.reduceLT, Int.reduceLE, Int.reduceToNat, Int.toNat_zero, Int.le_refl, Int.reduceAdd, decide_true, decide_false, Nat.reduceMul, Nat.reduceLT, Nat.lt_irrefl, true_and, and_self, ↓reduceIte]
   have : hasL L e = true := List.any_eq_true.2 ⟨_, egetm hi', h2⟩
   rw [this]
 ·have hil' : i = L.length := by simp at hc; omega
  subst hil'
  simp only [hpW, tgW, tInt, go_sem, Nat.reduceEqDiff, Nat.reduceAdd, Nat.reduceLeDiff, List.length_map, Int.reduceLT, Int.reduceLE, Int.reduceToNat, Int.toNat_zero, Int.le_refl, Int.reduceAdd, decide_true, decide_false, Nat.reduceMul, Nat.reduceLT, Nat.lt_irrefl, true_and, and_self, ↓reduceIte]
  have : hasL L e = false := by
   unfold hasL
   rw [List.any_eq_false]
   intro x hx
   obtain ⟨j, hj, rfl⟩ := List.getElem_of_mem hx
   have := hp j hj
   rw [eget hj] at this
   simp [this]
  rw [this]
set_option maxHeartbeats 4000000 in
theorem kwAdd (N : Int) (L : List SEnt) (G : List Int) (f : List BoxM) (hn : 0 ≤ N ∧ N ≤ 1000000) (hl : L.length ≤ 100000) (h1 : f.length ≤ 10000) (h2 : ∀ b ∈ f, FewB 900 b) (h3 : ∀ b ∈ f, BndB b) : ObjAt Tryz.prog 14 ⟨[(0, .ptr 1000000 0), (1, .sl none (f.map boxC))], hpW N L G, tgW⟩ 2
    (fun r hp tg => r = .tup [.val (.int .i64 (addN N L f).1), .val (.int .i64 (addN N L f).2)] ∧ hp = hpW (if (addN N L f).2 = 0 then N + 1 else N) (addL N L f) G ∧ tg = tgW) := by
 refine obj_of [1000000] [tInt] r14 (by kernel_rfl) ?_
 unfold m14
 simp only [hpW, tgW, tInt, go_sem, Nat.reduceEqDiff, Nat.reduceAdd, Nat.reduceLeDiff, List.length_map, Int.reduceLT, Int.reduceLE, Int.reduceToNat, Int.toNat_zero, Int.le_refl, Int.reduceAdd, decide_true, decide_false, Nat.reduceMul, Nat.reduceLT, Nat.lt_irrefl, true_and, and_self, ↓reduceIte]
 refine callP_eq rfl rfl (kref6Right f h1 (fun b hb => few_of (h2 b hb)) h3) ?_
 unfold addL addN
 cases hr : rightF f
 ·simp only [hpW, tgW, tInt, go_sem, Nat.reduceEqDiff, Nat.reduceAdd, Nat.reduceLeDiff, List.length_map, Int.reduceLT, Int.reduceLE, Int.reduceToNat, Int.toNat_zero, Int.le_refl, Int.reduceAdd, decide_true, decide_false, Nat.reduceMul, Nat.reduceLT, Nat.lt_irrefl, true_and, and_self, ↓reduceIte]
  rfl
 by_cases h6 : 6 ≤ L.length
 ·simp only [hpW, tgW, tInt, ge_iff_le, ge6, h6, go_sem, Nat.reduceEqDiff, Nat.reduceAdd, Nat.reduceLeDiff, List.length_map, Int.reduceLT, Int.reduceLE, Int.reduceToNat, Int.toNat_zero, Int.le_refl, Int.reduceAdd, decide_true, decide_false, Nat.reduceMul, Nat.reduceLT, Nat.lt_irrefl, true_and, and_self, ↓reduceIte]
  rfl
 ·have hw : IntKind.i64.wrap (N + 1) = N + 1 := wrap64 (by omega) (by omega)
  simp only [hpW, tgW, tInt, ge_iff_le, ge6, h6, hw, List.length_append, List.nil_append, St.fzC, go_sem, Nat.reduceEqDiff, Nat.reduceAdd, Nat.reduceLeDiff, List.length_map, Int.reduceLT, Int.reduceLE, Int.reduceToNat, Int.toNat_zero, Int.le_refl, Int.reduceAdd, decide_true, decide_false, Nat.reduceMul, Nat.reduceLT, Nat.lt_irrefl, true_and, and_self, ↓reduceIte]
  refine ⟨entS_rows L, by omega, by omega, entS_rows L, by rintro y rfl; rfl, by omega, by omega, ?_, rfl⟩
  rw [List.map_append]
  rfl
theorem all_entS (L : List SEnt) : ((L.map entS).all fun e => e.length == 3) = true := by
 rw [List.all_eq_true]
 intro e he
 rw [entS_rows L e he]; rfl
theorem rem_at {L : List SEnt} {k : Int} {i : Nat} (hi : i < L.length) (h2 : ((L.getD i ent0).id == k) = true) (hp : ∀ j, j < i → ((L.getD j ent0).id == k) = false) : L.any (fun x => x.id == k) = true ∧ remL L k = L.eraseIdx i := by
 have ha : L.any (fun x => x.id == k) = true := List.any_eq_true.2 ⟨_, egetm hi, h2⟩
 refine ⟨ha, ?_⟩
 rw [remL, if_pos ha]
 have := (List.findIdx_eq (p := fun x : SEnt => x.id == k) hi).2 ⟨by rw [← eget hi]; exact h2, fun j hj => by have := hp j hj; rw [eget (by omega)] at this; simp [this]⟩
 rw [this]
set_option maxHeartbeats 4000000 in
theorem kwRemove (N : Int) (L : List SEnt) (G : List Int) (k : Int) (hl : L.length ≤ 100000) : ObjAt Tryz.prog 15 ⟨[(0, .ptr 1000000 0), (1, .val (.int .i64 k))], hpW N L G, tgW⟩ 2
    (fun r hp tg => r = .val (.int .i64 (if L.any (fun x => x.id == k) = true then 0 else 5)) ∧ hp = hpW N (remL L k) G ∧ tg = tgW) := by
 refine obj_of [1000000] [tInt] r15 (by kernel_rfl) ?_
 unfold m15
 simp only [hpW, tgW, tInt, go_sem, Nat.reduceEqDiff, Nat.reduceAdd, Nat.reduceLeDiff, List.length_map, Int.reduceLT, Int.reduceLE, Int.reduceToNat, Int.toNat_zero, Int.le_refl, Int.reduceAdd, decide_true, decide_false, Nat.reduceMul, Nat.reduceLT, Nat.lt_irrefl, true_and, and_self, ↓reduceIte]
 refine loop_N L.length (fun i => ∀ j, j < i → ((L.getD j ent0).id == k) = false) (fun i => ⟨[(0, .ptr 1000000 0), (1, .val (.int .i64 k)), (5, .val (.int .i64 i))], hpW N L G, tgW⟩) (fun j hj => by omega) (by simp only [hpW, tgW, tInt, go_sem, Nat.reduceEqDiff, Nat.reduceAdd, Nat.reduceLeDiff, List.length_map, Int.reduceLT, Int.reduceLE, Int.reduceToNat, Int.toNat_zero, Int.le_refl, Int.reduceAdd, decide_true, decide_false, Nat.reduceMul, Nat.reduceLT, Nat.lt_irrefl, true_and, and_self, ↓reduceIte]; rfl) ?_
 intro i hil hp
 simp only [hpW, tgW, tInt, go_sem, Nat.reduceEqDiff, Nat.reduceAdd, Nat.reduceLeDiff, List.length_map, Int.reduceLT, Int.reduceLE, Int.reduceToNat, Int.toNat_zero, Int.le_refl, Int.reduceAdd, decide_true, decide_false, Nat.reduceMul, Nat.reduceLT, Nat.lt_irrefl, true_and, and_self, ↓reduceIte]
 refine condE_split (fun hc => ?_) (fun hc => ?_)
 ·have hi' : i < L.length := by simpa using hc
  have hup := up64 (show i < 1000000 by omega)
  simp only [nn0, Int.toNat_natCast, get_entS hi', entS, go_sem, Nat.reduceEqDiff, Nat.reduceAdd, Nat.reduceLeDiff, List.length_map, Int.reduceLT, Int.reduceLE, Int.reduceToNat, Int.toNat_zero, Int.le_refl, Int.reduceAdd, decide_true, decide_false, Nat.reduceMul, Nat.reduceLT, Nat.lt_irrefl, true_and, and_self, ↓reduceIte]
  cases h2 : ((L.getD i ent0).id == k)
  ·simp only [hup, go_sem, Nat.reduceEqDiff, Nat.reduceAdd, Nat.reduceLeDiff, List.length_map, Int.reduceLT, Int.reduceLE, Int.reduceToNat, Int.toNat_zero, Int.le_refl, Int.reduceAdd, decide_true, decide_false, Nat.reduceMul, Nat.reduceLT, Nat.lt_irrefl, true_and, and_self, ↓reduceIte]
   exact invN_next hi' (nextP hp h2) (by simp only [hpW, tgW, tInt, go_sem, Nat.reduceEqDiff, Nat.reduceAdd, Nat.reduceLeDiff, List.length_map, Int.reduceLT, Int.reduceLE, Int.reduceToNat, Int.toNat_zero, Int.le_refl, Int.reduceAdd, decide_true, decide_false, Nat.reduceMul, Nat.reduceLT, Nat.lt_irrefl, true_and, and_self, ↓reduceIte])
  ·have q1 : (i ≤ L.length) = True := by simp; omega
   have q2 : (i + 1 ≤ L.length) = True := by simp; omega
   obtain ⟨ha, hr⟩ := rem_at hi' h2 hp
   rw [ha, hr, if_pos rfl]
   simp only [hpW, tgW, tInt, hup, all_entS, nnS, leS, q1, q2, Int.toNat_natCast, List.length_append, List.nil_append, St.fzC, go_sem, Nat.reduceEqDiff, Nat.reduceAdd, Nat.reduceLeDiff, List.length_map, Int.reduceLT, Int.reduceLE, Int.reduceToNat, Int.toNat_zero, Int.le_refl, Int.reduceAdd, decide_true, decide_false, Nat.reduceMul, Nat.reduceLT, Nat.lt_irrefl, true_and, and_self, ↓reduceIte]
   have q3 : List.take L.length (L.map entS) = L.map entS := List.take_of_length_le (by simp)
   have q4 : (List.take i (L.map entS)).length ≤ 100000 := by rw [List.length_take, List.length_map]; omega
   have q5 : (List.drop (i + 1) (L.map entS)).length ≤ 100000 := by rw [List.length_drop, List.length_map]; omega
   have q6 : ∀ y ∈ List.take i (L.map entS), y.length = 3 := fun y hy => entS_rows L y (List.mem_of_mem_take hy)
   have q7 : ∀ y ∈ List.drop (i + 1) (L.map entS), y.length = 3 := fun y hy => entS_rows L y (List.mem_of_mem_drop hy)
   rw [q3]
   refine ⟨q6, by omega, by omega, q6, q7, by omega, by omega, ?_, rfl⟩
   rw [← List.map_take, ← List.map_drop, ← List.map_append, ← List.eraseIdx_eq_take_drop_succ]
 ·have hil' : i = L.length := by simp at hc; omega
  subst hil'
  have ha : L.any (fun x => x.id == k) = false := by
   rw [List.any_eq_false]
   intro x hx
   obtain ⟨j, hj, rfl⟩ := List.getElem_of_mem hx
   have := hp j hj
   rw [eget hj] at this
   simp [this]
  rw [remL, ha]
  simp only [hpW, tgW, tInt, go_sem, Nat.reduceEqDiff, Nat.reduceAdd, Nat.reduceLeDiff, List.length_map, Int.reduceLT, Int.reduceLE, Int.reduceToNat, Int.toNat_zero, Int.le_refl, Int.reduceAdd, decide_true, decide_false, Nat.reduceMul, Nat.reduceLT, Nat.lt_irrefl, true_and, and_self, ↓reduceIte]
set_option maxHeartbeats 4000000 in
theorem kwDeliver (N : Int) (L : List SEnt) (G : List Int) (id k : Int) (e : EvM) (hl : L.length ≤ 100000) (hg : G.length ≤ 100000) (hf : FewE L) : ObjAt Tryz.prog 16 ⟨[(0, .ptr 1000000 0), (1, .agg (pubC id k e))], hpW N L G, tgW⟩ 2
    (fun r hp tg => r = .val (.bool (dlv L G id e)) ∧ hp = hpW N L (if dlv L G id e = true then G ++ [id] else G) ∧ tg = tgW) := by
 refine obj_of [1000000] [tInt] r16 (by kernel_rfl) ?_
 unfold m16
 simp only [hpW, tgW, tInt, pubC, evC, go_sem, Nat.reduceEqDiff, Nat.reduceAdd, Nat.reduceLeDiff, List.length_map, Int.reduceLT, Int.reduceLE, Int.reduceToNat, Int.toNat_zero, Int.le_refl, Int.reduceAdd, decide_true, decide_false, Nat.reduceMul, Nat.reduceLT, Nat.lt_irrefl, true_and, and_self, ↓reduceIte]
 refine loop_N G.length (fun i => ∀ j, j < i → (G.getD j 0 == id) = false) (fun i => ⟨[(0, .ptr 1000000 0), (3, .rp none (pubC id k e) 0), (5, .val (.int .i64 i))], hpW N L G, tgW⟩) (fun j hj => by omega) (by simp only [hpW, tgW, tInt, pubC, evC, go_sem, Nat.reduceEqDiff, Nat.reduceAdd, Nat.reduceLeDiff, List.length_map, Int.reduceLT, Int.reduceLE, Int.reduceToNat, Int.toNat_zero, Int.le_refl, Int.reduceAdd, decide_true, decide_false, Nat.reduceMul, Nat.reduceLT, Nat.lt_irrefl, true_and, and_self, ↓reduceIte]; rfl) ?_
 intro i hil hp
 simp only [hpW, tgW, tInt, pubC, evC, go_sem, Nat.reduceEqDiff, Nat.reduceAdd, Nat.reduceLeDiff, List.length_map, Int.reduceLT, Int.reduceLE, Int.reduceToNat, Int.toNat_zero, Int.le_refl, Int.reduceAdd, decide_true, decide_false, Nat.reduceMul, Nat.reduceLT, Nat.lt_irrefl, true_and, and_self, ↓reduceIte]
 refine condE_split (fun hc => ?_) (fun hc => ?_)
 ·have hi' : i < G.length := by simpa using hc
  have hup := up64 (show i < 1000000 by omega)
  simp only [nn0, Int.toNat_natCast, get_intS hi', go_sem, Nat.reduceEqDiff, Nat.reduceAdd, Nat.reduceLeDiff, List.length_map, Int.reduceLT, Int.reduceLE, Int.reduceToNat, Int.toNat_zero, Int.le_refl, Int.reduceAdd, decide_true, decide_false, Nat.reduceMul, Nat.reduceLT, Nat.lt_irrefl, true_and, and_self, ↓reduceIte]
  cases h2 : (G.getD i 0 == id)
  ·simp only [hup, go_sem, Nat.reduceEqDiff, Nat.reduceAdd, Nat.reduceLeDiff, List.length_map, Int.reduceLT, Int.reduceLE, Int.reduceToNat, Int.toNat_zero, Int.le_refl, Int.reduceAdd, decide_true, decide_false, Nat.reduceMul, Nat.reduceLT, Nat.lt_irrefl, true_and, and_self, ↓reduceIte]
   exact invN_next hi' (nextP hp h2) (by simp only [hpW, tgW, tInt, pubC, evC, go_sem, Nat.reduceEqDiff, Nat.reduceAdd, Nat.reduceLeDiff, List.length_map, Int.reduceLT, Int.reduceLE, Int.reduceToNat, Int.toNat_zero, Int.le_refl, Int.reduceAdd, decide_true, decide_false, Nat.reduceMul, Nat.reduceLT, Nat.lt_irrefl, true_and, and_self, ↓reduceIte])
  ·have hm : id ∈ G := by
     have : G.getD i 0 = id := by simpa using h2
     rw [← this, List.getD_eq_getElem?_getD, List.getElem?_eq_getElem hi']; exact List.getElem_mem hi'
   have hd : dlv L G id e = false := by unfold dlv; simp [hm]
   rw [hd]
   simp only [hpW, tgW, tInt, go_sem, Nat.reduceEqDiff, Nat.reduceAdd, Nat.reduceLeDiff, List.length_map, Int.reduceLT, Int.reduceLE, Int.reduceToNat, Int.toNat_zero, Int.le_refl, Int.reduceAdd, decide_true, decide_false, Nat.reduceMul, Nat.reduceLT, Nat.lt_irrefl, true_and, and_self, ↓reduceIte]
 ·have hil' : i = G.length := by simp at hc; omega
  subst hil'
  have hm : ¬ id ∈ G := fun hm => by
   obtain ⟨j, hj, rfl⟩ := List.getElem_of_mem hm
   have := hp j hj
   rw [List.getD_eq_getElem?_getD, List.getElem?_eq_getElem hj] at this
   simp at this
  have hd : dlv L G id e = hasL L e := by unfold dlv; simp [hm]
  rw [hd]
  have hh := kwHas N L G e hl hf
  unfold evC at hh
  simp only [hpW, tgW, tInt, pubC, evC, go_sem, Nat.reduceEqDiff, Nat.reduceAdd, Nat.reduceLeDiff, List.length_map, Int.reduceLT, Int.reduceLE, Int.reduceToNat, Int.toNat_zero, Int.le_refl, Int.reduceAdd, decide_true, decide_false, Nat.reduceMul, Nat.reduceLT, Nat.lt_irrefl, true_and, and_self, ↓reduceIte]
  refine callO_eq rfl rfl rfl rfl rfl hh ?_
  cases h2 : hasL L e
  ·simp only [hpW, tgW, tInt, go_sem, Nat.reduceEqDiff, Nat.reduceAdd, Nat.reduceLeDiff, List.length_map, Int.reduceLT, Int.reduceLE, Int.reduceToNat, Int.toNat_zero, Int.le_refl, Int.reduceAdd, decide_true, decide_false, Nat.reduceMul, Nat.reduceLT, Nat.lt_irrefl, true_and, and_self, ↓reduceIte]
  ·simp only [hpW, tgW, tInt, go_sem, Nat.reduceEqDiff, Nat.reduceAdd, Nat.reduceLeDiff, List.length_map, Int.reduceLT, Int.reduceLE, Int.reduceToNat, Int.toNat_zero, Int.le_refl, Int.reduceAdd, decide_true, decide_false, Nat.reduceMul, Nat.reduceLT, Nat.lt_irrefl, true_and, and_self, ↓reduceIte]
   refine dany_at (q := _) rfl ?_
   refine por_s 0 rfl (by kernel_rfl) trim_ex rfl rfl rfl rfl rfl ?_
   refine por_s 1 rfl (by kernel_rfl) trim_ex rfl rfl rfl rfl rfl ?_
   refine por_s 2 rfl (by kernel_rfl) trim_ex rfl rfl rfl rfl rfl ?_
   refine por_s 3 rfl (by kernel_rfl) trim_ex rfl rfl rfl rfl rfl ?_
   refine por_s 5 rfl (by kernel_rfl) trim_ex rfl rfl rfl rfl rfl ?_
   refine por_l 6 rfl (by kernel_rfl) trim_ex rfl rfl rfl rfl rfl ?_
   simp only [hpW, tgW, tInt, pubC, evC, go_sem, Nat.reduceEqDiff, Nat.reduceAdd, Nat.reduceLeDiff, List.length_map, Int.reduceLT, Int.reduceLE, Int.reduceToNat, Int.toNat_zero, Int.le_refl, Int.reduceAdd, decide_true, decide_false, Nat.reduceMul, Nat.reduceLT, Nat.lt_irrefl, true_and, and_self, ↓reduceIte]
   refine ⟨intS_rows G, by rintro y rfl; rfl, by omega, by omega, ?_⟩
   rw [List.map_append]
   rfl
theorem sameFS (l : List BoxM) : sameF l l = true := by
 simp [sameF, boxSame, all4, sameB, sameM]
set_option maxHeartbeats 4000000 in
theorem kSameEntS (l : List SEnt) (hl : l.length ≤ 100000) (hf : FewE l) : PureAt Tryz.prog 20 [.sl none (l.map entS), .sl none (l.map entS)] (· = .val (.bool true)) := by
 refine pure_of r20 (by kernel_rfl) ?_
 unfold m20
 simp only [bne_self_eq_false, go_sem, Nat.reduceEqDiff, Nat.reduceAdd, Nat.reduceLeDiff, List.length_map, Int.reduceLT, Int.reduceLE, Int.reduceToNat, Int.toNat_zero, Int.le_refl, Int.reduceAdd, decide_true, decide_false, Nat.reduceMul, Nat.reduceLT, Nat.lt_irrefl, true_and, and_self, ↓reduceIte]
 refine loop_N l.length (fun _ => True) (fun i => ⟨[(0, .sl none (l.map entS)), (1, .sl none (l.map entS)), (5, .val (.int .i64 i))], [], []⟩) trivial (by simp only [go_sem, Nat.reduceEqDiff, Nat.reduceAdd, Nat.reduceLeDiff, List.length_map, Int.reduceLT, Int.reduceLE, Int.reduceToNat, Int.toNat_zero, Int.le_refl, Int.reduceAdd, decide_true, decide_false, Nat.reduceMul, Nat.reduceLT, Nat.lt_irrefl, true_and, and_self, ↓reduceIte]; rfl) ?_
 intro i hil _
 simp only [go_sem, Nat.reduceEqDiff, Nat.reduceAdd, Nat.reduceLeDiff, List.length_map, Int.reduceLT, Int.reduceLE, Int.reduceToNat, Int.toNat_zero, Int.le_refl, Int.reduceAdd, decide_true, decide_false, Nat.reduceMul, Nat.reduceLT, Nat.lt_irrefl, true_and, and_self, ↓reduceIte]
 refine condE_split (fun h => ?_) (fun h => ?_)
 ·have hi' : i < l.length := by simpa using h
  have hup := up64 (show i < 1000000 by omega)
  have hm := hf _ (egetm hi')
  have hs := kref6Same (l.getD i ent0).f (l.getD i ent0).f hm.1 (fun b hb => few_of (hm.2.1 b hb))
  rw [sameFS] at hs
  simp only [nn0, Int.toNat_natCast, get_entS hi', entS, bne_self_eq_false, go_sem, Nat.reduceEqDiff, Nat.reduceAdd, Nat.reduceLeDiff, List.length_map, Int.reduceLT, Int.reduceLE, Int.reduceToNat, Int.toNat_zero, Int.le_refl, Int.reduceAdd, decide_true, decide_false, Nat.reduceMul, Nat.reduceLT, Nat.lt_irrefl, true_and, and_self, ↓reduceIte]
  refine callQ_by _ rfl rfl hs ?_
  simp only [bne_self_eq_false, hup, go_sem, Nat.reduceEqDiff, Nat.reduceAdd, Nat.reduceLeDiff, List.length_map, Int.reduceLT, Int.reduceLE, Int.reduceToNat, Int.toNat_zero, Int.le_refl, Int.reduceAdd, decide_true, decide_false, Nat.reduceMul, Nat.reduceLT, Nat.lt_irrefl, true_and, and_self, ↓reduceIte]
  exact invN_next hi' trivial (by simp only [go_sem, Nat.reduceEqDiff, Nat.reduceAdd, Nat.reduceLeDiff, List.length_map, Int.reduceLT, Int.reduceLE, Int.reduceToNat, Int.toNat_zero, Int.le_refl, Int.reduceAdd, decide_true, decide_false, Nat.reduceMul, Nat.reduceLT, Nat.lt_irrefl, true_and, and_self, ↓reduceIte])
 ·have hil' : i = l.length := by simp at h; omega
  subst hil'
  simp only [go_sem, Nat.reduceEqDiff, Nat.reduceAdd, Nat.reduceLeDiff, List.length_map, Int.reduceLT, Int.reduceLE, Int.reduceToNat, Int.toNat_zero, Int.le_refl, Int.reduceAdd, decide_true, decide_false, Nat.reduceMul, Nat.reduceLT, Nat.lt_irrefl, true_and, and_self, ↓reduceIte]
end Go.Proofs
