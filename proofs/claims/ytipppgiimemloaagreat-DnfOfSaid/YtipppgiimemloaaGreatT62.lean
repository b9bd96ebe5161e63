/- A part of the proof; what is proved stands in the last text. -/
import Derived.Test.YtipppgiimemloaaGreatTG
set_option linter.unusedVariables false
set_option maxRecDepth 2000
namespace Go.Proofs
open Go.Vm
set_option linter.unusedSimpArgs false

def fineB (b : BoxM) : Bool := rightB b && smallB b
def rightF (l : List BoxM) : Bool := decide (l.length ≤ 4) && l.all fineB && decide ((tidyM l).length = l.length)
def prefF (l : List BoxM) (i : Nat) : Prop := ∀ j, j < i → fineB (l.getD j allB) = true
theorem all_pref {l : List BoxM} (h : prefF l l.length) : l.all fineB = true := by
  rw [List.all_eq_true]
  intro b hb
  obtain ⟨j, hj, rfl⟩ := List.getElem_of_mem hb
  rw [← getD_at hj]; exact h j hj
theorem all_not {l : List BoxM} {i : Nat} (hi : i < l.length) (h : fineB (l.getD i allB) = false) : l.all fineB = false := by
  rw [List.all_eq_false]
  exact ⟨_, getD_mem hi, by rw [h]; simp⟩
theorem small_few {b : BoxM} (h : smallB b = true) : FewB 6 b := fun i hi => by
  have := all4_iff.1 h i hi
  simp [smallM] at this
  exact this
theorem int_eq {m n : Nat} : ((m : Int) == (n : Int)) = decide (m = n) := by
  by_cases h : m = n
  · subst h; simp
  · simp [h]; omega
theorem int_le4 {n : Nat} : (decide ((n : Int) > 4)) = !decide (n ≤ 4) := by
  by_cases h : n ≤ 4 <;> simp [h] <;> omega

set_option maxHeartbeats 2000000 in
theorem kdnfRight (l : List BoxM) (hl : l.length ≤ 10000) (hf : ∀ b ∈ l, FewB 900 b) (hb : ∀ b ∈ l, BndB b) : PureAt Tryz.prog 45 [.sl none (l.map boxC)] (· = .val (.bool (rightF l))) := by
  refine pure_of r45 (by kernel_rfl) ?_
  unfold m45
  simp only [int_le4, go_sem, Nat.reduceEqDiff, Nat.reduceAdd, List.length_map]
  refine condE_split (fun h4 => ?_) (fun h4 => ?_)
  · simp only [go_sem, Nat.reduceEqDiff]
    have : decide (l.length ≤ 4) = false := by simpa using h4
    unfold rightF
    rw [this]; rfl
  have h4' : decide (l.length ≤ 4) = true := by simpa using h4
  simp only [go_sem, Nat.reduceEqDiff, List.length_map]
  refine loop_N l.length (prefF l) (fun i => ⟨[(0, .sl none (l.map boxC)), (8, .sl none (l.map boxC)), (9, .val (.int .i64 l.length)), (10, .val (.int .i64 i))], [], []⟩) (fun j hj => by omega) (by simp only [go_sem, Nat.reduceEqDiff]; rfl) ?_
  intro i hil hp
  simp only [go_sem, Nat.reduceEqDiff]
  refine condE_split (fun h => ?_) (fun h => ?_)
  · have hi' : i < l.length := by simpa using h
    have hup := up64 (show i < 1000000 by omega)
    have hm := getD_mem hi'
    simp only [nn0, Int.toNat_natCast, get_boxC hi', go_sem, Nat.reduceEqDiff, Nat.reduceAdd, Nat.reduceLeDiff]
    have p1 := kboxRight (l.getD i allB) (fun j hj => ⟨by have := (hf _ hm j hj).1; omega, by have := (hf _ hm j hj).2; omega⟩) (hb _ hm)
    have p2 := kboxSmall (l.getD i allB)
    have no : fineB (l.getD i allB) = false → rightF l = false := fun hx => by unfold rightF; rw [all_not hi' hx]; simp
    have yes : fineB (l.getD i allB) = true → prefF l (i + 1) := fun hx => nextP hp hx
    unfold fineB at no yes
    generalize rightB (l.getD i allB) = x at *
    generalize smallB (l.getD i allB) = y at *
    refine callP_eq rfl rfl p1 ?_
    cases x
    · simp only [go_sem, Nat.reduceEqDiff]
      rw [no rfl]
    simp only [go_sem, Nat.reduceEqDiff, Nat.reduceAdd, Nat.reduceLeDiff]
    refine callP_eq rfl rfl p2 ?_
    cases y
    · simp only [go_sem, Nat.reduceEqDiff]
      rw [no rfl]
    simp only [hup, go_sem, Nat.reduceEqDiff]
    exact invN_next hi' (yes rfl) (by simp only [go_sem, Nat.reduceEqDiff])
  · have hil' : i = l.length := by simp at h; omega
    subst hil'
    simp only [go_sem, Nat.reduceEqDiff]
    refine callP_eq rfl rfl (kTidy l hl hf) ?_
    simp only [int_eq, go_sem, Nat.reduceEqDiff, List.length_map]
    unfold rightF
    rw [all_pref hp, h4']; simp

set_option maxHeartbeats 4000000 in
theorem krefTidy (l : List BoxM) (hl : l.length ≤ 10000) (hf : ∀ b ∈ l, FewB 400 b) (ho : ∀ b ∈ l, OKB b) : PureAt Tryz.prog 55 [.sl none (l.map boxC)] (· = .sl none ((tidyM l).map boxC)) := by
  refine pure_of r55 (by kernel_rfl) ?_
  unfold m55
  simp only [go_sem, Nat.reduceEqDiff, Nat.reduceAdd]
  refine loop_N l.length (fun _ => True) (fun i => ⟨[(0, .sl none (l.map boxC)), (3, .sl (some (3, 49, 16)) ((tidyI l i).map boxC)), (4, .val (.int .i64 i))], [], [((3, 49, 16), true)]⟩) trivial (by simp only [go_sem, Nat.reduceEqDiff]; rfl) ?_
  intro i hil _
  simp only [go_sem, Nat.reduceEqDiff, List.length_map]
  refine condE_split (fun h => ?_) (fun h => ?_)
  · have hi' : i < l.length := by simpa using h
    have hup := up64 (show i < 1000000 by omega)
    have mi := getD_mem hi'
    simp only [nn0, Int.toNat_natCast, get_boxC hi', go_sem, Nat.reduceEqDiff, Nat.reduceAdd, Nat.reduceLeDiff]
    refine callP_eq rfl rfl (kref4Empty _) ?_
    simp only [go_sem, Nat.reduceEqDiff]
    refine loop_N l.length (fun _ => True) (fun k => ⟨[(0, .sl none (l.map boxC)), (3, .sl (some (3, 49, 16)) ((tidyI l i).map boxC)), (4, .val (.int .i64 i)), (5, .val (.bool (!emptyB (l.getD i allB) && !needM l i k))), (6, .val (.int .i64 k))], [], [((3, 49, 16), true)]⟩) trivial (by simp only [needM, List.range_zero, List.any_nil, go_sem, Nat.reduceEqDiff]; rfl) ?_
    intro k hkl _
    simp only [go_sem, Nat.reduceEqDiff, List.length_map]
    refine condE_split (fun hk => ?_) (fun hk => ?_)
    · have hk' : k < l.length := by simpa using hk
      have hup2 := up64 (show k < 1000000 by omega)
      have mk := getD_mem hk'
      have hs := needM_succ l i k
      have p1 := kref4In (l.getD i allB) (l.getD k allB) (ho _ mi) (ho _ mk) (hf _ mi) (hf _ mk)
      have p2 := kref4In (l.getD k allB) (l.getD i allB) (ho _ mk) (ho _ mi) (hf _ mk) (hf _ mi)
      have hn : needl l i k = (decide (k ≠ i) && (inB4 (l.getD i allB) (l.getD k allB) && (decide ((k : Int) < (i : Int)) || !inB4 (l.getD k allB) (l.getD i allB)))) := rfl
      generalize inB4 (l.getD i allB) (l.getD k allB) = u at *
      generalize inB4 (l.getD k allB) (l.getD i allB) = v at *
      generalize (!emptyB (l.getD i allB)) = em at *
      generalize needM l i k = q at *
      by_cases hne : k = i
      · have hne' : decide (k ≠ i) = false := by simp [hne]
        rw [hne'] at hn
        simp only [int_ne, hne', hup2, go_sem, Nat.reduceEqDiff]
        refine invN_next hk' trivial ?_
        simp only [hs, hn, go_sem, Nat.reduceEqDiff]
      have hne' : decide (k ≠ i) = true := by simp [hne]
      rw [hne'] at hn
      simp only [int_ne, hne', go_sem, Nat.reduceEqDiff]
      have hs' : needM l i (k + 1) = (q || (u && (decide ((k : Int) < (i : Int)) || !v))) := by rw [hs, hn, Bool.true_and]
      clear hs hn
      cases hem : (em && !q)
      · simp only [hup2, go_sem, Nat.reduceEqDiff]
        refine invN_next hk' trivial ?_
        have : (em && !(q || (u && (decide ((k : Int) < (i : Int)) || !v)))) = false := by
          cases em <;> cases q <;> simp_all
        simp only [hs', this, go_sem, Nat.reduceEqDiff]
      obtain ⟨rfl, rfl⟩ : em = true ∧ q = false := by cases em <;> cases q <;> simp_all
      simp only [nn0, Int.toNat_natCast, get_boxC hi', get_boxC hk', go_sem, Nat.reduceEqDiff, Nat.reduceAdd, Nat.reduceLeDiff]
      refine callQ_by _ rfl rfl (p1) ?_
      simp only [go_sem, Nat.reduceEqDiff]
      cases u
      · simp only [hup2, go_sem, Nat.reduceEqDiff]
        refine invN_next hk' trivial ?_
        simp only [hs', go_sem, Nat.reduceEqDiff]
      simp only [go_sem, Nat.reduceEqDiff]
      generalize decide ((k : Int) < (i : Int)) = w at *
      cases w
      · simp only [nn0, Int.toNat_natCast, get_boxC hi', get_boxC hk', go_sem, Nat.reduceEqDiff, Nat.reduceAdd, Nat.reduceLeDiff]
        refine callQ_by _ rfl rfl (p2) ?_
        simp only [go_sem, Nat.reduceEqDiff]
        cases v
        all_goals
          simp only [hup2, go_sem, Nat.reduceEqDiff]
          refine invN_next hk' trivial ?_
          simp only [hs', go_sem, Nat.reduceEqDiff]
      · simp only [hup2, go_sem, Nat.reduceEqDiff]
        refine invN_next hk' trivial ?_
        simp only [hs', go_sem, Nat.reduceEqDiff]
    · have hkl' : k = l.length := by simp at hk; omega
      subst hkl'
      simp only [go_sem, Nat.reduceEqDiff]
      refine condE_split (fun hn => ?_) (fun hn => ?_)
      · have hkeep : keepM l i = true := hn
        simp only [nn0, Int.toNat_natCast, get_boxC hi', go_sem, Nat.reduceEqDiff, Nat.reduceAdd, Nat.reduceLeDiff, List.length_map]
        have := tidyI_len l i
        refine ⟨rows_boxC _, by intro e he; simp at he; subst he; rfl, by omega, by omega, ?_⟩
        simp only [hup, go_sem]
        refine invN_next hi' trivial ?_
        simp only [tidyI_t hkeep, List.map_append, go_sem, Nat.reduceEqDiff]
      · have hkeep : keepM l i = false := hn
        simp only [hup, go_sem, Nat.reduceEqDiff]
        refine invN_next hi' trivial ?_
        simp only [tidyI_f hkeep, go_sem, Nat.reduceEqDiff]
  · have hil' : i = l.length := by simp at h; omega
    subst hil'
    simp only [go_sem, Nat.reduceEqDiff]
    rfl

set_option maxHeartbeats 2000000 in
theorem kref6Right (l : List BoxM) (hl : l.length ≤ 10000) (hf : ∀ b ∈ l, FewB 1000000 b) (hb : ∀ b ∈ l, BndB b) : PureAt Tryz.prog 19 [.sl none (l.map boxC)] (· = .val (.bool (rightF l))) := by
  refine pure_of r19 (by kernel_rfl) ?_
  unfold m19
  simp only [go_sem, Nat.reduceEqDiff, Nat.reduceAdd]
  refine loop_N l.length (prefF l) (fun i => ⟨[(0, .sl none (l.map boxC)), (3, .val (.int .i64 i))], [], []⟩) (fun j hj => by omega) (by simp only [go_sem, Nat.reduceEqDiff]; rfl) ?_
  intro i hil hp
  simp only [go_sem, Nat.reduceEqDiff, List.length_map]
  refine condE_split (fun h => ?_) (fun h => ?_)
  · have hi' : i < l.length := by simpa using h
    have hup := up64 (show i < 1000000 by omega)
    have hm := getD_mem hi'
    simp only [nn0, Int.toNat_natCast, get_boxC hi', go_sem, Nat.reduceEqDiff, Nat.reduceAdd, Nat.reduceLeDiff]
    have p1 := krefRight4 (l.getD i allB) (hf _ hm)
    have p2 := kref4Small (l.getD i allB)
    have no : fineB (l.getD i allB) = false → rightF l = false := fun hx => by unfold rightF; rw [all_not hi' hx]; simp
    have yes : fineB (l.getD i allB) = true → prefF l (i + 1) := fun hx => nextP hp hx
    unfold fineB at no yes
    generalize rightB (l.getD i allB) = x at *
    generalize smallB (l.getD i allB) = y at *
    refine callP_eq rfl rfl p1 ?_
    cases x
    · simp only [go_sem, Nat.reduceEqDiff]
      rw [no rfl]
    simp only [nn0, Int.toNat_natCast, get_boxC hi', go_sem, Nat.reduceEqDiff, Nat.reduceAdd, Nat.reduceLeDiff]
    refine callP_eq rfl rfl p2 ?_
    cases y
    · simp only [go_sem, Nat.reduceEqDiff]
      rw [no rfl]
    simp only [hup, go_sem, Nat.reduceEqDiff]
    exact invN_next hi' (yes rfl) (by simp only [go_sem, Nat.reduceEqDiff])
  · have hil' : i = l.length := by simp at h; omega
    subst hil'
    have ha := all_pref hp
    have ok : ∀ b ∈ l, OKB b ∧ FewB 6 b := fun b hm => by
      have := List.all_eq_true.1 ha b hm
      simp only [fineB, Bool.and_eq_true] at this
      exact ⟨(rightB_iff (hb b hm)).1 this.1, small_few this.2⟩
    simp only [go_sem, Nat.reduceEqDiff, List.length_map]
    have e4 : decide ((l.length : Int) ≤ 4) = decide (l.length ≤ 4) := by rw [decide_eq_decide]; omega
    rw [e4]
    cases h4 : decide (l.length ≤ 4)
    · simp only [go_sem, Nat.reduceEqDiff]
      unfold rightF
      rw [h4]; rfl
    · simp only [go_sem, Nat.reduceEqDiff]
      refine callP_eq rfl rfl (krefTidy l hl (fun b hm => (ok b hm).2.mono (by omega)) (fun b hm => (ok b hm).1)) ?_
      simp only [int_eq, go_sem, Nat.reduceEqDiff, List.length_map]
      unfold rightF
      rw [ha, h4]; simp

def sameF (l m : List BoxM) : Bool := decide (l.length = m.length) && (List.range l.length).all fun i => boxSame (l.getD i allB) (m.getD i allB)
theorem kref6Same (l m : List BoxM) (hl : l.length ≤ 10000) (hf : ∀ b ∈ l, FewB 1000000 b) : PureAt Tryz.prog 16 [.sl none (l.map boxC), .sl none (m.map boxC)] (· = .val (.bool (sameF l m))) := by
  refine pure_of r16 (by kernel_rfl) ?_
  unfold m16 sameF
  simp only [int_ne, go_sem, Nat.reduceEqDiff, Nat.reduceAdd, List.length_map]
  refine condE_split (fun h0 => ?_) (fun h0 => ?_)
  · simp only [go_sem, Nat.reduceEqDiff]
    have : ¬ l.length = m.length := by simpa using h0
    simp [this]
  have h0 : l.length = m.length := by simpa using h0
  simp only [go_sem, Nat.reduceEqDiff]
  refine loop_N l.length (fun i => ∀ j, j < i → boxSame (l.getD j allB) (m.getD j allB) = true) (fun i => ⟨[(0, .sl none (l.map boxC)), (1, .sl none (m.map boxC)), (5, .val (.int .i64 i))], [], []⟩) (fun j hj => by omega) (by simp only [go_sem, Nat.reduceEqDiff]; rfl) ?_
  intro i hil hp
  simp only [go_sem, Nat.reduceEqDiff, List.length_map]
  refine condE_split (fun h => ?_) (fun h => ?_)
  · have hi' : i < l.length := by simpa using h
    have hi2 : i < m.length := by omega
    have hup := up64 (show i < 1000000 by omega)
    simp only [nn0, Int.toNat_natCast, get_boxC hi', get_boxC hi2, go_sem, Nat.reduceEqDiff, Nat.reduceAdd, Nat.reduceLeDiff]
    refine callQ_by _ rfl rfl (kref4Same _ _ (hf _ (getD_mem hi'))) ?_
    simp only [go_sem, Nat.reduceEqDiff]
    refine condE_split (fun h2 => ?_) (fun h2 => ?_)
    · simp only [go_sem, Nat.reduceEqDiff]
      have : ((List.range l.length).all fun i => boxSame (l.getD i allB) (m.getD i allB)) = false := by
        rw [List.all_eq_false]; exact ⟨i, List.mem_range.2 hi', by simpa using h2⟩
      rw [this, Bool.and_false]
    · simp only [hup, go_sem, Nat.reduceEqDiff]
      exact invN_next hi' (nextP hp (by simpa using h2)) (by simp only [go_sem, Nat.reduceEqDiff])
  · have hil' : i = l.length := by simp at h; omega
    subst hil'
    simp only [go_sem]
    have : ((List.range l.length).all fun i => boxSame (l.getD i allB) (m.getD i allB)) = true := by
      rw [List.all_eq_true]; intro i hi; exact hp i (List.mem_range.1 hi)
    rw [this]; simp [h0]
def hasF (l : List BoxM) (e : EvM) : Bool := l.any fun b => hasB b e
theorem kIndexFuncB (f : FuncId) (caps : List D) (hz : frzL caps = some caps) (ht : tagsL caps = []) (xs : List BoxM) (hx : xs.length ≤ 100000) (p : BoxM → Bool) (hf : ∀ r, r ∈ xs → PureAt Tryz.prog f (.agg (boxC r) :: caps) (· = .val (.bool (p r)))) :
    PureAt Tryz.prog 97 [.sl none (xs.map boxC), .fn f [] caps] (· = .val (.int .i64 (idxOf p xs))) := by
  refine pure_of r97 (by kernel_rfl) ?_
  unfold m97
  simp only [go_sem, Nat.reduceEqDiff, Nat.reduceAdd, List.length_map]
  refine loop_N xs.length (fun i => ∀ j, j < i → p (xs.getD j allB) = false) (fun i => ⟨[(0, .sl none (xs.map boxC)), (1, .fn f [] caps), (7, .val (.int .i64 xs.length)), (8, .val (.int .i64 i))], [], []⟩) (fun j hj => by omega) (by simp only [go_sem, Nat.reduceEqDiff]; rfl) ?_
  intro i hil hp
  simp only [go_sem, Nat.reduceEqDiff]
  refine condE_split (fun h => ?_) (fun h => ?_)
  · have hi' : i < xs.length := by simpa using h
    have hup := up64 (show i < 1000000 by omega)
    simp only [nn0, Int.toNat_natCast, get_boxC hi', go_sem, Nat.reduceEqDiff, Nat.reduceAdd, Nat.reduceLeDiff]
    refine callP_eq (d := .val (.bool (p (xs.getD i allB)))) (fs := .agg (boxC (xs.getD i allB)) :: caps) (by simp only [hz, go_sem]) (by simp only [liveAll, ht, go_sem]) (hf _ (getD_mem hi')) ?_
    simp only [ht, List.append_nil, go_sem, Nat.reduceEqDiff]
    refine condE_split (fun h2 => ?_) (fun h2 => ?_)
    · simp only [go_sem, Nat.reduceEqDiff]
      congr 3
      have ha : xs.any p = true := List.any_eq_true.2 ⟨_, getD_mem hi', h2⟩
      rw [idxOf, if_pos ha]
      have := (List.findIdx_eq hi').2 ⟨by rw [← getD_at hi']; exact h2, fun j hj => by have := hp j hj; rw [getD_at (by omega)] at this; simp [this]⟩
      rw [this]
    · simp only [hup, go_sem, Nat.reduceEqDiff]
      exact invN_next hi' (nextP hp h2) (by simp only [go_sem, Nat.reduceEqDiff])
  · have hil' : i = xs.length := by simp at h; omega
    subst hil'
    simp only [go_sem]
    have ha : ¬ xs.any p = true := by
      intro ha
      obtain ⟨x, hx, hpx⟩ := List.any_eq_true.1 ha
      obtain ⟨j, hj, rfl⟩ := List.getElem_of_mem hx
      have := hp j hj
      rw [getD_at hj, hpx] at this; cases this
    rw [idxOf, if_neg ha]
theorem kContainsFuncB (f : FuncId) (caps : List D) (hz : frzL caps = some caps) (ht : tagsL caps = []) (xs : List BoxM) (hx : xs.length ≤ 100000) (p : BoxM → Bool) (hf : ∀ r, r ∈ xs → PureAt Tryz.prog f (.agg (boxC r) :: caps) (· = .val (.bool (p r)))) :
    PureAt Tryz.prog 49 [.sl none (xs.map boxC), .fn f [] caps] (· = .val (.bool (xs.any p))) := by
  refine pure_of r49 (by kernel_rfl) ?_
  unfold m49
  simp only [go_sem, Nat.reduceEqDiff, Nat.reduceAdd]
  refine callP_eq (fs := [.sl none (xs.map boxC), .fn f [] caps]) (by simp only [hz, go_sem]) (by simp only [liveAll, ht, go_sem]) (kIndexFuncB f caps hz ht xs hx p hf) ?_
  simp only [ht, List.append_nil, idxOf_nonneg, go_sem, Nat.reduceEqDiff]
theorem kdnfHasF (b : BoxM) (e : EvM) (hf : FewB 1000000 b) : PureAt Tryz.prog 50 [.agg (boxC b), .rp none (evC e) 0] (· = .val (.bool (hasB b e))) := by
  refine pure_of r50 (by kernel_rfl) ?_
  unfold m50
  simp only [evC, go_sem, Nat.reduceEqDiff, Nat.reduceAdd, Nat.reduceLeDiff]
  refine callP_eq rfl rfl (kboxHas b e hf) ?_
  simp only [go_sem, Nat.reduceEqDiff]
theorem kdnfHas (l : List BoxM) (e : EvM) (hl : l.length ≤ 10000) (hf : ∀ b ∈ l, FewB 1000000 b) : PureAt Tryz.prog 17 [.sl none (l.map boxC), .agg (evC e)] (· = .val (.bool (hasF l e))) := by
  refine pure_of r17 (by kernel_rfl) ?_
  unfold m17
  simp only [evC, go_sem, Nat.reduceEqDiff, Nat.reduceAdd]
  refine callP_eq rfl rfl (kContainsFuncB 50 [.rp none (evC e) 0] rfl rfl l (by omega) (fun b => hasB b e) (fun b hb => kdnfHasF b e (hf b hb))) ?_
  simp only [go_sem, Nat.reduceEqDiff]
  rfl
end Go.Proofs

