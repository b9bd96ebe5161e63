/- A part of the proof; what is proved stands in the last text. -/
import Derived.Test.YtipppgiimemloaaGreatNB
set_option linter.unusedVariables false
set_option maxRecDepth 2000

namespace Go.Proofs
open Go.Vm
set_option linter.unusedSimpArgs false

def encB6 : Option (List BoxM) → D
  | none => .tup [.sl none [], .val (.bool false)]
  | some l => .tup [.sl none (l.map boxC), .val (.bool true)]
@[go_sem] theorem encB6_none : encB6 none = .tup [.sl none [], .val (.bool false)] := rfl
@[go_sem] theorem encB6_some (l : List BoxM) : encB6 (some l) = .tup [.sl none (l.map boxC), .val (.bool true)] := rfl
def prodA (a b : List BoxM) : List BoxM := a.flatMap fun x => b.map (andB x)
theorem prodA_filter (a b : List BoxM) : (prodA a b).filter (fun c => !emptyB c) = prodL a b := by
  unfold prodA prodL prod1
  rw [List.filter_flatMap]
theorem hides_none {x k : BoxM} (hx : FK 400 x) (hk : FK 400 k) (h1 : emptyB x = false) (h2 : emptyB k = true) (b : Bool) : hidesM x k b = false := by
  have : inB4 x k = false := by
    rw [← Bool.not_eq_true, inB4_iff hx.2 hk.2 hx.1 hk.1]
    obtain ⟨j, hj, he⟩ := emptyB_iff.1 h2
    rintro (⟨i, hi, h⟩ | h)
    · rw [emptyB_iff.2 ⟨i, hi, h⟩] at h1; cases h1
    · have hs := h j hj
      rw [he] at hs
      have hn : Sub noM (x.at j) := by
        refine ⟨fun h => (by cases h), fun n h => absurd h (Cov_nil n), fun t _ h => ?_⟩
        exact absurd h (by simp [StrIn, noM])
      have hl := (hx.1 j hj).2
      have := Sub.antisymm (hx.2 j hj) OK.no hl (by simp [noM]) hs hn
      rw [emptyB_iff.2 ⟨j, hj, this⟩] at h1; cases h1
  unfold hidesM
  rw [this]; rfl
theorem tidy_filter {l : List BoxM} (h : ∀ b ∈ l, FK 400 b) : tidyM (l.filter fun c => !emptyB c) = tidyM l := by
  rw [tidy_tdy, tidy_tdy]
  have := tdy_filter l [] (fun x hx k hk h1 h2 b => hides_none (h x hx) (h k (by simpa using hk)) h1 h2 b)
  simpa using this
theorem prodA_len (a b : List BoxM) : (prodA a b).length = a.length * b.length := by
  induction a with
  | nil => simp [prodA]
  | cons x a ih =>
    simp only [prodA, List.flatMap_cons, List.length_append, List.length_map, List.length_cons] at *
    rw [ih, Nat.add_mul]; omega
theorem prodA_FK {a b : List BoxM} {n m : Nat} (ha : ∀ x ∈ a, FK n x) (hb : ∀ x ∈ b, FK m x) : ∀ c ∈ prodA a b, FK (n + m + 3) c := fun c hc => by
  obtain ⟨x, hx, hc⟩ := List.mem_flatMap.1 hc
  obtain ⟨y, hy, rfl⟩ := List.mem_map.1 hc
  exact (ha x hx).and (hb y hy)
theorem prodA_next {a : List BoxM} {i : Nat} (b : List BoxM) (h : i < a.length) : prodA (a.take (i + 1)) b = prodA (a.take i) b ++ b.map (andB (a.getD i allB)) := by
  rw [takeB h, prodA, prodA, List.flatMap_append]; simp
theorem boxB_len (l : List BoxM) : ∀ y ∈ l.map boxC, y.length = 16 := by
  intro y hy; obtain ⟨r, -, rfl⟩ := List.mem_map.1 hy; rfl
def invB6 (x : ExprM) (neg both : Bool) (r : Option (List BoxM)) (S : St) (n : Nat) : Prop := ∃ (i : Nat) (acc : List BoxM), i ≤ x.sub.length ∧ n = x.sub.length - i ∧ acc.length ≤ 16 ∧ (∀ b ∈ acc, FK (1 + 10 * sizeL (x.sub.take i)) b) ∧
  boxesF both (x.sub.drop i) neg acc = r ∧ S.trim [1, 2, 7, 8, 9] [2] [] = ⟨[(1, .val (.bool neg)), (2, .rp none (exprC x) 0), (7, .sl none (acc.map boxC)), (8, .val (.bool both)), (9, .val (.int .i64 i))], [], []⟩
set_option maxHeartbeats 8000000 in
theorem kboxes6 (x : ExprM) : sizeE x ≤ 40 → GoodX x → ∀ neg, PureAt Tryz.prog 47 [.agg (exprC x), .val (.bool neg)] (· = encB6 (boxesE x neg)) := by
  refine ExprM.ind (p := fun x => sizeE x ≤ 40 → GoodX x → ∀ neg, PureAt Tryz.prog 47 [.agg (exprC x), .val (.bool neg)] (· = encB6 (boxesE x neg))) (fun k a s l ih => ?_) x
  intro hsz hg neg
  have hsub : (ExprM.mk k a s l).sub = l := rfl
  generalize ExprM.mk k a s l = x at *
  subst hsub
  have hz := sizeE_mk x
  have hlen := len_le_size x
  have hsb := ((setsOk_mk _ x).1 hg.1).1
  have hev := boxesE_mk x neg
  refine pure_of r47 (by kernel_rfl) ?_
  unfold m47
  simp only [go_sem, Nat.reduceEqDiff, Nat.reduceAdd]
  rcases oneX_kind (allX_one hg.2) with ⟨hk, hat, -, hr, hsm⟩ | hk'
  · rw [if_pos hk] at hev
    have hok : OK x.set := (right_iff hsb.2).1 hr
    simp only [smallM, Bool.and_eq_true, decide_eq_true_eq] at hsm
    simp only [hk, one_eq, decide_true, go_sem]
    refine callP_eq rfl rfl kall6 ?_
    simp only [go_sem, Nat.reduceEqDiff, Nat.reduceAdd, Nat.reduceLeDiff]
    have ft : ∀ (s : SetM), OK s → s.ints.length ≤ 10 → s.strs.length ≤ 10 → PureAt Tryz.prog 55 [.sl none ([withB allB x.attr s].map boxC)] (· = .sl none ((tidyM [withB allB x.attr s]).map boxC)) := fun s h1 h2 h3 =>
      krefTidy [withB allB x.attr s] (by simp) (fun b hb => by
        simp only [List.mem_singleton] at hb; subst hb
        exact (FK.with hat (n := 400) (by omega) ⟨by omega, by omega⟩ h1).1) (fun b hb => by
        simp only [List.mem_singleton] at hb; subst hb
        exact (FK.with hat (n := 400) (by omega) ⟨by omega, by omega⟩ h1).2)
    have hni := notM_ints x.set
    have p1 := ft x.set hok (by omega) (by omega)
    have p2 := ft (notM normR x.set) hok.not.1 (by omega) (by simp [notM]; omega)
    have p3 := knot6 x.set hok (by omega) (by omega)
    clear ft
    cases neg
    · simp only [Bool.false_eq_true, if_false] at hev
      rcases four_of hat with h | h | h | h
      all_goals
        rw [h] at hev p1
        simp only [h, boxC, setC, go_sem, Nat.reduceEqDiff, Nat.reduceAdd, Nat.reduceLeDiff, Int.reduceLT, Int.reduceLE, Int.reduceToNat, Int.toNat_zero, Int.le_refl, c4, Nat.reduceMul, true_and, and_self, ↓reduceIte]
        refine callP_eq rfl rfl p1 ?_
        simp only [hev, go_sem, Nat.reduceEqDiff, and_self, ↓reduceIte]
    · simp only [if_true] at hev
      rcases four_of hat with h | h | h | h
      all_goals
        rw [h] at hev p2
        simp only [h, boxC, setC, go_sem, Nat.reduceEqDiff, Nat.reduceAdd, Nat.reduceLeDiff, Int.reduceLT, Int.reduceLE, Int.reduceToNat, Int.toNat_zero, Int.le_refl, c4, Nat.reduceMul, true_and, and_self, ↓reduceIte]
        refine callQ_by _ rfl rfl p3 ?_
        simp only [setC, go_sem, Nat.reduceEqDiff, Nat.reduceAdd, Nat.reduceLeDiff, Int.reduceLT, Int.reduceLE, Int.reduceToNat, Int.toNat_zero, Int.le_refl, c4, Nat.reduceMul, true_and, and_self, ↓reduceIte]
        refine callP_eq rfl rfl p2 ?_
        simp only [hev, go_sem, Nat.reduceEqDiff, and_self, ↓reduceIte]
  have k1 : x.kind ≠ 1 := by omega
  have hk1 : decide (x.kind = 1) = false := by simpa using k1
  rw [if_neg k1] at hev
  simp only [one_eq, hk1, go_sem, Nat.reduceEqDiff]
  by_cases k4 : x.kind = 4
  · rw [if_pos k4] at hev
    have hl : 0 < x.sub.length := by omega
    have hm := memx hl
    have e0 := size_mem hm
    rw [boxesH_one _ hl] at hev
    simp only [k4, decide_true, get_exprC hl, Int.toNat_zero, Int.le_refl, go_sem, Nat.reduceEqDiff, Nat.reduceAdd, Nat.reduceLeDiff]
    refine callP_eq (by first | rfl | (simp only [exprC_mk]; rfl)) (by first | rfl | (simp only [exprC_mk]; rfl)) (ih _ hm (by omega) (hg.sub _ hm) _) ?_
    cases hx : boxesE (x.sub.getD 0 x0) (!neg) with
    | none => simp only [hev, hx, go_sem, Nat.reduceEqDiff]
    | some l => simp only [hev, hx, go_sem, Nat.reduceEqDiff]
  rw [if_neg k4] at hev
  have hk4 : decide (x.kind = 4) = false := by simpa using k4
  simp only [one_eq, hk4, go_sem, Nat.reduceEqDiff, Nat.reduceAdd]
  have k23 : x.kind = 2 ∨ x.kind = 3 := by omega
  have e21 : ((2 : Int) == 2) = true := rfl
  have e32 : ((3 : Int) == 2) = false := rfl
  have e33 : ((3 : Int) == 3) = true := rfl
  have e23 : ((2 : Int) == 3) = false := rfl
  have d32 : decide ((3 : Int) = 2) = false := rfl
  have d33 : decide ((3 : Int) = 3) = true := rfl
  rcases k23 with k | k <;> cases neg
  · have hb : (decide (x.kind = 2) != false) = true := by rw [k]; rfl
    rw [hb] at hev
    simp only [k, Bool.not_false, go_sem, Nat.reduceEqDiff]
    refine callP_eq rfl rfl kall6 ?_
    simp only [go_sem, Nat.reduceEqDiff, Nat.reduceAdd, Nat.reduceLeDiff]
    rw [show (St.fz _ [7]) = some _ from rfl]
    simp only [go_sem, Nat.reduceEqDiff]
    refine ev_loop_by (invB6 x false true (boxesE x false)) x.sub.length ⟨0, _, by omega, by omega, ?_, ?_, hev.symm, by simp only [go_sem, Nat.reduceEqDiff]; rfl⟩ ?_
    · exact startB_len _
    · exact fun b hb => (startB_FK b hb).mono (by omega)
    rintro n S ⟨i, acc, hil, hn, hal, haf, hF, hS⟩
    rw [ev_trim, hS]
    subst hn
    simp only [go_sem, Nat.reduceEqDiff, Nat.reduceAdd, List.length_map]
    refine condE_split (fun h => ?_) (fun h => ?_)
    rotate_left
    · have hil' : i = x.sub.length := by simp at h; omega
      subst hil'
      rw [List.drop_length, boxesF] at hF
      simp only [← hF, go_sem, Nat.reduceEqDiff]
    have hi' : i < x.sub.length := by simpa using h
    have hm := memx hi'
    have e0 := size_mem hm
    have e1 := sizeL_next hi'
    have e2 := sizeL_take_le x.sub (i + 1)
    have hpos := size_pos (x.sub.getD i x0)
    rw [boxesF_step _ _ _ hi'] at hF
    simp only [nn0, Int.toNat_natCast, get_exprC hi', go_sem, Nat.reduceEqDiff, Nat.reduceAdd, Nat.reduceLeDiff]
    refine callP_eq (by first | rfl | (simp only [exprC_mk]; rfl)) (by first | rfl | (simp only [exprC_mk]; rfl)) (ih _ hm (by omega) (hg.sub _ hm) false) ?_
    cases hx : boxesE (x.sub.getD i x0) false with
    | none =>
      rw [hx] at hF
      simp only at hF
      simp only [← hF, go_sem, Nat.reduceEqDiff]
    | some sub =>
    obtain ⟨hs1, hs2⟩ := boxesE_facts _ (hg.sub _ hm) false sub hx
    rw [hx] at hF
    simp only at hF
    have hnx := nextB_FK (both := true) haf hs2
    have hpl : ∀ j k : Nat, (prodA (acc.take j) sub ++ (sub.take k).map (andB (acc.getD j allB))).length ≤ 1000 := fun j k => by
      rw [List.length_append, prodA_len, List.length_map, List.length_take, List.length_take]
      have := Nat.mul_le_mul (show min j acc.length ≤ 16 by omega) hs1
      omega
    have hul : ∀ i : Nat, i ≤ 16 → IntKind.i64.wrap ((i : Int) + 1) = ((i + 1 : Nat) : Int) := fun i hi => up64 (show i < 1000000 by omega)
    simp only [go_sem, Nat.reduceEqDiff]
    refine loop_N acc.length (fun _ => True) (fun j => ⟨[(1, .val (.bool false)), (2, .rp none (exprC x) 0), (7, .sl none (acc.map boxC)), (8, .val (.bool true)), (9, .val (.int .i64 i)), (10, .sl none (sub.map boxC)), (12, .sl (some (12, 49, 16)) ((prodA (acc.take j) sub).map boxC)), (13, .val (.int .i64 j))], [], [((12, 49, 16), true)]⟩) trivial (by simp only [go_sem, Nat.reduceEqDiff]; rfl) ?_
    rintro j hj -
    simp only [go_sem, Nat.reduceEqDiff, List.length_map]
    refine condE_split (fun hc => ?_) (fun hc => ?_)
    · have hj' : j < acc.length := by simpa using hc
      have mj := getD_mem hj'
      have hpn := prodA_next sub hj'
      have hpj := hpl j
      have gj := get_boxC hj'
      have fj := haf _ mj
      generalize hxj : acc.getD j allB = xj at *
      simp only [go_sem, Nat.reduceEqDiff]
      refine loop_N sub.length (fun _ => True) (fun k => ⟨[(1, .val (.bool false)), (2, .rp none (exprC x) 0), (7, .sl none (acc.map boxC)), (8, .val (.bool true)), (9, .val (.int .i64 i)), (10, .sl none (sub.map boxC)), (12, .sl (some (12, 49, 16)) ((prodA (acc.take j) sub ++ (sub.take k).map (andB xj)).map boxC)), (13, .val (.int .i64 j)), (14, .val (.int .i64 k))], [], [((12, 49, 16), true)]⟩) trivial (by simp only [go_sem, Nat.reduceEqDiff]; simp) ?_
      rintro k hk -
      simp only [go_sem, Nat.reduceEqDiff, List.length_map]
      refine condE_split (fun hd => ?_) (fun hd => ?_)
      · have hk' : k < sub.length := by simpa using hd
        have mk := getD_mem hk'
        have gk := get_boxC hk'
        have fk := hs2 _ mk
        have hkn : (sub.take (k + 1)).map (andB xj) = (sub.take k).map (andB xj) ++ [andB xj (sub.getD k allB)] := by rw [takeB hk', List.map_append]; rfl
        have hpk := hpj k
        generalize sub.getD k allB = yk at *
        simp only [nn0, Int.toNat_natCast, gj, gk, go_sem, Nat.reduceEqDiff, Nat.reduceAdd, Nat.reduceLeDiff]
        refine callQ_by _ rfl rfl (kAnd6 xj yk fj.2 fk.2 (fj.1.mono (by omega)) (fk.1.mono (by omega))) ?_
        simp only [go_sem, Nat.reduceEqDiff, Nat.reduceAdd, Nat.reduceLeDiff, List.length_map]
        refine ⟨boxB_len _, by rintro _ rfl; rfl, by omega, by omega, ?_⟩
        simp only [hul k (by omega), go_sem]
        refine invN_next hk' trivial ?_
        simp only [hkn, List.map_append, List.map_cons, List.map_nil, List.append_assoc, go_sem, Nat.reduceEqDiff]
      · have hke : k = sub.length := by simp at hd; omega
        subst hke
        rw [List.take_length]
        simp only [hul j (by omega), go_sem, Nat.reduceEqDiff]
        refine invN_next hj' trivial ?_
        simp only [hpn, go_sem, Nat.reduceEqDiff]
    · have hje : j = acc.length := by simp at hc; omega
      subst hje
      rw [List.take_length]
      have hfk := prodA_FK haf hs2
      have hf4 : ∀ b ∈ prodA acc sub, FK 400 b := fun b hb => (hfk b hb).mono (by omega)
      have hT := krefTidy (prodA acc sub) (by rw [prodA_len]; exact Nat.le_trans (Nat.mul_le_mul hal hs1) (by omega)) (fun b hb => (hf4 b hb).1) (fun b hb => (hf4 b hb).2)
      have hN : tidyM (prodA acc sub) = nextB true acc sub := by
        rw [← tidy_filter hf4, prodA_filter]; rfl
      rw [hN] at hT
      simp only [go_sem, Nat.reduceEqDiff]
      refine callP_eq rfl rfl hT ?_
      simp only [gt16, go_sem, Nat.reduceEqDiff, List.length_map]
      cases h16 : decide ((nextB true acc sub).length > 16)
      · have h16' : ¬ (nextB true acc sub).length > 16 := by simpa using h16
        rw [if_neg h16'] at hF
        simp only [up64 (show i < 1000000 by omega), go_sem, Nat.reduceEqDiff]
        refine ⟨x.sub.length - (i + 1), by omega, i + 1, nextB true acc sub, by omega, rfl, by omega, fun b hb => (hnx b hb).mono (by omega), hF, by simp only [go_sem, Nat.reduceEqDiff]⟩
      · have h16' : (nextB true acc sub).length > 16 := by simpa using h16
        rw [if_pos h16'] at hF
        simp only [← hF, go_sem, Nat.reduceEqDiff]
  · have hb : (decide (x.kind = 2) != true) = false := by rw [k]; rfl
    rw [hb] at hev
    simp only [k, e23, Bool.not_true, go_sem, Nat.reduceEqDiff, Nat.reduceAdd]
    rw [show (St.fz _ [7]) = some _ from rfl]
    simp only [go_sem, Nat.reduceEqDiff]
    refine ev_loop_by (invB6 x true false (boxesE x true)) x.sub.length ⟨0, _, by omega, by omega, ?_, ?_, hev.symm, by simp only [go_sem, Nat.reduceEqDiff]; rfl⟩ ?_
    · exact startB_len _
    · exact fun b hb => (startB_FK b hb).mono (by omega)
    rintro n S ⟨i, acc, hil, hn, hal, haf, hF, hS⟩
    rw [ev_trim, hS]
    subst hn
    simp only [go_sem, Nat.reduceEqDiff, Nat.reduceAdd, List.length_map]
    refine condE_split (fun h => ?_) (fun h => ?_)
    rotate_left
    · have hil' : i = x.sub.length := by simp at h; omega
      subst hil'
      rw [List.drop_length, boxesF] at hF
      simp only [← hF, go_sem, Nat.reduceEqDiff]
    have hi' : i < x.sub.length := by simpa using h
    have hm := memx hi'
    have e0 := size_mem hm
    have e1 := sizeL_next hi'
    have e2 := sizeL_take_le x.sub (i + 1)
    have hpos := size_pos (x.sub.getD i x0)
    rw [boxesF_step _ _ _ hi'] at hF
    simp only [nn0, Int.toNat_natCast, get_exprC hi', go_sem, Nat.reduceEqDiff, Nat.reduceAdd, Nat.reduceLeDiff]
    refine callP_eq (by first | rfl | (simp only [exprC_mk]; rfl)) (by first | rfl | (simp only [exprC_mk]; rfl)) (ih _ hm (by omega) (hg.sub _ hm) true) ?_
    cases hx : boxesE (x.sub.getD i x0) true with
    | none =>
      rw [hx] at hF
      simp only at hF
      simp only [← hF, go_sem, Nat.reduceEqDiff]
    | some sub =>
    obtain ⟨hs1, hs2⟩ := boxesE_facts _ (hg.sub _ hm) true sub hx
    rw [hx] at hF
    simp only at hF
    have hnx := nextB_FK (both := false) haf hs2
    simp only [go_sem, Nat.reduceEqDiff, Nat.reduceLeDiff, List.length_map]
    refine ⟨boxB_len _, by omega, by omega, ?_⟩
    try simp only [go_sem, Nat.reduceEqDiff, Nat.reduceAdd, Nat.reduceLeDiff, List.length_map]
    refine ⟨?_, boxB_len _, ?_, ?_, ?_⟩
    · intro y hy
      exact boxB_len acc y hy
    · first | omega | (simp; omega)
    · first | omega | (simp; omega)
    have hf4 : ∀ b ∈ acc ++ sub, FK 400 b := fun b hb => by
      rcases List.mem_append.1 hb with h | h
      · exact (haf b h).mono (by omega)
      · exact (hs2 b h).mono (by omega)
    have hT := krefTidy (acc ++ sub) (by simp; omega) (fun b hb => (hf4 b hb).1) (fun b hb => (hf4 b hb).2)
    have hN : tidyM (acc ++ sub) = nextB false acc sub := rfl
    rw [hN] at hT
    simp only [← List.map_append, go_sem]
    refine callP_eq rfl rfl hT ?_
    simp only [gt16, go_sem, Nat.reduceEqDiff, List.length_map]
    cases h16 : decide ((nextB false acc sub).length > 16)
    · have h16' : ¬ (nextB false acc sub).length > 16 := by simpa using h16
      rw [if_neg h16'] at hF
      simp only [up64 (show i < 1000000 by omega), go_sem, Nat.reduceEqDiff]
      refine ⟨x.sub.length - (i + 1), by omega, i + 1, nextB false acc sub, by omega, rfl, by omega, fun b hb => (hnx b hb).mono (by omega), hF, by simp only [go_sem, Nat.reduceEqDiff]⟩
    · have h16' : (nextB false acc sub).length > 16 := by simpa using h16
      rw [if_pos h16'] at hF
      simp only [← hF, go_sem, Nat.reduceEqDiff]
  · have hb : (decide (x.kind = 2) != false) = false := by rw [k]; rfl
    rw [hb] at hev
    simp only [k, e33, d32, go_sem, Nat.reduceEqDiff, Nat.reduceAdd]
    rw [show (St.fz _ [7]) = some _ from rfl]
    simp only [go_sem, Nat.reduceEqDiff]
    refine ev_loop_by (invB6 x false false (boxesE x false)) x.sub.length ⟨0, _, by omega, by omega, ?_, ?_, hev.symm, by simp only [go_sem, Nat.reduceEqDiff]; rfl⟩ ?_
    · exact startB_len _
    · exact fun b hb => (startB_FK b hb).mono (by omega)
    rintro n S ⟨i, acc, hil, hn, hal, haf, hF, hS⟩
    rw [ev_trim, hS]
    subst hn
    simp only [go_sem, Nat.reduceEqDiff, Nat.reduceAdd, List.length_map]
    refine condE_split (fun h => ?_) (fun h => ?_)
    rotate_left
    · have hil' : i = x.sub.length := by simp at h; omega
      subst hil'
      rw [List.drop_length, boxesF] at hF
      simp only [← hF, go_sem, Nat.reduceEqDiff]
    have hi' : i < x.sub.length := by simpa using h
    have hm := memx hi'
    have e0 := size_mem hm
    have e1 := sizeL_next hi'
    have e2 := sizeL_take_le x.sub (i + 1)
    have hpos := size_pos (x.sub.getD i x0)
    rw [boxesF_step _ _ _ hi'] at hF
    simp only [nn0, Int.toNat_natCast, get_exprC hi', go_sem, Nat.reduceEqDiff, Nat.reduceAdd, Nat.reduceLeDiff]
    refine callP_eq (by first | rfl | (simp only [exprC_mk]; rfl)) (by first | rfl | (simp only [exprC_mk]; rfl)) (ih _ hm (by omega) (hg.sub _ hm) false) ?_
    cases hx : boxesE (x.sub.getD i x0) false with
    | none =>
      rw [hx] at hF
      simp only at hF
      simp only [← hF, go_sem, Nat.reduceEqDiff]
    | some sub =>
    obtain ⟨hs1, hs2⟩ := boxesE_facts _ (hg.sub _ hm) false sub hx
    rw [hx] at hF
    simp only at hF
    have hnx := nextB_FK (both := false) haf hs2
    simp only [go_sem, Nat.reduceEqDiff, Nat.reduceLeDiff, List.length_map]
    refine ⟨boxB_len _, by omega, by omega, ?_⟩
    try simp only [go_sem, Nat.reduceEqDiff, Nat.reduceAdd, Nat.reduceLeDiff, List.length_map]
    refine ⟨?_, boxB_len _, ?_, ?_, ?_⟩
    · intro y hy
      exact boxB_len acc y hy
    · first | omega | (simp; omega)
    · first | omega | (simp; omega)
    have hf4 : ∀ b ∈ acc ++ sub, FK 400 b := fun b hb => by
      rcases List.mem_append.1 hb with h | h
      · exact (haf b h).mono (by omega)
      · exact (hs2 b h).mono (by omega)
    have hT := krefTidy (acc ++ sub) (by simp; omega) (fun b hb => (hf4 b hb).1) (fun b hb => (hf4 b hb).2)
    have hN : tidyM (acc ++ sub) = nextB false acc sub := rfl
    rw [hN] at hT
    simp only [← List.map_append, go_sem]
    refine callP_eq rfl rfl hT ?_
    simp only [gt16, go_sem, Nat.reduceEqDiff, List.length_map]
    cases h16 : decide ((nextB false acc sub).length > 16)
    · have h16' : ¬ (nextB false acc sub).length > 16 := by simpa using h16
      rw [if_neg h16'] at hF
      simp only [up64 (show i < 1000000 by omega), go_sem, Nat.reduceEqDiff]
      refine ⟨x.sub.length - (i + 1), by omega, i + 1, nextB false acc sub, by omega, rfl, by omega, fun b hb => (hnx b hb).mono (by omega), hF, by simp only [go_sem, Nat.reduceEqDiff]⟩
    · have h16' : (nextB false acc sub).length > 16 := by simpa using h16
      rw [if_pos h16'] at hF
      simp only [← hF, go_sem, Nat.reduceEqDiff]
  · have hb : (decide (x.kind = 2) != true) = true := by rw [k]; rfl
    rw [hb] at hev
    simp only [k, e33, d32, go_sem, Nat.reduceEqDiff, Nat.reduceAdd]
    refine callP_eq rfl rfl kall6 ?_
    simp only [go_sem, Nat.reduceEqDiff, Nat.reduceAdd, Nat.reduceLeDiff]
    rw [show (St.fz _ [7]) = some _ from rfl]
    simp only [go_sem, Nat.reduceEqDiff]
    refine ev_loop_by (invB6 x true true (boxesE x true)) x.sub.length ⟨0, _, by omega, by omega, ?_, ?_, hev.symm, by simp only [go_sem, Nat.reduceEqDiff]; rfl⟩ ?_
    · exact startB_len _
    · exact fun b hb => (startB_FK b hb).mono (by omega)
    rintro n S ⟨i, acc, hil, hn, hal, haf, hF, hS⟩
    rw [ev_trim, hS]
    subst hn
    simp only [go_sem, Nat.reduceEqDiff, Nat.reduceAdd, List.length_map]
    refine condE_split (fun h => ?_) (fun h => ?_)
    rotate_left
    · have hil' : i = x.sub.length := by simp at h; omega
      subst hil'
      rw [List.drop_length, boxesF] at hF
      simp only [← hF, go_sem, Nat.reduceEqDiff]
    have hi' : i < x.sub.length := by simpa using h
    have hm := memx hi'
    have e0 := size_mem hm
    have e1 := sizeL_next hi'
    have e2 := sizeL_take_le x.sub (i + 1)
    have hpos := size_pos (x.sub.getD i x0)
    rw [boxesF_step _ _ _ hi'] at hF
    simp only [nn0, Int.toNat_natCast, get_exprC hi', go_sem, Nat.reduceEqDiff, Nat.reduceAdd, Nat.reduceLeDiff]
    refine callP_eq (by first | rfl | (simp only [exprC_mk]; rfl)) (by first | rfl | (simp only [exprC_mk]; rfl)) (ih _ hm (by omega) (hg.sub _ hm) true) ?_
    cases hx : boxesE (x.sub.getD i x0) true with
    | none =>
      rw [hx] at hF
      simp only at hF
      simp only [← hF, go_sem, Nat.reduceEqDiff]
    | some sub =>
    obtain ⟨hs1, hs2⟩ := boxesE_facts _ (hg.sub _ hm) true sub hx
    rw [hx] at hF
    simp only at hF
    have hnx := nextB_FK (both := true) haf hs2
    have hpl : ∀ j k : Nat, (prodA (acc.take j) sub ++ (sub.take k).map (andB (acc.getD j allB))).length ≤ 1000 := fun j k => by
      rw [List.length_append, prodA_len, List.length_map, List.length_take, List.length_take]
      have := Nat.mul_le_mul (show min j acc.length ≤ 16 by omega) hs1
      omega
    have hul : ∀ i : Nat, i ≤ 16 → IntKind.i64.wrap ((i : Int) + 1) = ((i + 1 : Nat) : Int) := fun i hi => up64 (show i < 1000000 by omega)
    simp only [go_sem, Nat.reduceEqDiff]
    refine loop_N acc.length (fun _ => True) (fun j => ⟨[(1, .val (.bool true)), (2, .rp none (exprC x) 0), (7, .sl none (acc.map boxC)), (8, .val (.bool true)), (9, .val (.int .i64 i)), (10, .sl none (sub.map boxC)), (12, .sl (some (12, 49, 16)) ((prodA (acc.take j) sub).map boxC)), (13, .val (.int .i64 j))], [], [((12, 49, 16), true)]⟩) trivial (by simp only [go_sem, Nat.reduceEqDiff]; rfl) ?_
    rintro j hj -
    simp only [go_sem, Nat.reduceEqDiff, List.length_map]
    refine condE_split (fun hc => ?_) (fun hc => ?_)
    · have hj' : j < acc.length := by simpa using hc
      have mj := getD_mem hj'
      have hpn := prodA_next sub hj'
      have hpj := hpl j
      have gj := get_boxC hj'
      have fj := haf _ mj
      generalize hxj : acc.getD j allB = xj at *
      simp only [go_sem, Nat.reduceEqDiff]
      refine loop_N sub.length (fun _ => True) (fun k => ⟨[(1, .val (.bool true)), (2, .rp none (exprC x) 0), (7, .sl none (acc.map boxC)), (8, .val (.bool true)), (9, .val (.int .i64 i)), (10, .sl none (sub.map boxC)), (12, .sl (some (12, 49, 16)) ((prodA (acc.take j) sub ++ (sub.take k).map (andB xj)).map boxC)), (13, .val (.int .i64 j)), (14, .val (.int .i64 k))], [], [((12, 49, 16), true)]⟩) trivial (by simp only [go_sem, Nat.reduceEqDiff]; simp) ?_
      rintro k hk -
      simp only [go_sem, Nat.reduceEqDiff, List.length_map]
      refine condE_split (fun hd => ?_) (fun hd => ?_)
      · have hk' : k < sub.length := by simpa using hd
        have mk := getD_mem hk'
        have gk := get_boxC hk'
        have fk := hs2 _ mk
        have hkn : (sub.take (k + 1)).map (andB xj) = (sub.take k).map (andB xj) ++ [andB xj (sub.getD k allB)] := by rw [takeB hk', List.map_append]; rfl
        have hpk := hpj k
        generalize sub.getD k allB = yk at *
        simp only [nn0, Int.toNat_natCast, gj, gk, go_sem, Nat.reduceEqDiff, Nat.reduceAdd, Nat.reduceLeDiff]
        refine callQ_by _ rfl rfl (kAnd6 xj yk fj.2 fk.2 (fj.1.mono (by omega)) (fk.1.mono (by omega))) ?_
        simp only [go_sem, Nat.reduceEqDiff, Nat.reduceAdd, Nat.reduceLeDiff, List.length_map]
        refine ⟨boxB_len _, by rintro _ rfl; rfl, by omega, by omega, ?_⟩
        simp only [hul k (by omega), go_sem]
        refine invN_next hk' trivial ?_
        simp only [hkn, List.map_append, List.map_cons, List.map_nil, List.append_assoc, go_sem, Nat.reduceEqDiff]
      · have hke : k = sub.length := by simp at hd; omega
        subst hke
        rw [List.take_length]
        simp only [hul j (by omega), go_sem, Nat.reduceEqDiff]
        refine invN_next hj' trivial ?_
        simp only [hpn, go_sem, Nat.reduceEqDiff]
    · have hje : j = acc.length := by simp at hc; omega
      subst hje
      rw [List.take_length]
      have hfk := prodA_FK haf hs2
      have hf4 : ∀ b ∈ prodA acc sub, FK 400 b := fun b hb => (hfk b hb).mono (by omega)
      have hT := krefTidy (prodA acc sub) (by rw [prodA_len]; exact Nat.le_trans (Nat.mul_le_mul hal hs1) (by omega)) (fun b hb => (hf4 b hb).1) (fun b hb => (hf4 b hb).2)
      have hN : tidyM (prodA acc sub) = nextB true acc sub := by
        rw [← tidy_filter hf4, prodA_filter]; rfl
      rw [hN] at hT
      simp only [go_sem, Nat.reduceEqDiff]
      refine callP_eq rfl rfl hT ?_
      simp only [gt16, go_sem, Nat.reduceEqDiff, List.length_map]
      cases h16 : decide ((nextB true acc sub).length > 16)
      · have h16' : ¬ (nextB true acc sub).length > 16 := by simpa using h16
        rw [if_neg h16'] at hF
        simp only [up64 (show i < 1000000 by omega), go_sem, Nat.reduceEqDiff]
        refine ⟨x.sub.length - (i + 1), by omega, i + 1, nextB true acc sub, by omega, rfl, by omega, fun b hb => (hnx b hb).mono (by omega), hF, by simp only [go_sem, Nat.reduceEqDiff]⟩
      · have h16' : (nextB true acc sub).length > 16 := by simpa using h16
        rw [if_pos h16'] at hF
        simp only [← hF, go_sem, Nat.reduceEqDiff]
end Go.Proofs



namespace Go.Proofs
open Go.Vm
set_option linter.unusedSimpArgs false

set_option maxHeartbeats 4000000 in
theorem kOf6 (x : ExprM) (hs : setsOk SetB x) : PureAt Tryz.prog 15 [.agg (exprC x)] (· = encOf (ofX x)) := by
  have p1 := kRight5 x hs
  have p2 := fun h h' => kboxes6 x h h' false
  refine pure_of r15 (by kernel_rfl) ?_
  unfold m15 ofX encOf
  simp only [go_sem, Nat.reduceEqDiff, Nat.reduceAdd, Nat.reduceLeDiff]
  refine callP_eq (by first | rfl | (simp only [exprC_mk]; rfl)) (by first | rfl | (simp only [exprC_mk]; rfl)) p1 ?_
  cases hr : rightX x
  · simp only [go_sem, Nat.reduceEqDiff]
  obtain ⟨hg, hz⟩ := goodX hs hr
  have hf := boxesE_facts x hg false
  simp only [go_sem, Nat.reduceEqDiff, Nat.reduceAdd, Nat.reduceLeDiff]
  refine callP_eq (by first | rfl | (simp only [exprC_mk]; rfl)) (by first | rfl | (simp only [exprC_mk]; rfl)) (p2 hz hg) ?_
  cases hb : boxesE x false with
  | none =>
    simp only [go_sem, Nat.reduceEqDiff]
  | some l =>
    obtain ⟨h1, h2⟩ := hf l hb
    have p3 := kref6Right l (by omega) (fun b hb => (h2 b hb).1.mono (by omega)) (fun b hb i hi => ((h2 b hb).2 i hi).inb)
    simp only [go_sem, Nat.reduceEqDiff]
    refine callP_eq rfl rfl p3 ?_
    cases hrf : rightF l
    · simp only [go_sem, Nat.reduceEqDiff]
    · simp only [go_sem, Nat.reduceEqDiff]
theorem sameF_self (l : List BoxM) : sameF l l = true := by
  simp [sameF, boxSame, all4, sameB, sameM_self]
set_option maxHeartbeats 4000000 in
theorem kDnfOf (x : ExprM) (hb : setsOk Bnd x) : PureAt Tryz.prog 3 [.agg (exprC x)] (· = .val (.bool true)) := by
  have p1 := kFew5 x
  refine pure_of r3 (by kernel_rfl) ?_
  unfold m3
  simp only [go_sem, Nat.reduceEqDiff, Nat.reduceAdd]
  refine callP_eq rfl rfl kawake06 ?_
  simp only [go_sem, Nat.reduceEqDiff, Nat.reduceAdd, Nat.reduceLeDiff]
  refine callP_eq (by first | rfl | (simp only [exprC_mk]; rfl)) (by first | rfl | (simp only [exprC_mk]; rfl)) p1 ?_
  cases hfew : fewE x
  · simp only [go_sem, Nat.reduceEqDiff]
    refine callP_eq rfl rfl kawake06 ?_
    simp only [go_sem, Nat.reduceEqDiff]
  have hs := fewE_set hb hfew
  have p2 := kdnfOf x hs
  have p3 := kOf6 x hs
  simp only [encOf] at p2 p3
  have hl := (ofX_facts hs).1
  have p4 := kref6Same (ofX x).1 (ofX x).1 (by omega) (ofX_few hs)
  rw [sameF_self] at p4
  simp only [go_sem, Nat.reduceEqDiff, Nat.reduceAdd, Nat.reduceLeDiff]
  refine callP_eq (by first | rfl | (simp only [exprC_mk]; rfl)) (by first | rfl | (simp only [exprC_mk]; rfl)) p2 ?_
  simp only [go_sem, Nat.reduceEqDiff, Nat.reduceAdd, Nat.reduceLeDiff]
  refine callP_eq (by first | rfl | (simp only [exprC_mk]; rfl)) (by first | rfl | (simp only [exprC_mk]; rfl)) p3 ?_
  simp only [go_sem, Nat.reduceEqDiff]
  refine callP_eq rfl rfl p4 ?_
  simp only [beq_self_eq_true, go_sem, Nat.reduceEqDiff]
end Go.Proofs

