/- A part of the proof; what is proved stands in the last text. -/
import Derived.Test.YtipppgiimemloaaGreatT82
import Derived.Test.YtipppgiimemloaaGreatLayGrowB
set_option linter.unusedVariables false
set_option maxRecDepth 2000

namespace Go.Proofs
open Go.Vm Go.Shelf

theorem infoB : (Tryz.prog.info? 49).map (fun i => (i.size, i.bytes, i.zero.map fun z => z.cells.size)) = some (16, 256, some 16) := by kernel_rfl
theorem kGrowB (n : Nat) (hn : n ≤ 100000) : FreshAt Tryz.prog 130 [.val (.slice none 0 0), .val (.int .i64 n)] 49 16 (· = []) := by
  refine ⟨⟨_, Tryz.func130, rfl, rfl⟩, fun F w vs hF hs hrep => ?_⟩
  obtain ⟨x, y, rfl⟩ : ∃ x y, vs = #[x, y] := by
    match vs, hs with
    | ⟨[x, y]⟩, _ => exact ⟨x, y, rfl⟩
  have h0 := hrep 0 _ x rfl rfl
  have h1 := hrep 1 _ y rfl rfl
  cases h0
  cases h1
  have none_ : ∀ {p : Prop} {i : Nat} {l : List D}, ([] : List (List D))[i]? = some l → p := fun h => by simp at h
  by_cases hz : n = 0
  · subst hz
    have h := Any8.slices_Grow_room Tryz.GrowB none 0 0 0 w (by omega) (by omega) (by omega) (by omega)
    change Calls Tryz.prog 130 _ _ _ at h
    refine h.mono ?_
    rintro e w' ⟨rfl, rfl⟩
    exact ⟨[], _, [], rfl, rfl, World.ownsRow_nil w' 0 49 16, by simp, fun b hb => by simp [Value.ownBlock] at hb, Keep.refl _ _, fun i l h => none_ h, fun i l j d h => none_ h⟩
  · obtain ⟨i0, hi0⟩ : ∃ i, Tryz.prog.info? 49 = some i := by
      have := infoB
      cases h : Tryz.prog.info? 49
      · rw [h] at this; simp at this
      · exact ⟨_, rfl⟩
    have hi := infoB
    rw [hi0] at hi
    simp only [Option.map_some, Option.some.injEq, Prod.mk.injEq] at hi
    obtain ⟨e1, e2, e3⟩ := hi
    obtain ⟨z, hz0, e4⟩ := Option.map_eq_some_iff.1 e3
    have h := Any8.slices_Grow_grow Tryz.GrowB i0 z hi0 hz0 (by omega) none 0 0 n [] w (by omega) (by omega) (by rw [e2]; omega) (by omega) (by simp) (by simp) (by simp)
    change Calls Tryz.prog 130 _ _ _ at h
    refine h.mono ?_
    rintro e w' ⟨rfl, rfl⟩
    have hge := grownCap_ge w (0 + n) 0 49
    have hcm : grownCap w (0 + n) 0 49 ≤ maxLen := grownCap_le_maxLen w (0 + n) 0 49 (by simp only [maxLen]; omega)
    refine ⟨[], _, [], rfl, rfl, ⟨rfl, .inr ⟨w.heap.size, _, _, rfl, Nat.zero_le _, heap_alloc_new w.drew _, Nat.zero_le _, hcm, ?_, ?_⟩⟩, by simp, fun b hb => ?_, ?_, fun i l h => none_ h, fun i l j d h => none_ h⟩
    · change _ = grownCap w (0 + n) 0 49 * 16
      simp only [Array.size_append, List.size_toArray, size_zeroCells, e4, List.length_nil]
      change 0 + (0 + n - 0) * 16 + (grownCap w (0 + n) 0 49 - (0 + n)) * 16 = grownCap w (0 + n) 0 49 * 16
      omega
    · simp
    · simp only [Value.ownBlock, Option.some.injEq] at hb; omega
    · exact (Keep.drew _ w _ (Nat.le_succ _)).trans (Keep.alloc _ w.drew _) (fun _ _ _ h => h)

theorem kConcatB (a b : List BoxM) (ha : a.length ≤ 10000) (hb : b.length ≤ 10000) : PureAt Tryz.prog 88 [.sl none [[.sl none (a.map boxC)], [.sl none (b.map boxC)]]] (· = .sl none ((a ++ b).map boxC)) := by
  have p := kGrowB (a.length + b.length) (by omega)
  have w1 : IntKind.i64.wrap ((0 : Int) + (a.length : Int)) = ((a.length : Nat) : Int) := by rw [wrap64 (by omega) (by omega)]; omega
  have w2 : IntKind.i64.wrap ((a.length : Int) + (b.length : Int)) = ((a.length + b.length : Nat) : Int) := by rw [wrap64 (by omega) (by omega)]; omega
  have l1 : decide ((a.length : Int) < 0) = false := by simp
  have l2 : decide (((a.length + b.length : Nat) : Int) < 0) = false := by simp; omega
  refine pure_of r88 (by kernel_rfl) ?_
  unfold m88
  simp only [go_sem, Nat.reduceEqDiff, Nat.reduceAdd]
  refine ev_loop_u 2 ?_
  simp only [w1, w2, l1, l2, go_sem, Nat.reduceEqDiff, Nat.reduceAdd, List.length_map, Int.reduceLT, Int.reduceLE, Int.reduceToNat, Int.toNat_zero, Int.le_refl, Int.reduceAdd, decide_true, decide_false, wr1, wr2, c2, ↓reduceIte]
  refine callF_by rfl rfl p ?_
  rintro es rfl
  simp only [go_sem, Nat.reduceEqDiff, Nat.reduceAdd]
  refine ev_loop_u 2 ?_
  simp only [go_sem, Nat.reduceEqDiff, Nat.reduceAdd, Nat.reduceLeDiff, List.length_map, Int.reduceLT, Int.reduceLE, Int.reduceToNat, Int.toNat_zero, Int.le_refl, Int.reduceAdd, decide_true, decide_false, wr1, wr2, c2, true_and, ↓reduceIte]
  have l16 : ∀ (l : List BoxM) (y : List D), y ∈ l.map boxC → y.length = 16 := fun l y hy => by
    obtain ⟨z, -, rfl⟩ := List.mem_map.1 hy
    rfl
  exact ⟨l16 a, by omega, by omega, l16 a, l16 b, by omega, by omega, by rw [List.map_append]⟩
end Go.Proofs



namespace Go.Proofs
open Go.Vm
set_option linter.unusedSimpArgs false

def prod1 (b : List BoxM) (x : BoxM) : List BoxM := (b.map (andB x)).filter fun c => !emptyB c
def prodL (a b : List BoxM) : List BoxM := a.flatMap (prod1 b)
theorem takeB {l : List BoxM} {i : Nat} (h : i < l.length) : l.take (i + 1) = l.take i ++ [l.getD i allB] := by
  rw [getD_at h, List.take_succ_eq_append_getElem h]
theorem prod1_t {b : List BoxM} {k : Nat} (x : BoxM) (h : k < b.length) (he : emptyB (andB x (b.getD k allB)) = false) : prod1 (b.take (k + 1)) x = prod1 (b.take k) x ++ [andB x (b.getD k allB)] := by
  rw [takeB h, prod1, prod1, List.map_append, List.filter_append]; simp only [List.map_cons, List.map_nil, List.filter_cons, he]; rfl
theorem prod1_f {b : List BoxM} {k : Nat} (x : BoxM) (h : k < b.length) (he : emptyB (andB x (b.getD k allB)) = true) : prod1 (b.take (k + 1)) x = prod1 (b.take k) x := by
  rw [takeB h, prod1, prod1, List.map_append, List.filter_append]; simp only [List.map_cons, List.map_nil, List.filter_cons, he]; simp
theorem prodL_next {a : List BoxM} {i : Nat} (b : List BoxM) (h : i < a.length) : prodL (a.take (i + 1)) b = prodL (a.take i) b ++ prod1 b (a.getD i allB) := by
  rw [takeB h, prodL, prodL, List.flatMap_append]; simp
theorem prod1_len (b : List BoxM) (x : BoxM) : (prod1 b x).length ≤ b.length := by
  unfold prod1; exact Nat.le_trans (List.length_filter_le _ _) (by simp)
theorem prodL_len (a b : List BoxM) : (prodL a b).length ≤ a.length * b.length := by
  induction a with
  | nil => simp [prodL]
  | cons x a ih =>
    have := prod1_len b x
    simp only [prodL, List.flatMap_cons, List.length_append, List.length_cons] at *
    rw [Nat.add_mul]; omega
theorem prod_mem {a b : List BoxM} {c : BoxM} (h : c ∈ prodL a b) : ∃ x ∈ a, ∃ y ∈ b, c = andB x y := by
  obtain ⟨x, hx, hc⟩ := List.mem_flatMap.1 h
  obtain ⟨hc, -⟩ := List.mem_filter.1 hc
  obtain ⟨y, hy, rfl⟩ := List.mem_map.1 hc
  exact ⟨x, hx, y, hy, rfl⟩

set_option maxHeartbeats 4000000 in
theorem kproduct (a b : List BoxM) (la : a.length ≤ 100) (lb' : b.length ≤ 100) (fa : ∀ x ∈ a, FewB 900 x) (fb : ∀ x ∈ b, FewB 900 x) :
    PureAt Tryz.prog 87 [.sl none (a.map boxC), .sl none (b.map boxC)] (· = .sl none ((prodL a b).map boxC)) := by
  refine pure_of r87 (by kernel_rfl) ?_
  unfold m87
  simp only [go_sem, Nat.reduceEqDiff, Nat.reduceAdd, List.length_map]
  refine loop_N a.length (fun _ => True) (fun i => ⟨[(1, .sl none (b.map boxC)), (4, .sl (some (4, 49, 16)) ((prodL (a.take i) b).map boxC)), (10, .sl none (a.map boxC)), (11, .val (.int .i64 a.length)), (12, .val (.int .i64 i))], [], [((4, 49, 16), true)]⟩) trivial (by simp only [go_sem, Nat.reduceEqDiff]; rfl) ?_
  intro i hil _
  simp only [go_sem, Nat.reduceEqDiff]
  refine condE_split (fun h => ?_) (fun h => ?_)
  · have hi' : i < a.length := by simpa using h
    have hnext := prodL_next b hi'
    have hlen : (prodL (a.take i) b).length ≤ 10000 := Nat.le_trans (prodL_len _ _) (by rw [List.length_take]; exact Nat.le_trans (Nat.mul_le_mul (show min i a.length ≤ 100 by omega) lb') (by omega))
    have fx := fa _ (getD_mem hi')
    simp only [nn0, Int.toNat_natCast, get_boxC hi', go_sem, Nat.reduceEqDiff, Nat.reduceAdd, Nat.reduceLeDiff, List.length_map]
    generalize a.getD i allB = x at *
    generalize prodL (a.take i) b = out at *
    refine loop_N b.length (fun _ => True) (fun k => ⟨[(1, .sl none (b.map boxC)), (4, .sl (some (4, 49, 16)) ((out ++ prod1 (b.take k) x).map boxC)), (6, .ptr 6 0), (10, .sl none (a.map boxC)), (11, .val (.int .i64 a.length)), (12, .val (.int .i64 i)), (16, .sl none (b.map boxC)), (17, .val (.int .i64 b.length)), (18, .val (.int .i64 k))], [(6, boxC x)], [((4, 49, 16), true)]⟩) trivial (by simp only [List.take_zero, prod1, List.map_nil, List.filter_nil, List.append_nil, go_sem, Nat.reduceEqDiff]; rfl) ?_
    intro k hkl _
    simp only [go_sem, Nat.reduceEqDiff]
    refine condE_split (fun hk => ?_) (fun hk => ?_)
    · have hk' : k < b.length := by simpa using hk
      have p := kboxAnd x (b.getD k allB) fx (fb _ (getD_mem hk'))
      have ht := prod1_t x hk'
      have hf := prod1_f x hk'
      have hl1 : (prod1 (b.take k) x).length ≤ 100 := Nat.le_trans (prod1_len _ _) (by rw [List.length_take]; omega)
      simp only [nn0, Int.toNat_natCast, get_boxC hk', go_sem, Nat.reduceEqDiff, Nat.reduceAdd, Nat.reduceLeDiff]
      refine callP_eq rfl rfl p ?_
      generalize andB x (b.getD k allB) = c at *
      simp only [go_sem, Nat.reduceEqDiff, Nat.reduceAdd, Nat.reduceLeDiff]
      refine callP_eq rfl rfl (kboxEmpty c) ?_
      simp only [go_sem, Nat.reduceEqDiff]
      cases he : emptyB c
      · simp only [go_sem, Nat.reduceEqDiff, Nat.reduceAdd, Nat.reduceLeDiff, List.length_map]
        have hll : (out ++ prod1 (b.take k) x).length ≤ 10100 := by rw [List.length_append]; omega
        refine ⟨rows_boxC _, fun y hy => by rw [hy]; rfl, by omega, by omega, ?_⟩
        try simp only [up64 (show k < 1000000 by omega), go_sem]
        refine invN_next hk' trivial ?_
        simp only [ht he, List.map_append, List.append_assoc, go_sem, Nat.reduceEqDiff]
      · simp only [up64 (show k < 1000000 by omega), go_sem, Nat.reduceEqDiff]
        refine invN_next hk' trivial ?_
        simp only [hf he, go_sem, Nat.reduceEqDiff]
    · have hkl' : k = b.length := by simp at hk; omega
      subst hkl'
      simp only [List.take_length, up64 (show i < 1000000 by omega), go_sem, Nat.reduceEqDiff]
      refine invN_next hi' trivial ?_
      simp only [hnext, go_sem, Nat.reduceEqDiff]
  · have hil' : i = a.length := by simp at h; omega
    subst hil'
    simp only [List.take_length, go_sem, Nat.reduceEqDiff]
end Go.Proofs



namespace Go.Proofs
open Go.Vm
set_option linter.unusedSimpArgs false

def nextB (both : Bool) (acc sub : List BoxM) : List BoxM := tidyM (if both then prodL acc sub else acc ++ sub)
def startB : Bool → List BoxM
  | true => [allB]
  | false => []
theorem startB_len (b : Bool) : (startB b).length ≤ 16 := by cases b <;> simp [startB]
mutual
def boxesE : ExprM → Bool → Option (List BoxM)
  | .mk k a s l, neg => if k = 1 then some (tidyM [withB allB a (if neg then notM normR s else s)]) else if k = 4 then boxesH l (!neg)
    else boxesF (decide (k = 2) != neg) l neg (startB (decide (k = 2) != neg))
def boxesH : List ExprM → Bool → Option (List BoxM)
  | [], _ => none
  | x :: _, neg => boxesE x neg
def boxesF (both : Bool) : List ExprM → Bool → List BoxM → Option (List BoxM)
  | [], _, acc => some acc
  | x :: l, neg, acc => match boxesE x neg with
    | none => none
    | some sub => if (nextB both acc sub).length > 16 then none else boxesF both l neg (nextB both acc sub)
end
theorem boxesE_mk (x : ExprM) (neg : Bool) : boxesE x neg = if x.kind = 1 then some (tidyM [withB allB x.attr (if neg then notM normR x.set else x.set)]) else if x.kind = 4 then boxesH x.sub (!neg)
    else boxesF (decide (x.kind = 2) != neg) x.sub neg (startB (decide (x.kind = 2) != neg)) := by
  cases x; rw [boxesE]; rfl
theorem boxesF_step (both neg : Bool) {l : List ExprM} {i : Nat} (acc : List BoxM) (h : i < l.length) : boxesF both (l.drop i) neg acc = match boxesE (l.getD i x0) neg with
    | none => none
    | some sub => if (nextB both acc sub).length > 16 then none else boxesF both (l.drop (i + 1)) neg (nextB both acc sub) := by
  rw [getDx h, List.drop_eq_getElem_cons h, boxesF]
theorem boxesH_one (neg : Bool) {l : List ExprM} (h : 0 < l.length) : boxesH l neg = boxesE (l.getD 0 x0) neg := by
  match l, h with
  | x :: l, _ => rw [boxesH]; rfl
theorem tidy_len (l : List BoxM) : (tidyM l).length ≤ l.length := tidyI_len l l.length
theorem tidy_mem {l : List BoxM} {b : BoxM} (h : b ∈ tidyM l) : b ∈ l := by
  unfold tidyM tidyI at h
  obtain ⟨i, hi, rfl⟩ := List.mem_map.1 h
  have := (List.mem_filter.1 hi).1
  exact getD_mem (by simpa using this)

def FK (n : Nat) (b : BoxM) : Prop := FewB n b ∧ OKB b
theorem FK.mono {n m : Nat} {b : BoxM} (h : FK n b) (hm : n ≤ m) : FK m b := ⟨h.1.mono hm, h.2⟩
theorem FK.and {n m : Nat} {a b : BoxM} (ha : FK n a) (hb : FK m b) : FK (n + m + 3) (andB a b) := ⟨ha.1.and hb.1, ha.2.and hb.2⟩
theorem FK.all : FK 1 allB := by
  constructor
  · intro i hi
    rcases lt4 hi with rfl | rfl | rfl | rfl <;> exact ⟨by decide, by decide⟩
  · intro i hi
    rcases lt4 hi with rfl | rfl | rfl | rfl <;> exact OK.all
theorem withB_at {a : Int} (h : 0 ≤ a ∧ a < 4) (b : BoxM) (s : SetM) {i : Nat} (hi : i < 4) : (withB b a s).at i = if i = a.toNat then s else b.at i := by
  rcases four_of h with rfl | rfl | rfl | rfl <;> rcases lt4 hi with rfl | rfl | rfl | rfl <;> rfl
theorem FK.with {a : Int} (h : 0 ≤ a ∧ a < 4) {s : SetM} {n : Nat} (hn : 1 ≤ n) (h1 : s.ints.length ≤ n ∧ s.strs.length ≤ n) (h2 : OK s) : FK n (withB allB a s) := by
  constructor
  · intro i hi
    rw [withB_at h _ _ hi]
    split
    · exact h1
    · exact FK.all.1.mono hn i hi
  · intro i hi
    rw [withB_at h _ _ hi]
    split
    · exact h2
    · exact FK.all.2 i hi
theorem nextB_FK {both : Bool} {acc sub : List BoxM} {n m : Nat} (ha : ∀ b ∈ acc, FK n b) (hs : ∀ b ∈ sub, FK m b) : ∀ b ∈ nextB both acc sub, FK (n + m + 3) b := by
  intro b hb
  have hb := tidy_mem hb
  cases both
  · rcases List.mem_append.1 hb with h | h
    · exact (ha b h).mono (by omega)
    · exact (hs b h).mono (by omega)
  · obtain ⟨x, hx, y, hy, rfl⟩ := prod_mem hb
    exact (ha x hx).and (hs y hy)
theorem startB_FK {b : Bool} : ∀ c ∈ startB b, FK 1 c := by cases b <;> simp [startB, FK.all]
def GoodX (x : ExprM) : Prop := setsOk SetB x ∧ allX x = true
theorem GoodX.sub {x : ExprM} (h : GoodX x) : ∀ y ∈ x.sub, GoodX y := fun y hy => ⟨((setsOk_mk _ x).1 h.1).2 y hy, allX_sub h.2 y hy⟩
theorem boxesF_facts (both neg : Bool) : ∀ (l : List ExprM) (acc out : List BoxM) (n : Nat), (∀ x ∈ l, ∀ out, boxesE x neg = some out → out.length ≤ 16 ∧ ∀ b ∈ out, FK (10 * sizeE x - 3) b) → acc.length ≤ 16 → (∀ b ∈ acc, FK n b) → boxesF both l neg acc = some out →
    out.length ≤ 16 ∧ ∀ b ∈ out, FK (n + 10 * sizeL l) b
  | [], acc, out, n, _, h1, h2, h3 => by
    rw [boxesF] at h3
    cases h3
    exact ⟨h1, fun b hb => (h2 b hb).mono (by omega)⟩
  | x :: l, acc, out, n, h0, h1, h2, h3 => by
    rw [boxesF] at h3
    cases hx : boxesE x neg with
    | none => rw [hx] at h3; simp at h3
    | some sub =>
      rw [hx] at h3
      simp only at h3
      split at h3
      · simp at h3
      · rename_i h16
        have hs := (h0 x List.mem_cons_self sub hx).2
        have := size_pos x
        have h4 := boxesF_facts both neg l (nextB both acc sub) out (n + (10 * sizeE x - 3) + 3) (fun y hy => h0 y (List.mem_cons_of_mem _ hy)) (by omega) (nextB_FK h2 hs) h3
        refine ⟨h4.1, fun b hb => (h4.2 b hb).mono ?_⟩
        simp only [sizeL]; omega
theorem boxesE_facts (x : ExprM) : GoodX x → ∀ (neg : Bool) (out : List BoxM), boxesE x neg = some out → out.length ≤ 16 ∧ ∀ b ∈ out, FK (10 * sizeE x - 3) b := by
  refine ExprM.ind (p := fun x => GoodX x → ∀ (neg : Bool) (out : List BoxM), boxesE x neg = some out → out.length ≤ 16 ∧ ∀ b ∈ out, FK (10 * sizeE x - 3) b) (fun k a s l ih => ?_) x
  intro hg neg out h
  have hsub : (ExprM.mk k a s l).sub = l := rfl
  generalize ExprM.mk k a s l = x at *
  subst hsub
  have hz := sizeE_mk x
  rw [boxesE_mk] at h
  rcases oneX_kind (allX_one hg.2) with ⟨hk, hat, -, hr, hsm⟩ | hk
  · rw [if_pos hk] at h
    cases h
    have hb := ((setsOk_mk _ x).1 hg.1).1
    have hok : OK x.set := (right_iff hb.2).1 hr
    simp only [smallM, Bool.and_eq_true, decide_eq_true_eq] at hsm
    refine ⟨Nat.le_trans (tidy_len _) (by simp), fun b hb' => ?_⟩
    have := tidy_mem hb'
    simp only [List.mem_singleton] at this
    subst this
    cases neg
    · exact FK.with hat (by omega) ⟨by simp; omega, by simp; omega⟩ hok
    · have := notM_ints x.set
      exact FK.with hat (by omega) ⟨by simp; omega, by simp [notM]; omega⟩ hok.not.1
  have k1 : x.kind ≠ 1 := by omega
  rw [if_neg k1] at h
  by_cases k4 : x.kind = 4
  · rw [if_pos k4] at h
    have hl : 0 < x.sub.length := by omega
    rw [boxesH_one _ hl] at h
    have h1 := ih _ (memx hl) (hg.sub _ (memx hl)) _ out h
    have := size_mem (memx hl)
    exact ⟨h1.1, fun b hb => (h1.2 b hb).mono (by omega)⟩
  · rw [if_neg k4] at h
    have := boxesF_facts _ neg x.sub _ out 1 (fun y hy => ih y hy (hg.sub y hy) neg) (startB_len _) startB_FK h
    exact ⟨this.1, fun b hb => (this.2 b hb).mono (by omega)⟩

def encBs : Option (List BoxM) → D
  | none => .tup [.sl none [], .val (.int .i64 4)]
  | some l => .tup [.sl none (l.map boxC), .val (.int .i64 0)]
@[go_sem] theorem encBs_none : encBs none = .tup [.sl none [], .val (.int .i64 4)] := rfl
@[go_sem] theorem encBs_some (l : List BoxM) : encBs (some l) = .tup [.sl none (l.map boxC), .val (.int .i64 0)] := rfl
def invBx (x : ExprM) (neg both : Bool) (r : Option (List BoxM)) (S : St) (n : Nat) : Prop := ∃ (i : Nat) (acc : List BoxM), i ≤ x.sub.length ∧ n = x.sub.length - i ∧ acc.length ≤ 16 ∧ (∀ b ∈ acc, FK (1 + 10 * sizeL (x.sub.take i)) b) ∧
  boxesF both (x.sub.drop i) neg acc = r ∧ S.trim [0, 1, 6, 7, 25, 26] [] [] = ⟨[(0, .rp none (exprC x) 0), (1, .val (.bool neg)), (6, .sl none (acc.map boxC)), (7, .val (.bool both)), (25, .val (.int .i64 x.sub.length)), (26, .val (.int .i64 i))], [], []⟩
theorem gt16 (n : Nat) : decide ((n : Int) > 16) = decide (n > 16) := by rw [decide_eq_decide]; omega
theorem ne0 : ((0 : Int) != 0) = false := rfl
theorem ne4 : ((4 : Int) != 0) = true := rfl
set_option maxHeartbeats 8000000 in
theorem kboxesX (x : ExprM) : sizeE x ≤ 40 → GoodX x → ∀ neg, PureAt Tryz.prog 44 [.rp none (exprC x) 0, .val (.bool neg)] (· = encBs (boxesE x neg)) := by
  refine ExprM.ind (p := fun x => sizeE x ≤ 40 → GoodX x → ∀ neg, PureAt Tryz.prog 44 [.rp none (exprC x) 0, .val (.bool neg)] (· = encBs (boxesE x neg))) (fun k a s l ih => ?_) x
  intro hsz hg neg
  have hsub : (ExprM.mk k a s l).sub = l := rfl
  generalize ExprM.mk k a s l = x at *
  subst hsub
  have hz := sizeE_mk x
  have hlen := len_le_size x
  have hsb := ((setsOk_mk _ x).1 hg.1).1
  have hev := boxesE_mk x neg
  refine pure_of r44 (by kernel_rfl) ?_
  unfold m44
  simp only [go_sem, Nat.reduceEqDiff, Nat.reduceAdd]
  rcases oneX_kind (allX_one hg.2) with ⟨hk, hat, -, hr, hsm⟩ | hk'
  · rw [if_pos hk] at hev
    have hok : OK x.set := (right_iff hsb.2).1 hr
    simp only [smallM, Bool.and_eq_true, decide_eq_true_eq] at hsm
    simp only [hk, one_eq, decide_true, go_sem, Nat.reduceEqDiff]
    cases neg
    · have p1 := kAtom x.attr x.set
      have p2 := kTidy [withB allB x.attr x.set] (by simp) (by
        intro b hb
        simp only [List.mem_singleton] at hb
        subst hb
        exact (FK.with hat (n := 900) (by omega) ⟨by omega, by omega⟩ hok).1)
      simp only [hk, one_eq, decide_true, go_sem, Nat.reduceEqDiff, Nat.reduceAdd, Nat.reduceLeDiff]
      refine callQ_by _ (by first | rfl | (simp only [List.map_cons, List.map_nil, exprC_mk]; rfl)) (by first | rfl | (simp only [List.map_cons, List.map_nil, exprC_mk]; rfl)) p1 ?_
      simp only [go_sem, Nat.reduceEqDiff, Nat.reduceAdd, Nat.reduceLeDiff]
      refine callQ_by _ (by first | rfl | (simp only [List.map_cons, List.map_nil, exprC_mk]; rfl)) (by first | rfl | (simp only [List.map_cons, List.map_nil, exprC_mk]; rfl)) p2 ?_
      simp only [hev, go_sem, Nat.reduceEqDiff]
    · have hni := notM_ints x.set
      have p0 := kNot' x.set (by omega) (by omega)
      have p1 := kAtom x.attr (notM normR x.set)
      have p2 := kTidy [withB allB x.attr (notM normR x.set)] (by simp) (by
        intro b hb
        simp only [List.mem_singleton] at hb
        subst hb
        exact (FK.with hat (n := 900) (by omega) ⟨by omega, by simp [notM]; omega⟩ hok.not.1).1)
      simp only [go_sem, Nat.reduceEqDiff, Nat.reduceAdd, Nat.reduceLeDiff]
      refine callQ_by _ (by first | rfl | (simp only [List.map_cons, List.map_nil, exprC_mk]; rfl)) (by first | rfl | (simp only [List.map_cons, List.map_nil, exprC_mk]; rfl)) p0 ?_
      simp only [go_sem, Nat.reduceEqDiff]
      refine callQ_by _ (by first | rfl | (simp only [List.map_cons, List.map_nil, exprC_mk]; rfl)) (by first | rfl | (simp only [List.map_cons, List.map_nil, exprC_mk]; rfl)) p1 ?_
      simp only [go_sem, Nat.reduceEqDiff, Nat.reduceAdd, Nat.reduceLeDiff]
      refine callQ_by _ (by first | rfl | (simp only [List.map_cons, List.map_nil, exprC_mk]; rfl)) (by first | rfl | (simp only [List.map_cons, List.map_nil, exprC_mk]; rfl)) p2 ?_
      simp only [hev, go_sem, Nat.reduceEqDiff]
  have k1 : x.kind ≠ 1 := by omega
  have hk1 : decide (x.kind = 1) = false := by simpa using k1
  rw [if_neg k1] at hev
  simp only [one_eq, hk1, go_sem, Nat.reduceEqDiff, Nat.reduceAdd]
  by_cases k4 : x.kind = 4
  · rw [if_pos k4] at hev
    have hl : 0 < x.sub.length := by omega
    have hm := memx hl
    have e0 := size_mem hm
    rw [boxesH_one _ hl] at hev
    simp only [k4, decide_true, get_exprC hl, Int.toNat_zero, Int.le_refl, go_sem, Nat.reduceEqDiff, Nat.reduceAdd]
    refine callP_eq rfl rfl (ih _ hm (by omega) (hg.sub _ hm) _) ?_
    cases hx : boxesE (x.sub.getD 0 x0) (!neg) with
    | none => simp only [hev, hx, go_sem, Nat.reduceEqDiff]
    | some l => simp only [hev, hx, go_sem, Nat.reduceEqDiff]
  rw [if_neg k4] at hev
  have hk4 : decide (x.kind = 4) = false := by simpa using k4
  simp only [hk4, go_sem, Nat.reduceEqDiff]
  simp only [bne] at hev
  generalize (!(decide (x.kind = 2) == neg)) = both at *
  cases both
  · simp only [go_sem, Nat.reduceEqDiff, Nat.reduceAdd, List.length_map]
    rw [show (St.fz _ [6]) = some _ from rfl]
    simp only [go_sem, Nat.reduceEqDiff]
    refine ev_loop_by (invBx x neg false (boxesE x neg)) x.sub.length ⟨0, _, by omega, by omega, ?_, ?_, hev.symm, by simp only [go_sem, Nat.reduceEqDiff]; rfl⟩ ?_
    · exact startB_len _
    · exact fun b hb => (startB_FK b hb).mono (by omega)
    rintro n S ⟨i, acc, hil, hn, hal, haf, hF, hS⟩
    rw [ev_trim, hS]
    subst hn
    simp only [go_sem, Nat.reduceEqDiff]
    refine condE_split (fun h => ?_) (fun h => ?_)
    · have hi' : i < x.sub.length := by simpa using h
      have hm := memx hi'
      have e0 := size_mem hm
      have e1 := sizeL_next hi'
      have e2 := sizeL_take_le x.sub (i + 1)
      have hpos := size_pos (x.sub.getD i x0)
      rw [boxesF_step _ _ _ hi'] at hF
      simp only [nn0, Int.toNat_natCast, get_exprC hi', go_sem, Nat.reduceEqDiff, Nat.reduceAdd]
      refine callP_eq rfl rfl (ih _ hm (by omega) (hg.sub _ hm) neg) ?_
      cases hx : boxesE (x.sub.getD i x0) neg with
      | none =>
        rw [hx] at hF
        simp only at hF
        simp only [ne4, ← hF, go_sem, Nat.reduceEqDiff]
      | some sub =>
        obtain ⟨hs1, hs2⟩ := boxesE_facts _ (hg.sub _ hm) neg sub hx
        rw [hx] at hF
        simp only at hF
        have hnx := nextB_FK (both := false) haf hs2
        simp only [ne0, go_sem, Nat.reduceEqDiff, Nat.reduceAdd, Nat.reduceLeDiff]
        refine callP_eq rfl rfl (kConcatB acc sub (by omega) (by omega)) ?_
        simp only [go_sem, Nat.reduceEqDiff]
        refine callP_eq rfl rfl (kTidy (acc ++ sub) (by simp; omega) (fun b hb => by
          rcases List.mem_append.1 hb with h | h
          · exact ((haf b h).1.mono (by omega))
          · exact ((hs2 b h).1.mono (by omega)))) ?_
        have hN : tidyM (acc ++ sub) = nextB false acc sub := rfl
        rw [hN]
        simp only [gt16, go_sem, Nat.reduceEqDiff, List.length_map]
        cases h16 : decide ((nextB false acc sub).length > 16)
        · have h16' : ¬ (nextB false acc sub).length > 16 := by simpa using h16
          rw [if_neg h16'] at hF
          simp only [up64 (show i < 1000000 by omega), go_sem, Nat.reduceEqDiff]
          refine ⟨x.sub.length - (i + 1), by omega, i + 1, nextB false acc sub, by omega, rfl, by omega, fun b hb => (hnx b hb).mono (by omega), hF, by simp only [go_sem, Nat.reduceEqDiff]⟩
        · have h16' : (nextB false acc sub).length > 16 := by simpa using h16
          rw [if_pos h16'] at hF
          simp only [← hF, go_sem, Nat.reduceEqDiff]
    · have hil' : i = x.sub.length := by simp at h; omega
      subst hil'
      rw [List.drop_length, boxesF] at hF
      simp only [← hF, go_sem, Nat.reduceEqDiff]
  · simp only [go_sem]
    refine callP_eq rfl rfl kboxAll ?_
    simp only [go_sem, Nat.reduceEqDiff, Nat.reduceAdd, Nat.reduceLeDiff, List.length_map]
    rw [show (St.fz _ [6]) = some _ from rfl]
    simp only [go_sem, Nat.reduceEqDiff]
    refine ev_loop_by (invBx x neg true (boxesE x neg)) x.sub.length ⟨0, _, by omega, by omega, ?_, ?_, hev.symm, by simp only [go_sem, Nat.reduceEqDiff]; rfl⟩ ?_
    · exact startB_len _
    · exact fun b hb => (startB_FK b hb).mono (by omega)
    rintro n S ⟨i, acc, hil, hn, hal, haf, hF, hS⟩
    rw [ev_trim, hS]
    subst hn
    simp only [go_sem, Nat.reduceEqDiff]
    refine condE_split (fun h => ?_) (fun h => ?_)
    · have hi' : i < x.sub.length := by simpa using h
      have hm := memx hi'
      have e0 := size_mem hm
      have e1 := sizeL_next hi'
      have e2 := sizeL_take_le x.sub (i + 1)
      have hpos := size_pos (x.sub.getD i x0)
      rw [boxesF_step _ _ _ hi'] at hF
      simp only [nn0, Int.toNat_natCast, get_exprC hi', go_sem, Nat.reduceEqDiff, Nat.reduceAdd]
      refine callP_eq rfl rfl (ih _ hm (by omega) (hg.sub _ hm) neg) ?_
      cases hx : boxesE (x.sub.getD i x0) neg with
      | none =>
        rw [hx] at hF
        simp only at hF
        simp only [ne4, ← hF, go_sem, Nat.reduceEqDiff]
      | some sub =>
        obtain ⟨hs1, hs2⟩ := boxesE_facts _ (hg.sub _ hm) neg sub hx
        rw [hx] at hF
        simp only at hF
        have hnx := nextB_FK (both := true) haf hs2
        simp only [ne0, go_sem, Nat.reduceEqDiff]
        refine callP_eq rfl rfl (kproduct acc sub (by omega) (by omega) (fun b hb => (haf b hb).1.mono (by omega)) (fun b hb => (hs2 b hb).1.mono (by omega))) ?_
        simp only [go_sem, Nat.reduceEqDiff]
        refine callP_eq rfl rfl (kTidy (prodL acc sub) (Nat.le_trans (prodL_len _ _) (Nat.le_trans (Nat.mul_le_mul hal hs1) (by omega))) (fun b hb => by
          obtain ⟨x', hx', y', hy', rfl⟩ := prod_mem hb
          exact ((haf x' hx').and (hs2 y' hy')).1.mono (by omega))) ?_
        have hN : tidyM (prodL acc sub) = nextB true acc sub := rfl
        rw [hN]
        simp only [gt16, go_sem, Nat.reduceEqDiff, List.length_map]
        cases h16 : decide ((nextB true acc sub).length > 16)
        · have h16' : ¬ (nextB true acc sub).length > 16 := by simpa using h16
          rw [if_neg h16'] at hF
          simp only [up64 (show i < 1000000 by omega), go_sem, Nat.reduceEqDiff]
          refine ⟨x.sub.length - (i + 1), by omega, i + 1, nextB true acc sub, by omega, rfl, by omega, fun b hb => (hnx b hb).mono (by omega), hF, by simp only [go_sem, Nat.reduceEqDiff]⟩
        · have h16' : (nextB true acc sub).length > 16 := by simpa using h16
          rw [if_pos h16'] at hF
          simp only [← hF, go_sem, Nat.reduceEqDiff]
    · have hil' : i = x.sub.length := by simp at h; omega
      subst hil'
      rw [List.drop_length, boxesF] at hF
      simp only [← hF, go_sem, Nat.reduceEqDiff]
end Go.Proofs

