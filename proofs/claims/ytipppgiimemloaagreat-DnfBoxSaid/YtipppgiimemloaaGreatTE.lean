/- A part of the proof; what is proved stands in the last text. -/
import Derived.Test.YtipppgiimemloaaGreatTD
set_option linter.unusedVariables false
set_option maxRecDepth 2000

namespace Go.Proofs
open Go.Vm
set_option linter.unusedSimpArgs false

/-! ### plain law: what boxes have -/
theorem hasM_sub {a b : SetM} (h : Sub a b) {v : ValM} (ha : hasM a v = true) : hasM b v = true := by
  cases hr : rightV v
  · rw [has_no a hr] at ha; cases ha
  · rw [has_iff a hr] at ha
    rw [has_iff b hr]
    rcases ha with ⟨k, x⟩ | ⟨k, x⟩ | ⟨k, x⟩
    · exact .inl ⟨k, h.1 x⟩
    · exact .inr (.inl ⟨k, h.2.1 _ x⟩)
    · exact .inr (.inr ⟨k, h.2.2 _ (rightV_size hr k) x⟩)
theorem hasM_no' (v : ValM) : hasM noM v = false := by
  cases hr : rightV v
  · exact has_no _ hr
  · cases h : hasM noM v
    · rfl
    · rw [has_iff _ hr] at h
      rcases h with ⟨-, x⟩ | ⟨-, x⟩ | ⟨-, x⟩
      · cases x
      · exact absurd x (Cov_nil _)
      · simp [StrIn, noM] at x
def SubB (a b : BoxM) : Prop := ∀ i, i < 4 → Sub (a.at i) (b.at i)
theorem SubB.trans {a b c : BoxM} (h : SubB a b) (h' : SubB b c) : SubB a c := fun i hi => (h i hi).trans (h' i hi)
theorem SubB.refl (a : BoxM) : SubB a a := fun i _ => Sub.refl _
theorem hasB_at {b : BoxM} {e : EvM} (h : hasB b e = true) : rightE e = true ∧ ∀ i, i < 4 → hasM (b.at i) (e.at i) = true := by
  unfold hasB at h
  rw [Bool.and_eq_true, all4_iff] at h
  exact h
theorem hasB_mk {b : BoxM} {e : EvM} (h : rightE e = true ∧ ∀ i, i < 4 → hasM (b.at i) (e.at i) = true) : hasB b e = true := by
  unfold hasB
  rw [Bool.and_eq_true, all4_iff]
  exact h
theorem hasB_sub {a b : BoxM} {e : EvM} (h : SubB a b) (ha : hasB a e = true) : hasB b e = true := by
  obtain ⟨h1, h2⟩ := hasB_at ha
  exact hasB_mk ⟨h1, fun i hi => hasM_sub (h i hi) (h2 i hi)⟩
theorem hasB_some {a : BoxM} {e : EvM} (ha : hasB a e = true) {i : Nat} (hi : i < 4) : a.at i ≠ noM := fun h => by
  have := (hasB_at ha).2 i hi
  rw [h, hasM_no'] at this
  cases this
theorem hasB_empty {b : BoxM} (e : EvM) (h : emptyB b = true) : hasB b e = false := by
  cases hh : hasB b e
  · rfl
  · obtain ⟨i, hi, h0⟩ := emptyB_iff.1 h
    exact absurd h0 (hasB_some hh hi)
theorem inB4_sub {a b : BoxM} {e : EvM} (ha : FK 400 a) (hb : FK 400 b) (he : hasB a e = true) : inB4 a b = true ↔ SubB a b := by
  rw [inB4_iff ha.2 hb.2 ha.1 hb.1]
  exact ⟨fun h => h.elim (fun ⟨i, hi, h0⟩ => absurd h0 (hasB_some he hi)) id, .inr⟩
theorem exists_top {α : Type} (R : α → α → Prop) (ht : ∀ x y z, R x y → R y z → R x z) (hr : ∀ x, R x x) : ∀ L : List α, L ≠ [] → ∃ m ∈ L, ∀ k ∈ L, R m k → R k m
  | [], h => absurd rfl h
  | [x], _ => ⟨x, by simp, fun k hk _ => by simp at hk; subst hk; exact hr _⟩
  | x :: y :: L, _ => by
    obtain ⟨m, hm, hmax⟩ := exists_top R ht hr (y :: L) (by simp)
    by_cases h : R m x ∧ ¬ R x m
    · refine ⟨x, by simp, fun k hk hxk => ?_⟩
      rcases List.mem_cons.1 hk with rfl | hk
      · exact hr _
      · exact absurd (ht _ _ _ hxk (hmax k hk (ht _ _ _ h.1 hxk))) h.2
    · refine ⟨m, List.mem_cons_of_mem _ hm, fun k hk hmk => ?_⟩
      rcases List.mem_cons.1 hk with rfl | hk
      · exact Classical.byContradiction fun hn => h ⟨hmk, hn⟩
      · exact hmax k hk hmk
theorem exists_least (p : Nat → Prop) : ∀ n, p n → ∃ m, m ≤ n ∧ p m ∧ ∀ k, k < m → ¬ p k := by
  intro n
  induction n using Nat.strongRecOn with
  | ind n ih =>
    intro hn
    by_cases h : ∃ k, k < n ∧ p k
    · obtain ⟨k, hk, hp⟩ := h
      obtain ⟨m, h1, h2, h3⟩ := ih k hk hp
      exact ⟨m, by omega, h2, h3⟩
    · exact ⟨n, by omega, hn, fun k hk hp => h ⟨k, hk, hp⟩⟩
theorem hasF_at {l : List BoxM} {e : EvM} : hasF l e = true ↔ ∃ i, i < l.length ∧ hasB (l.getD i allB) e = true := by
  unfold hasF
  rw [List.any_eq_true]
  constructor
  · rintro ⟨b, hb, h⟩
    obtain ⟨i, hi, rfl⟩ := List.mem_iff_getElem.1 hb
    exact ⟨i, hi, by rw [getD_at hi]; exact h⟩
  · rintro ⟨i, hi, h⟩
    exact ⟨_, getD_mem hi, h⟩
theorem tidy_has {l : List BoxM} (hl : ∀ b ∈ l, FK 400 b) (e : EvM) : hasF (tidyM l) e = hasF l e := by
  rw [Bool.eq_iff_iff]
  constructor
  · intro h
    unfold hasF at h ⊢
    rw [List.any_eq_true] at h ⊢
    obtain ⟨b, hb, h⟩ := h
    exact ⟨b, tidy_mem hb, h⟩
  · intro h
    rw [hasF_at] at h
    obtain ⟨i0, hi0, h0⟩ := h
    let J : List Nat := (List.range l.length).filter fun i => hasB (l.getD i allB) e
    have hJ : ∀ i, i ∈ J ↔ i < l.length ∧ hasB (l.getD i allB) e = true := fun i => by simp [J]
    obtain ⟨m, hm, hmax⟩ := exists_top (fun i k => SubB (l.getD i allB) (l.getD k allB)) (fun _ _ _ h h' => h.trans h') (fun _ => SubB.refl _) J (fun hn => by
      have := (hJ i0).2 ⟨hi0, h0⟩
      rw [hn] at this; simp at this)
    obtain ⟨j, -, ⟨hj, hmj⟩, hleast⟩ := exists_least (fun j => j ∈ J ∧ SubB (l.getD m allB) (l.getD j allB)) m ⟨hm, SubB.refl _⟩
    have hj' := (hJ j).1 hj
    have fk : ∀ i, i < l.length → FK 400 (l.getD i allB) := fun i hi => hl _ (getD_mem hi)
    have hkeep : keepM l j = true := by
      unfold keepM
      have e1 : emptyB (l.getD j allB) = false := by
        cases h : emptyB (l.getD j allB)
        · rfl
        · have := hasB_empty e h
          rw [this] at hj'; cases hj'.2
      have e2 : needM l j l.length = false := by
        unfold needM
        rw [List.any_eq_false]
        intro k hk hn
        have hk : k < l.length := by simpa using hk
        unfold needl hidesM at hn
        simp only [Bool.and_eq_true, Bool.or_eq_true, Bool.not_eq_true', decide_eq_true_eq] at hn
        obtain ⟨hne, hin, hor⟩ := hn
        have hjk := (inB4_sub (fk j hj'.1) (fk k hk) hj'.2).1 hin
        have hkE := hasB_sub hjk hj'.2
        have hkJ := (hJ k).2 ⟨hk, hkE⟩
        rcases hor with hlt | hno
        · exact hleast k (by omega) ⟨hkJ, hmj.trans hjk⟩
        · have hkm := hmax k hkJ (hmj.trans hjk)
          have := (inB4_sub (fk k hk) (fk j hj'.1) hkE).2 (hkm.trans hmj)
          rw [this] at hno; cases hno
      rw [e1, e2]; rfl
    unfold hasF
    rw [List.any_eq_true]
    refine ⟨l.getD j allB, ?_, hj'.2⟩
    unfold tidyM tidyI
    exact List.mem_map.2 ⟨j, List.mem_filter.2 ⟨by simpa using hj'.1, hkeep⟩, rfl⟩

theorem prod_has {a b : List BoxM} (ha : ∀ x ∈ a, OKB x) (hb : ∀ x ∈ b, OKB x) (e : EvM) : hasF (prodL a b) e = (hasF a e && hasF b e) := by
  rw [Bool.eq_iff_iff, Bool.and_eq_true]
  unfold hasF
  simp only [List.any_eq_true]
  constructor
  · rintro ⟨c, hc, h⟩
    obtain ⟨x, hx, y, hy, rfl⟩ := prod_mem hc
    rw [hasB_and (ha x hx) (hb y hy), Bool.and_eq_true] at h
    exact ⟨⟨x, hx, h.1⟩, y, hy, h.2⟩
  · rintro ⟨⟨x, hx, h1⟩, y, hy, h2⟩
    have h : hasB (andB x y) e = true := by rw [hasB_and (ha x hx) (hb y hy), h1, h2]; rfl
    refine ⟨andB x y, List.mem_flatMap.2 ⟨x, hx, List.mem_filter.2 ⟨List.mem_map.2 ⟨y, hy, rfl⟩, ?_⟩⟩, h⟩
    cases he : emptyB (andB x y)
    · rfl
    · rw [hasB_empty e he] at h; cases h
theorem hasF_append (a b : List BoxM) (e : EvM) : hasF (a ++ b) e = (hasF a e || hasF b e) := by simp [hasF]
theorem nextB_has {both : Bool} {acc sub : List BoxM} {n m : Nat} (ha : ∀ b ∈ acc, FK n b) (hs : ∀ b ∈ sub, FK m b) (hnm : n + m + 3 ≤ 400) (e : EvM) : hasF (nextB both acc sub) e = if both then hasF acc e && hasF sub e else hasF acc e || hasF sub e := by
  cases both
  · rw [show nextB false acc sub = tidyM (acc ++ sub) from rfl, tidy_has (fun b hb => ?_), hasF_append]; rfl
    rcases List.mem_append.1 hb with h | h
    · exact (ha b h).mono (by omega)
    · exact (hs b h).mono (by omega)
  · rw [show nextB true acc sub = tidyM (prodL acc sub) from rfl, tidy_has (fun b hb => ?_), prod_has (fun x hx => (ha x hx).2) (fun x hx => (hs x hx).2)]; rfl
    obtain ⟨x, hx, y, hy, rfl⟩ := prod_mem hb
    exact ((ha x hx).and (hs y hy)).mono hnm

/-- What an expression, or its not, says of a right event. -/
def sayE (e : EvM) (neg : Bool) (x : ExprM) : Bool := evalE e x != neg
theorem hasF_one (b : BoxM) (e : EvM) : hasF [b] e = hasB b e := by simp [hasF]
theorem boxesF_sem {e : EvM} (both neg : Bool) : ∀ (l : List ExprM) (acc out : List BoxM) (n : Nat), (∀ x ∈ l, ∀ out, boxesE x neg = some out → (∀ b ∈ out, FK (10 * sizeE x - 3) b) ∧ hasF out e = sayE e neg x) → (∀ b ∈ acc, FK n b) → n + 10 * sizeL l ≤ 400 →
    boxesF both l neg acc = some out → hasF out e = if both then hasF acc e && l.all (sayE e neg) else hasF acc e || l.any (sayE e neg)
  | [], acc, out, n, _, _, _, h3 => by
    rw [boxesF] at h3
    cases h3
    cases both <;> simp
  | x :: l, acc, out, n, h0, h2, hn, h3 => by
    rw [boxesF] at h3
    cases hx : boxesE x neg with
    | none => rw [hx] at h3; simp at h3
    | some sub =>
      rw [hx] at h3
      simp only at h3
      split at h3
      · simp at h3
      · obtain ⟨hs, he⟩ := h0 x List.mem_cons_self sub hx
        have := size_pos x
        simp only [sizeL] at hn
        have h4 := boxesF_sem both neg l (nextB both acc sub) out (n + (10 * sizeE x - 3) + 3) (fun y hy => h0 y (List.mem_cons_of_mem _ hy)) (nextB_FK h2 hs) (by omega) h3
        rw [h4, nextB_has h2 hs (by omega), he]
        cases both
        · simp [Bool.or_assoc]
        · simp [Bool.and_assoc]
theorem boxesE_sem {e : EvM} (hr : rightE e = true) (hi : InE e) (x : ExprM) : GoodX x → sizeE x ≤ 40 → ∀ (neg : Bool) (out : List BoxM), boxesE x neg = some out → hasF out e = sayE e neg x := by
  refine ExprM.ind (p := fun x => GoodX x → sizeE x ≤ 40 → ∀ (neg : Bool) (out : List BoxM), boxesE x neg = some out → hasF out e = sayE e neg x) (fun k a s l ih => ?_) x
  intro hg hz neg out h
  have hf := boxesE_facts _ hg neg out h
  have hsub : (ExprM.mk k a s l).sub = l := rfl
  generalize ExprM.mk k a s l = x at *
  subst hsub
  have hz' := sizeE_mk x
  rw [boxesE_mk] at h
  unfold sayE
  rw [evalE_mk]
  have hri := all4_iff.1 hr
  rcases oneX_kind (allX_one hg.2) with ⟨hk, hat, -, hrs, hsm⟩ | hk
  · rw [if_pos hk] at h ⊢
    cases h
    have hb := ((setsOk_mk _ x).1 hg.1).1
    have hok : OK x.set := (right_iff hb.2).1 hrs
    have ha4 : x.attr.toNat < 4 := by omega
    simp only [smallM, Bool.and_eq_true, decide_eq_true_eq] at hsm
    have hni := notM_ints x.set
    have fk : ∀ b ∈ [withB allB x.attr (if neg = true then notM normR x.set else x.set)], FK 400 b := fun b hb' => by
      simp only [List.mem_singleton] at hb'
      subst hb'
      cases neg
      · exact FK.with hat (by omega) ⟨by simp; omega, by simp; omega⟩ hok
      · exact FK.with hat (by omega) ⟨by simp; omega, by simp [notM]; omega⟩ hok.not.1
    rw [tidy_has fk, hasF_one]
    unfold hasB
    rw [hr, Bool.true_and]
    have hone : (all4 fun i => hasM ((withB allB x.attr (if neg = true then notM normR x.set else x.set)).at i) (e.at i)) = hasM (if neg = true then notM normR x.set else x.set) (e.at x.attr.toNat) := by
      rw [Bool.eq_iff_iff, all4_iff]
      constructor
      · intro h
        have := h _ ha4
        rwa [withB_at hat _ _ ha4, if_pos rfl] at this
      · intro h i hi'
        rw [withB_at hat _ _ hi']
        split
        · rename_i hia; rw [hia]; exact h
        · rw [at_allB, hasM_all _ (hi i hi')]; exact hri i hi'
    rw [hone]
    cases neg
    · simp
    · simp [hasM_not hok (hi _ ha4) (hri _ ha4)]
  have k1 : x.kind ≠ 1 := by omega
  rw [if_neg k1] at h ⊢
  by_cases k4 : x.kind = 4
  · rw [if_pos k4] at h
    have hl : 0 < x.sub.length := by omega
    have hlen1 : x.sub.length = 1 := by omega
    rw [boxesH_one _ hl] at h
    have hm := size_mem (memx hl)
    have h1 := ih _ (memx hl) (hg.sub _ (memx hl)) (by omega) _ out h
    have hev : x.sub.any (evalE e) = evalE e (x.sub.getD 0 x0) := by
      match hx : x.sub, hlen1 with
      | [y], _ => simp
    rw [h1, if_neg (by omega), if_neg (by omega), hev]
    unfold sayE
    cases evalE e (x.sub.getD 0 x0) <;> cases neg <;> rfl
  · rw [if_neg k4] at h
    have h5 := boxesF_sem (e := e) _ neg x.sub _ out 1 (fun y hy o ho => ⟨(boxesE_facts y (hg.sub y hy) neg o ho).2, ih y hy (hg.sub y hy) (by have := size_mem hy; omega) neg o ho⟩) startB_FK (by omega) h
    rw [h5]
    have hall : hasF [allB] e = true := by rw [hasF_one, hasB_all hi, hr]
    by_cases k2 : x.kind = 2
    · rw [if_pos k2, k2]
      cases neg
      · have : ∀ l : List ExprM, l.all (sayE e false) = l.all (evalE e) := fun l => by congr 1; funext y; simp [sayE]
        simp [startB, hall, this]
      · have : ∀ l : List ExprM, l.any (sayE e true) = !l.all (evalE e) := fun l => by
          induction l with
          | nil => rfl
          | cons y l ih => simp only [List.any_cons, List.all_cons, ih, sayE]; cases evalE e y <;> simp
        simp [startB, this, hasF]
    · have k3 : x.kind = 3 := by omega
      rw [if_neg k2, if_pos k3]
      have k2' : decide (x.kind = 2) = false := by simpa using k2
      rw [k2']
      cases neg
      · have : ∀ l : List ExprM, l.any (sayE e false) = l.any (evalE e) := fun l => by congr 1; funext y; simp [sayE]
        simp [startB, hasF, this]
      · have : ∀ l : List ExprM, l.all (sayE e true) = !l.any (evalE e) := fun l => by
          induction l with
          | nil => rfl
          | cons y l ih => simp only [List.any_cons, List.all_cons, ih, sayE]; cases evalE e y <;> simp
        simp [startB, hall, this]
end Go.Proofs


namespace Go.Proofs
open Go.Vm
set_option linter.unusedSimpArgs false

/-! ### an expression's filter -/
def ofX (x : ExprM) : List BoxM × Int := if rightX x = true then (match boxesE x false with | none => ([], 4) | some l => if rightF l = true then (l, 0) else ([], 4)) else ([], 2)
def encOf (r : List BoxM × Int) : D := .tup [.sl none (r.1.map boxC), .val (.int .i64 r.2)]
theorem goodX {x : ExprM} (hs : setsOk SetB x) (h : rightX x = true) : GoodX x ∧ sizeE x ≤ 40 := by
  simp only [rightX, fitsE, Bool.and_eq_true, decide_eq_true_eq] at h
  exact ⟨⟨hs, h.2⟩, h.1.2⟩
theorem kdnfOf (x : ExprM) (hs : setsOk SetB x) : PureAt Tryz.prog 14 [.agg (exprC x)] (· = encOf (ofX x)) := by
  have p1 := kexprRight x hs
  have p2 := fun h h' => kboxesX x h h' false
  refine pure_of r14 (by kernel_rfl) ?_
  unfold m14 ofX encOf
  simp only [go_sem, Nat.reduceEqDiff, Nat.reduceAdd, Nat.reduceLeDiff, List.length_map]
  refine callP_eq (by first | rfl | (simp only [List.map_cons, List.map_nil, exprC_mk]; rfl)) (by first | rfl | (simp only [List.map_cons, List.map_nil, exprC_mk]; rfl)) p1 ?_
  cases hr : rightX x
  · simp only [go_sem, Nat.reduceEqDiff, Nat.reduceAdd, Nat.reduceLeDiff, List.length_map]
  obtain ⟨hg, hz⟩ := goodX hs hr
  have hf := boxesE_facts x hg false
  simp only [go_sem, Nat.reduceEqDiff, Nat.reduceAdd, Nat.reduceLeDiff, List.length_map]
  refine callP_eq rfl rfl (p2 hz hg) ?_
  cases hb : boxesE x false with
  | none =>
    simp only [ne4, go_sem, Nat.reduceEqDiff, Nat.reduceAdd, Nat.reduceLeDiff, List.length_map]
  | some l =>
    obtain ⟨h1, h2⟩ := hf l hb
    have p3 := kdnfRight l (by omega) (fun b hb => (h2 b hb).1.mono (by omega)) (fun b hb i hi => ((h2 b hb).2 i hi).inb)
    simp only [ne0, go_sem, Nat.reduceEqDiff, Nat.reduceAdd, Nat.reduceLeDiff, List.length_map]
    refine callP_eq rfl rfl p3 ?_
    cases hrf : rightF l
    · simp only [hrf, go_sem, Nat.reduceEqDiff, Nat.reduceAdd, Nat.reduceLeDiff, List.length_map]
    · simp only [hrf, go_sem, Nat.reduceEqDiff, Nat.reduceAdd, Nat.reduceLeDiff, List.length_map]
theorem ofX_facts {x : ExprM} (hs : setsOk SetB x) : (ofX x).1.length ≤ 16 ∧ ∀ b ∈ (ofX x).1, FK 400 b := by
  unfold ofX
  split
  · rename_i h
    obtain ⟨hg, hz⟩ := goodX hs h
    cases hb : boxesE x false with
    | none => simp
    | some l =>
      obtain ⟨h1, h2⟩ := boxesE_facts x hg false l hb
      simp only
      split
      · exact ⟨h1, fun b hb => (h2 b hb).mono (by omega)⟩
      · simp
  · simp
theorem ofX_err {x : ExprM} (h : (ofX x).2 ≠ 0) : (ofX x).1 = [] := by
  unfold ofX at h ⊢
  split
  · rename_i hr
    rw [if_pos hr] at h
    cases hb : boxesE x false with
    | none => rfl
    | some l =>
      rw [hb] at h
      simp only at h ⊢
      split
      · rename_i hf; rw [if_pos hf] at h; exact absurd rfl h
      · rfl
  · rfl
theorem ofX_ok {x : ExprM} (h : (ofX x).2 = 0) : rightX x = true ∧ boxesE x false = some (ofX x).1 ∧ rightF (ofX x).1 = true := by
  unfold ofX at h ⊢
  split
  · rename_i hr
    rw [if_pos hr] at h
    refine ⟨hr, ?_⟩
    cases hb : boxesE x false with
    | none => rw [hb] at h; simp at h
    | some l =>
      rw [hb] at h
      simp only at h ⊢
      split
      · rename_i hf; exact ⟨rfl, hf⟩
      · rename_i hf; rw [if_neg hf] at h; simp at h
  · rename_i hr; rw [if_neg hr] at h; simp at h
theorem hasF_wrong {l : List BoxM} {e : EvM} (h : rightE e = false) : hasF l e = false := by
  unfold hasF
  rw [List.any_eq_false]
  intro b _
  unfold hasB
  rw [h]
  simp
theorem ofX_sem {x : ExprM} (hs : setsOk SetB x) {e : EvM} (hi : InE e) (h : (ofX x).2 = 0) : hasF (ofX x).1 e = (rightE e && evalE e x) := by
  obtain ⟨h1, h2, -⟩ := ofX_ok h
  obtain ⟨hg, hz⟩ := goodX hs h1
  cases hr : rightE e
  · exact hasF_wrong hr
  · rw [boxesE_sem hr hi x hg hz false _ h2]
    simp [sayE]
end Go.Proofs


namespace Go.Proofs
open Go.Vm
set_option linter.unusedSimpArgs false

/-! ### the document's answers -/
theorem SetB.no : SetB noM := ⟨by simp [noM], by simp [Bnd, noM]⟩
theorem setB_and {l : List ExprM} (h : ∀ x ∈ l, setsOk SetB x) : setsOk SetB (ofAnd l) := (setsOk_mk _ _).2 ⟨SetB.no, h⟩
theorem setB_or {l : List ExprM} (h : ∀ x ∈ l, setsOk SetB x) : setsOk SetB (ofOr l) := (setsOk_mk _ _).2 ⟨SetB.no, h⟩
theorem setB_not {x : ExprM} (h : setsOk SetB x) : setsOk SetB (notX x) := (setsOk_mk _ _).2 ⟨SetB.no, by simp [notX, ExprM.sub, h]⟩
theorem setB_atom {a : Int} {s : SetM} (h : SetB s) : setsOk SetB (atomX a s) := (setsOk_mk _ _).2 ⟨h, by simp [atomX, ExprM.sub]⟩
theorem OK.five : OK fiveS := ⟨⟨by simp [fiveS], by simp [fiveS]⟩, by simp [fiveS, InB], .nil, by simp [fiveS]⟩
theorem SetB.five : SetB fiveS := ⟨by simp [fiveS], OK.five.inb⟩
theorem same_no : sameM noM noM = true := by simp [sameM]
theorem keep1 (b : BoxM) : keepM [b] 0 = !emptyB b := by simp [keepM, needM, needl]
theorem tidy1 {b : BoxM} (h : emptyB b = false) : tidyM [b] = [b] := by simp [tidyM, tidyI, keep1, h]
theorem keep2a {a b : BoxM} (h : emptyB a = false) (h1 : inB4 a b = false) : keepM [a, b] 0 = true := by simp [keepM, needM, needl, hidesM, List.range_succ, h, h1]
theorem keep2b {a b : BoxM} (h : emptyB b = false) (h1 : inB4 b a = false) : keepM [a, b] 1 = true := by simp [keepM, needM, needl, hidesM, List.range_succ, h, h1]
theorem tidy2 {a b : BoxM} (ha : emptyB a = false) (hb : emptyB b = false) (h1 : inB4 a b = false) (h2 : inB4 b a = false) : tidyM [a, b] = [a, b] := by
  simp [tidyM, tidyI, List.range_succ, keep2a ha h1, keep2b hb h2]
theorem emptyAll : emptyB allB = false := rfl
theorem rightAll : rightF [allB] = true := by
  unfold rightF
  rw [tidy1 emptyAll]
  simp only [List.all_cons, List.all_nil, fineB, OKB.all.right]
  rfl
theorem ofA : ofX (ofAnd []) = ([allB], 0) := by
  have h1 : rightX (ofAnd []) = true := by simp [rightX, fitsE, depE_mk, sizeE_mk, depL, sizeL, ofAnd, ExprM.sub, allX_mk, oneX, oneF, ExprM.kind, ExprM.attr, ExprM.set, same_no]
  have h2 : boxesE (ofAnd []) false = some [allB] := by rw [boxesE_mk]; rfl
  unfold ofX
  rw [if_pos h1, h2]
  simp only
  rw [if_pos rightAll]
theorem ofB : ofX (ofOr []) = ([], 0) := by
  have h1 : rightX (ofOr []) = true := by simp [rightX, fitsE, depE_mk, sizeE_mk, depL, sizeL, ofOr, ExprM.sub, allX_mk, oneX, oneF, ExprM.kind, ExprM.attr, ExprM.set, same_no]
  have h2 : boxesE (ofOr []) false = some [] := by rw [boxesE_mk]; rfl
  unfold ofX
  rw [if_pos h1, h2]
  rfl
theorem ofD : ofX x0 = ([], 2) := by
  have h1 : rightX x0 = false := by simp [rightX, x0, allX_mk, oneX, oneF, ExprM.kind, ExprM.attr, ExprM.set, ExprM.sub]
  unfold ofX
  rw [h1]; rfl
def cX : ExprM := notX (ofAnd [atomX 0 fiveS, atomX 1 fiveS])
def nFive : SetM := notM normR fiveS
def cB (i : Int) : BoxM := withB allB i nFive
theorem OK.nFive : OK nFive := OK.five.not.1
theorem few_nFive : nFive.ints.length ≤ 2 ∧ nFive.strs.length ≤ 0 := ⟨notM_ints fiveS, Nat.le_refl _⟩
theorem fk_cB {i : Int} (h : 0 ≤ i ∧ i < 4) : FK 400 (cB i) := FK.with h (by omega) ⟨by have := few_nFive.1; omega, by have := few_nFive.2; omega⟩ OK.nFive
theorem hasFive (v : ValM) (hv : InRange v.n) (hr : rightV v = true) : hasM nFive v = !hasM fiveS v := hasM_not OK.five hv hr
def v5 : ValM := ⟨1, 5, ⟨#[]⟩⟩
def v0 : ValM := ⟨0, 0, ⟨#[]⟩⟩
theorem right5 : rightV v5 = true := by simp [rightV, v5, emptyBytes]
theorem right00 : rightV v0 = true := by simp [rightV, v0, emptyBytes]
theorem in5 : InRange v5.n := by simp [InRange, v5]
theorem in0 : InRange v0.n := by simp [InRange, v0]
theorem has55 : hasM fiveS v5 = true := (has_iff _ right5).2 (.inr (.inl ⟨rfl, ⟨(5, 5), by simp [fiveS], by simp [v5], by simp [v5]⟩⟩))
theorem has50 : hasM fiveS v0 = false := by
  cases h : hasM fiveS v0
  · rfl
  · rw [has_iff _ right00] at h
    rcases h with ⟨-, x⟩ | ⟨x, -⟩ | ⟨x, -⟩
    · cases x
    · cases x
    · cases x
def evN : EvM := ⟨v0, v0, v0, v0⟩
def ev5 : EvM := ⟨v5, v5, v0, v0⟩
def evB0 : EvM := ⟨v0, v5, v0, v0⟩
def evB1 : EvM := ⟨v5, v0, v0, v0⟩
theorem ev_right {a b : ValM} (ha : rightV a = true) (hb : rightV b = true) : rightE ⟨a, b, v0, v0⟩ = true := all4_iff.2 fun i hi => by
  rcases lt4 hi with rfl | rfl | rfl | rfl
  · exact ha
  · exact hb
  · exact right00
  · exact right00
theorem ev_in {a b : ValM} (ha : InRange a.n) (hb : InRange b.n) : InE ⟨a, b, v0, v0⟩ := fun i hi => by
  rcases lt4 hi with rfl | rfl | rfl | rfl
  · exact ha
  · exact hb
  · exact in0
  · exact in0
theorem all0 : hasM allM v0 = true := (hasM_all v0 in0).trans right00
theorem all5 : hasM allM v5 = true := (hasM_all v5 in5).trans right5
theorem n0 : hasM nFive v0 = true := by rw [hasFive _ in0 right00, has50]; rfl
theorem n5 : hasM nFive v5 = false := by rw [hasFive _ in5 right5, has55]; rfl
theorem c0_b0 : hasB (cB 0) evB0 = true := hasB_mk ⟨ev_right right00 right5, fun i hi => by
  rcases lt4 hi with rfl | rfl | rfl | rfl
  · exact n0
  · exact all5
  · exact all0
  · exact all0⟩
theorem c1_b1 : hasB (cB 1) evB1 = true := hasB_mk ⟨ev_right right5 right00, fun i hi => by
  rcases lt4 hi with rfl | rfl | rfl | rfl
  · exact all5
  · exact n0
  · exact all0
  · exact all0⟩
theorem c1_b0 : ¬ hasB (cB 1) evB0 = true := fun h => by
  have := (hasB_at h).2 1 (by omega)
  exact absurd ((n5.symm).trans this) (by simp)
theorem c0_b1 : ¬ hasB (cB 0) evB1 = true := fun h => by
  have := (hasB_at h).2 0 (by omega)
  exact absurd ((n5.symm).trans this) (by simp)
theorem in01 : inB4 (cB 0) (cB 1) = false := by
  cases h : inB4 (cB 0) (cB 1)
  · rfl
  · exact absurd (hasB_sub ((inB4_sub (fk_cB (by omega)) (fk_cB (by omega)) c0_b0).1 h) c0_b0) c1_b0
theorem in10 : inB4 (cB 1) (cB 0) = false := by
  cases h : inB4 (cB 1) (cB 0)
  · rfl
  · exact absurd (hasB_sub ((inB4_sub (fk_cB (by omega)) (fk_cB (by omega)) c1_b1).1 h) c1_b1) c0_b1
theorem empty_c0 : emptyB (cB 0) = false := by
  cases h : emptyB (cB 0)
  · rfl
  · have := hasB_empty evB0 h; rw [c0_b0] at this; cases this
theorem empty_c1 : emptyB (cB 1) = false := by
  cases h : emptyB (cB 1)
  · rfl
  · have := hasB_empty evB1 h; rw [c1_b1] at this; cases this
theorem fine_c {i : Int} (h : 0 ≤ i ∧ i < 4) : fineB (cB i) = true := by
  unfold fineB
  rw [(fk_cB h).2.right, Bool.true_and]
  unfold smallB
  rw [all4_iff]
  intro k hk
  rw [cB, withB_at h _ _ hk]
  split
  · have := few_nFive
    simp [smallM]; omega
  · rcases lt4 hk with rfl | rfl | rfl | rfl <;> rfl
theorem ofC : ofX cX = ([cB 0, cB 1], 0) := by
  have h0 : rightM fiveS = true := OK.five.right
  have hsm : smallM fiveS = true := by decide
  have h1 : rightX cX = true := by
    simp [rightX, fitsE, depE_mk, sizeE_mk, depL, sizeL, cX, notX, atomX, ofAnd, ExprM.sub, allX_mk, oneX, oneF, ExprM.kind, ExprM.attr, ExprM.set, same_no, h0, hsm]
  have b0 : boxesE (atomX 0 fiveS) true = some [cB 0] := by
    rw [boxesE_mk, if_pos rfl]
    exact congrArg some (tidy1 empty_c0)
  have b1 : boxesE (atomX 1 fiveS) true = some [cB 1] := by
    rw [boxesE_mk, if_pos rfl]
    exact congrArg some (tidy1 empty_c1)
  have n1 : nextB false [] [cB 0] = [cB 0] := tidy1 empty_c0
  have n2 : nextB false [cB 0] [cB 1] = [cB 0, cB 1] := tidy2 empty_c0 empty_c1 in01 in10
  have h2 : boxesE cX false = some [cB 0, cB 1] := by
    rw [boxesE_mk, if_neg (by decide), if_pos (show cX.kind = 4 from rfl)]
    change boxesE (ofAnd [atomX 0 fiveS, atomX 1 fiveS]) true = _
    rw [boxesE_mk, if_neg (by decide), if_neg (by decide)]
    change boxesF false [atomX 0 fiveS, atomX 1 fiveS] true [] = _
    simp only [boxesF, b0, b1, n1, n2]
    simp
  have h3 : rightF [cB 0, cB 1] = true := by
    unfold rightF
    rw [tidy2 empty_c0 empty_c1 in01 in10]
    simp [fine_c (i := 0) (by omega), fine_c (i := 1) (by omega)]
  unfold ofX
  rw [if_pos h1, h2]
  simp only
  rw [if_pos h3]
theorem hasC_N : hasF [cB 0, cB 1] evN = true := by
  have : hasB (cB 0) evN = true := hasB_mk ⟨ev_right right00 right00, fun i hi => by
    rcases lt4 hi with rfl | rfl | rfl | rfl
    · exact n0
    · exact all0
    · exact all0
    · exact all0⟩
  simp [hasF, this]
theorem hasA_N : hasF [allB] evN = true := by
  rw [hasF_one, show hasB allB evN = rightE evN from hasB_all (ev_in in0 in0)]
  exact ev_right right00 right00
theorem hasC_5 : hasF [cB 0, cB 1] ev5 = false := by
  have h0 : ¬ hasB (cB 0) ev5 = true := fun h => by
    have := (hasB_at h).2 0 (by omega)
    exact absurd ((n5.symm).trans this) (by simp)
  have h1 : ¬ hasB (cB 1) ev5 = true := fun h => by
    have := (hasB_at h).2 1 (by omega)
    exact absurd ((n5.symm).trans this) (by simp)
  simp [hasF, h0, h1]

theorem kawake06 : PureAt Tryz.prog 12 [] (· = .val (.bool true)) := by
  have s5 : ∀ a, setsOk SetB (atomX a fiveS) := fun a => setB_atom SetB.five
  have sC : setsOk SetB cX := setB_not (setB_and (by simp [s5]))
  have pA := kdnfOf (ofAnd []) (setB_and (by simp))
  have pB := kdnfOf (ofOr []) (setB_or (by simp))
  have pC := kdnfOf cX sC
  have pD := kdnfOf x0 ((setsOk_mk _ _).2 ⟨SetB.no, by simp [x0, ExprM.sub]⟩)
  rw [ofA] at pA
  rw [ofB] at pB
  rw [ofC] at pC
  rw [ofD] at pD
  have f0 := (fk_cB (i := 0) (by omega)).1.mono (m := 1000000) (by omega)
  have f1 := (fk_cB (i := 1) (by omega)).1.mono (m := 1000000) (by omega)
  have q1 := kdnfHas [cB 0, cB 1] evN (by simp) (by simp [f0, f1])
  have q2 := kdnfHas [allB] evN (by simp) (by simp [FewB.all.mono (show 1 ≤ 1000000 by omega)])
  have q3 := kdnfHas [cB 0, cB 1] ev5 (by simp) (by simp [f0, f1])
  rw [hasC_N] at q1
  rw [hasA_N] at q2
  rw [hasC_5] at q3
  have e1 : (((1 : Nat) : Int) == 1) = true := rfl
  have e2 : (((0 : Nat) : Int) == 0) = true := rfl
  have e3 : ((0 : Int) == 0) = true := rfl
  have e4 : (((2 : Nat) : Int) == 2) = true := rfl
  have e5 : ((2 : Int) == 2) = true := rfl
  refine pure_of r12 (by kernel_rfl) ?_
  unfold m12
  simp only [encOf] at pA pB pC pD
  simp only [go_sem, Nat.reduceEqDiff, Nat.reduceAdd, Nat.reduceLeDiff, List.length_map]
  refine callP_eq (by first | rfl | (simp only [List.map_cons, List.map_nil, exprC_mk]; rfl)) (by first | rfl | (simp only [List.map_cons, List.map_nil, exprC_mk]; rfl)) (kexprAnd [] (by simp)) ?_
  simp only [go_sem, Nat.reduceEqDiff, Nat.reduceAdd, Nat.reduceLeDiff, List.length_map]
  refine callP_eq (by first | rfl | (simp only [List.map_cons, List.map_nil, exprC_mk]; rfl)) (by first | rfl | (simp only [List.map_cons, List.map_nil, exprC_mk]; rfl)) pA ?_
  simp only [go_sem, Nat.reduceEqDiff, Nat.reduceAdd, Nat.reduceLeDiff, List.length_map]
  refine callP_eq (by first | rfl | (simp only [List.map_cons, List.map_nil, exprC_mk]; rfl)) (by first | rfl | (simp only [List.map_cons, List.map_nil, exprC_mk]; rfl)) (kexprOr [] (by simp)) ?_
  simp only [go_sem, Nat.reduceEqDiff, Nat.reduceAdd, Nat.reduceLeDiff, List.length_map]
  refine callP_eq (by first | rfl | (simp only [List.map_cons, List.map_nil, exprC_mk]; rfl)) (by first | rfl | (simp only [List.map_cons, List.map_nil, exprC_mk]; rfl)) pB ?_
  simp only [go_sem, Nat.reduceEqDiff, Nat.reduceAdd, Nat.reduceLeDiff, List.length_map]
  refine callP_eq rfl rfl (kfive 0) ?_
  simp only [go_sem, Nat.reduceEqDiff, Nat.reduceAdd, Nat.reduceLeDiff, List.length_map]
  refine callP_eq rfl rfl (kfive 1) ?_
  simp only [go_sem, Nat.reduceEqDiff, Nat.reduceAdd, Nat.reduceLeDiff, List.length_map]
  refine callP_eq (by first | rfl | (simp only [List.map_cons, List.map_nil, exprC_mk]; rfl)) (by first | rfl | (simp only [List.map_cons, List.map_nil, exprC_mk]; rfl)) (kexprAnd [atomX 0 fiveS, atomX 1 fiveS] (by simp)) ?_
  simp only [go_sem, Nat.reduceEqDiff, Nat.reduceAdd, Nat.reduceLeDiff, List.length_map]
  refine callP_eq (by first | rfl | (simp only [List.map_cons, List.map_nil, exprC_mk]; rfl)) (by first | rfl | (simp only [List.map_cons, List.map_nil, exprC_mk]; rfl)) (kexprNot _) ?_
  simp only [go_sem, Nat.reduceEqDiff, Nat.reduceAdd, Nat.reduceLeDiff, List.length_map]
  refine callP_eq (by first | rfl | (simp only [List.map_cons, List.map_nil, exprC_mk]; rfl)) (by first | rfl | (simp only [List.map_cons, List.map_nil, exprC_mk]; rfl)) pC ?_
  simp only [go_sem, Nat.reduceEqDiff, Nat.reduceAdd, Nat.reduceLeDiff, List.length_map]
  refine callP_eq (by first | rfl | (simp only [List.map_cons, List.map_nil, exprC_mk]; rfl)) (by first | rfl | (simp only [List.map_cons, List.map_nil, exprC_mk]; rfl)) pD ?_
  simp only [e1, e2, e3, e4, e5, go_sem, Nat.reduceEqDiff, Nat.reduceAdd, Nat.reduceLeDiff, List.length_map]
  refine callP_eq rfl rfl q1 ?_
  simp only [go_sem, Nat.reduceEqDiff, Nat.reduceAdd, Nat.reduceLeDiff, List.length_map]
  refine callP_eq rfl rfl q2 ?_
  simp only [go_sem, Nat.reduceEqDiff, Nat.reduceAdd, Nat.reduceLeDiff, List.length_map]
  refine callP_eq rfl rfl q3 ?_
  simp only [go_sem, Nat.reduceEqDiff, Nat.reduceAdd, Nat.reduceLeDiff, List.length_map]
end Go.Proofs
