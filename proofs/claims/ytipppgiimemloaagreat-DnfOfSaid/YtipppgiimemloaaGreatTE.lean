/- A part of the proof; what is proved stands in the last text. -/
import Derived.Test.YtipppgiimemloaaGreatTD
set_option linter.unusedVariables false
set_option maxRecDepth 2000

namespace Go.Proofs
open Go.Vm
set_option linter.unusedSimpArgs false

theorem hasM_sub {a b : SetM} (h : Sub a b) {v : ValM} (ha : hasM a v = true) : hasM b v = true := by
  cases hr : rightV v
  · rw [has_no a hr] at ha; cases ha
  · rw [has_iff a hr] at ha
    rw [has_iff b hr]
    rcases ha with ⟨k, x⟩ | ⟨k, x⟩ | ⟨k, x⟩
    · exact .inl ⟨k, h.1 x⟩
    · exact .inr (.inl ⟨k, h.2.1 _ x⟩)
    · exact .inr (.inr ⟨k, h.2.2 _ (rightV_size hr k) x⟩)
theorem hasM_no' (v : ValM) : hasM noM v = false := by
  cases hr : rightV v
  · exact has_no _ hr
  · cases h : hasM noM v
    · rfl
    · rw [has_iff _ hr] at h
      rcases h with ⟨-, x⟩ | ⟨-, x⟩ | ⟨-, x⟩
      · cases x
      · exact absurd x (Cov_nil _)
      · simp [StrIn, noM] at x
def SubB (a b : BoxM) : Prop := ∀ i, i < 4 → Sub (a.at i) (b.at i)
theorem hasB_at {b : BoxM} {e : EvM} (h : hasB b e = true) : rightE e = true ∧ ∀ i, i < 4 → hasM (b.at i) (e.at i) = true := by
  unfold hasB at h
  rw [Bool.and_eq_true, all4_iff] at h
  exact h
theorem hasB_mk {b : BoxM} {e : EvM} (h : rightE e = true ∧ ∀ i, i < 4 → hasM (b.at i) (e.at i) = true) : hasB b e = true := by
  unfold hasB
  rw [Bool.and_eq_true, all4_iff]
  exact h
theorem hasB_sub {a b : BoxM} {e : EvM} (h : SubB a b) (ha : hasB a e = true) : hasB b e = true := by
  obtain ⟨h1, h2⟩ := hasB_at ha
  exact hasB_mk ⟨h1, fun i hi => hasM_sub (h i hi) (h2 i hi)⟩
theorem hasB_some {a : BoxM} {e : EvM} (ha : hasB a e = true) {i : Nat} (hi : i < 4) : a.at i ≠ noM := fun h => by
  have := (hasB_at ha).2 i hi
  rw [h, hasM_no'] at this
  cases this
theorem hasB_empty {b : BoxM} (e : EvM) (h : emptyB b = true) : hasB b e = false := by
  cases hh : hasB b e
  · rfl
  · obtain ⟨i, hi, h0⟩ := emptyB_iff.1 h
    exact absurd h0 (hasB_some hh hi)
theorem inB4_sub {a b : BoxM} {e : EvM} (ha : FK 400 a) (hb : FK 400 b) (he : hasB a e = true) : inB4 a b = true ↔ SubB a b := by
  rw [inB4_iff ha.2 hb.2 ha.1 hb.1]
  exact ⟨fun h => h.elim (fun ⟨i, hi, h0⟩ => absurd h0 (hasB_some he hi)) id, .inr⟩
theorem hasF_one (b : BoxM) (e : EvM) : hasF [b] e = hasB b e := by simp [hasF]
end Go.Proofs



namespace Go.Proofs
open Go.Vm
set_option linter.unusedSimpArgs false

def ofX (x : ExprM) : List BoxM × Int := if rightX x = true then (match boxesE x false with | none => ([], 4) | some l => if rightF l = true then (l, 0) else ([], 4)) else ([], 2)
def encOf (r : List BoxM × Int) : D := .tup [.sl none (r.1.map boxC), .val (.int .i64 r.2)]
theorem goodX {x : ExprM} (hs : setsOk SetB x) (h : rightX x = true) : GoodX x ∧ sizeE x ≤ 40 := by
  simp only [rightX, fitsE, Bool.and_eq_true, decide_eq_true_eq] at h
  exact ⟨⟨hs, h.2⟩, h.1.2⟩
theorem kdnfOf (x : ExprM) (hs : setsOk SetB x) : PureAt Tryz.prog 14 [.agg (exprC x)] (· = encOf (ofX x)) := by
  have p1 := kexprRight x hs
  have p2 := fun h h' => kboxesX x h h' false
  refine pure_of r14 (by kernel_rfl) ?_
  unfold m14 ofX encOf
  simp only [go_sem, Nat.reduceEqDiff, Nat.reduceAdd, Nat.reduceLeDiff]
  refine callP_eq (by first | rfl | (simp only [exprC_mk]; rfl)) (by first | rfl | (simp only [exprC_mk]; rfl)) p1 ?_
  cases hr : rightX x
  · simp only [go_sem, Nat.reduceEqDiff]
  obtain ⟨hg, hz⟩ := goodX hs hr
  have hf := boxesE_facts x hg false
  simp only [go_sem, Nat.reduceEqDiff]
  refine callP_eq rfl rfl (p2 hz hg) ?_
  cases hb : boxesE x false with
  | none =>
    simp only [ne4, go_sem, Nat.reduceEqDiff]
  | some l =>
    obtain ⟨h1, h2⟩ := hf l hb
    have p3 := kdnfRight l (by omega) (fun b hb => (h2 b hb).1.mono (by omega)) (fun b hb i hi => ((h2 b hb).2 i hi).inb)
    simp only [ne0, go_sem, Nat.reduceEqDiff]
    refine callP_eq rfl rfl p3 ?_
    cases hrf : rightF l
    · simp only [go_sem, Nat.reduceEqDiff]
    · simp only [go_sem, Nat.reduceEqDiff]
theorem ofX_facts {x : ExprM} (hs : setsOk SetB x) : (ofX x).1.length ≤ 16 ∧ ∀ b ∈ (ofX x).1, FK 400 b := by
  unfold ofX
  split
  · rename_i h
    obtain ⟨hg, hz⟩ := goodX hs h
    cases hb : boxesE x false with
    | none => simp
    | some l =>
      obtain ⟨h1, h2⟩ := boxesE_facts x hg false l hb
      simp only
      split
      · exact ⟨h1, fun b hb => (h2 b hb).mono (by omega)⟩
      · simp
  · simp
end Go.Proofs



namespace Go.Proofs
open Go.Vm
set_option linter.unusedSimpArgs false

theorem SetB.no : SetB noM := ⟨by simp [noM], by simp [Bnd, noM]⟩
theorem setB_and {l : List ExprM} (h : ∀ x ∈ l, setsOk SetB x) : setsOk SetB (ofAnd l) := (setsOk_mk _ _).2 ⟨SetB.no, h⟩
theorem setB_or {l : List ExprM} (h : ∀ x ∈ l, setsOk SetB x) : setsOk SetB (ofOr l) := (setsOk_mk _ _).2 ⟨SetB.no, h⟩
theorem setB_not {x : ExprM} (h : setsOk SetB x) : setsOk SetB (notX x) := (setsOk_mk _ _).2 ⟨SetB.no, by simp [notX, ExprM.sub, h]⟩
theorem setB_atom {a : Int} {s : SetM} (h : SetB s) : setsOk SetB (atomX a s) := (setsOk_mk _ _).2 ⟨h, by simp [atomX, ExprM.sub]⟩
theorem OK.five : OK fiveS := ⟨⟨by simp [fiveS], by simp [fiveS]⟩, by simp [fiveS, InB], .nil, by simp [fiveS]⟩
theorem SetB.five : SetB fiveS := ⟨by simp [fiveS], OK.five.inb⟩
theorem same_no : sameM noM noM = true := by simp [sameM]
theorem keep1 (b : BoxM) : keepM [b] 0 = !emptyB b := by simp [keepM, needM, needl]
theorem tidy1 {b : BoxM} (h : emptyB b = false) : tidyM [b] = [b] := by simp [tidyM, tidyI, keep1, h]
theorem keep2a {a b : BoxM} (h : emptyB a = false) (h1 : inB4 a b = false) : keepM [a, b] 0 = true := by simp [keepM, needM, needl, hidesM, List.range_succ, h, h1]
theorem keep2b {a b : BoxM} (h : emptyB b = false) (h1 : inB4 b a = false) : keepM [a, b] 1 = true := by simp [keepM, needM, needl, hidesM, List.range_succ, h, h1]
theorem tidy2 {a b : BoxM} (ha : emptyB a = false) (hb : emptyB b = false) (h1 : inB4 a b = false) (h2 : inB4 b a = false) : tidyM [a, b] = [a, b] := by
  simp [tidyM, tidyI, List.range_succ, keep2a ha h1, keep2b hb h2]
theorem emptyAll : emptyB allB = false := rfl
theorem rightAll : rightF [allB] = true := by
  unfold rightF
  rw [tidy1 emptyAll]
  simp only [List.all_cons, List.all_nil, fineB, OKB.all.right]
  rfl
theorem ofA : ofX (ofAnd []) = ([allB], 0) := by
  have h1 : rightX (ofAnd []) = true := by simp [rightX, fitsE, depE_mk, sizeE_mk, depL, sizeL, ofAnd, ExprM.sub, allX_mk, oneX, oneF, ExprM.kind, ExprM.attr, ExprM.set, same_no]
  have h2 : boxesE (ofAnd []) false = some [allB] := by rw [boxesE_mk]; rfl
  unfold ofX
  rw [if_pos h1, h2]
  simp only
  rw [if_pos rightAll]
theorem ofB : ofX (ofOr []) = ([], 0) := by
  have h1 : rightX (ofOr []) = true := by simp [rightX, fitsE, depE_mk, sizeE_mk, depL, sizeL, ofOr, ExprM.sub, allX_mk, oneX, oneF, ExprM.kind, ExprM.attr, ExprM.set, same_no]
  have h2 : boxesE (ofOr []) false = some [] := by rw [boxesE_mk]; rfl
  unfold ofX
  rw [if_pos h1, h2]
  rfl
theorem ofD : ofX x0 = ([], 2) := by
  have h1 : rightX x0 = false := by simp [rightX, x0, allX_mk, oneX, oneF, ExprM.kind, ExprM.sub]
  unfold ofX
  rw [h1]; rfl
def cX : ExprM := notX (ofAnd [atomX 0 fiveS, atomX 1 fiveS])
def nFive : SetM := notM normR fiveS
def cB (i : Int) : BoxM := withB allB i nFive
theorem OK.nFive : OK nFive := OK.five.not.1
theorem few_nFive : nFive.ints.length ≤ 2 ∧ nFive.strs.length ≤ 0 := ⟨notM_ints fiveS, Nat.le_refl _⟩
theorem fk_cB {i : Int} (h : 0 ≤ i ∧ i < 4) : FK 400 (cB i) := FK.with h (by omega) ⟨by have := few_nFive.1; omega, by have := few_nFive.2; omega⟩ OK.nFive
theorem hasFive (v : ValM) (hv : InRange v.n) (hr : rightV v = true) : hasM nFive v = !hasM fiveS v := hasM_not OK.five hv hr
def v5 : ValM := ⟨1, 5, ⟨#[]⟩⟩
def v0 : ValM := ⟨0, 0, ⟨#[]⟩⟩
theorem right5 : rightV v5 = true := by simp [rightV, v5]
theorem right00 : rightV v0 = true := by simp [rightV, v0]
theorem in5 : InRange v5.n := by simp [InRange, v5]
theorem in0 : InRange v0.n := by simp [InRange, v0]
theorem has55 : hasM fiveS v5 = true := (has_iff _ right5).2 (.inr (.inl ⟨rfl, ⟨(5, 5), by simp [fiveS], by simp [v5], by simp [v5]⟩⟩))
theorem has50 : hasM fiveS v0 = false := by
  cases h : hasM fiveS v0
  · rfl
  · rw [has_iff _ right00] at h
    rcases h with ⟨-, x⟩ | ⟨x, -⟩ | ⟨x, -⟩
    · cases x
    · cases x
    · cases x
def evN : EvM := ⟨v0, v0, v0, v0⟩
def ev5 : EvM := ⟨v5, v5, v0, v0⟩
def evB0 : EvM := ⟨v0, v5, v0, v0⟩
def evB1 : EvM := ⟨v5, v0, v0, v0⟩
theorem ev_right {a b : ValM} (ha : rightV a = true) (hb : rightV b = true) : rightE ⟨a, b, v0, v0⟩ = true := all4_iff.2 fun i hi => by
  rcases lt4 hi with rfl | rfl | rfl | rfl
  · exact ha
  · exact hb
  · exact right00
  · exact right00
theorem ev_in {a b : ValM} (ha : InRange a.n) (hb : InRange b.n) : InE ⟨a, b, v0, v0⟩ := fun i hi => by
  rcases lt4 hi with rfl | rfl | rfl | rfl
  · exact ha
  · exact hb
  · exact in0
  · exact in0
theorem all0 : hasM allM v0 = true := (hasM_all v0 in0).trans right00
theorem all5 : hasM allM v5 = true := (hasM_all v5 in5).trans right5
theorem n0 : hasM nFive v0 = true := by rw [hasFive _ in0 right00, has50]; rfl
theorem n5 : hasM nFive v5 = false := by rw [hasFive _ in5 right5, has55]; rfl
theorem c0_b0 : hasB (cB 0) evB0 = true := hasB_mk ⟨ev_right right00 right5, fun i hi => by
  rcases lt4 hi with rfl | rfl | rfl | rfl
  · exact n0
  · exact all5
  · exact all0
  · exact all0⟩
theorem c1_b1 : hasB (cB 1) evB1 = true := hasB_mk ⟨ev_right right5 right00, fun i hi => by
  rcases lt4 hi with rfl | rfl | rfl | rfl
  · exact all5
  · exact n0
  · exact all0
  · exact all0⟩
theorem c1_b0 : ¬ hasB (cB 1) evB0 = true := fun h => by
  have := (hasB_at h).2 1 (by omega)
  exact absurd ((n5.symm).trans this) (by simp)
theorem c0_b1 : ¬ hasB (cB 0) evB1 = true := fun h => by
  have := (hasB_at h).2 0 (by omega)
  exact absurd ((n5.symm).trans this) (by simp)
theorem in01 : inB4 (cB 0) (cB 1) = false := by
  cases h : inB4 (cB 0) (cB 1)
  · rfl
  · exact absurd (hasB_sub ((inB4_sub (fk_cB (by omega)) (fk_cB (by omega)) c0_b0).1 h) c0_b0) c1_b0
theorem in10 : inB4 (cB 1) (cB 0) = false := by
  cases h : inB4 (cB 1) (cB 0)
  · rfl
  · exact absurd (hasB_sub ((inB4_sub (fk_cB (by omega)) (fk_cB (by omega)) c1_b1).1 h) c1_b1) c0_b1
theorem empty_c0 : emptyB (cB 0) = false := by
  cases h : emptyB (cB 0)
  · rfl
  · have := hasB_empty evB0 h; rw [c0_b0] at this; cases this
theorem empty_c1 : emptyB (cB 1) = false := by
  cases h : emptyB (cB 1)
  · rfl
  · have := hasB_empty evB1 h; rw [c1_b1] at this; cases this
theorem fine_c {i : Int} (h : 0 ≤ i ∧ i < 4) : fineB (cB i) = true := by
  unfold fineB
  rw [(fk_cB h).2.right, Bool.true_and]
  unfold smallB
  rw [all4_iff]
  intro k hk
  rw [cB, withB_at h _ _ hk]
  split
  · have := few_nFive
    simp [smallM]; omega
  · rcases lt4 hk with rfl | rfl | rfl | rfl <;> rfl
theorem ofC : ofX cX = ([cB 0, cB 1], 0) := by
  have h0 : rightM fiveS = true := OK.five.right
  have hsm : smallM fiveS = true := by decide
  have h1 : rightX cX = true := by
    simp [rightX, fitsE, depE_mk, sizeE_mk, depL, sizeL, cX, notX, atomX, ofAnd, ExprM.sub, allX_mk, oneX, oneF, ExprM.kind, ExprM.attr, ExprM.set, same_no, h0, hsm]
  have b0 : boxesE (atomX 0 fiveS) true = some [cB 0] := by
    rw [boxesE_mk, if_pos rfl]
    exact congrArg some (tidy1 empty_c0)
  have b1 : boxesE (atomX 1 fiveS) true = some [cB 1] := by
    rw [boxesE_mk, if_pos rfl]
    exact congrArg some (tidy1 empty_c1)
  have n1 : nextB false [] [cB 0] = [cB 0] := tidy1 empty_c0
  have n2 : nextB false [cB 0] [cB 1] = [cB 0, cB 1] := tidy2 empty_c0 empty_c1 in01 in10
  have h2 : boxesE cX false = some [cB 0, cB 1] := by
    rw [boxesE_mk, if_neg (by decide), if_pos (show cX.kind = 4 from rfl)]
    change boxesE (ofAnd [atomX 0 fiveS, atomX 1 fiveS]) true = _
    rw [boxesE_mk, if_neg (by decide), if_neg (by decide)]
    change boxesF false [atomX 0 fiveS, atomX 1 fiveS] true [] = _
    simp only [boxesF, b0, b1, n1, n2]
    simp
  have h3 : rightF [cB 0, cB 1] = true := by
    unfold rightF
    rw [tidy2 empty_c0 empty_c1 in01 in10]
    simp [fine_c (i := 0) (by omega), fine_c (i := 1) (by omega)]
  unfold ofX
  rw [if_pos h1, h2]
  simp only
  rw [if_pos h3]
theorem hasC_N : hasF [cB 0, cB 1] evN = true := by
  have : hasB (cB 0) evN = true := hasB_mk ⟨ev_right right00 right00, fun i hi => by
    rcases lt4 hi with rfl | rfl | rfl | rfl
    · exact n0
    · exact all0
    · exact all0
    · exact all0⟩
  simp [hasF, this]
theorem hasA_N : hasF [allB] evN = true := by
  rw [hasF_one, show hasB allB evN = rightE evN from hasB_all (ev_in in0 in0)]
  exact ev_right right00 right00
theorem hasC_5 : hasF [cB 0, cB 1] ev5 = false := by
  have h0 : ¬ hasB (cB 0) ev5 = true := fun h => by
    have := (hasB_at h).2 0 (by omega)
    exact absurd ((n5.symm).trans this) (by simp)
  have h1 : ¬ hasB (cB 1) ev5 = true := fun h => by
    have := (hasB_at h).2 1 (by omega)
    exact absurd ((n5.symm).trans this) (by simp)
  simp [hasF, h0, h1]

theorem kawake06 : PureAt Tryz.prog 12 [] (· = .val (.bool true)) := by
  have s5 : ∀ a, setsOk SetB (atomX a fiveS) := fun a => setB_atom SetB.five
  have sC : setsOk SetB cX := setB_not (setB_and (by simp [s5]))
  have pA := kdnfOf (ofAnd []) (setB_and (by simp))
  have pB := kdnfOf (ofOr []) (setB_or (by simp))
  have pC := kdnfOf cX sC
  have pD := kdnfOf x0 ((setsOk_mk _ _).2 ⟨SetB.no, by simp [x0, ExprM.sub]⟩)
  rw [ofA] at pA
  rw [ofB] at pB
  rw [ofC] at pC
  rw [ofD] at pD
  have f0 := (fk_cB (i := 0) (by omega)).1.mono (m := 1000000) (by omega)
  have f1 := (fk_cB (i := 1) (by omega)).1.mono (m := 1000000) (by omega)
  have q1 := kdnfHas [cB 0, cB 1] evN (by simp) (by simp [f0, f1])
  have q2 := kdnfHas [allB] evN (by simp) (by simp [FewB.all.mono (show 1 ≤ 1000000 by omega)])
  have q3 := kdnfHas [cB 0, cB 1] ev5 (by simp) (by simp [f0, f1])
  rw [hasC_N] at q1
  rw [hasA_N] at q2
  rw [hasC_5] at q3
  have e1 : (((1 : Nat) : Int) == 1) = true := rfl
  have e2 : (((0 : Nat) : Int) == 0) = true := rfl
  have e3 : ((0 : Int) == 0) = true := rfl
  have e4 : (((2 : Nat) : Int) == 2) = true := rfl
  have e5 : ((2 : Int) == 2) = true := rfl
  refine pure_of r12 (by kernel_rfl) ?_
  unfold m12
  simp only [encOf] at pA pB pC pD
  simp only [go_sem]
  refine callP_eq (by first | rfl | (simp only [List.map_cons, List.map_nil, exprC_mk]; rfl)) (by first | rfl | (simp only [List.map_cons, List.map_nil, exprC_mk]; rfl)) (kexprAnd [] (by simp)) ?_
  simp only [go_sem]
  refine callP_eq (by first | rfl | (simp only [List.map_cons, List.map_nil, exprC_mk]; rfl)) (by first | rfl | (simp only [List.map_cons, List.map_nil, exprC_mk]; rfl)) pA ?_
  simp only [go_sem, Nat.reduceEqDiff]
  refine callP_eq (by first | rfl | (simp only [List.map_cons, List.map_nil, exprC_mk]; rfl)) (by first | rfl | (simp only [List.map_cons, List.map_nil, exprC_mk]; rfl)) (kexprOr [] (by simp)) ?_
  simp only [go_sem, Nat.reduceEqDiff]
  refine callP_eq (by first | rfl | (simp only [List.map_cons, List.map_nil, exprC_mk]; rfl)) (by first | rfl | (simp only [List.map_cons, List.map_nil, exprC_mk]; rfl)) pB ?_
  simp only [go_sem, Nat.reduceEqDiff]
  refine callP_eq rfl rfl (kfive 0) ?_
  simp only [go_sem]
  refine callP_eq rfl rfl (kfive 1) ?_
  simp only [go_sem, Nat.reduceEqDiff, Nat.reduceAdd, Nat.reduceLeDiff]
  refine callP_eq (by first | rfl | (simp only [List.map_cons, List.map_nil, exprC_mk]; rfl)) (by first | rfl | (simp only [List.map_cons, List.map_nil, exprC_mk]; rfl)) (kexprAnd [atomX 0 fiveS, atomX 1 fiveS] (by simp)) ?_
  simp only [go_sem, Nat.reduceEqDiff]
  refine callP_eq (by first | rfl | (simp only [exprC_mk]; rfl)) (by first | rfl | (simp only [List.map_cons, List.map_nil, exprC_mk]; rfl)) (kexprNot _) ?_
  simp only [go_sem, Nat.reduceEqDiff]
  refine callP_eq (by first | rfl | (simp only [List.map_cons, List.map_nil, exprC_mk]; rfl)) (by first | rfl | (simp only [List.map_cons, List.map_nil, exprC_mk]; rfl)) pC ?_
  simp only [go_sem, Nat.reduceEqDiff]
  refine callP_eq (by first | rfl | (simp only [List.map_cons, List.map_nil, exprC_mk]; rfl)) (by first | rfl | (simp only [List.map_cons, List.map_nil, exprC_mk]; rfl)) pD ?_
  simp only [e1, e2, e3, e4, e5, go_sem, Nat.reduceEqDiff, Nat.reduceAdd]
  refine callP_eq rfl rfl q1 ?_
  simp only [go_sem, Nat.reduceEqDiff]
  refine callP_eq rfl rfl q2 ?_
  simp only [go_sem, Nat.reduceEqDiff, Nat.reduceAdd, Nat.reduceLeDiff]
  refine callP_eq rfl rfl q3 ?_
  simp only [go_sem, Nat.reduceEqDiff]
end Go.Proofs

