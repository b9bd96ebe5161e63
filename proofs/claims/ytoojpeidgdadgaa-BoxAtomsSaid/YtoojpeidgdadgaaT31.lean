/- A part of the proof; what is proved stands in the last text. -/
import Derived.Test.YtoojpeidgdadgaaT30
namespace Go.Proofs
open Go.Vm
set_option linter.unusedSimpArgs false

theorem ptsR_in {r : Rg} (hr : InB r) : ∀ p ∈ ptsR r, InRange p.n := by
  intro p hp
  obtain ⟨⟨b1, b2⟩, b3, b4⟩ := hr
  have : p = ptI r.1 ∨ p = ptI r.2 ∨ (r.1 > -9223372036854775808 ∧ p = ptI (r.1 - 1)) ∨ (r.2 < 9223372036854775807 ∧ p = ptI (r.2 + 1)) := by
    unfold ptsR at hp
    by_cases h1 : r.1 > -9223372036854775808 <;> by_cases h2 : r.2 < 9223372036854775807 <;> simp [h1, h2] at hp ⊢ <;> grind
  rcases this with rfl | rfl | ⟨h, rfl⟩ | ⟨h, rfl⟩ <;> exact ⟨by simp only [ptI]; omega, by simp only [ptI]; omega⟩
theorem PtsOf.inr {l : List SetM} {ps : List ValM} (h : PtsOf l ps) (hb : ∀ s ∈ l, Bnd s) : ∀ p ∈ ps, InRange p.n := by
  obtain ⟨t, rfl, -, -⟩ := h
  intro p hp
  rcases List.mem_append.1 hp with hp | hp
  · rcases List.mem_append.1 hp with hp | hp
    · simp [pts0] at hp
      rcases hp with rfl | rfl | rfl | rfl <;> exact ⟨by simp [ptI], by simp [ptI]⟩
    · obtain ⟨s, hs, hp⟩ := List.mem_flatMap.1 hp
      rcases List.mem_append.1 hp with hp | hp
      · obtain ⟨r, hr, hp⟩ := List.mem_flatMap.1 hp
        exact ptsR_in (hb s hs r hr) p hp
      · obtain ⟨t, _, rfl⟩ := List.mem_map.1 hp
        exact ⟨by simp [ptS], by simp [ptS]⟩
  · simp at hp; subst hp; exact ⟨by simp [ptS], by simp [ptS]⟩

def inv3 (a b n o x : SetM) (ps : List ValM) (S : St) (m : Nat) : Prop := ∃ i : Nat, i ≤ ps.length ∧ m = ps.length - i ∧
  S.trim [3, 4, 8, 9, 10, 74, 75, 76] [3, 4, 8, 9, 10] [(71, 27, 3)] = ⟨[(3, .ptr 3 0), (4, .ptr 4 0), (8, .ptr 8 0), (9, .ptr 9 0), (10, .ptr 10 0), (74, .sl (some (71, 27, 3)) (ps.map valC)), (75, .val (.int .i64 ps.length)), (76, .val (.int .i64 i))],
    [(3, setC a), (4, setC b), (8, setC n), (9, setC o), (10, setC x)], [((71, 27, 3), true)]⟩

set_option maxHeartbeats 8000000 in
theorem kSetTurns (a b : SetM) (v : ValM) (ba : Bnd a) (bb : Bnd b) (bv : InRange v.n) : PureAt Try.prog 3 [.agg (setC a), .agg (setC b), .agg (valC v)] (· = .val (.bool true)) := by
  refine pure_of r3 (by kernel_rfl) ?_
  unfold m3
  simp only [setC, valC, go_sem, Nat.reduceEqDiff, Nat.reduceAdd, Nat.reduceLeDiff, List.length_map]
  refine callP_eq rfl rfl (kawake03) ?_
  simp only [go_sem, Nat.reduceEqDiff, Nat.reduceAdd, Nat.reduceLeDiff, List.length_map]
  refine callP_by rfl rfl (krefFew3 [a, b] (by simp)) ?_
  rintro d ⟨bf, rfl, hf⟩
  simp only [go_sem, Nat.reduceEqDiff, Nat.reduceAdd, Nat.reduceLeDiff, List.length_map]
  first | refine condE_split (fun h1 => ?_) (fun h1 => ?_) | refine wantE_split (fun h1 => ?_) (fun h1 => ?_) | refine wantQ_split (fun h1 => ?_) (fun h1 => ?_)
  · simp only [h1, go_sem, Nat.reduceEqDiff, Nat.reduceAdd, Nat.reduceLeDiff, List.length_map]
    refine callP_eq rfl rfl (kawake03) ?_
    simp only [go_sem, Nat.reduceEqDiff, Nat.reduceAdd, Nat.reduceLeDiff, List.length_map]
  have hbf : bf = true := by simpa using h1
  have fa := hf hbf a (by simp)
  have fb := hf hbf b (by simp)
  clear hf
  simp only [h1, go_sem, Nat.reduceEqDiff, Nat.reduceAdd, Nat.reduceLeDiff, List.length_map]
  refine callP_eq rfl rfl (krefRight3 a (by omega) (by omega)) ?_
  simp only [go_sem, Nat.reduceEqDiff, Nat.reduceAdd, Nat.reduceLeDiff, List.length_map]
  first | refine condE_split (fun h2 => ?_) (fun h2 => ?_) | refine wantE_split (fun h2 => ?_) (fun h2 => ?_) | refine wantQ_split (fun h2 => ?_) (fun h2 => ?_)
  · simp only [h2, go_sem, Nat.reduceEqDiff, Nat.reduceAdd, Nat.reduceLeDiff, List.length_map]
    refine callP_eq rfl rfl (kawake03) ?_
    simp only [go_sem, Nat.reduceEqDiff, Nat.reduceAdd, Nat.reduceLeDiff, List.length_map]
  have oa : OK a := Few1.ok ba (by simpa using h2)
  simp only [h2, go_sem, Nat.reduceEqDiff, Nat.reduceAdd, Nat.reduceLeDiff, List.length_map]
  refine callP_eq rfl rfl (krefRight3 b (by omega) (by omega)) ?_
  simp only [go_sem, Nat.reduceEqDiff, Nat.reduceAdd, Nat.reduceLeDiff, List.length_map]
  first | refine condE_split (fun h3 => ?_) (fun h3 => ?_) | refine wantE_split (fun h3 => ?_) (fun h3 => ?_) | refine wantQ_split (fun h3 => ?_) (fun h3 => ?_)
  · simp only [h3, go_sem, Nat.reduceEqDiff, Nat.reduceAdd, Nat.reduceLeDiff, List.length_map]
    refine callP_eq rfl rfl (kawake03) ?_
    simp only [go_sem, Nat.reduceEqDiff, Nat.reduceAdd, Nat.reduceLeDiff, List.length_map]
  have ob : OK b := Few1.ok bb (by simpa using h3)
  simp only [h3, go_sem, Nat.reduceEqDiff, Nat.reduceAdd, Nat.reduceLeDiff, List.length_map]
  first | refine condE_split (fun h4 => ?_) (fun h4 => ?_) | refine wantE_split (fun h4 => ?_) (fun h4 => ?_) | refine wantQ_split (fun h4 => ?_) (fun h4 => ?_)
  · simp only [go_sem, Nat.reduceEqDiff, Nat.reduceAdd, Nat.reduceLeDiff, List.length_map]
    refine callP_eq rfl rfl (kawake03) ?_
    simp only [go_sem, Nat.reduceEqDiff, Nat.reduceAdd, Nat.reduceLeDiff, List.length_map]
  simp only [go_sem, Nat.reduceEqDiff, Nat.reduceAdd, Nat.reduceLeDiff, List.length_map]
  have i1 := notM_ints a
  have i2 := notM_strs a
  have i3 := orM_ints a b
  have i4 := orM_strs a b
  have i5 := andM_ints a b
  have i6 := andM_strs a b
  have i7 := notM_ints (notM normR a)
  have i8 := notM_strs (notM normR a)
  have p1 := kNot' a (by omega) (by omega)
  have p2 := kOr a b (by omega) (by omega) (by omega) (by omega)
  have p3 := kAnd a b (by omega) (by omega) (by omega) (by omega)
  have p4 := krefRight3 (notM normR a) (by omega) (by omega)
  have p5 := krefRight3 (orM normR a b) (by omega) (by omega)
  have p6 := krefRight3 (andM normR a b) (by omega) (by omega)
  rw [oa.not.1.right] at p4
  rw [(oa.or ob).1.right] at p5
  rw [(oa.and ob).1.right] at p6
  have p7 := kNot' (notM normR a) (by omega) (by omega)
  have enn : notM normR (notM normR a) = a := by
    obtain ⟨n1, n2, n3, n4⟩ := oa.not
    obtain ⟨x1, x2, x3, x4⟩ := n1.not
    refine x1.ext oa (by omega) (by omega) ?_ (fun n hn => ?_) (fun t _ => ?_)
    · rw [x4, n4]; simp
    · rw [x2, n2]; grind
    · rw [x3, n3]; grind
  have p8 := kSame' enn (by omega) (by omega)
  have q1 := fun p => krefHas3 a (by omega) (by omega) p
  have q2 := fun p => krefHas3 b (by omega) (by omega) p
  have q3 := fun p => krefHas3 (notM normR a) (by omega) (by omega) p
  have q4 := fun p => krefHas3 (orM normR a b) (by omega) (by omega) p
  have q5 := fun p => krefHas3 (andM normR a b) (by omega) (by omega) p
  have t3 : ∀ p, InRange p.n → rightV p = true → hasM (notM normR a) p = !hasM a p := fun p hp hr => hasM_not oa hp hr
  have t4 : ∀ p, rightV p = true → hasM (orM normR a b) p = (hasM a p || hasM b p) := fun p hr => hasM_or oa ob hr
  have t5 : ∀ p, rightV p = true → hasM (andM normR a b) p = (hasM a p && hasM b p) := fun p hr => hasM_and oa ob hr
  clear i1 i2 i3 i4 i5 i6 i7 i8 enn
  generalize notM normR a = n at *
  generalize orM normR a b = o at *
  generalize andM normR a b = x at *
  refine callQ_by _ rfl rfl (p1) ?_
  simp only [go_sem, Nat.reduceEqDiff, Nat.reduceAdd, Nat.reduceLeDiff, List.length_map]
  refine callQ_by _ rfl rfl (p2) ?_
  simp only [go_sem, Nat.reduceEqDiff, Nat.reduceAdd, Nat.reduceLeDiff, List.length_map]
  refine callQ_by _ rfl rfl (p3) ?_
  simp only [setC, go_sem, Nat.reduceEqDiff, Nat.reduceAdd, Nat.reduceLeDiff, List.length_map]
  refine callQ_by _ rfl rfl (p4) ?_
  simp only [go_sem, Nat.reduceEqDiff, Nat.reduceAdd, Nat.reduceLeDiff, List.length_map]
  refine callQ_by _ rfl rfl (p5) ?_
  simp only [go_sem, Nat.reduceEqDiff, Nat.reduceAdd, Nat.reduceLeDiff, List.length_map]
  refine callQ_by _ rfl rfl (p6) ?_
  simp only [go_sem, Nat.reduceEqDiff, Nat.reduceAdd, Nat.reduceLeDiff, List.length_map]
  refine callQ_by _ rfl rfl (p7) ?_
  simp only [go_sem, Nat.reduceEqDiff, Nat.reduceAdd, Nat.reduceLeDiff, List.length_map]
  refine callQ_by _ rfl rfl (p8) ?_
  simp only [setC, go_sem, Nat.reduceEqDiff, Nat.reduceAdd, Nat.reduceLeDiff, List.length_map]
  have hfw : ∀ s ∈ [a, b], s.ints.length ≤ 40 ∧ s.strs.length ≤ 40 := by intro s hs; simp at hs; rcases hs with rfl | rfl; exact fa; exact fb
  have hbn : ∀ s ∈ [a, b], Bnd s := by intro s hs; simp at hs; rcases hs with rfl | rfl; exact ba; exact bb
  refine callF_by rfl rfl (kPoints [a, b] (by simp) hfw hbn) ?_
  rintro es ⟨ps0, rfl, hps⟩
  have hin0 := hps.inr hbn
  have hpl0 := hps.len hfw
  simp only [List.length_cons, List.length_nil] at hpl0
  have hv0 := vals_len ps0
  clear hps p1 p2 p3 p4 p5 p6 p7 p8
  simp only [go_sem, Nat.reduceEqDiff, Nat.reduceAdd, Nat.reduceLeDiff, List.length_map]
  refine ⟨hv0, by simp, by omega, by omega, ?_⟩
  have hmap : ps0.map valC ++ [[.val (.int .i64 v.kind), .val (.int .i64 v.n), .val (.string v.s)]] = (ps0 ++ [v]).map valC := by simp [valC]
  have hin : ∀ p ∈ ps0 ++ [v], InRange p.n := fun p hp => by
    rcases List.mem_append.1 hp with hp | hp
    · exact hin0 p hp
    · simp at hp; subst hp; exact bv
  have hpl : (ps0 ++ [v]).length ≤ 500 := by simp; omega
  have hlen : (ps0.map valC ++ [[D.val (.int .i64 v.kind), .val (.int .i64 v.n), .val (.string v.s)]]).length = (ps0 ++ [v]).length := by simp
  simp only [hmap, go_sem, Nat.reduceEqDiff, Nat.reduceAdd, Nat.reduceLeDiff, List.length_map]
  generalize ps0 ++ [v] = ps at *
  clear hv0 hmap hpl0 hin0 hlen
  refine ev_loop_by (inv3 a b n o x ps) ps.length ⟨0, by simp, by simp, by simp only [setC, go_sem, Nat.reduceEqDiff, Nat.reduceAdd, Nat.reduceLeDiff, List.length_map]; rfl⟩ ?_
  rintro m S ⟨i, hi, hm, hS⟩
  rw [ev_trim, hS]
  subst hm
  clear hS S
  simp only [setC, go_sem, Nat.reduceEqDiff, Nat.reduceAdd, Nat.reduceLeDiff, List.length_map]
  refine condE_split (fun h => ?_) (fun h => ?_)
  · have hi' : i < ps.length := by simpa using h
    have hget : (ps.map valC)[i]? = some [.val (.int .i64 ps[i].kind), .val (.int .i64 ps[i].n), .val (.string ps[i].s)] := by simp [valC, hi']
    have h0 : (0 ≤ (i : Int)) = True := by simp
    have hw : IntKind.i64.wrap ((i : Int) + 1) = ((i + 1 : Nat) : Int) := by rw [wrap64 (by omega) (by omega)]; rfl
    have next : ∀ S, S.trim [3, 4, 8, 9, 10, 74, 75, 76] [3, 4, 8, 9, 10] [(71, 27, 3)] = ⟨[(3, .ptr 3 0), (4, .ptr 4 0), (8, .ptr 8 0), (9, .ptr 9 0), (10, .ptr 10 0), (74, .sl (some (71, 27, 3)) (ps.map valC)), (75, .val (.int .i64 ps.length)), (76, .val (.int .i64 (i + 1 : Nat)))],
        [(3, setC a), (4, setC b), (8, setC n), (9, setC o), (10, setC x)], [((71, 27, 3), true)]⟩ → ∃ k', k' < ps.length - i ∧ inv3 a b n o x ps S k' := fun S h =>
      ⟨ps.length - (i + 1), by omega, i + 1, by omega, rfl, h⟩
    have hpi := hin ps[i] (by simp)
    simp only [h0, Int.toNat_natCast, hget, go_sem, Nat.reduceEqDiff, Nat.reduceAdd, Nat.reduceLeDiff, List.length_map]
    clear h0 hget hin h
    generalize ps[i] = p at *
    first | refine condE_split (fun c1 => ?_) (fun c1 => ?_) | refine wantE_split (fun c1 => ?_) (fun c1 => ?_) | refine wantQ_split (fun c1 => ?_) (fun c1 => ?_)
    · simp only [c1, go_sem, Nat.reduceEqDiff, Nat.reduceAdd, Nat.reduceLeDiff, List.length_map]
      simp only [hw, go_sem, Nat.reduceEqDiff, Nat.reduceAdd, Nat.reduceLeDiff, List.length_map]
      refine next _ ?_
      simp only [setC, go_sem, Nat.reduceEqDiff, Nat.reduceAdd, Nat.reduceLeDiff, List.length_map]
    simp only [c1, go_sem, Nat.reduceEqDiff, Nat.reduceAdd, Nat.reduceLeDiff, List.length_map]
    first | refine condE_split (fun c2 => ?_) (fun c2 => ?_) | refine wantE_split (fun c2 => ?_) (fun c2 => ?_) | refine wantQ_split (fun c2 => ?_) (fun c2 => ?_)
    · simp only [c1, c2, go_sem, Nat.reduceEqDiff, Nat.reduceAdd, Nat.reduceLeDiff, List.length_map]
      simp only [hw, go_sem, Nat.reduceEqDiff, Nat.reduceAdd, Nat.reduceLeDiff, List.length_map]
      refine next _ ?_
      simp only [setC, go_sem, Nat.reduceEqDiff, Nat.reduceAdd, Nat.reduceLeDiff, List.length_map]
    simp only [c1, c2, go_sem, Nat.reduceEqDiff, Nat.reduceAdd, Nat.reduceLeDiff, List.length_map]
    first | refine condE_split (fun c3 => ?_) (fun c3 => ?_) | refine wantE_split (fun c3 => ?_) (fun c3 => ?_) | refine wantQ_split (fun c3 => ?_) (fun c3 => ?_)
    · simp only [c1, c2, c3, go_sem, Nat.reduceEqDiff, Nat.reduceAdd, Nat.reduceLeDiff, List.length_map]
      simp only [hw, go_sem, Nat.reduceEqDiff, Nat.reduceAdd, Nat.reduceLeDiff, List.length_map]
      refine next _ ?_
      simp only [setC, go_sem, Nat.reduceEqDiff, Nat.reduceAdd, Nat.reduceLeDiff, List.length_map]
    simp only [c1, c2, c3, go_sem, Nat.reduceEqDiff, Nat.reduceAdd, Nat.reduceLeDiff, List.length_map]
    have goK : rightV p = true → (hasM n p = !hasM a p) ∧ (hasM o p = (hasM a p || hasM b p)) ∧ hasM x p = (hasM a p && hasM b p) := fun hr => ⟨t3 p hpi hr, t4 p hr, t5 p hr⟩
    first | refine condE_split (fun c4 => ?_) (fun c4 => ?_) | refine wantE_split (fun c4 => ?_) (fun c4 => ?_) | refine wantQ_split (fun c4 => ?_) (fun c4 => ?_)
    · simp only [c4, go_sem, Nat.reduceEqDiff, Nat.reduceAdd, Nat.reduceLeDiff, List.length_map]
      first | refine condE_split (fun c5 => ?_) (fun c5 => ?_) | refine wantE_split (fun c5 => ?_) (fun c5 => ?_) | refine wantQ_split (fun c5 => ?_) (fun c5 => ?_)
      · simp only [c5, go_sem, Nat.reduceEqDiff, Nat.reduceAdd, Nat.reduceLeDiff, List.length_map]
        simp only [hw, go_sem, Nat.reduceEqDiff, Nat.reduceAdd, Nat.reduceLeDiff, List.length_map]
        refine next _ ?_
        simp only [setC, go_sem, Nat.reduceEqDiff, Nat.reduceAdd, Nat.reduceLeDiff, List.length_map]
      simp only [c5, go_sem, Nat.reduceEqDiff, Nat.reduceAdd, Nat.reduceLeDiff, List.length_map]
      first | refine condE_split (fun c6 => ?_) (fun c6 => ?_) | refine wantE_split (fun c6 => ?_) (fun c6 => ?_) | refine wantQ_split (fun c6 => ?_) (fun c6 => ?_)
      · simp only [c6, go_sem, Nat.reduceEqDiff, Nat.reduceAdd, Nat.reduceLeDiff, List.length_map]
        first | refine condE_split (fun c7 => ?_) (fun c7 => ?_) | refine wantE_split (fun c7 => ?_) (fun c7 => ?_) | refine wantQ_split (fun c7 => ?_) (fun c7 => ?_)
        · simp only [hw, go_sem, Nat.reduceEqDiff, Nat.reduceAdd, Nat.reduceLeDiff, List.length_map]
          refine next _ ?_
          simp only [setC, go_sem, Nat.reduceEqDiff, Nat.reduceAdd, Nat.reduceLeDiff, List.length_map]
        simp only [go_sem, Nat.reduceEqDiff, Nat.reduceAdd, Nat.reduceLeDiff, List.length_map]
        have hr : rightV p = true := by
          simp at c1 c2 c3 c4 c5 c6 c7
          have hk : p.kind = 0 := by omega
          simp [rightV, hk, c5, c7]
        obtain ⟨g1, g2, g3⟩ := goK hr
        have r1 := q1 p
        have r2 := q2 p
        have r3 := q3 p
        have r4 := q4 p
        have r5 := q5 p
        rw [g1] at r3
        rw [g2] at r4
        rw [g3] at r5
        clear q1 q2 q3 q4 q5 t3 t4 t5 g1 g2 g3 goK
        generalize hasM a p = i1 at *
        generalize hasM b p = k1 at *
        cases i1 <;> cases k1
        all_goals
          simp only [Bool.not_false, Bool.not_true, Bool.or_false, Bool.or_true, Bool.or_self, Bool.and_false, Bool.and_true, Bool.and_self] at r3 r4 r5
          refine callQ_by _ rfl rfl r1 ?_
          simp only [go_sem, Nat.reduceEqDiff, Nat.reduceAdd, Nat.reduceLeDiff, List.length_map]
          refine callQ_by _ rfl rfl r2 ?_
          simp only [go_sem, Nat.reduceEqDiff, Nat.reduceAdd, Nat.reduceLeDiff, List.length_map]
          refine callP_eq rfl rfl r3 ?_
          simp only [Bool.not_false, Bool.not_true, Bool.true_beq, Bool.false_beq, go_sem, Nat.reduceEqDiff, Nat.reduceAdd, Nat.reduceLeDiff, List.length_map]
          refine callP_eq rfl rfl r4 ?_
          simp only [beq_self_eq_true, Bool.not_true, Bool.not_false, bne_self_eq_false, Bool.or_false, Bool.or_true, Bool.or_self, go_sem, Nat.reduceEqDiff, Nat.reduceAdd, Nat.reduceLeDiff, List.length_map]
          refine callP_eq rfl rfl r5 ?_
          simp only [beq_self_eq_true, Bool.not_true, Bool.not_false, bne_self_eq_false, Bool.and_false, Bool.and_true, Bool.and_self, go_sem, Nat.reduceEqDiff, Nat.reduceAdd, Nat.reduceLeDiff, List.length_map]
          simp only [hw, go_sem, Nat.reduceEqDiff, Nat.reduceAdd, Nat.reduceLeDiff, List.length_map]
          refine next _ ?_
          simp only [setC, go_sem, Nat.reduceEqDiff, Nat.reduceAdd, Nat.reduceLeDiff, List.length_map]
      · simp only [c6, go_sem, Nat.reduceEqDiff, Nat.reduceAdd, Nat.reduceLeDiff, List.length_map]
        have hr : rightV p = true := by
          simp at c1 c2 c3 c4 c5 c6
          simp [rightV, c6, c5]
          omega
        obtain ⟨g1, g2, g3⟩ := goK hr
        have r1 := q1 p
        have r2 := q2 p
        have r3 := q3 p
        have r4 := q4 p
        have r5 := q5 p
        rw [g1] at r3
        rw [g2] at r4
        rw [g3] at r5
        clear q1 q2 q3 q4 q5 t3 t4 t5 g1 g2 g3 goK
        generalize hasM a p = i1 at *
        generalize hasM b p = k1 at *
        cases i1 <;> cases k1
        all_goals
          simp only [Bool.not_false, Bool.not_true, Bool.or_false, Bool.or_true, Bool.or_self, Bool.and_false, Bool.and_true, Bool.and_self] at r3 r4 r5
          refine callQ_by _ rfl rfl r1 ?_
          simp only [go_sem, Nat.reduceEqDiff, Nat.reduceAdd, Nat.reduceLeDiff, List.length_map]
          refine callQ_by _ rfl rfl r2 ?_
          simp only [go_sem, Nat.reduceEqDiff, Nat.reduceAdd, Nat.reduceLeDiff, List.length_map]
          refine callP_eq rfl rfl r3 ?_
          simp only [Bool.not_false, Bool.not_true, Bool.true_beq, Bool.false_beq, go_sem, Nat.reduceEqDiff, Nat.reduceAdd, Nat.reduceLeDiff, List.length_map]
          refine callP_eq rfl rfl r4 ?_
          simp only [beq_self_eq_true, Bool.not_true, Bool.not_false, bne_self_eq_false, Bool.or_false, Bool.or_true, Bool.or_self, go_sem, Nat.reduceEqDiff, Nat.reduceAdd, Nat.reduceLeDiff, List.length_map]
          refine callP_eq rfl rfl r5 ?_
          simp only [beq_self_eq_true, Bool.not_true, Bool.not_false, bne_self_eq_false, Bool.and_false, Bool.and_true, Bool.and_self, go_sem, Nat.reduceEqDiff, Nat.reduceAdd, Nat.reduceLeDiff, List.length_map]
          simp only [hw, go_sem, Nat.reduceEqDiff, Nat.reduceAdd, Nat.reduceLeDiff, List.length_map]
          refine next _ ?_
          simp only [setC, go_sem, Nat.reduceEqDiff, Nat.reduceAdd, Nat.reduceLeDiff, List.length_map]
    · simp only [c4, go_sem, Nat.reduceEqDiff, Nat.reduceAdd, Nat.reduceLeDiff, List.length_map]
      first | refine condE_split (fun c6 => ?_) (fun c6 => ?_) | refine wantE_split (fun c6 => ?_) (fun c6 => ?_) | refine wantQ_split (fun c6 => ?_) (fun c6 => ?_)
      · simp only [c6, go_sem, Nat.reduceEqDiff, Nat.reduceAdd, Nat.reduceLeDiff, List.length_map]
        first | refine condE_split (fun c7 => ?_) (fun c7 => ?_) | refine wantE_split (fun c7 => ?_) (fun c7 => ?_) | refine wantQ_split (fun c7 => ?_) (fun c7 => ?_)
        · simp only [hw, go_sem, Nat.reduceEqDiff, Nat.reduceAdd, Nat.reduceLeDiff, List.length_map]
          refine next _ ?_
          simp only [setC, go_sem, Nat.reduceEqDiff, Nat.reduceAdd, Nat.reduceLeDiff, List.length_map]
        simp only [go_sem, Nat.reduceEqDiff, Nat.reduceAdd, Nat.reduceLeDiff, List.length_map]
        have hr : rightV p = true := by
          simp at c4 c7
          simp [rightV, c4, c7]
        obtain ⟨g1, g2, g3⟩ := goK hr
        have r1 := q1 p
        have r2 := q2 p
        have r3 := q3 p
        have r4 := q4 p
        have r5 := q5 p
        rw [g1] at r3
        rw [g2] at r4
        rw [g3] at r5
        clear q1 q2 q3 q4 q5 t3 t4 t5 g1 g2 g3 goK
        generalize hasM a p = i1 at *
        generalize hasM b p = k1 at *
        cases i1 <;> cases k1
        all_goals
          simp only [Bool.not_false, Bool.not_true, Bool.or_false, Bool.or_true, Bool.or_self, Bool.and_false, Bool.and_true, Bool.and_self] at r3 r4 r5
          refine callQ_by _ rfl rfl r1 ?_
          simp only [go_sem, Nat.reduceEqDiff, Nat.reduceAdd, Nat.reduceLeDiff, List.length_map]
          refine callQ_by _ rfl rfl r2 ?_
          simp only [go_sem, Nat.reduceEqDiff, Nat.reduceAdd, Nat.reduceLeDiff, List.length_map]
          refine callP_eq rfl rfl r3 ?_
          simp only [Bool.not_false, Bool.not_true, Bool.true_beq, Bool.false_beq, go_sem, Nat.reduceEqDiff, Nat.reduceAdd, Nat.reduceLeDiff, List.length_map]
          refine callP_eq rfl rfl r4 ?_
          simp only [beq_self_eq_true, Bool.not_true, Bool.not_false, bne_self_eq_false, Bool.or_false, Bool.or_true, Bool.or_self, go_sem, Nat.reduceEqDiff, Nat.reduceAdd, Nat.reduceLeDiff, List.length_map]
          refine callP_eq rfl rfl r5 ?_
          simp only [beq_self_eq_true, Bool.not_true, Bool.not_false, bne_self_eq_false, Bool.and_false, Bool.and_true, Bool.and_self, go_sem, Nat.reduceEqDiff, Nat.reduceAdd, Nat.reduceLeDiff, List.length_map]
          simp only [hw, go_sem, Nat.reduceEqDiff, Nat.reduceAdd, Nat.reduceLeDiff, List.length_map]
          refine next _ ?_
          simp only [setC, go_sem, Nat.reduceEqDiff, Nat.reduceAdd, Nat.reduceLeDiff, List.length_map]
      · exfalso
        simp at c4 c6
        omega
  · simp only [go_sem, Nat.reduceEqDiff, Nat.reduceAdd, Nat.reduceLeDiff, List.length_map]
end Go.Proofs
