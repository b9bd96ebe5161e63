/- A part of the proof; what is proved stands in the last text. -/
import Derived.Test.YtipppgiimemloaaGreatTF
import Derived.Test.YtipppgiimemloaaGreatMN
set_option linter.unusedVariables false
set_option maxRecDepth 2000

namespace Go.Proofs
open Go.Vm
set_option linter.unusedSimpArgs false

def ntStep (a : Int × Bool × List Rg) (r : Rg) : Int × Bool × List Rg :=
  (if r.2 = 9223372036854775807 then a.1 else IntKind.i64.wrap (r.2 + 1), if r.2 = 9223372036854775807 then false else a.2.1, if r.1 > a.1 then a.2.2 ++ [(a.1, IntKind.i64.wrap (r.1 - 1))] else a.2.2)
def ntEnd (a : Int × Bool × List Rg) : List Rg := if a.2.1 = true then a.2.2 ++ [(a.1, 9223372036854775807)] else a.2.2
theorem nt_gaps : ∀ (rs : List Rg) (a : Int) (out : List Rg), NF rs → (∀ r ∈ rs, InB r) → ntEnd (rs.foldl ntStep (a, true, out)) = gapsGo rs a out
  | [], a, out, _, _ => by simp [ntEnd, gapsGo]
  | r :: rs, a, out, h, hb => by
    have h1 : NF rs := ⟨fun x hx => h.1 x (by simp [hx]), (List.pairwise_cons.1 h.2).2⟩
    rw [List.foldl_cons, gapsGo]
    by_cases e : r.2 = 9223372036854775807
    · have : rs = [] := by
        cases rs with
        | nil => rfl
        | cons q rs =>
          have h2 := (List.pairwise_cons.1 h.2).1 q (by simp)
          have h3 := (hb q (by simp)).1
          omega
      subst this
      rw [if_pos e]
      simp [ntStep, ntEnd, e]
    · rw [if_neg e]
      have := nt_gaps rs (IntKind.i64.wrap (r.2 + 1)) (if r.1 > a then out ++ [(a, IntKind.i64.wrap (r.1 - 1))] else out) h1 (fun x hx => hb x (by simp [hx]))
      rw [← this]
      simp [ntStep, e]
theorem nt_len : ∀ (rs : List Rg) (s : Int × Bool × List Rg), (rs.foldl ntStep s).2.2.length ≤ s.2.2.length + rs.length
  | [], s => by simp
  | r :: rs, s => by
    have := nt_len rs (ntStep s r)
    rw [List.foldl_cons, List.length_cons]
    have h2 : (ntStep s r).2.2.length ≤ s.2.2.length + 1 := by
      unfold ntStep; simp only; split <;> simp
    omega
theorem nt_not {s : SetM} (h : OK s) : (⟨!s.absent, ntEnd (s.ints.foldl ntStep (-9223372036854775808, true, [])), !s.co, s.strs⟩ : SetM) = notM normR s := by
  have hn : (notM normR s).ints = gapsGo s.ints (-9223372036854775808) [] := by simp only [notM, gapsM, normR_self h.nf h.inb]
  rw [nt_gaps _ _ _ h.nf h.inb, ← hn]
  rfl
@[go_sem] theorem one_nilW : (Value.slice none 0 0).oneCell' = true := (rfl)
theorem encSts_len (l : List ByteArray) : ∀ (y : List D), y ∈ l.map encSt → y.length = 1 := by
  intro y hy; obtain ⟨r, -, rfl⟩ := List.mem_map.1 hy; rfl
theorem encRs_len (l : List Rg) : ∀ (y : List D), y ∈ l.map encR → y.length = 2 := by
  intro y hy; obtain ⟨r, -, rfl⟩ := List.mem_map.1 hy; rfl
def ntB (s : SetM) (out : List Rg) : List D := [.val (.bool !s.absent), .sl (some (3, 114, 2)) (out.map encR), .val (.bool !s.co), .sl (some (13, 9, 1)) (s.strs.map encSt)]
set_option maxHeartbeats 4000000 in
theorem knot6 (s : SetM) (h : OK s) (hi : s.ints.length ≤ 10000) (hs : s.strs.length ≤ 10000) : PureAt Tryz.prog 94 [.agg (setC s)] (· = .agg (setC (notM normR s))) := by
  rw [← nt_not h]
  refine pure_of r94 (by kernel_rfl) ?_
  unfold m94
  simp only [setC, go_sem, Nat.reduceEqDiff, Nat.reduceAdd, Nat.reduceLeDiff, List.length_map, decide_true, decide_false, Nat.reduceLT, true_and, and_self, ↓reduceIte]
  refine ⟨encSts_len _, by omega, by omega, ?_⟩
  try simp only [go_sem, Nat.reduceEqDiff, Nat.reduceAdd, Nat.reduceLeDiff, List.length_map, z4, at4, BoxM.at, EvM.at, fillB, Int.reduceLT, Int.reduceLE, Int.reduceToNat, Int.toNat_zero, Int.le_refl, Int.reduceAdd, decide_true, decide_false, wr1, wr2, wr3, wr4, c0, c1, c2, c3, c4, Nat.reduceMul, Nat.reduceLT, Nat.lt_irrefl, true_and, and_self, ↓reduceIte]
  refine loop_N s.ints.length (fun _ => True) (fun i => ⟨[(1, .ptr 1 0), (2, .ptr 2 0), (3, .ptr 3 0), (4, .val (.int .i64 ((s.ints.take i).foldl ntStep (-9223372036854775808, true, [])).1)), (5, .val (.bool ((s.ints.take i).foldl ntStep (-9223372036854775808, true, [])).2.1)), (6, .val (.int .i64 i))],
    [(1, [.val (.bool s.absent), .sl none (s.ints.map encR), .val (.bool s.co), .sl none (s.strs.map encSt)]), (2, [.val (.bool false), .sl none [], .val (.bool false), .sl none []]), (3, ntB s ((s.ints.take i).foldl ntStep (-9223372036854775808, true, [])).2.2)], [((13, 9, 1), true), ((3, 114, 2), true)]⟩) trivial (by simp only [go_sem, Nat.reduceEqDiff]; rfl) ?_
  rintro i hil -
  have hnl : ((s.ints.take i).foldl ntStep (-9223372036854775808, true, [])).2.2.length ≤ 10000 := Nat.le_trans (nt_len _ _) (by simp; omega)
  have hnx : ∀ h : i < s.ints.length, (s.ints.take (i + 1)).foldl ntStep (-9223372036854775808, true, []) = ntStep ((s.ints.take i).foldl ntStep (-9223372036854775808, true, [])) s.ints[i] := fun h => by
    rw [List.take_succ_eq_append_getElem h, List.foldl_append]; rfl
  have hend : i = s.ints.length → (s.ints.take i).foldl ntStep (-9223372036854775808, true, []) = s.ints.foldl ntStep (-9223372036854775808, true, []) := fun h => by rw [h, List.take_length]
  have ci : decide ((i : Int) < (s.ints.length : Int)) = decide (i < s.ints.length) := by rw [decide_eq_decide]; omega
  generalize (s.ints.take i).foldl ntStep (-9223372036854775808, true, []) = a at *
  simp only [ci, go_sem, Nat.reduceEqDiff, Nat.reduceAdd, List.length_map, and_self, ↓reduceIte]
  cases d4 : decide (i < s.ints.length)
  · have he := hend (by have := of_decide_eq_false d4; omega)
    rw [← he]
    simp only [ntB, go_sem, Nat.reduceEqDiff, and_self, ↓reduceIte]
    unfold ntEnd
    cases ho : a.2.1
    · simp only [go_sem, Nat.reduceEqDiff, Nat.reduceAdd, Nat.reduceLeDiff, and_self, ↓reduceIte]
    · simp only [go_sem, Nat.reduceEqDiff, Nat.reduceAdd, Nat.reduceLeDiff, List.length_map, decide_true, decide_false, true_and, and_self, ↓reduceIte]
      refine ⟨encRs_len _, (by rintro _ rfl; rfl), (by omega), (by omega), ?_⟩
      rw [List.map_append]
      rfl
  · have hi' := of_decide_eq_true d4
    have hnx := hnx hi'
    have hget : (s.ints.map encR)[i]? = some (encR s.ints[i]) := by rw [List.getElem?_map, List.getElem?_eq_getElem hi']; rfl
    generalize s.ints[i] = r at *
    simp only [nn0, Int.toNat_natCast, hget, encR, go_sem, Nat.reduceEqDiff, Nat.reduceAdd, and_self, ↓reduceIte]
    have w1 : IntKind.i64.wrap ((i : Int) + 1) = ((i + 1 : Nat) : Int) := by rw [wrap64 (by omega) (by omega)]; omega
    have m0 : (r.2 == 9223372036854775807) = decide (r.2 = 9223372036854775807) := by rw [Bool.eq_iff_iff]; simp
    cases c1 : decide (r.1 > a.1)
    · have e3 : (ntStep a r).2.2 = a.2.2 := by unfold ntStep; rw [if_neg (of_decide_eq_false c1)]
      simp only [nn0, Int.toNat_natCast, hget, encR, m0, go_sem, Nat.reduceEqDiff, Nat.reduceAdd, and_self, ↓reduceIte]
      cases c2 : decide (r.2 = 9223372036854775807)
      · have e1 : (ntStep a r).1 = IntKind.i64.wrap (r.2 + 1) := by unfold ntStep; rw [if_neg (of_decide_eq_false c2)]
        have e2 : (ntStep a r).2.1 = a.2.1 := by unfold ntStep; simp only [if_neg (of_decide_eq_false c2)]
        simp only [nn0, Int.toNat_natCast, hget, encR, w1, go_sem, Nat.reduceEqDiff, Nat.reduceAdd, and_self, ↓reduceIte]
        refine invN_next hi' trivial ?_
        simp only [hnx, e1, e2, e3, go_sem, Nat.reduceEqDiff, and_self, ↓reduceIte]
      · have e1 : (ntStep a r).1 = a.1 := by unfold ntStep; rw [if_pos (of_decide_eq_true c2)]
        have e2 : (ntStep a r).2.1 = false := by unfold ntStep; simp only [if_pos (of_decide_eq_true c2)]
        simp only [w1, go_sem, Nat.reduceEqDiff, and_self, ↓reduceIte]
        refine invN_next hi' trivial ?_
        simp only [hnx, e1, e2, e3, go_sem, Nat.reduceEqDiff, and_self, ↓reduceIte]
    · have e3 : (ntStep a r).2.2 = a.2.2 ++ [(a.1, IntKind.i64.wrap (r.1 - 1))] := by unfold ntStep; rw [if_pos (of_decide_eq_true c1)]
      simp only [nn0, Int.toNat_natCast, hget, encR, m0, ntB, go_sem, Nat.reduceEqDiff, Nat.reduceAdd, Nat.reduceLeDiff, List.length_map, decide_true, decide_false, true_and, and_self, ↓reduceIte]
      refine ⟨encRs_len _, (by rintro _ rfl; rfl), (by omega), (by omega), ?_⟩
      try simp only [nn0, Int.toNat_natCast, hget, encR, m0, go_sem, Nat.reduceEqDiff, Nat.reduceAdd, Nat.reduceLeDiff, List.length_map, z4, at4, BoxM.at, EvM.at, fillB, Int.reduceLT, Int.reduceLE, Int.reduceToNat, Int.toNat_zero, Int.le_refl, Int.reduceAdd, decide_true, decide_false, wr1, wr2, wr3, wr4, c0, c1, c2, c3, c4, Nat.reduceMul, Nat.reduceLT, Nat.lt_irrefl, true_and, and_self, ↓reduceIte]
      cases c2 : decide (r.2 = 9223372036854775807)
      · have e1 : (ntStep a r).1 = IntKind.i64.wrap (r.2 + 1) := by unfold ntStep; rw [if_neg (of_decide_eq_false c2)]
        have e2 : (ntStep a r).2.1 = a.2.1 := by unfold ntStep; simp only [if_neg (of_decide_eq_false c2)]
        simp only [nn0, Int.toNat_natCast, hget, encR, w1, go_sem, Nat.reduceEqDiff, Nat.reduceAdd, and_self, ↓reduceIte]
        refine invN_next hi' trivial ?_
        simp only [hnx, e1, e2, e3, List.map_append, List.map_cons, List.map_nil, encR, go_sem, Nat.reduceEqDiff, and_self, ↓reduceIte]
      · have e1 : (ntStep a r).1 = a.1 := by unfold ntStep; rw [if_pos (of_decide_eq_true c2)]
        have e2 : (ntStep a r).2.1 = false := by unfold ntStep; simp only [if_pos (of_decide_eq_true c2)]
        simp only [w1, go_sem, Nat.reduceEqDiff, and_self, ↓reduceIte]
        refine invN_next hi' trivial ?_
        simp only [hnx, e1, e2, e3, List.map_append, List.map_cons, List.map_nil, encR, go_sem, Nat.reduceEqDiff, and_self, ↓reduceIte]
end Go.Proofs



namespace Go.Proofs
open Go.Vm
set_option linter.unusedSimpArgs false

def mrg : List ByteArray → List ByteArray → List ByteArray
  | [], b => b
  | x :: a, [] => x :: a
  | x :: a, y :: b => if bl x < bl y then x :: mrg a (y :: b) else if bl y < bl x then y :: mrg (x :: a) b else x :: mrg a b
termination_by a b => a.length + b.length
theorem mrg_nil (a : List ByteArray) : mrg a [] = a := by cases a <;> simp [mrg]
theorem bl_eq {x y : ByteArray} (h : ¬ bl x < bl y) (h' : ¬ bl y < bl x) : x = y :=
  bl_inj (List.le_antisymm (List.not_lt.1 h') (List.not_lt.1 h))
theorem mem_mrg : ∀ (a b : List ByteArray) (t : ByteArray), t ∈ mrg a b ↔ t ∈ a ∨ t ∈ b
  | [], b, t => by simp [mrg]
  | x :: a, [], t => by simp [mrg]
  | x :: a, y :: b, t => by
    rw [mrg]
    split
    · have := mem_mrg a (y :: b) t
      rw [List.mem_cons, this, List.mem_cons (b := x), or_assoc]
    · split
      · have := mem_mrg (x :: a) b t
        rw [List.mem_cons, this]
        simp only [List.mem_cons]
        grind
      · have := mem_mrg a b t
        have e := bl_eq (by assumption) (by assumption)
        rw [List.mem_cons, this]
        simp only [List.mem_cons]
        grind
termination_by a b => a.length + b.length
theorem mrg_SS : ∀ (a b : List ByteArray), SS a → SS b → SS (mrg a b)
  | [], b, _, h => by simpa [mrg] using h
  | x :: a, [], h, _ => by simpa [mrg] using h
  | x :: a, y :: b, ha, hb => by
    have ha1 := (List.pairwise_cons.1 ha)
    have hb1 := (List.pairwise_cons.1 hb)
    rw [mrg]
    split
    · rename_i hxy
      refine List.pairwise_cons.2 ⟨fun t ht => ?_, mrg_SS a (y :: b) ha1.2 hb⟩
      rcases (mem_mrg _ _ _).1 ht with h | h
      · exact ha1.1 t h
      · rcases List.mem_cons.1 h with rfl | h
        · exact hxy
        · exact ltB_trans hxy (hb1.1 t h)
    · split
      · rename_i hyx
        refine List.pairwise_cons.2 ⟨fun t ht => ?_, mrg_SS (x :: a) b ha hb1.2⟩
        rcases (mem_mrg _ _ _).1 ht with h | h
        · rcases List.mem_cons.1 h with rfl | h
          · exact hyx
          · exact ltB_trans hyx (ha1.1 t h)
        · exact hb1.1 t h
      · have e := bl_eq (by assumption) (by assumption)
        refine List.pairwise_cons.2 ⟨fun t ht => ?_, mrg_SS a b ha1.2 hb1.2⟩
        rcases (mem_mrg _ _ _).1 ht with h | h
        · exact ha1.1 t h
        · subst e; exact hb1.1 t h
termination_by a b => a.length + b.length
theorem mrg_len : ∀ (a b : List ByteArray), (mrg a b).length ≤ a.length + b.length
  | [], b => by simp [mrg]
  | x :: a, [] => by simp [mrg]
  | x :: a, y :: b => by
    rw [mrg]
    have h1 := mrg_len a (y :: b)
    have h2 := mrg_len (x :: a) b
    have h3 := mrg_len a b
    simp only [List.length_cons] at *
    split
    · simp only [List.length_cons]; omega
    · split
      · simp only [List.length_cons]; omega
      · simp only [List.length_cons]; omega
termination_by a b => a.length + b.length
theorem less_bl (x y : ByteArray) : Op.bytesLess x.toList y.toList = decide (bl x < bl y) := by
  rw [bytesLess_lt, ByteArray.toList_eq, ByteArray.toList_eq]; rfl
theorem mrg_step {a b : List ByteArray} {i k : Nat} (n1 : i < a.length) (n2 : k < b.length) : mrg (a.drop i) (b.drop k) = if bl a[i] < bl b[k] then a[i] :: mrg (a.drop (i + 1)) (b.drop k) else if bl b[k] < bl a[i] then b[k] :: mrg (a.drop i) (b.drop (k + 1)) else a[i] :: mrg (a.drop (i + 1)) (b.drop (k + 1)) := by
  rw [List.drop_eq_getElem_cons n1, List.drop_eq_getElem_cons n2, mrg]
def invMg (a b : List ByteArray) (S : St) (n : Nat) : Prop := ∃ (i k : Nat) (out : List ByteArray), i ≤ a.length ∧ k ≤ b.length ∧ n = (a.length - i) + (b.length - k) ∧ out.length ≤ i + k ∧ out ++ mrg (a.drop i) (b.drop k) = mrg a b ∧
  S.trim [0, 1, 5, 6, 7] [] [(5, 9, 1)] = ⟨[(0, .sl none (a.map encSt)), (1, .sl none (b.map encSt)), (5, .sl (some (5, 9, 1)) (out.map encSt)), (6, .val (.int .i64 i)), (7, .val (.int .i64 k))], [], [((5, 9, 1), true)]⟩
theorem get_St {l : List ByteArray} {i : Nat} (h : i < l.length) : (l.map encSt)[i]? = some [.val (.string l[i])] := by
  rw [List.getElem?_map, List.getElem?_eq_getElem h]; rfl
set_option maxHeartbeats 4000000 in
theorem kmerge6 (a b : List ByteArray) (ha : a.length ≤ 10000) (hb : b.length ≤ 10000) : PureAt Tryz.prog 153 [.sl none (a.map encSt), .sl none (b.map encSt)] (· = .sl none ((mrg a b).map encSt)) := by
  refine pure_of r153 (by kernel_rfl) ?_
  unfold m153
  simp only [go_sem, Nat.reduceEqDiff, Nat.reduceAdd]
  refine ev_loop_by (invMg a b) (a.length + b.length) ⟨0, 0, [], by omega, by omega, by simp, by simp, by simp, by simp only [go_sem, Nat.reduceEqDiff]; rfl⟩ ?_
  rintro n S ⟨i, k, out, hi, hk, hn, hol, hm, hS⟩
  rw [ev_trim, hS]
  subst hn
  clear hS S
  have ci : decide ((i : Int) < (a.length : Int)) = decide (i < a.length) := by rw [decide_eq_decide]; omega
  have ck : decide ((k : Int) < (b.length : Int)) = decide (k < b.length) := by rw [decide_eq_decide]; omega
  have ek : ((k : Int) == (b.length : Int)) = decide (k = b.length) := by rw [Bool.eq_iff_iff]; simp; omega
  have ei : ((i : Int) == (a.length : Int)) = decide (i = a.length) := by rw [Bool.eq_iff_iff]; simp; omega
  have wi : IntKind.i64.wrap ((i : Int) + 1) = ((i + 1 : Nat) : Int) := by rw [wrap64 (by omega) (by omega)]; omega
  have wk : IntKind.i64.wrap ((k : Int) + 1) = ((k + 1 : Nat) : Int) := by rw [wrap64 (by omega) (by omega)]; omega
  have stopA : ¬ i < a.length → a.drop i = [] := fun h => List.drop_eq_nil_of_le (by omega)
  have stopB : ¬ k < b.length → b.drop k = [] := fun h => List.drop_eq_nil_of_le (by omega)
  have nextA : ∀ (S : St) (h : i < a.length), mrg (a.drop i) (b.drop k) = a[i] :: mrg (a.drop (i + 1)) (b.drop k) → S.trim [0, 1, 5, 6, 7] [] [(5, 9, 1)] = ⟨[(0, .sl none (a.map encSt)), (1, .sl none (b.map encSt)), (5, .sl (some (5, 9, 1)) (out.map encSt ++ [[.val (.string a[i])]])), (6, .val (.int .i64 ((i + 1 : Nat) : Int))), (7, .val (.int .i64 k))], [], [((5, 9, 1), true)]⟩ → ∃ n, n < (a.length - i) + (b.length - k) ∧ invMg a b S n := fun S h he hS =>
    ⟨(a.length - (i + 1)) + (b.length - k), by omega, i + 1, k, out ++ [a[i]], by omega, by omega, rfl, by simp; omega, by rw [← hm, he]; simp, by rw [hS, List.map_append]; rfl⟩
  have nextB : ∀ (S : St) (h : k < b.length), mrg (a.drop i) (b.drop k) = b[k] :: mrg (a.drop i) (b.drop (k + 1)) → S.trim [0, 1, 5, 6, 7] [] [(5, 9, 1)] = ⟨[(0, .sl none (a.map encSt)), (1, .sl none (b.map encSt)), (5, .sl (some (5, 9, 1)) (out.map encSt ++ [[.val (.string b[k])]])), (6, .val (.int .i64 i)), (7, .val (.int .i64 ((k + 1 : Nat) : Int)))], [], [((5, 9, 1), true)]⟩ → ∃ n, n < (a.length - i) + (b.length - k) ∧ invMg a b S n := fun S h he hS =>
    ⟨(a.length - i) + (b.length - (k + 1)), by omega, i, k + 1, out ++ [b[k]], by omega, by omega, rfl, by simp; omega, by rw [← hm, he]; simp, by rw [hS, List.map_append]; rfl⟩
  have nextC : ∀ (S : St) (h : i < a.length) (h' : k < b.length), mrg (a.drop i) (b.drop k) = a[i] :: mrg (a.drop (i + 1)) (b.drop (k + 1)) → S.trim [0, 1, 5, 6, 7] [] [(5, 9, 1)] = ⟨[(0, .sl none (a.map encSt)), (1, .sl none (b.map encSt)), (5, .sl (some (5, 9, 1)) (out.map encSt ++ [[.val (.string a[i])]])), (6, .val (.int .i64 ((i + 1 : Nat) : Int))), (7, .val (.int .i64 ((k + 1 : Nat) : Int)))], [], [((5, 9, 1), true)]⟩ → ∃ n, n < (a.length - i) + (b.length - k) ∧ invMg a b S n := fun S h h' he hS =>
    ⟨(a.length - (i + 1)) + (b.length - (k + 1)), by omega, i + 1, k + 1, out ++ [a[i]], by omega, by omega, rfl, by simp; omega, by rw [← hm, he]; simp, by rw [hS, List.map_append]; rfl⟩
  simp only [ci, go_sem, Nat.reduceEqDiff, List.length_map]
  cases d1 : decide (i < a.length)
  · have n1 := of_decide_eq_false d1
    have e1 := stopA n1
    have f1 : decide (i = a.length) = true := decide_eq_true (by omega)
    simp only [ck, go_sem, Nat.reduceEqDiff, List.length_map]
    cases d2 : decide (k < b.length)
    · have e2 := stopB (of_decide_eq_false d2)
      rw [e1, e2, mrg, List.append_nil] at hm
      simp only [hm, go_sem, Nat.reduceEqDiff]
    · have n2 := of_decide_eq_true d2
      have f2 : decide (k = b.length) = false := decide_eq_false (by omega)
      have hg := get_St n2
      have he : mrg (a.drop i) (b.drop k) = b[k] :: mrg (a.drop i) (b.drop (k + 1)) := by rw [e1, mrg, mrg, List.drop_eq_getElem_cons n2]
      have nx := fun S => nextB S n2 he
      generalize b[k] = y at *
      simp only [d1, ci, ek, ei, f1, f2, nn0, Int.toNat_natCast, hg, go_sem, Nat.reduceEqDiff, Nat.reduceAdd, Nat.reduceLeDiff, List.length_map]
      refine ⟨encSts_len _, (by rintro _ rfl; rfl), (by omega), (by omega), ?_⟩
      simp only [wk, go_sem]
      exact nx _ (by simp only [go_sem, Nat.reduceEqDiff])
  · have n1 := of_decide_eq_true d1
    have f1 : decide (i = a.length) = false := decide_eq_false (by omega)
    have hga := get_St n1
    simp only [go_sem, Nat.reduceEqDiff, List.length_map]
    cases d2 : decide (k < b.length)
    · have n2 := of_decide_eq_false d2
      have e2 := stopB n2
      have f2 : decide (k = b.length) = true := decide_eq_true (by omega)
      have he : mrg (a.drop i) (b.drop k) = a[i] :: mrg (a.drop (i + 1)) (b.drop k) := by rw [e2, mrg_nil, mrg_nil, List.drop_eq_getElem_cons n1]
      have nx := fun S => nextA S n1 he
      generalize a[i] = x at *
      simp only [ek, f2, nn0, Int.toNat_natCast, hga, go_sem, Nat.reduceEqDiff, Nat.reduceAdd, Nat.reduceLeDiff, List.length_map]
      refine ⟨encSts_len _, (by rintro _ rfl; rfl), (by omega), (by omega), ?_⟩
      simp only [wi, go_sem]
      exact nx _ (by simp only [go_sem, Nat.reduceEqDiff])
    · have n2 := of_decide_eq_true d2
      have f2 : decide (k = b.length) = false := decide_eq_false (by omega)
      have hgb := get_St n2
      have he := mrg_step n1 n2
      have nxA := fun S => nextA S n1
      have nxB := fun S => nextB S n2
      have nxC := fun S => nextC S n1 n2
      generalize a[i] = x at *
      generalize b[k] = y at *
      simp only [d1, ci, ek, f2, nn0, Int.toNat_natCast, hga, hgb, less_bl, go_sem, Nat.reduceEqDiff, Nat.reduceAdd, List.length_map]
      cases d3 : decide (bl x < bl y)
      · rw [if_neg (of_decide_eq_false d3)] at he
        simp only [ei, f1, nn0, Int.toNat_natCast, hga, hgb, less_bl, go_sem, Nat.reduceEqDiff, Nat.reduceAdd, List.length_map]
        cases d4 : decide (bl y < bl x)
        · rw [if_neg (of_decide_eq_false d4)] at he
          simp only [nn0, Int.toNat_natCast, hga, go_sem, Nat.reduceEqDiff, Nat.reduceAdd, Nat.reduceLeDiff, List.length_map]
          refine ⟨encSts_len _, (by rintro _ rfl; rfl), (by omega), (by omega), ?_⟩
          simp only [wi, wk, go_sem]
          exact nxC _ he (by simp only [go_sem, Nat.reduceEqDiff])
        · rw [if_pos (of_decide_eq_true d4)] at he
          simp only [nn0, Int.toNat_natCast, hgb, go_sem, Nat.reduceEqDiff, Nat.reduceAdd, Nat.reduceLeDiff, List.length_map]
          refine ⟨encSts_len _, (by rintro _ rfl; rfl), (by omega), (by omega), ?_⟩
          simp only [wk, go_sem]
          exact nxB _ he (by simp only [go_sem, Nat.reduceEqDiff])
      · rw [if_pos (of_decide_eq_true d3)] at he
        simp only [nn0, Int.toNat_natCast, hga, go_sem, Nat.reduceEqDiff, Nat.reduceAdd, Nat.reduceLeDiff, List.length_map]
        refine ⟨encSts_len _, (by rintro _ rfl; rfl), (by omega), (by omega), ?_⟩
        simp only [wi, go_sem]
        exact nxA _ he (by simp only [go_sem, Nat.reduceEqDiff])
end Go.Proofs



namespace Go.Proofs
open Go.Vm
set_option linter.unusedSimpArgs false

def interR (x y : Rg) : Option Rg :=
  if (if y.1 > x.1 then y.1 else x.1) ≤ (if y.2 < x.2 then y.2 else x.2) then some ((if y.1 > x.1 then y.1 else x.1), (if y.2 < x.2 then y.2 else x.2)) else none
def intI (a b : List Rg) : List Rg := a.flatMap fun x => b.filterMap (interR x)
def innB (s : SetM) (t : ByteArray) : Bool := (s.strs.any fun x => decide (t = x)) != s.co
def andS (a b : SetM) : List ByteArray := (mrg a.strs b.strs).filter fun t => (innB a t && innB b t) != (a.co && b.co)
def and6M (a b : SetM) : SetM := ⟨a.absent && b.absent, intI a.ints b.ints, a.co && b.co, andS a b⟩
theorem maxLo (x y : Int) : ∃ m, (if y > x then y else x) = m ∧ x ≤ m ∧ y ≤ m ∧ ∀ n, m ≤ n ↔ x ≤ n ∧ y ≤ n := by
  refine ⟨_, rfl, ?_⟩
  split <;> refine ⟨by omega, by omega, fun n => by omega⟩
theorem minHi (x y : Int) : ∃ m, (if y < x then y else x) = m ∧ m ≤ x ∧ m ≤ y ∧ ∀ n, n ≤ m ↔ n ≤ x ∧ n ≤ y := by
  refine ⟨_, rfl, ?_⟩
  split <;> refine ⟨by omega, by omega, fun n => by omega⟩
theorem interR_some {x y q : Rg} (h : interR x y = some q) : q.1 ≤ q.2 ∧ x.1 ≤ q.1 ∧ q.2 ≤ x.2 ∧ y.1 ≤ q.1 ∧ q.2 ≤ y.2 ∧ ∀ n, q.1 ≤ n ∧ n ≤ q.2 ↔ (x.1 ≤ n ∧ n ≤ x.2) ∧ y.1 ≤ n ∧ n ≤ y.2 := by
  obtain ⟨lo, e1, l1, l2, l3⟩ := maxLo x.1 y.1
  obtain ⟨hi, e2, h1, h2, h3⟩ := minHi x.2 y.2
  unfold interR at h
  rw [e1, e2] at h
  by_cases hle : lo ≤ hi
  · rw [if_pos hle] at h
    injection h with h
    subst h
    refine ⟨hle, l1, h1, l2, h2, fun n => ?_⟩
    have := l3 n
    have := h3 n
    simp only
    omega
  · rw [if_neg hle] at h
    cases h
theorem interR_none {x y : Rg} (h : interR x y = none) : ∀ n, ¬ ((x.1 ≤ n ∧ n ≤ x.2) ∧ y.1 ≤ n ∧ n ≤ y.2) := by
  obtain ⟨lo, e1, l1, l2, l3⟩ := maxLo x.1 y.1
  obtain ⟨hi, e2, h1, h2, h3⟩ := minHi x.2 y.2
  unfold interR at h
  rw [e1, e2] at h
  by_cases hle : lo ≤ hi
  · rw [if_pos hle] at h
    cases h
  · intro n
    have := l3 n
    have := h3 n
    omega
theorem intI_nf {a b : List Rg} (ha : NF a) (hb : NF b) : NF (intI a b) := by
  constructor
  · intro q hq
    obtain ⟨x, -, hq⟩ := List.mem_flatMap.1 hq
    obtain ⟨y, -, hq⟩ := List.mem_filterMap.1 hq
    exact (interR_some hq).1
  · unfold intI
    rw [List.pairwise_flatMap]
    constructor
    · intro x hx
      rw [List.pairwise_filterMap]
      refine hb.2.imp ?_
      intro y y' hyy q hq q' hq'
      have h1 := interR_some hq
      have h2 := interR_some hq'
      omega
    · refine ha.2.imp ?_
      intro x x' hxx q hq q' hq'
      obtain ⟨y, -, hq⟩ := List.mem_filterMap.1 hq
      obtain ⟨y', -, hq'⟩ := List.mem_filterMap.1 hq'
      have h1 := interR_some hq
      have h2 := interR_some hq'
      omega
theorem intI_cov {a b : List Rg} (n : Int) : Cov (intI a b) n ↔ Cov a n ∧ Cov b n := by
  constructor
  · rintro ⟨q, hq, hn⟩
    obtain ⟨x, hx, hq⟩ := List.mem_flatMap.1 hq
    obtain ⟨y, hy, hq⟩ := List.mem_filterMap.1 hq
    have h := ((interR_some hq).2.2.2.2.2 n).1 hn
    exact ⟨⟨x, hx, h.1⟩, ⟨y, hy, h.2⟩⟩
  · rintro ⟨⟨x, hx, h1⟩, ⟨y, hy, h2⟩⟩
    cases hq : interR x y with
    | none => exact absurd ⟨h1, h2⟩ (interR_none hq n)
    | some q => exact ⟨q, List.mem_flatMap.2 ⟨x, hx, List.mem_filterMap.2 ⟨y, hy, hq⟩⟩, ((interR_some hq).2.2.2.2.2 n).2 ⟨h1, h2⟩⟩
theorem intI_len (a b : List Rg) : (intI a b).length ≤ a.length * b.length := by
  induction a with
  | nil => simp [intI]
  | cons x a ih =>
    have := List.length_filterMap_le (interR x) b
    simp only [intI, List.flatMap_cons, List.length_append, List.length_cons] at *
    rw [Nat.add_mul]; omega
theorem innB_iff (s : SetM) (t : ByteArray) : innB s t = true ↔ StrIn s t := by
  unfold innB StrIn
  have h := @any_eq s.strs t
  rw [← h]
  cases (s.strs.any fun x => decide (t = x)) <;> cases s.co <;> simp
theorem and6_and {a b : SetM} (ha : OK a) (hb : OK b) (la : a.strs.length ≤ 450) (lb' : b.strs.length ≤ 450) : and6M a b = andM normR a b := by
  obtain ⟨o1, o2, o3, o4⟩ := OK.and ha hb
  have hst : ∀ t, StrIn (and6M a b) t ↔ StrIn a t ∧ StrIn b t := fun t => by
    have e : t ∈ (and6M a b).strs ↔ t ∈ mrg a.strs b.strs ∧ ((innB a t && innB b t) != (a.co && b.co)) = true := List.mem_filter
    by_cases hm : t ∈ mrg a.strs b.strs
    · rw [← innB_iff a, ← innB_iff b]
      unfold StrIn
      rw [e]
      simp only [hm, true_and, and6M]
      cases innB a t <;> cases innB b t <;> cases a.co <;> cases b.co <;> simp
    · have hn := hm
      rw [mem_mrg, not_or] at hn
      unfold StrIn
      rw [e]
      simp only [hm, hn.1, hn.2, false_and, and6M]
      cases a.co <;> cases b.co <;> simp
  have hss : SS (and6M a b).strs := (mrg_SS _ _ ha.ss hb.ss).filter _
  have hl : (and6M a b).strs.length ≤ 900 := Nat.le_trans (List.length_filter_le _ _) (Nat.le_trans (mrg_len _ _) (by omega))
  have hok : OK (and6M a b) := ⟨intI_nf ha.nf hb.nf, fun r hr => by
      obtain ⟨x, hx, hq⟩ := List.mem_flatMap.1 hr
      obtain ⟨y, hy, hq⟩ := List.mem_filterMap.1 hq
      have h := interR_some hq
      have h1 := ha.inb x hx
      have h2 := hb.inb y hy
      obtain ⟨⟨a1, a2⟩, a3, a4⟩ := h1
      exact ⟨⟨by omega, by omega⟩, by omega, by omega⟩, hss, fun t ht => by
      have := (List.mem_filter.1 ht).1
      rcases (mem_mrg _ _ _).1 this with h | h
      · exact ha.sz t h
      · exact hb.sz t h⟩
  have l2 := andM_strs a b
  refine OK.ext hok o1 (by omega) (by omega) ?_ (fun n _ => ?_) (fun t _ => ?_)
  · rw [o4]; rfl
  · rw [o2]; exact intI_cov n
  · rw [o3]; exact hst t
end Go.Proofs

