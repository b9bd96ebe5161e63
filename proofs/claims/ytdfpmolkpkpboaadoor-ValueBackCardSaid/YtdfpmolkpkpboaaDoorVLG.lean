/- A part of the proof; what is proved stands in the last text. -/
import Derived.Test.YtdfpmolkpkpboaaDoorT317
set_option linter.unusedVariables false
set_option maxRecDepth 2000
namespace Go.Proofs
open Go.Vm
set_option linter.unusedSimpArgs false
theorem dig_rng {k : Nat} (h : k < 16) : 32 ≤ (digB k).toNat ∧ (digB k).toNat ≤ 126 ∧ digB k ≠ 39 := by
 have : ∀ k : Fin 16, 32 ≤ (digB k.1).toNat ∧ (digB k.1).toNat ≤ 126 ∧ digB k.1 ≠ 39 := by decide
 exact this ⟨k, h⟩
theorem esc_rng {c x : UInt8} (h : x ∈ escB c) : 32 ≤ x.toNat ∧ x.toNat ≤ 126 ∧ x ≠ 39 := by
 have hlt := c.toNat_lt
 cases hp : plainB c with
 | true =>
  rw [esc_plain hp] at h
  obtain rfl := List.mem_singleton.1 h
  have hn := (plain_ne hp).1
  unfold plainB at hp
  simp at hp
  exact ⟨hp.1, hp.2.1, hn⟩
 | false =>
  rw [esc_not hp] at h
  simp only [List.mem_cons, List.not_mem_nil, or_false] at h
  rcases h with rfl | rfl | rfl
  ·decide
  ·exact dig_rng (by omega)
  ·exact dig_rng (by omega)
theorem quote_at {l : List UInt8} {i : Nat} {c : UInt8} (h : (quoteL l)[i]? = some c) : 32 ≤ c.toNat ∧ c.toNat ≤ 126 ∧ (c = 39 ↔ (i = 0 ∨ i = (quoteL l).length - 1)) := by
 have hl : (quoteL l).length = (l.flatMap escB).length + 2 := by simp [quoteL]
 unfold quoteL at h
 cases i with
 | zero => simp at h; subst h; exact ⟨by decide, by decide, by simp⟩
 | succ i =>
  rw [List.getElem?_cons_succ] at h
  by_cases hi : i < (l.flatMap escB).length
  ·rw [List.getElem?_append_left hi] at h
   have hm : c ∈ l.flatMap escB := List.mem_of_getElem? h
   obtain ⟨x, _, hx⟩ := List.mem_flatMap.1 hm
   have := esc_rng hx
   exact ⟨this.1, this.2.1, ⟨fun e => absurd e this.2.2, fun e => by omega⟩⟩
  ·rw [List.getElem?_append_right (by omega)] at h
   have hlt := (List.getElem?_eq_some_iff.1 h).1
   rw [List.length_singleton] at hlt
   have hi' : i - (l.flatMap escB).length = 0 := by omega
   rw [hi'] at h
   simp at h; subst h
   exact ⟨by decide, by decide, ⟨fun _ => .inr (by omega), fun _ => rfl⟩⟩
theorem quote_inj {l m : List UInt8} (h : quoteL l = quoteL m) : l = m := by
 have h1 := (quoted_form l []).1
 have h2 := (quoted_form m []).1
 rw [h] at h1
 have := h1.symm.trans h2
 exact congrArg Prod.fst this
theorem flat_ge (l : List UInt8) : l.length ≤ (l.flatMap escB).length := by
 induction l with
 | nil => simp
 | cons c l ih =>
  have : 1 ≤ (escB c).length := by unfold escB; split <;> simp
  rw [List.flatMap_cons, List.length_append, List.length_cons]; omega
theorem quote_len (l : List UInt8) : l.length + 2 ≤ (quoteL l).length ∧ (quoteL l).length ≤ 3 * l.length + 2 := by
 have h1 := flat_ge l
 have h2 := flat_len (f := escB) (k := 3) l (fun x _ => escB_len x)
 have hl : (quoteL l).length = (l.flatMap escB).length + 2 := by simp [quoteL]
 omega
theorem tl_lb (l : List UInt8) : (lb l).toList = l := by rw [ByteArray.toList_eq]; exact bl_lb l
set_option maxHeartbeats 4000000 in
theorem kValueQuotes (a b : ByteArray) : PureAt Tryd.prog 6 [.val (.string a), .val (.string b)] (· = .val (.bool true)) := by
 refine pure_of r6 (by kernel_rfl) ?_
 unfold m6
 have da : decide ((a.size : Int) > 200) = decide (200 < a.size) := by rw [decide_eq_decide]; omega
 have db : decide ((b.size : Int) > 200) = decide (200 < b.size) := by rw [decide_eq_decide]; omega
 simp only [go_sem, Nat.reduceEqDiff, Nat.reduceAdd, Nat.reduceLeDiff, List.length_map, Int.reduceLT, Int.reduceLE, Int.reduceToNat, Int.toNat_zero, Int.le_refl, Int.reduceAdd, decide_true, decide_false, Nat.reduceMul, Nat.reduceLT, Nat.lt_irrefl, true_and, and_self, ↓reduceIte]
 refine callP_eq rfl rfl kawake01 ?_
 simp only [Bool.not_true, da, go_sem, Nat.reduceEqDiff, Nat.reduceAdd, Nat.reduceLeDiff, List.length_map, Int.reduceLT, Int.reduceLE, Int.reduceToNat, Int.toNat_zero, Int.le_refl, Int.reduceAdd, decide_true, decide_false, Nat.reduceMul, Nat.reduceLT, Nat.lt_irrefl, true_and, and_self, ↓reduceIte]
 cases h1 : decide (200 < a.size) with
 | true =>
  simp only [go_sem, Nat.reduceEqDiff, Nat.reduceAdd, Nat.reduceLeDiff, List.length_map, Int.reduceLT, Int.reduceLE, Int.reduceToNat, Int.toNat_zero, Int.le_refl, Int.reduceAdd, decide_true, decide_false, Nat.reduceMul, Nat.reduceLT, Nat.lt_irrefl, true_and, and_self, ↓reduceIte]
  refine callP_eq rfl rfl kawake01 ?_
  simp only [go_sem, Nat.reduceEqDiff, Nat.reduceAdd, Nat.reduceLeDiff, List.length_map, Int.reduceLT, Int.reduceLE, Int.reduceToNat, Int.toNat_zero, Int.le_refl, Int.reduceAdd, decide_true, decide_false, Nat.reduceMul, Nat.reduceLT, Nat.lt_irrefl, true_and, and_self, ↓reduceIte]
 | false =>
  simp only [db, go_sem, Nat.reduceEqDiff, Nat.reduceAdd, Nat.reduceLeDiff, List.length_map, Int.reduceLT, Int.reduceLE, Int.reduceToNat, Int.toNat_zero, Int.le_refl, Int.reduceAdd, decide_true, decide_false, Nat.reduceMul, Nat.reduceLT, Nat.lt_irrefl, true_and, and_self, ↓reduceIte]
  cases h2 : decide (200 < b.size) with
  | true =>
   simp only [go_sem, Nat.reduceEqDiff, Nat.reduceAdd, Nat.reduceLeDiff, List.length_map, Int.reduceLT, Int.reduceLE, Int.reduceToNat, Int.toNat_zero, Int.le_refl, Int.reduceAdd, decide_true, decide_false, Nat.reduceMul, Nat.reduceLT, Nat.lt_irrefl, true_and, and_self, ↓reduceIte]
   refine callP_eq rfl rfl kawake01 ?_
   simp only [go_sem, Nat.reduceEqDiff, Nat.reduceAdd, Nat.reduceLeDiff, List.length_map, Int.reduceLT, Int.reduceLE, Int.reduceToNat, Int.toNat_zero, Int.le_refl, Int.reduceAdd, decide_true, decide_false, Nat.reduceMul, Nat.reduceLT, Nat.lt_irrefl, true_and, and_self, ↓reduceIte]
  | false =>
   have h1' := of_decide_eq_false h1
   have h2' := of_decide_eq_false h2
   simp only [go_sem, Nat.reduceEqDiff, Nat.reduceAdd, Nat.reduceLeDiff, List.length_map, Int.reduceLT, Int.reduceLE, Int.reduceToNat, Int.toNat_zero, Int.le_refl, Int.reduceAdd, decide_true, decide_false, Nat.reduceMul, Nat.reduceLT, Nat.lt_irrefl, true_and, and_self, ↓reduceIte]
   refine callP_eq rfl rfl (kQuote a (by omega)) ?_
   simp only [go_sem, Nat.reduceEqDiff, Nat.reduceAdd, Nat.reduceLeDiff, List.length_map, Int.reduceLT, Int.reduceLE, Int.reduceToNat, Int.toNat_zero, Int.le_refl, Int.reduceAdd, decide_true, decide_false, Nat.reduceMul, Nat.reduceLT, Nat.lt_irrefl, true_and, and_self, ↓reduceIte]
   refine callP_eq rfl rfl (kQuote b (by omega)) ?_
   have hqa := quote_len (bl a)
   rw [size_bl] at hqa
   have heq : ((quoteL (bl a) == quoteL (bl b)) == (a.toList == b.toList)) = true := by
    rw [beq_iff_eq, Bool.eq_iff_iff, beq_iff_eq, beq_iff_eq, ByteArray.toList_eq, ByteArray.toList_eq]
    exact ⟨quote_inj, fun h => by rw [show bl a = bl b from h]⟩
   have hat : ∀ i c, (quoteL (bl a))[i]? = some c → _ := fun i c h => quote_at h
   have hdat : ∀ i : Nat, (lb (quoteL (bl a))).data[i]? = (quoteL (bl a))[i]? := fun i => List.getElem?_toArray
   generalize quoteL (bl a) = q at *
   generalize quoteL (bl b) = r at *
   have hsz := size_lb q
   generalize hL : q.length = L at *
   simp only [hsz, go_sem, Nat.reduceEqDiff, Nat.reduceAdd, Nat.reduceLeDiff, List.length_map, Int.reduceLT, Int.reduceLE, Int.reduceToNat, Int.toNat_zero, Int.le_refl, Int.reduceAdd, decide_true, decide_false, Nat.reduceMul, Nat.reduceLT, Nat.lt_irrefl, true_and, and_self, ↓reduceIte]
   refine loop_N L (fun _ => True) (fun i => ⟨[(0, .val (.string a)), (1, .val (.string b)), (5, .val (.string (lb q))), (6, .val (.string (lb r))), (26, .val (.int .i64 L)), (27, .val (.int .i64 i))], [], []⟩) trivial (by simp only [go_sem, Nat.reduceEqDiff, Nat.reduceAdd, Nat.reduceLeDiff, List.length_map, Int.reduceLT, Int.reduceLE, Int.reduceToNat, Int.toNat_zero, Int.le_refl, Int.reduceAdd, decide_true, decide_false, Nat.reduceMul, Nat.reduceLT, Nat.lt_irrefl, true_and, and_self, ↓reduceIte]; rfl) ?_
   rintro i hil -
   have di : decide ((i : Int) < (L : Int)) = decide (i < L) := by rw [decide_eq_decide]; omega
   simp only [di, go_sem, Nat.reduceEqDiff, Nat.reduceAdd, Nat.reduceLeDiff, List.length_map, Int.reduceLT, Int.reduceLE, Int.reduceToNat, Int.toNat_zero, Int.le_refl, Int.reduceAdd, decide_true, decide_false, Nat.reduceMul, Nat.reduceLT, Nat.lt_irrefl, true_and, and_self, ↓reduceIte]
   cases hi : decide (i < L) with
   | true =>
    have hi' := of_decide_eq_true hi
    obtain ⟨c, hc⟩ : ∃ c, q[i]? = some c := ⟨_, List.getElem?_eq_getElem (by omega)⟩
    obtain ⟨c1, c2, c3⟩ := hat i c hc
    have hcd := (hdat i).trans hc
    have e1 : decide ((c.toNat : Int) < 32) = false := by simp; omega
    have e2 : decide ((c.toNat : Int) > 126) = false := by simp; omega
    have e3 : ((c.toNat : Int) == 39) = decide (i = 0 ∨ i = L - 1) := by rw [show ((c.toNat : Int) == 39) = decide (c = 39) from dg_eq c 39, decide_eq_decide]; exact c3
    have e4 : ((i : Int) == 0) = decide (i = 0) := by rw [Bool.eq_iff_iff, beq_iff_eq, decide_eq_true_eq]; omega
    have e5 : IntKind.i64.wrap ((L : Int) - 1) = ((L - 1 : Nat) : Int) := by rw [wrap64 (by omega) (by omega)]; omega
    have e6 : ((i : Int) == ((L - 1 : Nat) : Int)) = decide (i = L - 1) := by rw [Bool.eq_iff_iff, beq_iff_eq, decide_eq_true_eq]; omega
    simp only [nn0, Int.toNat_natCast, hcd, e1, e2, e3, e4, go_sem, Nat.reduceEqDiff, Nat.reduceAdd, Nat.reduceLeDiff, List.length_map, Int.reduceLT, Int.reduceLE, Int.reduceToNat, Int.toNat_zero, Int.le_refl, Int.reduceAdd, decide_true, decide_false, Nat.reduceMul, Nat.reduceLT, Nat.lt_irrefl, true_and, and_self, ↓reduceIte]
    by_cases hz : i = 0
    ·have hz1 : decide (i = 0) = true := by simp [hz]
     have hz2 : decide (i = 0 ∨ i = L - 1) = true := by simp [hz]
     simp only [hz1, hz2, bne_self_eq_false, beq_self_eq_true, Bool.not_true, up64 (show i < 1000000 by omega), go_sem, Nat.reduceEqDiff, Nat.reduceAdd, Nat.reduceLeDiff, List.length_map, Int.reduceLT, Int.reduceLE, Int.reduceToNat, Int.toNat_zero, Int.le_refl, Int.reduceAdd, decide_true, decide_false, Nat.reduceMul, Nat.reduceLT, Nat.lt_irrefl, true_and, and_self, ↓reduceIte]
     refine invN_next hi' trivial ?_
     simp only [go_sem, Nat.reduceEqDiff, Nat.reduceAdd, Nat.reduceLeDiff, List.length_map, Int.reduceLT, Int.reduceLE, Int.reduceToNat, Int.toNat_zero, Int.le_refl, Int.reduceAdd, decide_true, decide_false, Nat.reduceMul, Nat.reduceLT, Nat.lt_irrefl, true_and, and_self, ↓reduceIte]
    ·have hz1 : decide (i = 0) = false := by simp [hz]
     have hz2 : decide (i = 0 ∨ i = L - 1) = decide (i = L - 1) := by simp [hz]
     simp only [hz1, hz2, hsz, e5, e6, bne_self_eq_false, beq_self_eq_true, Bool.not_true, up64 (show i < 1000000 by omega), go_sem, Nat.reduceEqDiff, Nat.reduceAdd, Nat.reduceLeDiff, List.length_map, Int.reduceLT, Int.reduceLE, Int.reduceToNat, Int.toNat_zero, Int.le_refl, Int.reduceAdd, decide_true, decide_false, Nat.reduceMul, Nat.reduceLT, Nat.lt_irrefl, true_and, and_self, ↓reduceIte]
     refine invN_next hi' trivial ?_
     simp only [go_sem, Nat.reduceEqDiff, Nat.reduceAdd, Nat.reduceLeDiff, List.length_map, Int.reduceLT, Int.reduceLE, Int.reduceToNat, Int.toNat_zero, Int.le_refl, Int.reduceAdd, decide_true, decide_false, Nat.reduceMul, Nat.reduceLT, Nat.lt_irrefl, true_and, and_self, ↓reduceIte]
   | false =>
    have w1 : IntKind.i64.wrap ((a.size : Int) + 2) = (a.size : Int) + 2 := wrap64 (by omega) (by omega)
    have w2 : IntKind.i64.wrap (3 * (a.size : Int)) = 3 * (a.size : Int) := wrap64 (by omega) (by omega)
    have w3 : IntKind.i64.wrap (3 * (a.size : Int) + 2) = 3 * (a.size : Int) + 2 := wrap64 (by omega) (by omega)
    have g1 : decide ((L : Int) ≥ (a.size : Int) + 2) = true := by simp; omega
    have g2 : decide ((L : Int) ≤ 3 * (a.size : Int) + 2) = true := by simp; omega
    simp only [tl_lb, heq, hsz, w1, w2, w3, g1, g2, go_sem, Nat.reduceEqDiff, Nat.reduceAdd, Nat.reduceLeDiff, List.length_map, Int.reduceLT, Int.reduceLE, Int.reduceToNat, Int.toNat_zero, Int.le_refl, Int.reduceAdd, decide_true, decide_false, Nat.reduceMul, Nat.reduceLT, Nat.lt_irrefl, true_and, and_self, ↓reduceIte]
end Go.Proofs

namespace Go.Proofs
open Go.Vm
set_option linter.unusedSimpArgs false
theorem dec_dg : ∀ n : Nat, ∀ c ∈ Lib.decDigits n, dg c = true := by
 intro n
 induction n using Nat.strongRecOn with
 | ind n ih =>
  have h8 : ∀ k, k < 10 → dg (UInt8.ofNat (48 + k)) = true := fun k hk => by
   rw [dg_iff, UInt8.toNat_ofNat']; omega
  intro c hc
  by_cases h : n < 10
  ·rw [dec_lt h] at hc
   obtain rfl := List.mem_singleton.1 hc
   exact h8 n h
  ·rw [dec_ge h] at hc
   rcases List.mem_append.1 hc with hc | hc
   ·exact ih _ (by omega) c hc
   ·obtain rfl := List.mem_singleton.1 hc
    exact h8 _ (by omega)
theorem dec_val (n : Nat) : valN (Lib.decDigits n) = n := by
 induction n using Nat.strongRecOn with
 | ind n ih =>
  have h8 : ∀ k, k < 10 → (UInt8.ofNat (48 + k)).toNat - 48 = k := fun k hk => by
   rw [UInt8.toNat_ofNat']; omega
  by_cases h : n < 10
  ·rw [dec_lt h]
   have := h8 n h
   simp only [valN, List.foldl_cons, List.foldl_nil]; omega
  ·rw [dec_ge h, valN_snoc, ih (n / 10) (by omega), h8 (n % 10) (by omega)]
   omega
theorem dec_ne (n : Nat) : Lib.decDigits n ≠ [] := by
 by_cases h : n < 10
 ·rw [dec_lt h]; simp
 ·rw [dec_ge h]; simp
theorem dec_head (n : Nat) (h : (Lib.decDigits n).head? = some 48) : n = 0 := by
 induction n using Nat.strongRecOn with
 | ind n ih =>
  by_cases h1 : n < 10
  ·rw [dec_lt h1] at h
   have := congrArg UInt8.toNat (Option.some.inj h)
   rw [UInt8.toNat_ofNat'] at this
   have e : UInt8.toNat 48 = 48 := rfl
   omega
  ·rw [dec_ge h1] at h
   cases hd : Lib.decDigits (n / 10) with
   | nil => exact absurd hd (dec_ne _)
   | cons x r =>
    rw [hd] at h
    have := ih (n / 10) (by omega) (by rw [hd]; exact h)
    omega
theorem tw_app {l more : List UInt8} (hl : ∀ c ∈ l, dg c = true) (hm : ∀ c, more.head? = some c → dg c = false) : (l ++ more).takeWhile dg = l := by
 induction l with
 | nil =>
  cases more with
  | nil => rfl
  | cons c r => rw [List.nil_append, List.takeWhile_cons, hm c rfl]; rfl
 | cons c l ih =>
  rw [List.cons_append, List.takeWhile_cons, hl c (by simp)]
  simp [ih (fun x hx => hl x (by simp [hx]))]
theorem dg_ne {c : UInt8} (h : dg c = true) : c ≠ 39 ∧ c ≠ 45 := by
 constructor <;> (rintro rfl; revert h; decide)
theorem read_num {n : Nat} {more : List UInt8} (h : n ≤ 9223372036854775807) (hm : ∀ c, more.head? = some c → dg c = false) :
    read1 (Lib.decDigits n ++ more) = (⟨1, n, lb []⟩, (Lib.decDigits n).length, true) := by
 have hd := dec_dg n
 have hne := dec_ne n
 have hh := dec_head n
 have hv := dec_val n
 have hl1 : n = 0 → (Lib.decDigits n).length = 1 := fun e => by rw [e, dec_lt (by omega)]; rfl
 generalize Lib.decDigits n = l at *
 have htw := tw_app hd hm
 have hap := atoi_pos hne hd
 match l, hne with
 | c :: r, _ =>
  have hc := dg_ne (hd c (by simp))
  have h39 : ((c :: r ++ more).head? == some 39) = false := by simp [hc.1]
  have hs : sgn (c :: r ++ more) = 0 := by unfold sgn; simp [hc.2]
  have hn : numN (c :: r ++ more) = (c :: r).length := by rw [numN, hs, List.drop_zero, htw]
  have htk := take_sgn (c :: r ++ more)
  rw [hs, List.drop_zero, htw] at htk
  unfold read1
  rw [h39, hs, hn, if_neg (by simp), if_neg (by simp), if_neg (fun hx => by
   have h0 := hh (by simpa using hx.1)
   have := hl1 h0
   omega)]
  rw [hn] at htk
  rw [htk]
  simp only [Nat.zero_ne_one, if_false, List.nil_append]
  rw [hap, hv, if_pos h]
  simp
theorem read_neg {n : Nat} {more : List UInt8} (h0 : 0 < n) (h : n ≤ 9223372036854775808) (hm : ∀ c, more.head? = some c → dg c = false) :
    read1 (45 :: Lib.decDigits n ++ more) = (⟨1, -(n : Int), lb []⟩, (Lib.decDigits n).length + 1, true) := by
 have hd := dec_dg n
 have hne := dec_ne n
 have hh := dec_head n
 have hv := dec_val n
 generalize Lib.decDigits n = l at *
 have htw := tw_app hd hm
 have hap := atoi_neg hne hd
 have h39 : ((45 :: l ++ more).head? == some (39 : UInt8)) = false := by simp
 have hs : sgn (45 :: l ++ more) = 1 := by unfold sgn; simp
 have hdr : (45 :: l ++ more).drop 1 = l ++ more := rfl
 have hn : numN (45 :: l ++ more) = l.length := by rw [numN, hs, hdr, htw]
 have htk := take_sgn (45 :: l ++ more)
 rw [hs, hdr, htw, hn] at htk
 have hlen : l.length ≠ 0 := fun e => hne (List.length_eq_zero_iff.1 e)
 unfold read1
 rw [h39, hs, hn, hdr, if_neg (by simp), if_neg hlen, if_neg (fun hx => by
  have : l.head? = some 48 := by
   cases l with
   | nil => exact absurd rfl hne
   | cons x r => simpa using hx.1
  have := hh this
  omega), htk]
 simp only [if_true, List.singleton_append]
 rw [hap, hv, if_pos h, Nat.add_comm]
theorem read_back {v : ValM} (hr : rightV v = true) (hv : ValIn v) {more : List UInt8} (hm : ∀ c, more.head? = some c → dg c = false) :
    (read1 (textV v ++ more)).1.kind = v.kind ∧ (read1 (textV v ++ more)).1.n = v.n ∧ (read1 (textV v ++ more)).1.s.toList = v.s.toList ∧ (read1 (textV v ++ more)).2 = ((textV v).length, true) := by
 have tl0 : (lb []).toList = [] := tl_lb []
 rcases right_kind hr with h | h | h
 ·have h1 := right_0 hr h
  have ht : textV v = [45] := by rw [textV, if_pos hr, if_pos h]
  have hs : sgn ([45] ++ more) = 1 := by unfold sgn; simp
  have hn : numN ([45] ++ more) = 0 := by
   rw [numN, hs]
   have : ([45] ++ more).drop 1 = [] ++ more := rfl
   rw [this, tw_app (by simp) hm]; rfl
  have e : read1 ([45] ++ more) = (zeroV, 1, true) := by
   unfold read1
   rw [hs, hn, if_neg (by simp), if_pos rfl]; rfl
  rw [ht, e]
  exact ⟨h.symm, h1.1.symm, by rw [h1.2]; exact tl0, rfl⟩
 ·have h1 := right_1 hr h
  have ht : textV v = Lib.itoa v.n := by rw [textV, if_pos hr, if_neg (by omega), if_pos h]
  rw [ht, Lib.itoa]
  have n0 := hv.n0
  have n1 := hv.n1
  by_cases hn : v.n < 0
  ·rw [if_pos hn, read_neg (n := v.n.natAbs) (by omega) (by omega) hm]
   exact ⟨h.symm, by show -((v.n.natAbs : Nat) : Int) = v.n; omega, by rw [h1]; exact tl0, by simp⟩
  ·rw [if_neg hn, read_num (n := v.n.toNat) (by omega) hm]
   exact ⟨h.symm, by show ((v.n.toNat : Nat) : Int) = v.n; omega, by rw [h1]; exact tl0, rfl⟩
 ·have h1 := right_2 hr h
  have h8 := right_size hr h
  have ht : textV v = quoteL (bl v.s) := by rw [textV, if_pos hr, if_neg (by omega), if_neg (by omega)]
  obtain ⟨f1, _⟩ := quoted_form (bl v.s) more
  have hl8 : (bl v.s).length ≤ 8 := by rw [size_bl]; exact h8
  have e : read1 (quoteL (bl v.s) ++ more) = (⟨2, 0, lb (bl v.s)⟩, (quoteL (bl v.s)).length, true) := by
   unfold read1
   rw [if_pos (by simp [quoteL]), f1]
   simp [hl8]
  rw [ht, e]
  exact ⟨h.symm, h1.symm, by rw [lb_bl], rfl⟩
end Go.Proofs

namespace Go.Proofs
open Go.Vm
set_option linter.unusedSimpArgs false
theorem app_lb (l : List UInt8) (s : ByteArray) : lb l ++ s = lb (l ++ bl s) := by rw [← app_lb2, lb_bl]
theorem textV_len {v : ValM} (hr : rightV v = true) (hv : ValIn v) : (textV v).length ≤ 100 := by
 rcases right_kind hr with h | h | h
 ·rw [textV, if_pos hr, if_pos h]; simp
 ·rw [textV, if_pos hr, if_neg (by omega), if_pos h, Lib.itoa]
  have n0 := hv.n0
  have n1 := hv.n1
  split
  ·have := dec_len v.n.natAbs 20 (by omega) (by omega)
   rw [List.length_cons]; omega
  ·have := dec_len v.n.toNat 20 (by omega) (by omega)
   omega
 ·rw [textV, if_pos hr, if_neg (by omega), if_neg (by omega)]
  have := (quote_len (bl v.s)).2
  have h8 := right_size hr h
  rw [size_bl] at this
  omega
set_option maxHeartbeats 4000000 in
theorem kValueBack (v : ValM) (m : ByteArray) (hv : ValIn v) : PureAt Tryd.prog 7 [.agg (valC v), .val (.string m)] (· = .val (.bool true)) := by
 have p0 := kvalRight v
 refine pure_of r7 (by kernel_rfl) ?_
 unfold m7
 unfold valC at *
 have d200 : decide ((m.size : Int) > 200) = decide (200 < m.size) := by rw [decide_eq_decide]; omega
 have d0 : decide ((m.size : Int) > 0) = decide (0 < m.size) := by rw [decide_eq_decide]; omega
 simp only [go_sem, Nat.reduceEqDiff, Nat.reduceAdd, Nat.reduceLeDiff, List.length_map, Int.reduceLT, Int.reduceLE, Int.reduceToNat, Int.toNat_zero, Int.le_refl, Int.reduceAdd, decide_true, decide_false, Nat.reduceMul, Nat.reduceLT, Nat.lt_irrefl, true_and, and_self, ↓reduceIte]
 refine callP_eq rfl rfl kawake01 ?_
 simp only [Bool.not_true, go_sem, Nat.reduceEqDiff, Nat.reduceAdd, Nat.reduceLeDiff, List.length_map, Int.reduceLT, Int.reduceLE, Int.reduceToNat, Int.toNat_zero, Int.le_refl, Int.reduceAdd, decide_true, decide_false, Nat.reduceMul, Nat.reduceLT, Nat.lt_irrefl, true_and, and_self, ↓reduceIte]
 refine callP_eq rfl rfl p0 ?_
 cases hr : rightV v with
 | false =>
  simp only [Bool.not_false, go_sem, Nat.reduceEqDiff, Nat.reduceAdd, Nat.reduceLeDiff, List.length_map, Int.reduceLT, Int.reduceLE, Int.reduceToNat, Int.toNat_zero, Int.le_refl, Int.reduceAdd, decide_true, decide_false, Nat.reduceMul, Nat.reduceLT, Nat.lt_irrefl, true_and, and_self, ↓reduceIte]
  refine callP_eq rfl rfl kawake01 ?_
  simp only [go_sem, Nat.reduceEqDiff, Nat.reduceAdd, Nat.reduceLeDiff, List.length_map, Int.reduceLT, Int.reduceLE, Int.reduceToNat, Int.toNat_zero, Int.le_refl, Int.reduceAdd, decide_true, decide_false, Nat.reduceMul, Nat.reduceLT, Nat.lt_irrefl, true_and, and_self, ↓reduceIte]
 | true =>
  simp only [Bool.not_true, d200, go_sem, Nat.reduceEqDiff, Nat.reduceAdd, Nat.reduceLeDiff, List.length_map, Int.reduceLT, Int.reduceLE, Int.reduceToNat, Int.toNat_zero, Int.le_refl, Int.reduceAdd, decide_true, decide_false, Nat.reduceMul, Nat.reduceLT, Nat.lt_irrefl, true_and, and_self, ↓reduceIte]
  cases h2 : decide (200 < m.size) with
  | true =>
   simp only [go_sem, Nat.reduceEqDiff, Nat.reduceAdd, Nat.reduceLeDiff, List.length_map, Int.reduceLT, Int.reduceLE, Int.reduceToNat, Int.toNat_zero, Int.le_refl, Int.reduceAdd, decide_true, decide_false, Nat.reduceMul, Nat.reduceLT, Nat.lt_irrefl, true_and, and_self, ↓reduceIte]
   refine callP_eq rfl rfl kawake01 ?_
   simp only [go_sem, Nat.reduceEqDiff, Nat.reduceAdd, Nat.reduceLeDiff, List.length_map, Int.reduceLT, Int.reduceLE, Int.reduceToNat, Int.toNat_zero, Int.le_refl, Int.reduceAdd, decide_true, decide_false, Nat.reduceMul, Nat.reduceLT, Nat.lt_irrefl, true_and, and_self, ↓reduceIte]
  | false =>
   have h2' := of_decide_eq_false h2
   simp only [d0, go_sem, Nat.reduceEqDiff, Nat.reduceAdd, Nat.reduceLeDiff, List.length_map, Int.reduceLT, Int.reduceLE, Int.reduceToNat, Int.toNat_zero, Int.le_refl, Int.reduceAdd, decide_true, decide_false, Nat.reduceMul, Nat.reduceLT, Nat.lt_irrefl, true_and, and_self, ↓reduceIte]
   cases h3 : decide (0 < m.size) with
   | false =>
    have hdm : ∀ c, (bl m).head? = some c → dg c = false := fun c hc => by
     have : bl m = [] := List.length_eq_zero_iff.1 (by rw [size_bl]; have := of_decide_eq_false h3; omega)
     rw [this] at hc; cases hc
    simp only [go_sem, Nat.reduceEqDiff, Nat.reduceAdd, Nat.reduceLeDiff, List.length_map, Int.reduceLT, Int.reduceLE, Int.reduceToNat, Int.toNat_zero, Int.le_refl, Int.reduceAdd, decide_true, decide_false, Nat.reduceMul, Nat.reduceLT, Nat.lt_irrefl, true_and, and_self, ↓reduceIte]
    have hb := read_back hr hv (more := bl m) hdm
    have htl := textV_len hr hv
    have kt := kText v hv
    unfold valC at kt
    generalize textV v = t at *
    have hsz : ((lb t).size + m.size ≤ 9223372036854775807) = True := by rw [size_lb]; simp; omega
    have kr := kRead (lb (t ++ bl m)) (by rw [size_lb, List.length_append, size_bl]; omega)
    rw [bl_lb] at kr
    generalize read1 (t ++ bl m) = rr at *
    obtain ⟨⟨rk, rn, rs⟩, ro, rok⟩ := rr
    obtain ⟨b1, b2, b3, b4⟩ := hb
    injection b4 with b4 b5
    dsimp only at b1 b2 b3 b4 b5
    subst b1 b2 b4 b5
    refine callP_eq rfl rfl kt ?_
    simp only [hsz, if_true, app_lb, go_sem, Nat.reduceEqDiff, Nat.reduceAdd, Nat.reduceLeDiff, List.length_map, Int.reduceLT, Int.reduceLE, Int.reduceToNat, Int.toNat_zero, Int.le_refl, Int.reduceAdd, decide_true, decide_false, Nat.reduceMul, Nat.reduceLT, Nat.lt_irrefl, true_and, and_self, ↓reduceIte]
    refine callP_eq rfl rfl kr ?_
    simp only [triV, valC, b3, size_lb, beq_self_eq_true, Bool.and_self, go_sem, Nat.reduceEqDiff, Nat.reduceAdd, Nat.reduceLeDiff, List.length_map, Int.reduceLT, Int.reduceLE, Int.reduceToNat, Int.toNat_zero, Int.le_refl, Int.reduceAdd, decide_true, decide_false, Nat.reduceMul, Nat.reduceLT, Nat.lt_irrefl, true_and, and_self, ↓reduceIte]
   | true =>
    have hlen : 0 < (bl m).length := by rw [size_bl]; exact of_decide_eq_true h3
    obtain ⟨c, hc⟩ : ∃ c, (bl m)[0]? = some c := ⟨_, List.getElem?_eq_getElem hlen⟩
    have hg : m.data[0]? = some c := by
     have : m.data.toList[0]? = some c := hc
     rwa [Array.getElem?_toList] at this
    have hh : (bl m).head? = some c := by rw [List.head?_eq_getElem?]; exact hc
    have d48 : decide ((c.toNat : Int) ≥ 48) = decide (48 ≤ c.toNat) := by rw [decide_eq_decide]; omega
    have d57 : decide ((c.toNat : Int) ≤ 57) = decide (c.toNat ≤ 57) := by rw [decide_eq_decide]; omega
    simp only [hg, d48, go_sem, Nat.reduceEqDiff, Nat.reduceAdd, Nat.reduceLeDiff, List.length_map, Int.reduceLT, Int.reduceLE, Int.reduceToNat, Int.toNat_zero, Int.le_refl, Int.reduceAdd, decide_true, decide_false, Nat.reduceMul, Nat.reduceLT, Nat.lt_irrefl, true_and, and_self, ↓reduceIte]
    cases h48 : decide (48 ≤ c.toNat) with
    | false =>
     have hdm : ∀ c, (bl m).head? = some c → dg c = false := fun c' hc' => by rw [hh] at hc'; cases hc'; rw [dg, h48]; rfl
     simp only [go_sem, Nat.reduceEqDiff, Nat.reduceAdd, Nat.reduceLeDiff, List.length_map, Int.reduceLT, Int.reduceLE, Int.reduceToNat, Int.toNat_zero, Int.le_refl, Int.reduceAdd, decide_true, decide_false, Nat.reduceMul, Nat.reduceLT, Nat.lt_irrefl, true_and, and_self, ↓reduceIte]
     have hb := read_back hr hv (more := bl m) hdm
     have htl := textV_len hr hv
     have kt := kText v hv
     unfold valC at kt
     generalize textV v = t at *
     have hsz : ((lb t).size + m.size ≤ 9223372036854775807) = True := by rw [size_lb]; simp; omega
     have kr := kRead (lb (t ++ bl m)) (by rw [size_lb, List.length_append, size_bl]; omega)
     rw [bl_lb] at kr
     generalize read1 (t ++ bl m) = rr at *
     obtain ⟨⟨rk, rn, rs⟩, ro, rok⟩ := rr
     obtain ⟨b1, b2, b3, b4⟩ := hb
     injection b4 with b4 b5
     dsimp only at b1 b2 b3 b4 b5
     subst b1 b2 b4 b5
     refine callP_eq rfl rfl kt ?_
     simp only [hsz, if_true, app_lb, go_sem, Nat.reduceEqDiff, Nat.reduceAdd, Nat.reduceLeDiff, List.length_map, Int.reduceLT, Int.reduceLE, Int.reduceToNat, Int.toNat_zero, Int.le_refl, Int.reduceAdd, decide_true, decide_false, Nat.reduceMul, Nat.reduceLT, Nat.lt_irrefl, true_and, and_self, ↓reduceIte]
     refine callP_eq rfl rfl kr ?_
     simp only [triV, valC, b3, size_lb, beq_self_eq_true, Bool.and_self, go_sem, Nat.reduceEqDiff, Nat.reduceAdd, Nat.reduceLeDiff, List.length_map, Int.reduceLT, Int.reduceLE, Int.reduceToNat, Int.toNat_zero, Int.le_refl, Int.reduceAdd, decide_true, decide_false, Nat.reduceMul, Nat.reduceLT, Nat.lt_irrefl, true_and, and_self, ↓reduceIte]
    | true =>
     simp only [hg, d57, go_sem, Nat.reduceEqDiff, Nat.reduceAdd, Nat.reduceLeDiff, List.length_map, Int.reduceLT, Int.reduceLE, Int.reduceToNat, Int.toNat_zero, Int.le_refl, Int.reduceAdd, decide_true, decide_false, Nat.reduceMul, Nat.reduceLT, Nat.lt_irrefl, true_and, and_self, ↓reduceIte]
     cases h57 : decide (c.toNat ≤ 57) with
     | true =>
      simp only [go_sem, Nat.reduceEqDiff, Nat.reduceAdd, Nat.reduceLeDiff, List.length_map, Int.reduceLT, Int.reduceLE, Int.reduceToNat, Int.toNat_zero, Int.le_refl, Int.reduceAdd, decide_true, decide_false, Nat.reduceMul, Nat.reduceLT, Nat.lt_irrefl, true_and, and_self, ↓reduceIte]
      refine callP_eq rfl rfl kawake01 ?_
      simp only [go_sem, Nat.reduceEqDiff, Nat.reduceAdd, Nat.reduceLeDiff, List.length_map, Int.reduceLT, Int.reduceLE, Int.reduceToNat, Int.toNat_zero, Int.le_refl, Int.reduceAdd, decide_true, decide_false, Nat.reduceMul, Nat.reduceLT, Nat.lt_irrefl, true_and, and_self, ↓reduceIte]
     | false =>
      have hdm : ∀ c, (bl m).head? = some c → dg c = false := fun c' hc' => by rw [hh] at hc'; cases hc'; rw [dg, h48, h57]; rfl
      simp only [go_sem, Nat.reduceEqDiff, Nat.reduceAdd, Nat.reduceLeDiff, List.length_map, Int.reduceLT, Int.reduceLE, Int.reduceToNat, Int.toNat_zero, Int.le_refl, Int.reduceAdd, decide_true, decide_false, Nat.reduceMul, Nat.reduceLT, Nat.lt_irrefl, true_and, and_self, ↓reduceIte]
      have hb := read_back hr hv (more := bl m) hdm
      have htl := textV_len hr hv
      have kt := kText v hv
      unfold valC at kt
      generalize textV v = t at *
      have hsz : ((lb t).size + m.size ≤ 9223372036854775807) = True := by rw [size_lb]; simp; omega
      have kr := kRead (lb (t ++ bl m)) (by rw [size_lb, List.length_append, size_bl]; omega)
      rw [bl_lb] at kr
      generalize read1 (t ++ bl m) = rr at *
      obtain ⟨⟨rk, rn, rs⟩, ro, rok⟩ := rr
      obtain ⟨b1, b2, b3, b4⟩ := hb
      injection b4 with b4 b5
      dsimp only at b1 b2 b3 b4 b5
      subst b1 b2 b4 b5
      refine callP_eq rfl rfl kt ?_
      simp only [hsz, if_true, app_lb, go_sem, Nat.reduceEqDiff, Nat.reduceAdd, Nat.reduceLeDiff, List.length_map, Int.reduceLT, Int.reduceLE, Int.reduceToNat, Int.toNat_zero, Int.le_refl, Int.reduceAdd, decide_true, decide_false, Nat.reduceMul, Nat.reduceLT, Nat.lt_irrefl, true_and, and_self, ↓reduceIte]
      refine callP_eq rfl rfl kr ?_
      simp only [triV, valC, b3, size_lb, beq_self_eq_true, Bool.and_self, go_sem, Nat.reduceEqDiff, Nat.reduceAdd, Nat.reduceLeDiff, List.length_map, Int.reduceLT, Int.reduceLE, Int.reduceToNat, Int.toNat_zero, Int.le_refl, Int.reduceAdd, decide_true, decide_false, Nat.reduceMul, Nat.reduceLT, Nat.lt_irrefl, true_and, and_self, ↓reduceIte]
end Go.Proofs
