/- The value machine, 19: the check of a statement whose order is drawn. -/
import Derived.Test.YtncekmflajjmkaaVm18
namespace Go.Vm
open Go.RowKit
variable {P : Program} {w0 w w' : World} {W F0 : Reg} {V : Tag → Option Value} {N : Nat} {g g' : Gh} {S S' : St} {a : Act} {K : St → Prop} {ops : Array Oper}

/-- What an operation waits for, as the bits of a number. -/
def mask1 (acc : List Nat) : List Edge → Nat
  | [] => 0
  | e :: es => if Region.binds .any e then (2 ^ e.on ||| acc.getD e.on 0) ||| mask1 acc es else mask1 acc es

def masks : List Oper → List Nat → List Nat
  | [], acc => acc
  | o :: l, acc => masks l (acc ++ [mask1 acc o.after.toList])

theorem mask1_bit {acc : List Nat} {i : Nat} {o : Oper} (ho : ops[i]? = some o) (hacc : ∀ k m, acc[k]? = some m → ∀ j, m.testBit j = true → Bef ops k j) : ∀ (es : List Edge), (∀ e ∈ es, e ∈ o.after) → ∀ j, (mask1 acc es).testBit j = true → Bef ops i j
  | [], _, j, h => by simp [mask1] at h
  | e :: es, he, j, h => by
    simp only [mask1] at h
    split at h
    · rename_i hb
      rw [Nat.testBit_or, Nat.testBit_or, Bool.or_eq_true, Bool.or_eq_true] at h
      rcases h with (h | h) | h
      · rw [Nat.testBit_two_pow] at h
        have : e.on = j := by simpa using h
        subst this
        exact .one i o e ho (he e (by simp)) hb
      · rw [List.getD_eq_getElem?_getD] at h
        cases hk : acc[e.on]? with
        | none => rw [hk] at h; simp at h
        | some m =>
          rw [hk] at h
          exact .trans i j o e ho (he e (by simp)) hb (hacc _ _ hk j (by simpa using h))
      · exact mask1_bit ho hacc es (fun x hx => he x (by simp [hx])) j h
    · exact mask1_bit ho hacc es (fun x hx => he x (by simp [hx])) j h

theorem masks_bit : ∀ (l : List Oper) (acc : List Nat), (∀ i o, l[i]? = some o → ops[acc.length + i]? = some o) → (∀ k m, acc[k]? = some m → ∀ j, m.testBit j = true → Bef ops k j) →
    ∀ k m, (masks l acc)[k]? = some m → ∀ j, m.testBit j = true → Bef ops k j
  | [], acc, _, h => h
  | o :: l, acc, hl, h => by
    refine masks_bit l _ (fun i o' ho' => ?_) (fun k m hm j hj => ?_)
    · have := hl (i + 1) o' (by simpa using ho')
      simp only [List.length_append, List.length_cons, List.length_nil]
      rw [show acc.length + (0 + 1) + i = acc.length + (i + 1) by omega]
      exact this
    · rw [List.getElem?_append] at hm
      split at hm
      · exact h k m hm j hj
      · rename_i hk
        have hk' : k - acc.length = 0 := by
          have := (List.getElem?_eq_some_iff.1 hm).1
          simp at this; omega
        rw [hk'] at hm
        simp only [List.getElem?_cons_zero, Option.some.injEq] at hm
        subst hm
        have : k = acc.length := by omega
        subst this
        exact mask1_bit (hl 0 o (by simp)) h _ (fun e he => by simpa using he) j hj

/-- All numbers below n. -/
def allB (p : Nat → Bool) : Nat → Bool
  | 0 => true
  | n + 1 => p n && allB p n
theorem allB_at {p : Nat → Bool} : ∀ {n : Nat}, allB p n = true → ∀ i, i < n → p i = true
  | 0, _, i, hi => by omega
  | n + 1, h, i, hi => by
    simp only [allB, Bool.and_eq_true] at h
    by_cases hn : i = n
    · subst hn; exact h.1
    · exact allB_at h.2 i (by omega)

def bitAt (mk : List Nat) (i j : Nat) : Bool := (mk.getD i 0).testBit j

def downB : List Oper → Nat → Bool
  | [], _ => true
  | o :: l, i => (o.after.toList.all fun e => !Region.binds .any e || decide (e.on < i)) && downB l (i + 1)

def drawB (ops : Array Oper) (ms : List MO) (q : Nat) : Bool :=
  let mk := masks ops.toList []
  let n := ops.size
  decide (q ≤ n) && downB ops.toList 0 &&
  allB (fun i => match ms[i]? with
    | some m => allB (fun k => match ms[k]? with
      | some o => match o.dst with
        | some t => (i == k || !(m.dst == some t)) && (!m.readT.contains t || ((!decide (k < i) || bitAt mk i k) && (!decide (i < k) || bitAt mk k i)))
        | none => true
      | none => true) q
    | none => true) q &&
  allB (fun j => decide (j < q) || allB (fun i => bitAt mk j i) j) n

theorem downB_at : ∀ {l : List Oper} {k : Nat}, downB l k = true → ∀ i o, l[i]? = some o → ∀ e ∈ o.after, Region.binds .any e = true → e.on < k + i
  | [], _, _, i, o, ho => by simp at ho
  | x :: l, k, h, i, o, ho => by
    simp only [downB, Bool.and_eq_true, List.all_eq_true] at h
    intro e he hb
    cases i with
    | zero =>
      simp at ho; subst ho
      have := h.1 e (by simpa using he)
      simpa [hb] using this
    | succ i =>
      have := downB_at h.2 i o (by simpa using ho) e he hb
      omega

theorem bitAt_bef {i j : Nat} (h : bitAt (masks ops.toList []) i j = true) : Bef ops i j := by
  unfold bitAt at h
  rw [List.getD_eq_getElem?_getD] at h
  cases hk : (masks ops.toList [])[i]? with
  | none => rw [hk] at h; simp at h
  | some m =>
    rw [hk] at h
    exact masks_bit ops.toList [] (fun i o ho => by simpa using ho) (fun k m hm => by simp at hm) i m hk j (by simpa using h)

theorem drawB_ok0 {ms : List MO} {q : Nat} (hc : compOps P ops ops.toList = some ms) (h : drawB ops ms q = true) : DrawOk ops ms q := by
  obtain ⟨hlen, -⟩ := compOps_get0 hc
  simp only [drawB, Bool.and_eq_true, decide_eq_true_eq] at h
  obtain ⟨⟨⟨h1, h2⟩, h3⟩, h4⟩ := h
  have pair : ∀ (i k : Nat) (m n : MO) (t : Nat), i < q → k < q → ms[i]? = some m → ms[k]? = some n → n.dst = some t →
      ((i == k || !(m.dst == some t)) = true ∧ (!m.readT.contains t || ((!decide (k < i) || bitAt (masks ops.toList []) i k) && (!decide (i < k) || bitAt (masks ops.toList []) k i))) = true) := by
    intro i k m n t hi hk hm hn ht
    have e1 := allB_at h3 i hi
    simp only [hm] at e1
    have e2 := allB_at e1 k hk
    simp only [hn, ht, Bool.and_eq_true] at e2
    exact e2
  refine ⟨by simpa using hlen, h1, fun i o e ho he hb => ?_, fun i k m n t hi hk hm hn hd hd' => ?_, fun i k m n t hi hk hm hn ht hd => ?_, fun i j hj hjn hij => ?_⟩
  · have := downB_at h2 i o (by simpa using ho) e he hb
    omega
  · have e := (pair i k m n t hi hk hm hn hd').1
    rw [hd] at e
    simpa using e
  · have e := (pair i k m n t hi hk hm hn hd).2
    have hc : m.readT.contains t = true := by simpa using ht
    rw [hc] at e
    simp only [Bool.not_true, Bool.false_or, Bool.and_eq_true, Bool.or_eq_true, Bool.not_eq_true', decide_eq_false_iff_not] at e
    refine ⟨fun hki => ?_, fun hik => ?_⟩
    · rcases e.1 with e1 | e1
      · exact absurd hki e1
      · exact bitAt_bef e1
    · rcases e.2 with e1 | e1
      · exact absurd hik e1
      · exact bitAt_bef e1
  · have e := allB_at h4 j hjn
    have : decide (j < q) = false := by simpa using hj
    rw [this, Bool.false_or] at e
    exact bitAt_bef (allB_at e i hij)

theorem readT_strip (m : MO) : m.strip.readT = m.readT := by
  obtain ⟨dst, op, guard⟩ := m
  cases op <;> rfl

theorem drawB_ok {ms : List MO} {q : Nat} (hc : compOps P ops ops.toList = some (ms.map MO.strip)) (h : drawB ops (ms.map MO.strip) q = true) : DrawOk ops ms q := by
  have hd := drawB_ok0 hc h
  have hget : ∀ {i : Nat} {m : MO}, ms[i]? = some m → (ms.map MO.strip)[i]? = some m.strip := fun hm => by simp [hm]
  refine ⟨by simpa using hd.len, hd.qle, hd.down, fun i k m n t hi hk hm hn h1 h2 => hd.uniq i k m.strip n.strip t hi hk (hget hm) (hget hn) h1 h2, fun i k m n t hi hk hm hn h1 h2 => hd.wait i k m.strip n.strip t hi hk (hget hm) (hget hn) (by rw [readT_strip]; exact h1) h2, hd.tail⟩

theorem SR.drew (h : SR w0 W F0 V N g S a w) (n : Nat) (hn : w.drawn ≤ n) : SR w0 W F0 V N g S a { w with drawn := n } := by
  have hl : Later g g w { w with drawn := n } (fun _ => true) (fun _ => true) := ⟨fun _ _ _ h => h, fun _ _ _ h => h, fun _ _ h => h, fun b k hF => rfl⟩
  have hc := h.core.later hl (fun _ _ _ => rfl) (fun _ _ _ => rfl) (fun b ob hb => hb) (fun b k hF => .inl hF) (fun b k hF => h.core.frz b k hF)
  rw [only_all] at hc
  exact h.later hc h.wr (Keep.drew (fun _ _ => False) w n hn) (fun _ _ _ h => h.elim) (fun _ _ h => h) (fun _ _ h => .inl h) (fun t ti _ h => ⟨ti, h, rfl⟩)

theorem draw_sound {id : Nat} {Q : Exit → Act → World → Prop} {ms : List MO} {q : Nat} (hm : P.follows .mixedOrders = true) (hc : compOps P ops ops.toList = some (ms.map MO.strip)) (hd : ms.all (dstOk N) = true) (hB : drawB ops (ms.map MO.strip) q = true)
    (hS : SR w0 W F0 V N g S a w) (hv : evDraw P q ms S K) (hQ : ∀ g' S' a' w', SR w0 W F0 V N g' S' a' w' → K S' → Q .normal a' w') : (Code.region id ops true).wp P Q a w := by
  have hok := drawB_ok hc hB
  obtain ⟨ds, h1, h2⟩ := draw_values q ms S (hok.len ▸ hok.qle) hv
  refine wp_region_any hm ?_
  have hf : ∀ j, (Array.replicate ops.size false).getD j false = false := fun j => by
    rw [Array.getD_eq_getD_getElem?]
    by_cases hj : j < ops.size
    · simp [hj]
    · simp [hj]
  refine draw_any hc hok hd h1 h2 hQ ops.size _ a _ (by simp) ?_ (fun i o e hi => ?_) (.inl ⟨fun j _ => hf j, g, ?_⟩)
  · rw [List.countP_eq_length.2 (fun k _ => by rw [hf]; rfl)]; simp
  · replace hi : (Array.replicate ops.size false).getD i false = true := hi
    rw [hf] at hi; cases hi
  · have : stE S (fun k => (ms[k]?).bind (·.dst)) ds (fun i => (Array.replicate ops.size false).getD i false) q = S := by
      rw [stE_congr (E' := fun _ => false) q (fun i _ => hf i)]
      have : ∀ n, stE S (fun k => (ms[k]?).bind (·.dst)) ds (fun _ => false) n = S := fun n => by
        induction n with
        | zero => rfl
        | succ n ih => simp [stE, ih]
      exact this q
    rw [this]
    exact hS.drew _ (Nat.le_succ _)

end Go.Vm
