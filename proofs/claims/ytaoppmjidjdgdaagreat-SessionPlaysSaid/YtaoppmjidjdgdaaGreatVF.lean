/- A part of the proof; what is proved stands in the last text. -/
import Derived.Test.YtaoppmjidjdgdaaGreatVE
set_option linter.unusedVariables false
set_option maxRecDepth 2000
namespace Go.Vm
open Go.RowKit
variable {P : Program} {w0 w w' : World} {W F0 : Reg} {V : Pins} {N : Nat} {g g' : Gh} {S S' : St} {a : Act} {tm : Array Value} {K : St → Prop} {ops : Array Oper}
def evDraw (P : Program) : Nat → List MO → St → (St → Prop) → Prop
 | 0, ms, S, K => evOps P ms S K
 | _ + 1, [], S, K => K S
 | q + 1, m :: ms, S, K => match want S m.guard with
  | some true => ∃ d, QV P m.op S d ∧ evDraw P q ms (S.put m.dst d) K
  | some false => evDraw P q ms (S.put m.dst (.val undef)) K
  | none => False
def MO.readT (m : MO) : List Nat := (m.op.reads.filterMap fun | .tmp t => some t | _ => none) ++ (match m.guard with | some (t, _) => [t] | none => [])
def stE (S : St) (dst : Nat → Option Nat) (ds : Nat → D) (E : Nat → Bool) : Nat → St
 | 0 => S
 | i + 1 => if E i then (stE S dst ds E i).put (dst i) (ds i) else stE S dst ds E i
section
variable {dst : Nat → Option Nat} {ds : Nat → D} {E E' : Nat → Bool}
theorem stE_hp : ∀ n, (stE S dst ds E n).hp = S.hp
 | 0 => rfl
 | n + 1 => by
  simp only [stE]
  split
  ·cases dst n <;> exact stE_hp n
  ·exact stE_hp n
theorem stE_tg : ∀ n, (stE S dst ds E n).tg = S.tg
 | 0 => rfl
 | n + 1 => by
  simp only [stE]
  split
  ·cases dst n <;> exact stE_tg n
  ·exact stE_tg n
theorem put_get' (S : St) (d : Option Nat) (t : Nat) (x : D) : (S.put d x).get t = if d = some t then some x else S.get t := by
 cases d with
 | none => simp [St.put]
 | some k =>
  rw [put_get]
  by_cases h : t = k
  ·subst h; simp
  ·rw [if_neg h, if_neg (by simp; exact fun e => h e.symm)]
theorem stE_none {t : Nat} : ∀ n, (∀ i, i < n → E i = true → dst i ≠ some t) → (stE S dst ds E n).get t = S.get t
 | 0, _ => rfl
 | n + 1, h => by
  simp only [stE]
  split
  ·rename_i he
   rw [put_get', if_neg (h n (by omega) he)]
   exact stE_none n (fun i hi => h i (by omega))
  ·exact stE_none n (fun i hi => h i (by omega))
theorem stE_some {t k : Nat} (hk : dst k = some t) (hE : E k = true) : ∀ n, k < n → (∀ i, i < n → dst i = some t → i = k) → (stE S dst ds E n).get t = some (ds k)
 | 0, h, _ => by omega
 | n + 1, h, hu => by
  simp only [stE]
  by_cases hn : n = k
  ·subst hn
   rw [if_pos hE, put_get', if_pos hk]
  ·have ih := stE_some hk hE n (by omega) (fun i hi => hu i (by omega))
   split
   ·rw [put_get', if_neg (fun e => hn (hu n (by omega) e))]; exact ih
   ·exact ih
theorem stE_congr : ∀ n, (∀ i, i < n → E i = E' i) → stE S dst ds E n = stE S dst ds E' n
 | 0, _ => rfl
 | n + 1, h => by simp only [stE, h n (by omega), stE_congr n (fun i hi => h i (by omega))]
end
theorem SR.alike (h : SR w0 W F0 V N g S a w) (hg : ∀ t, S'.get t = S.get t) (hp : S'.hp = S.hp) (ht : S'.tg = S.tg) : SR w0 W F0 V N g S' a w := by
 have hb : ∀ o, S'.box o = S.box o := fun o => by simp [St.box, hp]
 have htg : ∀ t, S'.tag t = S.tag t := fun t => by simp [St.tag, ht]
 have c := h.core
 refine ⟨⟨fun t d hd => c.env t d (hg t ▸ hd), fun o cs ho => c.box o cs (hb o ▸ ho), fun o cs b k i ho => c.boxF o cs b k i (hb o ▸ ho), fun o o' cs cs' b k k' h1 h2 => c.boxI o o' cs cs' b k k' (hb o ▸ h1) (hb o' ▸ h2),
  fun t x h1 => c.tag t x (htg t ▸ h1), fun t x ti o cs b k h1 h2 h3 => c.tagB t x ti o cs b k (htg t ▸ h1) h2 (hb o ▸ h3), fun t x ti t' x' ti' b h1 h2 h3 => c.tagI t x ti t' x' ti' b (htg t ▸ h1) h2 (htg t' ▸ h3), c.frz⟩,
  ⟨fun o cs b k i h1 => h.wr.box o cs b k i (hb o ▸ h1), fun t x ti b h1 => h.wr.tag t x ti b (htg t ▸ h1)⟩, h.keep, h.size, h.defers, h.fext, h.fnew, h.cap, h.pin⟩
inductive Bef (ops : Array Oper) : Nat → Nat → Prop
 | one (i : Nat) (o : Oper) (e : Edge) (ho : ops[i]? = some o) (he : e ∈ o.after) (hb : Region.binds .any e = true) : Bef ops i e.on
 | trans (i j : Nat) (o : Oper) (e : Edge) (ho : ops[i]? = some o) (he : e ∈ o.after) (hb : Region.binds .any e = true) (h : Bef ops e.on j) : Bef ops i j
def Closed (ops : Array Oper) (E : Nat → Bool) : Prop := ∀ i o e, E i = true → ops[i]? = some o → e ∈ o.after → Region.binds .any e = true → E e.on = true
theorem Bef.listed {E : Nat → Bool} (hc : Closed ops E) {i j : Nat} (h : Bef ops i j) : E i = true → E j = true := by
 induction h with
 | one i o e ho he hb => exact fun hi => hc i o e hi ho he hb
 | trans i j o e ho he hb h ih => exact fun hi => ih (hc i o e hi ho he hb)
theorem Bef.ready {E : Nat → Bool} (hc : Closed ops E) {i j : Nat} (h : Bef ops i j) (hi : ∀ o e, ops[i]? = some o → e ∈ o.after → Region.binds .any e = true → E e.on = true) : E j = true := by
 cases h with
 | one _ o e ho he hb => exact hi o e ho he hb
 | trans _ _ o e ho he hb h => exact h.listed hc (hi o e ho he hb)
structure DrawOk (ops : Array Oper) (ms : List MO) (q : Nat) : Prop where
 len : ms.length = ops.size
 qle : q ≤ ops.size
 down : ∀ i o e, ops[i]? = some o → e ∈ o.after → Region.binds .any e = true → e.on < i
 uniq : ∀ (i k : Nat) (m n : MO) (t : Nat), i < q → k < q → ms[i]? = some m → ms[k]? = some n → m.dst = some t → n.dst = some t → i = k
 wait : ∀ (i k : Nat) (m n : MO) (t : Nat), i < q → k < q → ms[i]? = some m → ms[k]? = some n → t ∈ m.readT → n.dst = some t → (k < i → Bef ops i k) ∧ (i < k → Bef ops k i)
 tail : ∀ i j, q ≤ j → j < ops.size → i < j → Bef ops j i
theorem mem_readT_op {m : MO} {t : Nat} (h : .tmp t ∈ m.op.reads) : t ∈ m.readT := by
 simp only [MO.readT, List.mem_append, List.mem_filterMap]
 exact .inl ⟨_, h, rfl⟩
theorem mem_readT_guard {m : MO} {t : Nat} {b : Bool} (h : m.guard = some (t, b)) : t ∈ m.readT := by
 simp [MO.readT, h]
theorem alike_of {m : MO} (h : ∀ t ∈ m.readT, S.get t = S'.get t) (hp : S.hp = S'.hp) (ht : S.tg = S'.tg) : Alike S S' m.op.reads ∧ want S m.guard = want S' m.guard := by
 refine ⟨⟨fun x hx => ?_, hp, ht⟩, ?_⟩
 ·cases x with
  | tmp t => exact h t (mem_readT_op hx)
  | const v => rfl
  | global g => rfl
  | func f => rfl
 ·cases hg : m.guard with
  | none => rfl
  | some x =>
   obtain ⟨t, b⟩ := x
   simp only [want]
   rw [h t (mem_readT_guard hg)]
theorem draw_values : ∀ (q : Nat) (ms : List MO) (S : St), q ≤ ms.length → evDraw P q ms S K → ∃ ds : Nat → D,
    (∀ (i : Nat) (m : MO), i < q → ms[i]? = some m → (want (stE S (fun k => (ms[k]?).bind (·.dst)) ds (fun _ => true) i) m.guard = some true ∧ QV P m.op (stE S (fun k => (ms[k]?).bind (·.dst)) ds (fun _ => true) i) (ds i)) ∨
     (want (stE S (fun k => (ms[k]?).bind (·.dst)) ds (fun _ => true) i) m.guard = some false ∧ ds i = .val undef)) ∧
    evOps P (ms.drop q) (stE S (fun k => (ms[k]?).bind (·.dst)) ds (fun _ => true) q) K
 | 0, ms, S, _, h => ⟨fun _ => .undef, fun i m hi => by omega, by simpa [evDraw, stE] using h⟩
 | q + 1, [], S, hq, _ => by simp at hq
 | q + 1, m :: ms, S, hq, h => by
  have shift : ∀ (d0 : D) (ds : Nat → D) (n : Nat), stE S (fun k => ((m :: ms)[k]?).bind (·.dst)) (fun k => match k with | 0 => d0 | k + 1 => ds k) (fun _ => true) (n + 1) = stE (S.put m.dst d0) (fun k => (ms[k]?).bind (·.dst)) ds (fun _ => true) n := by
   intro d0 ds n
   induction n with
   | zero => simp [stE]
   | succ n ih =>
    rw [stE, ih]
    simp only [if_true, stE]
    rfl
  simp only [evDraw] at h
  split at h
  ·rename_i hw
   obtain ⟨d, hd, h⟩ := h
   obtain ⟨ds, h1, h2⟩ := draw_values q ms _ (by simpa using hq) h
   refine ⟨fun k => match k with | 0 => d | k + 1 => ds k, fun i m' hi hm => ?_, ?_⟩
   ·cases i with
    | zero => simp at hm; subst hm; exact .inl ⟨hw, hd⟩
    | succ i => rw [shift]; exact h1 i m' (by omega) (by simpa using hm)
   ·rw [shift]; exact h2
  ·rename_i hw
   obtain ⟨ds, h1, h2⟩ := draw_values q ms _ (by simpa using hq) h
   refine ⟨fun k => match k with | 0 => .val undef | k + 1 => ds k, fun i m' hi hm => ?_, ?_⟩
   ·cases i with
    | zero => simp at hm; subst hm; exact .inr ⟨hw, rfl⟩
    | succ i => rw [shift]; exact h1 i m' (by omega) (by simpa using hm)
   ·rw [shift]; exact h2
  ·exact h.elim
theorem count_set (listed : Array Bool) (i : Nat) (hi : i < listed.size) (h : listed.getD i false = false) : ∀ (l : List Nat), l.Nodup → (i ∈ l → l.countP (fun k => !(listed.setIfInBounds i true).getD k false) + 1 = l.countP (fun k => !listed.getD k false)) ∧
    (i ∉ l → l.countP (fun k => !(listed.setIfInBounds i true).getD k false) = l.countP (fun k => !listed.getD k false)) := by
 have hget : ∀ k, (listed.setIfInBounds i true).getD k false = if k = i then true else listed.getD k false := fun k => by
  simp only [Array.getD_eq_getD_getElem?, Array.getElem?_setIfInBounds]
  by_cases hk : k = i
  ·subst hk; simp [hi]
  ·simp [hk, Ne.symm hk]
 intro l hl
 induction l with
 | nil => exact ⟨fun h => by simp at h, fun _ => rfl⟩
 | cons k l ih =>
  obtain ⟨hk, hl⟩ := List.nodup_cons.1 hl
  obtain ⟨ih1, ih2⟩ := ih hl
  refine ⟨fun hm => ?_, fun hm => ?_⟩
  ·rcases List.mem_cons.1 hm with rfl | hm
   ·rw [List.countP_cons, List.countP_cons, ih2 hk, hget, if_pos rfl, h]
    simp
   ·have hne : k ≠ i := fun e => hk (e ▸ hm)
    rw [List.countP_cons, List.countP_cons, ← ih1 hm, show (listed.setIfInBounds i true).getD k false = listed.getD k false by rw [hget, if_neg hne]]
    omega
  ·have hne : k ≠ i := fun e => hm (by simp [e])
   rw [List.countP_cons, List.countP_cons, ih2 (fun h => hm (List.mem_cons_of_mem _ h)), show (listed.setIfInBounds i true).getD k false = listed.getD k false by rw [hget, if_neg hne]]
theorem draw_any {Q : Exit → Act → World → Prop} {ms : List MO} {q : Nat} {ds : Nat → D} (hc : compOps P ops ops.toList = some (ms.map MO.strip)) (hok : DrawOk ops ms q) (hd : ms.all (dstOk N) = true)
    (hds : ∀ (i : Nat) (m : MO), i < q → ms[i]? = some m → (want (stE S (fun k => (ms[k]?).bind (·.dst)) ds (fun _ => true) i) m.guard = some true ∧ QV P m.op (stE S (fun k => (ms[k]?).bind (·.dst)) ds (fun _ => true) i) (ds i)) ∨
     (want (stE S (fun k => (ms[k]?).bind (·.dst)) ds (fun _ => true) i) m.guard = some false ∧ ds i = .val undef))
    (htail : evOps P (ms.drop q) (stE S (fun k => (ms[k]?).bind (·.dst)) ds (fun _ => true) q) K)
    (hQ : ∀ g' S' a' w', SR w0 W F0 V N g' S' a' w' → K S' → Q .normal a' w') : ∀ (fuel : Nat) (listed : Array Bool) (a : Act) (w : World), listed.size = ops.size → (List.range ops.size).countP (fun k => !listed.getD k false) = fuel →
    Closed ops (fun i => listed.getD i false) →
    ((∀ j, q ≤ j → listed.getD j false = false) ∧ (∃ g, SR w0 W F0 V N g (stE S (fun k => (ms[k]?).bind (·.dst)) ds (fun i => listed.getD i false) q) a w) ∨
     (∃ j g S', q ≤ j ∧ j ≤ ops.size ∧ (∀ i, listed.getD i false = true ↔ i < j) ∧ SR w0 W F0 V N g S' a w ∧ evOps P (ms.drop j) S' K)) →
    wpAny P .any ops Q fuel listed a w := by
 obtain ⟨hlen, hget⟩ := compOps_get hc
 have hml : ms.length = ops.size := by simpa using hlen
 intro fuel
 induction fuel with
 | zero =>
  intro listed a w hsz hcnt hclosed hinv
  have hall : ∀ i, i < ops.size → listed.getD i false = true := fun i hi => by
   have := List.countP_eq_zero.1 hcnt i (List.mem_range.2 hi)
   simpa using this
  have fin : Q .normal a w := by
   rcases hinv with ⟨h1, g, h2⟩ | ⟨j, g, S', h1, h2, h3, h4, h5⟩
   ·have hq : q = ops.size := by
      have := hok.qle
      by_cases hlt : q < ops.size
      ·have := h1 q (Nat.le_refl _); rw [hall q hlt] at this; cases this
      ·omega
    rw [hq, List.drop_of_length_le (by omega)] at htail
    rw [hq, stE_congr (E' := fun _ => true) ops.size (fun i hi => hall i hi)] at h2
    exact hQ g _ a w h2 htail
   ·have hj : j = ops.size := by
      by_cases hlt : j < ops.size
      ·have := (h3 j).1 (hall j hlt); omega
      ·omega
    rw [hj, List.drop_of_length_le (by omega)] at h5
    exact hQ g _ a w h4 h5
  refine ⟨?_, fin⟩
  cases hr : Region.ready .any ops listed with
  | nil => rfl
  | cons i l =>
   have hi : i ∈ Region.ready .any ops listed := by rw [hr]; simp
   obtain ⟨h1, o, ho, _⟩ := mem_ready.1 hi
   have hlt : i < ops.size := (Array.getElem?_eq_some_iff.1 ho).1
   have := hall i hlt
   rw [Array.getD_eq_getD_getElem?] at this h1
   rw [Array.getElem?_eq_getElem (by omega)] at this h1
   simp only [Option.getD_some] at this h1
   rw [this] at h1; cases h1
 | succ fuel ih =>
  intro listed a w hsz hcnt hclosed hinv
  refine ⟨fun hr => ?_, fun i hi => ?_⟩
  ·exfalso
   have hall : ∀ n i, i < n → i < ops.size → listed.getD i false = true := by
    intro n
    induction n with
    | zero => intro i hi; omega
    | succ n ihn =>
     intro i hi hlt
     by_cases hin : i < n
     ·exact ihn i hin hlt
     ·have hin : i = n := by omega
      subst hin
      cases hli : listed.getD i false with
      | true => rfl
      | false =>
       exfalso
       have : i ∈ Region.ready .any ops listed := by
        refine mem_ready.2 ⟨?_, ops[i], Array.getElem?_eq_getElem hlt, fun e he hb => ?_⟩
        ·rw [Array.getD_eq_getD_getElem?, Array.getElem?_eq_getElem (by omega)] at hli ⊢
         exact hli
        ·have hdn := hok.down i ops[i] e (Array.getElem?_eq_getElem hlt) he hb
         exact ihn e.on hdn (by omega)
       rw [hr] at this; simp at this
   have : (List.range ops.size).countP (fun k => !listed.getD k false) = 0 := List.countP_eq_zero.2 (fun i hi => by
    have := hall (i + 1) i (by omega) (List.mem_range.1 hi)
    simp [this])
   omega
  ·obtain ⟨h1, o, ho, hedges⟩ := mem_ready.1 hi
   have hlt : i < ops.size := (Array.getElem?_eq_some_iff.1 ho).1
   have hli : listed.getD i false = false := by
    rw [Array.getD_eq_getD_getElem?, Array.getElem?_eq_getElem (by omega)] at h1 ⊢
    exact h1
   have hgd : ∀ k, (listed.setIfInBounds i true).getD k false = if k = i then true else listed.getD k false := fun k => by
    simp only [Array.getD_eq_getD_getElem?, Array.getElem?_setIfInBounds]
    by_cases hk : k = i
    ·subst hk; simp [hsz, hlt]
    ·simp [hk, Ne.symm hk]
   have hcnt' : (List.range ops.size).countP (fun k => !(listed.setIfInBounds i true).getD k false) = fuel := by
    have := (count_set listed i (by omega) hli (List.range ops.size) List.nodup_range).1 (List.mem_range.2 hlt)
    omega
   have hclosed' : Closed ops (fun k => (listed.setIfInBounds i true).getD k false) := fun k o' e hk ho' he hb => by
    simp only [hgd] at hk ⊢
    split
    ·rfl
    ·split at hk
     ·rename_i hki; subst hki
      rw [ho] at ho'; injection ho' with ho'; subst ho'
      exact hedges e he hb
     ·exact hclosed k o' e hk ho' he hb
   have hbef : ∀ k, Bef ops i k → listed.getD k false = true := fun k hb => hb.ready (E := fun k => listed.getD k false) hclosed (fun o' e ho' he hbb => by
    rw [ho] at ho'; injection ho' with ho'; subst ho'
    exact hedges e he hbb)
   have hm : ms[i]? = some (ms[i]'(by omega)) := List.getElem?_eq_getElem (by omega)
   have hcm := hget i o _ (by simpa using ho) hm
   have hdm := List.all_eq_true.1 hd _ (List.getElem_mem (by omega : i < ms.length))
   generalize ms[i]'(by omega) = m at hm hcm hdm
   rcases hinv with ⟨hA1, g, hA2⟩ | ⟨j, g, S', hB1, hB2, hB3, hB4, hB5⟩
   ·by_cases hiq : i < q
    ·-- a quiet one
     let dst : Nat → Option Nat := fun k => (ms[k]?).bind (·.dst)
     have hdst : ∀ k t, dst k = some t → ∃ n, ms[k]? = some n ∧ n.dst = some t := fun k t hk => by
      simp only [dst] at hk
      obtain ⟨n, h1, h2⟩ := Option.bind_eq_some_iff.1 hk
      exact ⟨n, h1, h2⟩
     have huniq : ∀ k k' t, k < q → k' < q → dst k = some t → dst k' = some t → k = k' := fun k k' t hk hk' h1 h2 => by
      obtain ⟨n, h3, h4⟩ := hdst k t h1
      obtain ⟨n', h5, h6⟩ := hdst k' t h2
      exact hok.uniq k k' n n' t hk hk' h3 h5 h4 h6
     have hsame : ∀ t ∈ m.readT, (stE S dst ds (fun _ => true) i).get t = (stE S dst ds (fun k => listed.getD k false) q).get t := fun t ht => by
      by_cases hex : ∃ k, k < q ∧ dst k = some t
      ·obtain ⟨k, hkq, hk⟩ := hex
       obtain ⟨n, hn1, hn2⟩ := hdst k t hk
       obtain ⟨hw1, hw2⟩ := hok.wait i k m n t hiq hkq hm hn1 ht hn2
       rcases Nat.lt_trichotomy k i with hki | hki | hki
       ·rw [stE_some hk rfl i hki (fun x hx hxt => huniq x k t (by omega) hkq hxt hk), stE_some hk (hbef k (hw1 hki)) q hkq (fun x hx hxt => huniq x k t hx hkq hxt hk)]
       ·subst hki
        rw [stE_none k (fun x hx _ hxt => by have := huniq x k t (by omega) hkq hxt hk; omega), stE_none q (fun x hx hE hxt => by
         have := huniq x k t hx hkq hxt hk; subst this; rw [hli] at hE; cases hE)]
       ·have hEk : listed.getD k false = false := by
          cases hEk : listed.getD k false with
          | false => rfl
          | true =>
           have := (hw2 hki).listed (E := fun k => listed.getD k false) hclosed hEk
           rw [hli] at this; cases this
        rw [stE_none i (fun x hx _ hxt => by have := huniq x k t (by omega) hkq hxt hk; omega), stE_none q (fun x hx hE hxt => by
         have := huniq x k t hx hkq hxt hk; subst this; rw [hEk] at hE; cases hE)]
      ·rw [stE_none i (fun x hx _ hxt => hex ⟨x, by omega, hxt⟩), stE_none q (fun x hx _ hxt => hex ⟨x, hx, hxt⟩)]
     obtain ⟨hal, hwant⟩ := alike_of (m := m) hsame (by rw [stE_hp, stE_hp]) (by rw [stE_tg, stE_tg])
     have hput : ∀ {g' : Gh} {a' : Act} {w' : World}, SR w0 W F0 V N g' ((stE S dst ds (fun k => listed.getD k false) q).put m.dst (ds i)) a' w' → SR w0 W F0 V N g' (stE S dst ds (fun k => (listed.setIfInBounds i true).getD k false) q) a' w' := fun hsr => by
      refine hsr.alike (fun t => ?_) ?_ ?_
      ·have hdi : dst i = m.dst := by simp only [dst, hm]; rfl
       rw [put_get']
       by_cases hmt : m.dst = some t
       ·rw [if_pos hmt, stE_some (k := i) (by rw [hdi]; exact hmt) (by simp only [hgd, if_pos]) q hiq (fun x hx hxt => huniq x i t hx hiq hxt (by rw [hdi]; exact hmt))]
       ·rw [if_neg hmt]
        by_cases hex : ∃ k, k < q ∧ dst k = some t ∧ listed.getD k false = true
        ·obtain ⟨k, hkq, hk, hEk⟩ := hex
         have hki : k ≠ i := fun e => hmt (by rw [← hdi, ← e]; exact hk)
         rw [stE_some hk (by simp only [hgd, if_neg hki]; exact hEk) q hkq (fun x hx hxt => huniq x k t hx hkq hxt hk), stE_some hk hEk q hkq (fun x hx hxt => huniq x k t hx hkq hxt hk)]
        ·rw [stE_none q (fun x hx hE hxt => by
           simp only [hgd] at hE
           split at hE
           ·rename_i e; subst e; exact hmt (by rw [← hdi]; exact hxt)
           ·exact hex ⟨x, hx, hxt, hE⟩), stE_none q (fun x hx hE hxt => hex ⟨x, hx, hxt, hE⟩)]
      ·rw [stE_hp]; cases m.dst <;> simp only [St.put] <;> rw [stE_hp]
      ·rw [stE_tg]; cases m.dst <;> simp only [St.put] <;> rw [stE_tg]
     have next : ∀ a' w', (∃ g', SR w0 W F0 V N g' ((stE S dst ds (fun k => listed.getD k false) q).put m.dst (ds i)) a' w') → wpAny P .any ops Q fuel (listed.setIfInBounds i true) a' w' := fun a' w' ⟨g', hsr⟩ => by
      refine ih _ a' w' (by simpa using hsz) hcnt' hclosed' (.inl ⟨fun j hj => ?_, g', hput hsr⟩)
      rw [hgd, if_neg (by omega)]; exact hA1 j hj
     obtain ⟨c1, c2, c3⟩ := compO_spec hcm
     replace c2 : m.dst = o.dst := c2
     obtain ⟨d1, d2⟩ := dst_ok hdm
     unfold wpOp
     simp only [ho]
     rcases hds i m hiq hm with ⟨hw, hqv⟩ | ⟨hw, hu⟩
     ·have hwt := want_sound (m := m.strip) hA2.core hcm (hwant ▸ hw)
      simp only [hwt, if_true]
      left
      rw [c2] at next d1
      exact Oper.wp_mono (fun a' w' hh => next a' w' hh) (q_sound hA2 c1 d1 (hqv.alike hal))
     ·have hwt := want_sound (m := m.strip) hA2.core hcm (hwant ▸ hw)
      simp only [hwt, Bool.false_eq_true, if_false]
      rw [c2] at next d1
      exact next _ _ ⟨g, hA2.put d1 (by rw [hu]; exact .fz _ _ (.val _))⟩
    ·-- the first one behind the quiet ones
     have hiq' : q ≤ i := by omega
     have hall : ∀ k, k < i → listed.getD k false = true := fun k hk => hbef k (hok.tail k i hiq' hlt hk)
     have hiq2 : i = q := by
      by_cases hlt2 : q < i
      ·have := hall q hlt2; rw [hA1 q (Nat.le_refl _)] at this; cases this
      ·omega
     subst hiq2
     rw [stE_congr (E' := fun _ => true) i (fun k hk => hall k hk)] at hA2
     rw [List.drop_eq_getElem_cons (by omega : i < ms.length)] at htail
     simp only [evOps] at htail
     have hmm : ms[i]'(by omega) = m := by rw [List.getElem?_eq_getElem (by omega)] at hm; injection hm
     rw [hmm] at htail
     refine wpOp_mono (fun a' w' ⟨g', S', e1, e2⟩ => ?_) (evOp_sound (P := P) (ops := ops) (Q := Q) (K := fun S' => evOps P (ms.drop (i + 1)) S' K) hA2 ho hcm hdm htail)
     refine ih _ a' w' (by simpa using hsz) hcnt' hclosed' (.inr ⟨i + 1, g', S', by omega, by omega, fun k => ?_, e1, e2⟩)
     rw [hgd]
     constructor
     ·intro hk
      split at hk
      ·omega
      ·by_cases hki : k < i
       ·omega
       ·rw [hA1 k (by omega)] at hk; cases hk
     ·intro hk
      split
      ·rfl
      ·exact hall k (by omega)
   ·have hij : i = j := by
      have h2 : ¬ i < j := fun h => by rw [(hB3 i).2 h] at hli; cases hli
      by_cases hlt2 : j < i
      ·have := hbef j (hok.tail j i (by omega) hlt hlt2)
       have := (hB3 j).1 this
       omega
      ·omega
    subst hij
    rw [List.drop_eq_getElem_cons (by omega : i < ms.length)] at hB5
    simp only [evOps] at hB5
    have hmm : ms[i]'(by omega) = m := by rw [List.getElem?_eq_getElem (by omega)] at hm; injection hm
    rw [hmm] at hB5
    refine wpOp_mono (fun a' w' ⟨g', S'', e1, e2⟩ => ?_) (evOp_sound (P := P) (ops := ops) (Q := Q) (K := fun S' => evOps P (ms.drop (i + 1)) S' K) hB4 ho hcm hdm hB5)
    refine ih _ a' w' (by simpa using hsz) hcnt' hclosed' (.inr ⟨i + 1, g', S'', by omega, by omega, fun k => ?_, e1, e2⟩)
    rw [hgd]
    constructor
    ·intro hk
     split at hk
     ·omega
     ·have := (hB3 k).1 hk; omega
    ·intro hk
     split
     ·rfl
     ·exact (hB3 k).2 (by omega)
end Go.Vm

namespace Go.Vm
open Go.RowKit
variable {P : Program} {w0 w w' : World} {W F0 : Reg} {V : Pins} {N : Nat} {g g' : Gh} {S S' : St} {a : Act} {K : St → Prop} {ops : Array Oper}
def mask1 (acc : List Nat) : List Edge → Nat
 | [] => 0
 | e :: es => if Region.binds .any e then (2 ^ e.on ||| acc.getD e.on 0) ||| mask1 acc es else mask1 acc es
def masks : List Oper → List Nat → List Nat
 | [], acc => acc
 | o :: l, acc => masks l (acc ++ [mask1 acc o.after.toList])
theorem mask1_bit {acc : List Nat} {i : Nat} {o : Oper} (ho : ops[i]? = some o) (hacc : ∀ k m, acc[k]? = some m → ∀ j, m.testBit j = true → Bef ops k j) : ∀ (es : List Edge), (∀ e ∈ es, e ∈ o.after) → ∀ j, (mask1 acc es).testBit j = true → Bef ops i j
 | [], _, j, h => by simp [mask1] at h
 | e :: es, he, j, h => by
  simp only [mask1] at h
  split at h
  ·rename_i hb
   rw [Nat.testBit_or, Nat.testBit_or, Bool.or_eq_true, Bool.or_eq_true] at h
   rcases h with (h | h) | h
   ·rw [Nat.testBit_two_pow] at h
    have : e.on = j := by simpa using h
    subst this
    exact .one i o e ho (he e (by simp)) hb
   ·rw [List.getD_eq_getElem?_getD] at h
    cases hk : acc[e.on]? with
    | none => rw [hk] at h; simp at h
    | some m =>
     rw [hk] at h
     exact .trans i j o e ho (he e (by simp)) hb (hacc _ _ hk j (by simpa using h))
   ·exact mask1_bit ho hacc es (fun x hx => he x (by simp [hx])) j h
  ·exact mask1_bit ho hacc es (fun x hx => he x (by simp [hx])) j h
theorem masks_bit : ∀ (l : List Oper) (acc : List Nat), (∀ i o, l[i]? = some o → ops[acc.length + i]? = some o) → (∀ k m, acc[k]? = some m → ∀ j, m.testBit j = true → Bef ops k j) →
    ∀ k m, (masks l acc)[k]? = some m → ∀ j, m.testBit j = true → Bef ops k j
 | [], acc, _, h => h
 | o :: l, acc, hl, h => by
  refine masks_bit l _ (fun i o' ho' => ?_) (fun k m hm j hj => ?_)
  ·have := hl (i + 1) o' (by simpa using ho')
   simp only [List.length_append, List.length_cons, List.length_nil]
   rw [show acc.length + (0 + 1) + i = acc.length + (i + 1) by omega]
   exact this
  ·rw [List.getElem?_append] at hm
   split at hm
   ·exact h k m hm j hj
   ·rename_i hk
    have hk' : k - acc.length = 0 := by
     have := (List.getElem?_eq_some_iff.1 hm).1
     simp at this; omega
    rw [hk'] at hm
    simp only [List.getElem?_cons_zero, Option.some.injEq] at hm
    subst hm
    have : k = acc.length := by omega
    subst this
    exact mask1_bit (hl 0 o (by simp)) h _ (fun e he => by simpa using he) j hj
def allB (p : Nat → Bool) : Nat → Bool
 | 0 => true
 | n + 1 => p n && allB p n
theorem allB_at {p : Nat → Bool} : ∀ {n : Nat}, allB p n = true → ∀ i, i < n → p i = true
 | 0, _, i, hi => by omega
 | n + 1, h, i, hi => by
  simp only [allB, Bool.and_eq_true] at h
  by_cases hn : i = n
  ·subst hn; exact h.1
  ·exact allB_at h.2 i (by omega)
def bitAt (mk : List Nat) (i j : Nat) : Bool := (mk.getD i 0).testBit j
def downB : List Oper → Nat → Bool
 | [], _ => true
 | o :: l, i => (o.after.toList.all fun e => !Region.binds .any e || decide (e.on < i)) && downB l (i + 1)
def drawB (ops : Array Oper) (ms : List MO) (q : Nat) : Bool :=
 let mk := masks ops.toList []
 let n := ops.size
 decide (q ≤ n) && downB ops.toList 0 &&
 allB (fun i => match ms[i]? with
  | some m => allB (fun k => match ms[k]? with
   | some o => match o.dst with
    | some t => (i == k || !(m.dst == some t)) && (!m.readT.contains t || ((!decide (k < i) || bitAt mk i k) && (!decide (i < k) || bitAt mk k i)))
    | none => true
   | none => true) q
  | none => true) q &&
 allB (fun j => decide (j < q) || allB (fun i => bitAt mk j i) j) n
theorem downB_at : ∀ {l : List Oper} {k : Nat}, downB l k = true → ∀ i o, l[i]? = some o → ∀ e ∈ o.after, Region.binds .any e = true → e.on < k + i
 | [], _, _, i, o, ho => by simp at ho
 | x :: l, k, h, i, o, ho => by
  simp only [downB, Bool.and_eq_true, List.all_eq_true] at h
  intro e he hb
  cases i with
  | zero =>
   simp at ho; subst ho
   have := h.1 e (by simpa using he)
   simpa [hb] using this
  | succ i =>
   have := downB_at h.2 i o (by simpa using ho) e he hb
   omega
theorem bitAt_bef {i j : Nat} (h : bitAt (masks ops.toList []) i j = true) : Bef ops i j := by
 unfold bitAt at h
 rw [List.getD_eq_getElem?_getD] at h
 cases hk : (masks ops.toList [])[i]? with
 | none => rw [hk] at h; simp at h
 | some m =>
  rw [hk] at h
  exact masks_bit ops.toList [] (fun i o ho => by simpa using ho) (fun k m hm => by simp at hm) i m hk j (by simpa using h)
theorem drawB_ok0 {ms : List MO} {q : Nat} (hc : compOps P ops ops.toList = some ms) (h : drawB ops ms q = true) : DrawOk ops ms q := by
 obtain ⟨hlen, -⟩ := compOps_get0 hc
 simp only [drawB, Bool.and_eq_true, decide_eq_true_eq] at h
 obtain ⟨⟨⟨h1, h2⟩, h3⟩, h4⟩ := h
 have pair : ∀ (i k : Nat) (m n : MO) (t : Nat), i < q → k < q → ms[i]? = some m → ms[k]? = some n → n.dst = some t →
     ((i == k || !(m.dst == some t)) = true ∧ (!m.readT.contains t || ((!decide (k < i) || bitAt (masks ops.toList []) i k) && (!decide (i < k) || bitAt (masks ops.toList []) k i))) = true) := by
  intro i k m n t hi hk hm hn ht
  have e1 := allB_at h3 i hi
  simp only [hm] at e1
  have e2 := allB_at e1 k hk
  simp only [hn, ht, Bool.and_eq_true] at e2
  exact e2
 refine ⟨by simpa using hlen, h1, fun i o e ho he hb => ?_, fun i k m n t hi hk hm hn hd hd' => ?_, fun i k m n t hi hk hm hn ht hd => ?_, fun i j hj hjn hij => ?_⟩
 ·have := downB_at h2 i o (by simpa using ho) e he hb
  omega
 ·have e := (pair i k m n t hi hk hm hn hd').1
  rw [hd] at e
  simpa using e
 ·have e := (pair i k m n t hi hk hm hn hd).2
  have hc : m.readT.contains t = true := by simpa using ht
  rw [hc] at e
  simp only [Bool.not_true, Bool.false_or, Bool.and_eq_true, Bool.or_eq_true, Bool.not_eq_true', decide_eq_false_iff_not] at e
  refine ⟨fun hki => ?_, fun hik => ?_⟩
  ·rcases e.1 with e1 | e1
   ·exact absurd hki e1
   ·exact bitAt_bef e1
  ·rcases e.2 with e1 | e1
   ·exact absurd hik e1
   ·exact bitAt_bef e1
 ·have e := allB_at h4 j hjn
  have : decide (j < q) = false := by simpa using hj
  rw [this, Bool.false_or] at e
  exact bitAt_bef (allB_at e i hij)
theorem readT_strip (m : MO) : m.strip.readT = m.readT := by
 obtain ⟨dst, op, guard⟩ := m
 cases op <;> first | rfl | (rename_i k; cases k <;> rfl)
theorem drawB_ok {ms : List MO} {q : Nat} (hc : compOps P ops ops.toList = some (ms.map MO.strip)) (h : drawB ops (ms.map MO.strip) q = true) : DrawOk ops ms q := by
 have hd := drawB_ok0 hc h
 have hget : ∀ {i : Nat} {m : MO}, ms[i]? = some m → (ms.map MO.strip)[i]? = some m.strip := fun hm => by simp [hm]
 refine ⟨by simpa using hd.len, hd.qle, hd.down, fun i k m n t hi hk hm hn h1 h2 => hd.uniq i k m.strip n.strip t hi hk (hget hm) (hget hn) h1 h2, fun i k m n t hi hk hm hn h1 h2 => hd.wait i k m.strip n.strip t hi hk (hget hm) (hget hn) (by rw [readT_strip]; exact h1) h2, hd.tail⟩
theorem SR.drew (h : SR w0 W F0 V N g S a w) (n : Nat) (hn : w.drawn ≤ n) : SR w0 W F0 V N g S a { w with drawn := n } := by
 have hl : Later g g w { w with drawn := n } (fun _ => true) (fun _ => true) := ⟨fun _ _ _ h => h, fun _ _ _ h => h, fun _ _ h => h, fun b k hF => rfl⟩
 have hc := h.core.later hl (fun _ _ _ => rfl) (fun _ _ _ => rfl) (fun b ob hb => hb) (fun b k hF => .inl hF) (fun b k hF => h.core.frz.1 b k hF)
 rw [only_all] at hc
 exact h.later hc h.wr (Keep.drew (fun _ _ => False) w n hn) (fun _ _ _ h => h.elim) (fun _ _ h => h) (fun _ _ h => .inl h) (fun t ti _ h => ⟨ti, h, rfl⟩)
theorem draw_sound {id : Nat} {Q : Exit → Act → World → Prop} {ms : List MO} {q : Nat} (hm : P.follows .mixedOrders = true) (hc : compOps P ops ops.toList = some (ms.map MO.strip)) (hd : ms.all (dstOk N) = true) (hB : drawB ops (ms.map MO.strip) q = true)
    (hS : SR w0 W F0 V N g S a w) (hv : evDraw P q ms S K) (hQ : ∀ g' S' a' w', SR w0 W F0 V N g' S' a' w' → K S' → Q .normal a' w') : (Code.region id ops true).wp P Q a w := by
 have hok := drawB_ok hc hB
 obtain ⟨ds, h1, h2⟩ := draw_values q ms S (hok.len ▸ hok.qle) hv
 refine wp_region_any hm ?_
 have hf : ∀ j, (Array.replicate ops.size false).getD j false = false := fun j => by
  rw [Array.getD_eq_getD_getElem?]
  by_cases hj : j < ops.size
  ·simp [hj]
  ·simp [hj]
 refine draw_any hc hok hd h1 h2 hQ ops.size _ a _ (by simp) ?_ (fun i o e hi => ?_) (.inl ⟨fun j _ => hf j, g, ?_⟩)
 ·rw [List.countP_eq_length.2 (fun k _ => by rw [hf]; rfl)]; simp
 ·replace hi : (Array.replicate ops.size false).getD i false = true := hi
  rw [hf] at hi; cases hi
 ·have : stE S (fun k => (ms[k]?).bind (·.dst)) ds (fun i => (Array.replicate ops.size false).getD i false) q = S := by
    rw [stE_congr (E' := fun _ => false) q (fun i _ => hf i)]
    have : ∀ n, stE S (fun k => (ms[k]?).bind (·.dst)) ds (fun _ => false) n = S := fun n => by
     induction n with
     | zero => rfl
     | succ n ih => simp [stE, ih]
    exact this q
  rw [this]
  exact hS.drew _ (Nat.le_succ _)
end Go.Vm
