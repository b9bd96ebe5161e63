/- The value machine, 19c: a statement whose order is drawn, with rows that grow and boxes that are laid: whatever order. -/
import Derived.Test.YtaoppmjidjdgdaaGreatVm19b
set_option linter.unusedVariables false
set_option maxRecDepth 2000
namespace Go.Vm
open Go.RowKit
variable {P : Program} {w0 w w' : World} {W F0 : Reg} {V : Pins} {N : Nat} {g g' : Gh} {S S' X Y : St} {a : Act} {K : St → Prop} {ops : Array Oper} {ms : List (MO × DK)} {os : List Nat} {ts : List Tag}
structure Draw2Ok (ops : Array Oper) (ms : List (MO × DK)) : Prop where
 len : ms.length = ops.size
 down : ∀ i o e, ops[i]? = some o → e ∈ o.after → Region.binds .any e = true → e.on < i
 uniq : ∀ (i k : Nat) (m n : MO × DK) (t : Nat), ms[i]? = some m → ms[k]? = some n → m.1.dst = some t → n.1.dst = some t → i = k
 wait : ∀ (i k : Nat) (m n : MO × DK) (t : Nat), ms[i]? = some m → ms[k]? = some n → t ∈ m.1.readT → n.1.dst = some t → (k < i → Bef ops i k) ∧ (i < k → Bef ops k i)
 sep : ∀ (i k : Nat) (m n : MO × DK) (t : Nat), ms[i]? = some m → ms[k]? = some n → t ∈ m.1.readT → n.1.dst = some t → (m.2 = .q → n.2 = .q) ∧ (m.2 = .s → (n.2 = .q ∧ k < i) ∨ n.2 = .s)
 soft : ∀ (i j : Nat) (m n : MO × DK), i < j → ms[i]? = some m → ms[j]? = some n → m.2 = .s → n.2 = .s → Bef ops j i
 hard : ∀ (i j : Nat) (m n : MO × DK), ms[i]? = some m → ms[j]? = some n → n.2 = .h → m.2 ≠ .h ∨ i < j → Bef ops j i
 alloc : ∀ (i : Nat) (m : MO × DK), ms[i]? = some m → m.2 = .a → ∃ t z d, m.1 = ⟨some d, .alloc t z, none⟩ ∧ ∀ x ∈ z, x.avoids (fun _ => false) (fun _ => false) = true
def dstQ (ms : List (MO × DK)) (i : Nat) : Option Nat := match ms[i]? with
 | some (m, .q) => m.dst
 | _ => none
def free (ms : List (MO × DK)) (t : Nat) : Prop := ∀ (k : Nat) (m : MO × DK), ms[k]? = some m → m.2 = .s ∨ m.2 = .a → m.1.dst ≠ some t
theorem mem_osOf : ∀ {ms : List (MO × DK)} {o : Nat}, o ∈ osOf ms ↔ ∃ m, (m, DK.a) ∈ ms ∧ m.dst = some o
 | [], o => by simp [osOf]
 | (m, k) :: r, o => by
  have ih := mem_osOf (ms := r) (o := o)
  cases k <;> simp only [osOf]
  case a =>
   cases hd : m.dst with
   | none =>
    simp only
    rw [ih]
    constructor
    ·rintro ⟨n, h1, h2⟩; exact ⟨n, List.mem_cons_of_mem _ h1, h2⟩
    ·rintro ⟨n, h1, h2⟩
     rcases List.mem_cons.1 h1 with h1 | h1
     ·injection h1 with h1; subst h1; rw [hd] at h2; cases h2
     ·exact ⟨n, h1, h2⟩
   | some d =>
    simp only [List.mem_cons, ih]
    constructor
    ·rintro (h1 | ⟨n, h1, h2⟩)
     ·exact ⟨m, .inl rfl, by rw [hd, h1]⟩
     ·exact ⟨n, .inr h1, h2⟩
    ·rintro ⟨n, h1 | h1, h2⟩
     ·injection h1 with h1; subst h1; rw [hd] at h2; injection h2 with h2; exact .inl h2.symm
     ·exact .inr ⟨n, h1, h2⟩
  all_goals
   rw [ih]
   constructor
   ·rintro ⟨n, h1, h2⟩; exact ⟨n, List.mem_cons_of_mem _ h1, h2⟩
   ·rintro ⟨n, h1, h2⟩
    rcases List.mem_cons.1 h1 with h1 | h1
    ·injection h1 with _ h1; cases h1
    ·exact ⟨n, h1, h2⟩
theorem mem_tsOf : ∀ {ms : List (MO × DK)} {m : MO} {t : Tag}, (m, DK.s) ∈ ms → t ∈ tagOf m → t ∈ tsOf ms
 | [], m, t, h, _ => by simp at h
 | (n, k) :: r, m, t, h, ht => by
  rcases List.mem_cons.1 h with h | h
  ·injection h with h1 h2; subst h1; subst h2
   simp only [tsOf, List.mem_append]; exact .inl ht
  ·have ih := mem_tsOf h ht
   cases k <;> simp only [tsOf, List.mem_append]
   case s => exact .inr ih
   all_goals exact ih
theorem stE_congr2 {dst : Nat → Option Nat} {ds : Nat → D} {E E' : Nat → Bool} (n : Nat) (h : ∀ i, i < n → E i = E' i ∨ dst i = none) : stE S dst ds E n = stE S dst ds E' n := by
 induction n with
 | zero => rfl
 | succ n ihn =>
  have ih := ihn (fun i hi => h i (by omega))
  simp only [stE]
  rcases h n (by omega) with h1 | h1
  ·rw [h1, ih]
  ·rw [h1]
   simp only [St.put, ite_self]
   exact ih
theorem stE_box {dst : Nat → Option Nat} {ds : Nat → D} {E : Nat → Bool} (n : Nat) (o : Nat) : (stE S dst ds E n).box o = S.box o := by simp [St.box, stE_hp]
theorem stE_tag {dst : Nat → Option Nat} {ds : Nat → D} {E : Nat → Bool} (n : Nat) (t : Tag) : (stE S dst ds E n).tag t = S.tag t := by simp [St.tag, stE_tg]
theorem stE_avoids {dst : Nat → Option Nat} {ds : Nat → D} {E : Nat → Bool} {po : Nat → Bool} {pt : Tag → Bool} (hS : ∀ t d, S.get t = some d → d.avoids po pt = true) (hd : ∀ i, (ds i).avoids po pt = true) : ∀ n t d, (stE S dst ds E n).get t = some d → d.avoids po pt = true
 | 0, t, d, h => hS t d h
 | n + 1, t, d, h => by
  simp only [stE] at h
  split at h
  ·rw [put_get'] at h
   split at h
   ·injection h with h; rw [← h]; exact hd n
   ·exact stE_avoids hS hd n t d h
  ·exact stE_avoids hS hd n t d h
theorem evQ_values : ∀ (ms : List (MO × DK)) (S : St), evQ P os ts ms S K → ∃ ds : Nat → D, (∀ i, (ds i).avoids (poL os) (ptL ts) = true) ∧
    (∀ (i : Nat) (m : MO), ms[i]? = some (m, .q) → (want (stE S (dstQ ms) ds (fun _ => true) i) m.guard = some true ∧ ∃ d0, QV P m.op (stE S (dstQ ms) ds (fun _ => true) i) d0 ∧ (m.dst = none ∨ ds i = d0.keep (poL os) (ptL ts))) ∨
     (want (stE S (dstQ ms) ds (fun _ => true) i) m.guard = some false ∧ ds i = .val undef)) ∧
    K (stE S (dstQ ms) ds (fun _ => true) ms.length)
 | [], S, h => ⟨fun _ => .undef, fun _ => rfl, fun i m hm => by simp at hm, h⟩
 | (m, k) :: r, S, h => by
  have shift : ∀ (d0 : D) (ds : Nat → D) (n : Nat), stE S (dstQ ((m, k) :: r)) (fun k => match k with | 0 => d0 | k + 1 => ds k) (fun _ => true) (n + 1) = stE (S.put (dstQ ((m, k) :: r) 0) d0) (dstQ r) ds (fun _ => true) n := by
   intro d0 ds n
   induction n with
   | zero => simp [stE]
   | succ n ih =>
    rw [stE, ih]
    simp only [if_true, stE]
    rfl
  have build : ∀ (d0 : D), d0.avoids (poL os) (ptL ts) = true → (∀ m', k = .q → m' = m → (want S m'.guard = some true ∧ ∃ e, QV P m'.op S e ∧ (m'.dst = none ∨ d0 = e.keep (poL os) (ptL ts))) ∨ (want S m'.guard = some false ∧ d0 = .val undef)) → evQ P os ts r (S.put (dstQ ((m, k) :: r) 0) d0) K →
      ∃ ds : Nat → D, (∀ i, (ds i).avoids (poL os) (ptL ts) = true) ∧
  (∀ (i : Nat) (m' : MO), ((m, k) :: r)[i]? = some (m', .q) → (want (stE S (dstQ ((m, k) :: r)) ds (fun _ => true) i) m'.guard = some true ∧ ∃ d0, QV P m'.op (stE S (dstQ ((m, k) :: r)) ds (fun _ => true) i) d0 ∧ (m'.dst = none ∨ ds i = d0.keep (poL os) (ptL ts))) ∨
   (want (stE S (dstQ ((m, k) :: r)) ds (fun _ => true) i) m'.guard = some false ∧ ds i = .val undef)) ∧
  K (stE S (dstQ ((m, k) :: r)) ds (fun _ => true) ((m, k) :: r).length) := fun d0 hd0 h0 hr => by
   obtain ⟨ds, h1, h2, h3⟩ := evQ_values r _ hr
   refine ⟨fun k => match k with | 0 => d0 | k + 1 => ds k, fun i => by cases i <;> first | exact hd0 | exact h1 _, fun i m' hm => ?_, ?_⟩
   ·cases i with
    | zero =>
     simp only [List.getElem?_cons_zero, Option.some.injEq, Prod.mk.injEq] at hm
     exact h0 m' hm.2 hm.1.symm
    | succ i => rw [shift]; exact h2 i m' (by simpa using hm)
   ·rw [List.length_cons, shift]; exact h3
  cases k with
  | q =>
   simp only [evQ] at h
   split at h
   ·rename_i hw
    obtain ⟨d, hd, hk, h⟩ := h
    cases hdst : m.dst with
    | none =>
     rw [hdst] at h
     exact build .undef rfl (fun m' _ hm => by subst hm; exact .inl ⟨hw, d, hd, .inl hdst⟩) (by
      have : dstQ ((m, .q) :: r) 0 = none := hdst
      rw [this]; exact h)
    | some t =>
     have hav := okD_some (hdst ▸ hk)
     exact build d hav (fun m' _ hm => by subst hm; exact .inl ⟨hw, d, hd, .inr (keep_id hav).symm⟩) h
   ·rename_i hw
    exact build _ rfl (fun m' _ hm => by subst hm; exact .inr ⟨hw, rfl⟩) h
   ·exact h.elim
  | s => exact build .undef rfl (fun _ h => by cases h) h
  | a => exact build .undef rfl (fun _ h => by cases h) h
  | h => exact build .undef rfl (fun _ h => by cases h) h
theorem evS_skip : ∀ (l : List (MO × DK)) (i : Nat) (S : St), (∀ (k : Nat) (m : MO × DK), k < i → l[k]? = some m → m.2 ≠ .s) → evS P os ts l S K → evS P os ts (l.drop i) S K
 | l, 0, S, _, h => h
 | [], i + 1, S, _, h => h
 | (m, k) :: r, i + 1, S, hk, h => by
  have h0 := hk 0 (m, k) (by omega) rfl
  refine evS_skip r i S (fun j n hj hn => hk (j + 1) n (by omega) (by simpa using hn)) ?_
  cases k with
  | s => exact absurd rfl h0
  | q => exact h
  | a => exact h
  | h => exact h
theorem evK_skip {κ : DK} : ∀ (l : List (MO × DK)) (i : Nat) (S : St), (∀ (k : Nat) (m : MO × DK), k < i → l[k]? = some m → m.2 ≠ κ) → evK P κ l S K → evK P κ (l.drop i) S K
 | l, 0, S, _, h => h
 | [], i + 1, S, _, h => h
 | (m, k) :: r, i + 1, S, hk, h => by
  have h0 := hk 0 (m, k) (by omega) rfl
  refine evK_skip r i S (fun j n hj hn => hk (j + 1) n (by omega) (by simpa using hn)) ?_
  simp only [evK] at h
  rw [if_neg h0] at h
  exact h
theorem evS_none {l : List (MO × DK)} {S : St} (hk : ∀ (k : Nat) (m : MO × DK), l[k]? = some m → m.2 ≠ .s) (h : evS P os ts l S K) : K S := by
 have := evS_skip l l.length S (fun k m _ hm => hk k m hm) h
 rw [List.drop_length] at this
 exact this
theorem evK_none {κ : DK} {l : List (MO × DK)} {S : St} (hk : ∀ (k : Nat) (m : MO × DK), l[k]? = some m → m.2 ≠ κ) (h : evK P κ l S K) : K S := by
 have := evK_skip l l.length S (fun k m _ hm => hk k m hm) h
 rw [List.drop_length] at this
 exact this
theorem nameless_keep {po : Nat → Bool} {pt : Tag → Bool} {z : List D} (hz : ∀ x ∈ z, x.avoids (fun _ => false) (fun _ => false) = true) : z.map (D.keep po pt) = z := by
 conv => rhs; rw [← List.map_id z]
 exact List.map_congr_left fun x hx => keep_id (avoids_mono (fun _ h => by cases h) (fun _ h => by cases h) x (hz x hx))
theorem map_keep_id {κ : D → D} {l : List D} (h : ∀ x ∈ l, κ x = x) : l.map κ = l := by
 conv => rhs; rw [← List.map_id l]
 exact List.map_congr_left h
theorem evA_run : ∀ (l : List (MO × DK)) (Y : St), (∀ t d, Y.get t = some d → d.avoids (poL (osOf l)) (fun _ => true) = true) → (∀ o cs, Y.box o = some cs → ∀ x ∈ cs, x.avoids (poL (osOf l)) (fun _ => true) = true) →
    (∀ (i k : Nat) (m n : MO × DK) (t : Nat), l[i]? = some m → l[k]? = some n → m.1.dst = some t → n.1.dst = some t → i = k) →
    (∀ (i : Nat) (m : MO × DK), l[i]? = some m → m.2 = .a → ∃ t z d, m.1 = ⟨some d, .alloc t z, none⟩ ∧ ∀ x ∈ z, x.avoids (fun _ => false) (fun _ => false) = true) →
    evK P .a l Y K → ∃ Y3, K Y3 ∧ (∀ t, t ∉ osOf l → Y3.get t = Y.get t) ∧ (∀ o, o ∉ osOf l → Y3.box o = Y.box o) ∧ (∀ t, Y3.tag t = Y.tag t) ∧
     ∀ (i : Nat) (t : TypeId) (z : List D) (d : Nat), l[i]? = some (⟨some d, .alloc t z, none⟩, .a) → Y3.get d = some (.ptr d 0) ∧ Y3.box d = some z
 | [], Y, _, _, _, _, h => ⟨Y, h, fun _ _ => rfl, fun _ _ => rfl, fun _ => rfl, fun i t z d hi => by simp at hi⟩
 | (m, k) :: r, Y, hY, hB, hu, ha, h => by
  have hu' : ∀ (i k : Nat) (m n : MO × DK) (t : Nat), r[i]? = some m → r[k]? = some n → m.1.dst = some t → n.1.dst = some t → i = k := fun i k m' n' t h1 h2 h3 h4 => by
   have := hu (i + 1) (k + 1) m' n' t (by simpa using h1) (by simpa using h2) h3 h4
   omega
  have ha' : ∀ (i : Nat) (m : MO × DK), r[i]? = some m → m.2 = .a → ∃ t z d, m.1 = ⟨some d, .alloc t z, none⟩ ∧ ∀ x ∈ z, x.avoids (fun _ => false) (fun _ => false) = true := fun i m' h1 h2 => ha (i + 1) m' (by simpa using h1) h2
  by_cases hk : k = .a
  ·subst hk
   obtain ⟨t0, z0, d0, hm, hz0⟩ := ha 0 _ rfl rfl
   simp only at hm
   subst hm
   have hos : osOf ((⟨some d0, .alloc t0 z0, none⟩, .a) :: r) = d0 :: osOf r := rfl
   rw [hos] at hY hB ⊢
   have hd0 : d0 ∉ osOf r := fun hm => by
    obtain ⟨n, h1, h2⟩ := mem_osOf.1 hm
    obtain ⟨i, hi, hin⟩ := List.mem_iff_getElem.1 h1
    have := hu 0 (i + 1) _ (n, .a) d0 rfl (by simp [List.getElem?_eq_getElem hi, hin]) rfl h2
    omega
   have wk : ∀ d : D, d.avoids (poL (d0 :: osOf r)) (fun _ => true) = true → d.avoids (poL (osOf r)) (fun _ => true) = true ∧ d.keep (fun y => decide (y ≠ d0)) (fun _ => true) = d := fun d hd =>
    ⟨avoids_mono (fun o ho => by simp only [poL, List.contains_cons, Bool.not_or, Bool.and_eq_true] at ho; exact ho.2) (fun _ _ => rfl) d hd,
     keep_id (avoids_mono (fun o ho => by simp only [poL, List.contains_cons, Bool.not_or, Bool.and_eq_true] at ho; simpa using ho.1) (fun _ _ => rfl) d hd)⟩
   simp only [evK, if_true, want, vstep] at h
   have hz : z0.map (D.keep (fun y => decide (y ≠ d0)) fun _ => true) = z0 := nameless_keep hz0
   rw [hz] at h
   have g1 : ∀ t, ((Y.newBox d0 z0).put (some d0) (.ptr d0 0)).get t = if t = d0 then some (.ptr d0 0) else Y.get t := fun t => by
    rw [put_get']
    by_cases ht : t = d0
    ·subst ht; simp
    ·rw [if_neg (by simpa using Ne.symm ht), if_neg ht]
     show (Y.only _ _).get t = _
     rw [only_get]
     cases hg : Y.get t with
     | none => rfl
     | some d => rw [Option.map_some, (wk d (hY t d hg)).2]
   have g2 : ∀ o, ((Y.newBox d0 z0).put (some d0) (.ptr d0 0)).box o = if o = d0 then some z0 else Y.box o := fun o => by
    rw [put_box', newBox_box]
    by_cases ho : o = d0
    ·simp [ho]
    ·rw [if_neg ho, if_neg ho]
     cases hb : Y.box o with
     | none => rfl
     | some cs => rw [Option.map_some, map_keep_id fun x hx => (wk x (hB o cs hb x hx)).2]
   obtain ⟨Y3, k1, k2, k3, k4, k5⟩ := evA_run r _ (fun t d hd => by
    rw [g1] at hd
    split at hd
    ·injection hd with hd; subst hd
     simpa [D.avoids, poL] using hd0
    ·exact (wk d (hY t d hd)).1) (fun o cs hb x hx => by
    rw [g2] at hb
    split at hb
    ·injection hb with hb; subst hb
     exact avoids_mono (fun _ h => by cases h) (fun _ h => by cases h) x (hz0 x hx)
    ·exact (wk x (hB o cs hb x hx)).1) hu' ha' h
   refine ⟨Y3, k1, fun t ht => ?_, fun o ho => ?_, fun t => ?_, fun i t z d hi => ?_⟩
   ·simp only [List.mem_cons, not_or] at ht
    rw [k2 t ht.2, g1, if_neg ht.1]
   ·simp only [List.mem_cons, not_or] at ho
    rw [k3 o ho.2, g2, if_neg ho.1]
   ·rw [k4, put_tag']; rfl
   ·cases i with
    | zero =>
     simp only [List.getElem?_cons_zero, Option.some.injEq, Prod.mk.injEq, MO.mk.injEq, MOp.alloc.injEq] at hi
     obtain ⟨⟨h1, ⟨h2, h3⟩, -⟩, -⟩ := hi
     subst h1; subst h2; subst h3
     rw [k2 _ hd0, k3 _ hd0, g1, g2, if_pos rfl, if_pos rfl]
     exact ⟨rfl, rfl⟩
    | succ i => exact k5 i t z d (by simpa using hi)
  ·have hos : osOf ((m, k) :: r) = osOf r := by cases k <;> first | rfl | exact absurd rfl hk
   rw [hos] at hY hB ⊢
   simp only [evK] at h
   rw [if_neg hk] at h
   obtain ⟨Y3, k1, k2, k3, k4, k5⟩ := evA_run r Y hY hB hu' ha' h
   refine ⟨Y3, k1, k2, k3, k4, fun i t z d hi => ?_⟩
   cases i with
   | zero => simp at hi; exact absurd hi.2 hk
   | succ i => exact k5 i t z d (by simpa using hi)
structure Inv1 (P : Program) (ms : List (MO × DK)) (S0 : St) (ds : Nat → D) (K : St → Prop) (E : Nat → Bool) (j : Nat) (X Y : St) : Prop where
 xq : ∀ t, free ms t → X.get t = (stE S0 (dstQ ms) ds E ms.length).get t
 xs : ∀ (k : Nat) (m : MO) (t : Nat), ms[k]? = some (m, .s) → m.dst = some t → X.get t = Y.get t
 xa : ∀ (k : Nat) (ty : TypeId) (z : List D) (t : Nat), ms[k]? = some (⟨some t, .alloc ty z, none⟩, .a) → E k = true → X.get t = some (.ptr t 0) ∧ X.box t = some z
 xb : ∀ o, poL (osOf ms) o = true → X.box o = S0.box o
 tg : ∀ t, X.tag t = Y.tag t
 yq : ∀ t, free ms t → Y.get t = (stE S0 (dstQ ms) ds (fun _ => true) ms.length).get t
 yb : ∀ o, Y.box o = S0.box o
 yl : ∀ t, (S0.tag t).isSome = true → (Y.tag t).isSome = true
 yav : ∀ t d, Y.get t = some d → d.avoids (poL (osOf ms)) (fun _ => true) = true
 soft : ∀ (k : Nat) (m : MO), ms[k]? = some (m, .s) → (E k = true ↔ k < j)
 rest : evS P (osOf ms) (tsOf ms) (ms.drop j) Y fun S2 => evK P .a ms S2 fun S3 => evK P .h ms S3 K
 nohard : ∀ (k : Nat) (m : MO), ms[k]? = some (m, .h) → E k = false
structure Start (P : Program) (ms : List (MO × DK)) (S0 : St) (ds : Nat → D) : Prop where
 get : ∀ t d, S0.get t = some d → d.avoids (poL (osOf ms)) (ptL (tsOf ms)) = true
 box : ∀ o cs, S0.box o = some cs → poL (osOf ms) o = true ∧ ∀ x ∈ cs, x.avoids (poL (osOf ms)) (ptL (tsOf ms)) = true
 vals : ∀ i, (ds i).avoids (poL (osOf ms)) (ptL (tsOf ms)) = true
 val : ∀ (i : Nat) (m : MO), ms[i]? = some (m, .q) → (want (stE S0 (dstQ ms) ds (fun _ => true) i) m.guard = some true ∧ ∃ d0, QV P m.op (stE S0 (dstQ ms) ds (fun _ => true) i) d0 ∧ (m.dst = none ∨ ds i = d0.keep (poL (osOf ms)) (ptL (tsOf ms)))) ∨
     (want (stE S0 (dstQ ms) ds (fun _ => true) i) m.guard = some false ∧ ds i = .val undef)
theorem dstQ_some {i t : Nat} (h : dstQ ms i = some t) : ∃ m, ms[i]? = some (m, .q) ∧ m.dst = some t := by
 unfold dstQ at h
 split at h
 ·rename_i m hm; exact ⟨m, hm, h⟩
 ·cases h
theorem dstQ_of {i t : Nat} {m : MO} (h : ms[i]? = some (m, .q)) (hd : m.dst = some t) : dstQ ms i = some t := by
 unfold dstQ; rw [h]; exact hd
theorem set_get (l : Array Bool) (i k : Nat) (h : i < l.size) : (l.setIfInBounds i true).getD k false = if k = i then true else l.getD k false := by
 simp only [Array.getD_eq_getD_getElem?, Array.getElem?_setIfInBounds]
 by_cases hk : k = i
 ·subst hk; simp [h]
 ·simp [hk, Ne.symm hk]
theorem SR.weaken (h : SR w0 W F0 V N g X a w) {t : Nat} {d : D} (hx : X.get t = some d) (po : Nat → Bool) (pt : Tag → Bool) : SR w0 W F0 V N g (X.put (some t) (d.keep po pt)) a w := by
 refine h.putSame ?_
 rcases keep_or po pt d with e | e
 ·rw [e]; exact h.core.env t d hx
 ·rw [e]; exact .fz _ _ (.undef _)
theorem kd_get (S : St) (dst : Option Nat) (os : List Nat) (t : Nat) : (S.kd dst os).get t = if dst = some t then (S.get t).map (D.keep (poL os) fun _ => true) else S.get t := by
 have hid : ∀ d : D, d.keep (poL []) (fun _ => true) = d := fun d => keep_id (avoids_mono (fun _ _ => rfl) (fun _ _ => rfl) d (avoids_all d))
 unfold St.kd
 split
 ·split
  ·cases S.get t with
   | none => rfl
   | some d => rw [Option.map_some, hid]
  ·rfl
 ·simp
 ·rename_i os' t' _
  split
  ·rename_i d hd
   rw [put_get']
   split
   ·rename_i he; injection he with he; subst he; rw [hd]; rfl
   ·rfl
  ·rename_i hn
   split
   ·rename_i he; injection he with he; subst he; rw [hn]; rfl
   ·rfl
theorem kd_box (S : St) (dst : Option Nat) (os : List Nat) (o : Nat) : (S.kd dst os).box o = S.box o := by
 unfold St.kd
 split
 ·rfl
 ·rfl
 ·split
  ·rw [put_box']
  ·rfl
theorem kd_tag (S : St) (dst : Option Nat) (os : List Nat) (t : Tag) : (S.kd dst os).tag t = S.tag t := by
 unfold St.kd
 split
 ·rfl
 ·rfl
 ·split
  ·rw [put_tag']
  ·rfl
theorem SR.kd (h : SR w0 W F0 V N g X a w) (dst : Option Nat) (os : List Nat) : SR w0 W F0 V N g (X.kd dst os) a w := by
 unfold St.kd
 split
 ·exact h
 ·exact h
 ·split
  ·rename_i d hd; exact h.weaken hd _ _
  ·exact h
theorem step_q {S0 : St} {ds : Nat → D} {E : Nat → Bool} {i j : Nat} {m : MO} (hok : Draw2Ok ops ms) (hst : Start P ms S0 ds) (hI : Inv1 P ms S0 ds K E j X Y) (hm : ms[i]? = some (m, .q)) (hi : E i = false)
    (hbef : ∀ k, Bef ops i k → E k = true) (hcl : ∀ k, Bef ops k i → E k = false) :
    (∀ t ∈ m.readT, (stE S0 (dstQ ms) ds (fun _ => true) i).get t = X.get t) ∧ More X (stE S0 (dstQ ms) ds (fun _ => true) i) m.op.reads ∧ want (stE S0 (dstQ ms) ds (fun _ => true) i) m.guard = want X m.guard ∧
     Inv1 P ms S0 ds K (fun k => if k = i then true else E k) j (X.put m.dst (ds i)) Y := by
 have hlt : i < ms.length := (List.getElem?_eq_some_iff.1 hm).1
 have huq : ∀ k k' t, dstQ ms k = some t → dstQ ms k' = some t → k = k' := fun k k' t h1 h2 => by
  obtain ⟨n, e1, e2⟩ := dstQ_some h1
  obtain ⟨n', e3, e4⟩ := dstQ_some h2
  exact hok.uniq k k' _ _ t e1 e3 e2 e4
 have hfree : ∀ t ∈ m.readT, free ms t := fun t ht k n hn hk hd => by
  have := (hok.sep i k _ n t hm hn ht hd).1 rfl
  rw [this] at hk
  rcases hk with hk | hk <;> cases hk
 have hsame : ∀ t ∈ m.readT, (stE S0 (dstQ ms) ds (fun _ => true) i).get t = X.get t := fun t ht => by
  rw [hI.xq t (hfree t ht)]
  by_cases hex : ∃ k, dstQ ms k = some t
  ·obtain ⟨k, hk⟩ := hex
   obtain ⟨n, hn1, hn2⟩ := dstQ_some hk
   have hkl : k < ms.length := (List.getElem?_eq_some_iff.1 hn1).1
   obtain ⟨hw1, hw2⟩ := hok.wait i k _ _ t hm hn1 ht hn2
   rcases Nat.lt_trichotomy k i with hki | hki | hki
   ·rw [stE_some hk rfl i hki (fun x hx hxt => huq x k t hxt hk), stE_some hk (hbef k (hw1 hki)) ms.length hkl (fun x hx hxt => huq x k t hxt hk)]
   ·subst hki
    rw [stE_none k (fun x hx _ hxt => by have := huq x k t hxt hk; omega), stE_none ms.length (fun x hx hE hxt => by
     have := huq x k t hxt hk; subst this; rw [hi] at hE; cases hE)]
   ·have hEk := hcl k (hw2 hki)
    rw [stE_none i (fun x hx _ hxt => by have := huq x k t hxt hk; omega), stE_none ms.length (fun x hx hE hxt => by
     have := huq x k t hxt hk; subst this; rw [hEk] at hE; cases hE)]
  ·rw [stE_none i (fun x hx _ hxt => hex ⟨x, hxt⟩), stE_none ms.length (fun x hx _ hxt => hex ⟨x, hxt⟩)]
 have hmore : More X (stE S0 (dstQ ms) ds (fun _ => true) i) m.op.reads := by
  refine ⟨fun x hx => ?_, fun o cs hb => ?_, fun t ht => ?_⟩
  ·cases x with
   | tmp t => exact hsame t (mem_readT_op hx)
   | const v => rfl
   | global g => rfl
   | func f => rfl
  ·rw [stE_box] at hb
   rw [hI.xb o (hst.box o cs hb).1]; exact hb
  ·rw [stE_tag] at ht
   rw [hI.tg]; exact hI.yl t ht
 have hwant : want (stE S0 (dstQ ms) ds (fun _ => true) i) m.guard = want X m.guard := by
  cases hg : m.guard with
  | none => rfl
  | some x =>
   obtain ⟨t, b⟩ := x
   simp only [want]
   rw [hsame t (mem_readT_guard hg)]
 refine ⟨hsame, hmore, hwant, ?_⟩
 have hdi : ∀ t, m.dst = some t → dstQ ms i = some t := fun t ht => dstQ_of hm ht
 refine ⟨fun t ht => ?_, fun k n t hn hd => ?_, fun k ty z t hn hE => ?_, fun o ho => ?_, fun t => ?_, hI.yq, hI.yb, hI.yl, hI.yav, fun k n hn => ?_, hI.rest, fun k n hn => ?_⟩
 ·rw [put_get']
  by_cases hmt : m.dst = some t
  ·rw [if_pos hmt, stE_some (k := i) (hdi t hmt) (by simp) ms.length hlt (fun x hx hxt => huq x i t hxt (hdi t hmt))]
  ·rw [if_neg hmt, hI.xq t ht]
   by_cases hex : ∃ k, dstQ ms k = some t ∧ E k = true
   ·obtain ⟨k, hk, hEk⟩ := hex
    obtain ⟨n, hn1, hn2⟩ := dstQ_some hk
    have hkl : k < ms.length := (List.getElem?_eq_some_iff.1 hn1).1
    rw [stE_some hk hEk ms.length hkl (fun x hx hxt => huq x k t hxt hk), stE_some hk (by simp [hEk]) ms.length hkl (fun x hx hxt => huq x k t hxt hk)]
   ·rw [stE_none ms.length (fun x hx hE hxt => hex ⟨x, hxt, hE⟩), stE_none ms.length (fun x hx hE hxt => by
      split at hE
      ·rename_i e; subst e
       obtain ⟨n, hn1, hn2⟩ := dstQ_some hxt
       rw [hm] at hn1; injection hn1 with hn1; injection hn1 with hn1; subst hn1
       exact hmt hn2
      ·exact hex ⟨x, hxt, hE⟩)]
 ·rw [put_get', if_neg (fun hmt => by
    have := hok.uniq i k _ _ t hm hn hmt hd
    subst this; rw [hm] at hn; injection hn with hn; injection hn with _ hn; cases hn)]
  exact hI.xs k n t hn hd
 ·have hki : k ≠ i := fun e => by subst e; rw [hm] at hn; injection hn with hn; injection hn with _ hn; cases hn
  simp only [hki, if_false] at hE
  rw [put_get', put_box', if_neg (fun hmt => hki (hok.uniq k i _ _ t hn hm rfl hmt))]
  exact hI.xa k ty z t hn hE
 ·rw [put_box']; exact hI.xb o ho
 ·rw [put_tag']; exact hI.tg t
 ·have hki : k ≠ i := fun e => by subst e; rw [hm] at hn; injection hn with hn; injection hn with _ hn; cases hn
  simp only [hki, if_false]
  exact hI.soft k n hn
 ·have hki : k ≠ i := fun e => by subst e; rw [hm] at hn; injection hn with hn; injection hn with _ hn; cases hn
  simp only [hki, if_false]
  exact hI.nohard k n hn
theorem step_a {S0 : St} {ds : Nat → D} {E : Nat → Bool} {i j : Nat} {ty : TypeId} {z : List D} {d : Nat} (hok : Draw2Ok ops ms) (hst : Start P ms S0 ds) (hI : Inv1 P ms S0 ds K E j X Y) (hm : ms[i]? = some (⟨some d, .alloc ty z, none⟩, .a)) :
    Inv1 P ms S0 ds K (fun k => if k = i then true else E k) j ((X.newBox d z).put (some d) (.ptr d 0)) Y := by
 have hd : d ∈ osOf ms := mem_osOf.2 ⟨_, List.mem_of_getElem? hm, rfl⟩
 have kid : ∀ {x : D} {pt : Tag → Bool}, x.avoids (poL (osOf ms)) pt = true → x.keep (fun y => decide (y ≠ d)) (fun _ => true) = x := fun {x pt} hx =>
  keep_id (avoids_mono (fun o ho => by
   have : ¬ o ∈ osOf ms := by simpa [poL] using ho
   simp only [ne_eq, decide_eq_true_eq]
   rintro rfl; exact this hd) (fun _ _ => rfl) x hx)
 have g1 : ∀ t, t ≠ d → ((X.newBox d z).put (some d) (.ptr d 0)).get t = (X.get t).map (D.keep (fun y => decide (y ≠ d)) fun _ => true) := fun t ht => by
  rw [put_get', if_neg (by simpa using Ne.symm ht)]
  exact only_get _ _ _
 have g2 : ∀ o, o ≠ d → ((X.newBox d z).put (some d) (.ptr d 0)).box o = (X.box o).map (List.map (D.keep (fun y => decide (y ≠ d)) fun _ => true)) := fun o ho => by
  rw [put_box', newBox_box, if_neg ho]
 refine ⟨fun t ht => ?_, fun k n t hn hd' => ?_, fun k ty' z' t hn hE => ?_, fun o ho => ?_, fun t => ?_, hI.yq, hI.yb, hI.yl, hI.yav, fun k n hn => ?_, hI.rest, fun k n hn => ?_⟩
 ·have htd : t ≠ d := fun e => ht i _ hm (.inr rfl) (by rw [e])
  rw [g1 t htd, hI.xq t ht]
  have he : stE S0 (dstQ ms) ds (fun k => if k = i then true else E k) ms.length = stE S0 (dstQ ms) ds E ms.length := stE_congr2 _ (fun k hk => by
   by_cases hki : k = i
   ·subst hki
    refine .inr ?_
    unfold dstQ; rw [hm]
   ·simp [hki])
  rw [he]
  cases hg : (stE S0 (dstQ ms) ds E ms.length).get t with
  | none => rfl
  | some x => rw [Option.map_some, kid (stE_avoids hst.get hst.vals _ t x hg)]
 ·have htd : t ≠ d := fun e => by
    have := hok.uniq k i _ _ t hn hm hd' (by rw [e])
    subst this; rw [hm] at hn; injection hn with hn; injection hn with _ hn; cases hn
  rw [g1 t htd, hI.xs k n t hn hd']
  cases hg : Y.get t with
  | none => rfl
  | some x => rw [Option.map_some, kid (hI.yav t x hg)]
 ·by_cases hki : k = i
  ·subst hki
   rw [hm] at hn
   simp only [Option.some.injEq, Prod.mk.injEq, MO.mk.injEq, MOp.alloc.injEq] at hn
   obtain ⟨⟨h1, ⟨h2, h3⟩, -⟩, -⟩ := hn
   subst h1; subst h2; subst h3
   rw [put_get', if_pos rfl, put_box', newBox_box, if_pos rfl]
   exact ⟨rfl, rfl⟩
  ·simp only [hki, if_false] at hE
   have htd : t ≠ d := fun e => hki (hok.uniq k i _ _ t hn hm rfl (by rw [e]))
   obtain ⟨h1, h2⟩ := hI.xa k ty' z' t hn hE
   obtain ⟨_, z2, _, e1, e2⟩ := hok.alloc k _ hn rfl
   simp only [MO.mk.injEq, MOp.alloc.injEq] at e1
   rw [← e1.2.1.2] at e2
   rw [g1 t htd, g2 t htd, h1, h2, Option.map_some, Option.map_some, nameless_keep e2]
   refine ⟨?_, rfl⟩
   rw [keep_id (by simpa [D.avoids] using htd)]
 ·have hod : o ≠ d := fun e => by
    have : ¬ o ∈ osOf ms := by simpa [poL] using ho
    exact this (e ▸ hd)
  rw [g2 o hod, hI.xb o ho]
  cases hb : S0.box o with
  | none => rfl
  | some cs => rw [Option.map_some, map_keep_id fun x hx => kid ((hst.box o cs hb).2 x hx)]
 ·rw [put_tag']; exact hI.tg t
 ·have hki : k ≠ i := fun e => by subst e; rw [hm] at hn; injection hn with hn; injection hn with _ hn; cases hn
  simp only [hki, if_false]
  exact hI.soft k n hn
 ·have hki : k ≠ i := fun e => by subst e; rw [hm] at hn; injection hn with hn; injection hn with _ hn; cases hn
  simp only [hki, if_false]
  exact hI.nohard k n hn
theorem drop_at {l : List (MO × DK)} {i : Nat} {x : MO × DK} (h : l[i]? = some x) : l.drop i = x :: l.drop (i + 1) := by
 have hi := (List.getElem?_eq_some_iff.1 h).1
 rw [List.drop_eq_getElem_cons hi]
 rw [List.getElem?_eq_getElem hi] at h; injection h with h
 rw [h]
theorem step_s {S0 : St} {ds : Nat → D} {E : Nat → Bool} {i j : Nat} {m : MO} (hok : Draw2Ok ops ms) (hst : Start P ms S0 ds) (hI : Inv1 P ms S0 ds K E j X Y) (hm : ms[i]? = some (m, .s)) (hi : E i = false)
    (hbef : ∀ k, Bef ops i k → E k = true) (hcl : ∀ k, Bef ops k i → E k = false) :
    match want X m.guard with
    | some true => vstep P m.op m.dst X fun X' => ∃ Y', Inv1 P ms S0 ds K (fun k => if k = i then true else E k) (i + 1) (X'.kd m.dst (osOf ms)) Y'
    | some false => ∃ Y', Inv1 P ms S0 ds K (fun k => if k = i then true else E k) (i + 1) (X.put m.dst (.val undef)) Y'
    | none => False := by
 have hlt : i < ms.length := (List.getElem?_eq_some_iff.1 hm).1
 have huq : ∀ k k' t, dstQ ms k = some t → dstQ ms k' = some t → k = k' := fun k k' t h1 h2 => by
  obtain ⟨n, e1, e2⟩ := dstQ_some h1
  obtain ⟨n', e3, e4⟩ := dstQ_some h2
  exact hok.uniq k k' _ _ t e1 e3 e2 e4
 -- the one that is due
 have hij : j ≤ i := by
  have := hI.soft i m hm
  by_cases h : i < j
  ·rw [this.2 h] at hi; cases hi
  ·omega
 have hgap : ∀ (k : Nat) (n : MO × DK), j ≤ k → k < i → ms[k]? = some n → n.2 ≠ .s := fun k n h1 h2 hn hk => by
  obtain ⟨n, κ⟩ := n
  simp only at hk; subst hk
  have := (hI.soft k n hn).1 (hbef k (hok.soft k i _ _ h2 hn hm rfl rfl))
  omega
 have hrest : evS P (osOf ms) (tsOf ms) (ms.drop i) Y fun S2 => evK P .a ms S2 fun S3 => evK P .h ms S3 K := by
  have := evS_skip (ms.drop j) (i - j) Y (fun k n hk hn => hgap (j + k) n (by omega) (by omega) (by rw [List.getElem?_drop] at hn; exact hn)) hI.rest
  rw [List.drop_drop, show j + (i - j) = i by omega] at this
  exact this
 rw [drop_at hm] at hrest
 simp only [evS] at hrest
 -- what it looks at
 have hsame : ∀ t ∈ m.readT, Y.get t = X.get t := fun t ht => by
  by_cases hex : ∃ (k : Nat) (n : MO × DK), ms[k]? = some n ∧ n.1.dst = some t
  ·obtain ⟨k, ⟨n, κ⟩, hn, hd⟩ := hex
   have hkl : k < ms.length := (List.getElem?_eq_some_iff.1 hn).1
   simp only at hd
   rcases (hok.sep i k _ _ t hm hn ht hd).2 rfl with ⟨h1, h2⟩ | h1
   ·simp only at h1; subst h1
    have hfr : free ms t := fun k' n' hn' hk' hd' => by
     have := hok.uniq k' k _ _ t hn' hn hd' hd
     subst this; rw [hn] at hn'; injection hn' with hn'; subst hn'
     rcases hk' with h | h <;> cases h
    have hkq := dstQ_of hn hd
    have hEk := hbef k ((hok.wait i k _ _ t hm hn ht hd).1 h2)
    rw [hI.xq t hfr, hI.yq t hfr, stE_some hkq rfl ms.length hkl (fun x hx hxt => huq x k t hxt hkq), stE_some hkq hEk ms.length hkl (fun x hx hxt => huq x k t hxt hkq)]
   ·simp only at h1; subst h1
    exact (hI.xs k n t hn hd).symm
  ·have hfr : free ms t := fun k n hn _ hd => hex ⟨k, n, hn, hd⟩
   have hno : ∀ k, dstQ ms k ≠ some t := fun k hk => by
    obtain ⟨n, e1, e2⟩ := dstQ_some hk
    exact hex ⟨k, _, e1, e2⟩
   rw [hI.xq t hfr, hI.yq t hfr, stE_none ms.length (fun x hx _ hxt => hno x hxt), stE_none ms.length (fun x hx _ hxt => hno x hxt)]
 have hmore : More X Y m.op.reads := by
  refine ⟨fun x hx => ?_, fun o cs hb => ?_, fun t ht => by rw [hI.tg]; exact ht⟩
  ·cases x with
   | tmp t => exact hsame t (mem_readT_op hx)
   | const v => rfl
   | global g => rfl
   | func f => rfl
  ·rw [hI.yb] at hb
   rw [hI.xb o (hst.box o cs hb).1]; exact hb
 have hwant : want Y m.guard = want X m.guard := by
  cases hg : m.guard with
  | none => rfl
  | some x =>
   obtain ⟨t, b⟩ := x
   simp only [want]
   rw [hsame t (mem_readT_guard hg)]
 rw [hwant] at hrest
 have stav : ∀ {E' : Nat → Bool} {t : Nat} {x : D}, (stE S0 (dstQ ms) ds E' ms.length).get t = some x → x.avoids (poL (osOf ms)) (ptL (tsOf ms)) = true := fun {E' t x} h => stE_avoids hst.get hst.vals _ t x h
 have notq : dstQ ms i = none := by unfold dstQ; rw [hm]
 have hE2 : ∀ {E1 : Nat → Bool}, (∀ k, k ≠ i → E1 k = E k) → stE S0 (dstQ ms) ds E1 ms.length = stE S0 (dstQ ms) ds E ms.length := fun {E1} h => stE_congr2 _ (fun k _ => by
  by_cases hki : k = i
  ·subst hki; exact .inr notq
  ·exact .inl (h k hki))
 -- going on, in step
 have go : ∀ (κ : D → D) (r : D) (X1 Y1 : St), (∀ t, X1.get t = if m.dst = some t then some r else (X.get t).map κ) → (∀ t, Y1.get t = if m.dst = some t then some r else (Y.get t).map κ) → (∀ o, X1.box o = (X.box o).map (List.map κ)) → (∀ o, Y1.box o = (Y.box o).map (List.map κ)) →
     (∀ t, X1.tag t = Y1.tag t) → (∀ t, (Y.tag t).isSome = true → (Y1.tag t).isSome = true) → (∀ d : D, d.avoids (fun _ => true) (ptL (tsOf ms)) = true → κ d = d) → (∀ d : D, κ d = d ∨ κ d = .undef) → r.avoids (poL (osOf ms)) (fun _ => true) = true →
     (evS P (osOf ms) (tsOf ms) (ms.drop (i + 1)) Y1 fun S2 => evK P .a ms S2 fun S3 => evK P .h ms S3 K) → Inv1 P ms S0 ds K (fun k => if k = i then true else E k) (i + 1) X1 Y1 := by
  intro κ r X1 Y1 x1 y1 bx yb tg live id or hr rest
  have kid : ∀ {x : D} {po : Nat → Bool}, x.avoids po (ptL (tsOf ms)) = true → κ x = x := fun {x po} hx => id x (avoids_mono (fun _ _ => rfl) (fun _ h => h) x hx)
  refine ⟨fun t ht => ?_, fun k n t hn hd => ?_, fun k ty z t hn hE => ?_, fun o ho => ?_, tg, fun t ht => ?_, fun o => ?_, fun t ht => live t (hI.yl t ht), fun t d hd => ?_, fun k n hn => ?_, rest, fun k n hn => ?_⟩
  ·have he : stE S0 (dstQ ms) ds (fun k => if k = i then true else E k) ms.length = stE S0 (dstQ ms) ds E ms.length := hE2 (fun k hk => by simp [hk])
   rw [x1, if_neg (fun e => ht i _ hm (.inl rfl) e), hI.xq t ht, he]
   cases hg : (stE S0 (dstQ ms) ds E ms.length).get t with
   | none => rfl
   | some x => rw [Option.map_some, kid (stav hg)]
  ·rw [x1, y1, hI.xs k n t hn hd]
  ·have hki : k ≠ i := fun e => by subst e; rw [hm] at hn; injection hn with hn; injection hn with _ hn; cases hn
   simp only [hki, if_false] at hE
   obtain ⟨h1, h2⟩ := hI.xa k ty z t hn hE
   obtain ⟨_, z2, _, e1, e2⟩ := hok.alloc k _ hn rfl
   simp only [MO.mk.injEq, MOp.alloc.injEq] at e1
   rw [← e1.2.1.2] at e2
   rw [x1, bx, if_neg (fun e => hki (hok.uniq k i _ _ t hn hm rfl e)), h1, h2, Option.map_some, Option.map_some, kid (po := fun _ => true) (by simp [D.avoids]), map_keep_id fun x hx => kid (po := fun _ => true) (avoids_mono (fun _ h => by cases h) (fun _ h => by cases h) x (e2 x hx))]
   exact ⟨rfl, rfl⟩
  ·rw [bx, hI.xb o ho]
   cases hb : S0.box o with
   | none => rfl
   | some cs => rw [Option.map_some, map_keep_id fun x hx => kid ((hst.box o cs hb).2 x hx)]
  ·rw [y1, if_neg (fun e => ht i _ hm (.inl rfl) e), hI.yq t ht]
   cases hg : (stE S0 (dstQ ms) ds (fun _ => true) ms.length).get t with
   | none => rfl
   | some x => rw [Option.map_some, kid (stav hg)]
  ·rw [yb, hI.yb]
   cases hb : S0.box o with
   | none => rfl
   | some cs => rw [Option.map_some, map_keep_id fun x hx => kid ((hst.box o cs hb).2 x hx)]
  ·rw [y1] at hd
   split at hd
   ·injection hd with hd; subst hd; exact hr
   ·obtain ⟨d0, e1, e2⟩ := Option.map_eq_some_iff.1 hd
    subst e2
    rcases or d0 with e | e
    ·rw [e]; exact hI.yav t d0 e1
    ·rw [e]; rfl
  ·by_cases hki : k = i
   ·subst hki; simp
   ·simp only [hki, if_false]
    rw [hI.soft k n hn]
    constructor
    ·intro h; omega
    ·intro h
     by_cases hkj : k < j
     ·exact hkj
     ·exact absurd rfl (hgap k _ (by omega) (by omega) hn)
  ·have hki : k ≠ i := fun e => by subst e; rw [hm] at hn; injection hn with hn; injection hn with _ hn; cases hn
   simp only [hki, if_false]
   exact hI.nohard k n hn
 split at hrest
 ·rename_i hw
  rw [hw]
  simp only
  have hsim := soft_sim hrest.1 hmore hI.tg (fun t ht => mem_tsOf (List.mem_of_getElem? hm) ht) hrest.2
  refine vstep_mono (fun X' ⟨Y', κ, r, hK, hL⟩ => ⟨Y'.kd m.dst (osOf ms), ?_⟩) hsim
  refine go κ (r.keep (poL (osOf ms)) fun _ => true) _ _ (fun t => ?_) (fun t => ?_) (fun o => by rw [kd_box, hL.bx]) (fun o => by rw [kd_box, hL.yb]) (fun t => by rw [kd_tag, kd_tag, hL.tg]) (fun t ht => by rw [kd_tag]; exact hL.live t ht) hL.id hL.or (keep_avoids _ _ _) hK
  ·rw [kd_get, hL.x]; by_cases e : m.dst = some t <;> simp [e]
  ·rw [kd_get, hL.y]; by_cases e : m.dst = some t <;> simp [e]
 ·rename_i hw
  rw [hw]
  refine ⟨Y.put m.dst (.val undef), go (fun d => d) (.val undef) _ _ (fun t => by rw [put_get']; simp) (fun t => by rw [put_get']; simp) (fun o => by rw [put_box']; simp) (fun o => by rw [put_box']; simp) (fun t => by rw [put_tag', put_tag', hI.tg]) (fun t ht => by rw [put_tag']; exact ht) (fun _ _ => rfl) (fun _ => .inl rfl) rfl hrest⟩
 ·exact hrest.elim
theorem all_soft {S0 : St} {ds : Nat → D} {E : Nat → Bool} {j : Nat} (hok : Draw2Ok ops ms) (hst : Start P ms S0 ds) (hI : Inv1 P ms S0 ds K E j X Y) (hall : ∀ (k : Nat) (m : MO × DK), ms[k]? = some m → m.2 ≠ .h → E k = true) (hS : SR w0 W F0 V N g X a w) :
    ∃ Y3, SR w0 W F0 V N g Y3 a w ∧ evK P .h ms Y3 K := by
 have h1 : evK P .a ms Y fun S3 => evK P .h ms S3 K := evS_none (fun k m hm hk => by
  rw [List.getElem?_drop] at hm
  obtain ⟨m, κ⟩ := m
  simp only at hk; subst hk
  have := (hI.soft (j + k) m hm).1 (hall _ _ hm (by simp))
  omega) hI.rest
 obtain ⟨Y3, k1, k2, k3, k4, k5⟩ := evA_run ms Y hI.yav (fun o cs hb x hx => by
  rw [hI.yb] at hb
  exact avoids_mono (fun _ h => h) (fun _ _ => rfl) x ((hst.box o cs hb).2 x hx)) hok.uniq hok.alloc h1
 refine ⟨Y3, hS.sub (fun t d hd => ?_) (fun o cs hb => ?_) (fun t x ht => by rw [hI.tg, ← k4]; exact ht), k1⟩
 ·by_cases hos : t ∈ osOf ms
  ·obtain ⟨m, hmem, hdst⟩ := mem_osOf.1 hos
   obtain ⟨i, hi, him⟩ := List.mem_iff_getElem.1 hmem
   have hget : ms[i]? = some (m, .a) := by rw [List.getElem?_eq_getElem hi, him]
   obtain ⟨ty, z, d', e1, -⟩ := hok.alloc i _ hget rfl
   simp only at e1; subst e1
   simp only [Option.some.injEq] at hdst; subst hdst
   rw [(k5 i ty z d' hget).1] at hd
   rw [(hI.xa i ty z d' hget (hall _ _ hget (by simp))).1]; exact hd
  ·rw [k2 t hos] at hd
   by_cases hs : ∃ (k : Nat) (m : MO), ms[k]? = some (m, DK.s) ∧ m.dst = some t
   ·obtain ⟨k, m, e1, e2⟩ := hs
    rw [hI.xs k m t e1 e2]; exact hd
   ·have hfr : free ms t := fun k m hm hk hdd => by
      obtain ⟨m, κ⟩ := m
      rcases hk with hk | hk
      ·simp only at hk; subst hk; exact hs ⟨k, m, hm, hdd⟩
      ·simp only at hk; subst hk; exact hos (mem_osOf.2 ⟨m, List.mem_of_getElem? hm, hdd⟩)
    rw [hI.xq t hfr]
    rw [hI.yq t hfr] at hd
    rw [← hd]
    congr 1
    refine stE_congr2 _ (fun k hk => ?_)
    unfold dstQ
    split
    ·rename_i m hm
     exact .inl (hall k _ hm (by simp))
    ·exact .inr rfl
 ·by_cases hos : o ∈ osOf ms
  ·obtain ⟨m, hmem, hdst⟩ := mem_osOf.1 hos
   obtain ⟨i, hi, him⟩ := List.mem_iff_getElem.1 hmem
   have hget : ms[i]? = some (m, .a) := by rw [List.getElem?_eq_getElem hi, him]
   obtain ⟨ty, z, d', e1, -⟩ := hok.alloc i _ hget rfl
   simp only at e1; subst e1
   simp only [Option.some.injEq] at hdst; subst hdst
   rw [(k5 i ty z d' hget).2] at hb
   rw [(hI.xa i ty z d' hget (hall _ _ hget (by simp))).2]; exact hb
  ·rw [k3 o hos, hI.yb] at hb
   rw [hI.xb o (by simpa [poL] using hos)]; exact hb
theorem draw2_any {Q : Exit → Act → World → Prop} {S0 : St} {ds : Nat → D} (hc : compOps P ops ops.toList = some ((ms.map (·.1)).map MO.strip)) (hok : Draw2Ok ops ms) (hd : (ms.map (·.1)).all (dstOk N) = true) (hst : Start P ms S0 ds)
    (hQ : ∀ g' S' a' w', SR w0 W F0 V N g' S' a' w' → K S' → Q .normal a' w') : ∀ (fuel : Nat) (listed : Array Bool) (a : Act) (w : World), listed.size = ops.size → (List.range ops.size).countP (fun k => !listed.getD k false) = fuel →
    Closed ops (fun i => listed.getD i false) →
    ((∃ g j X Y, SR w0 W F0 V N g X a w ∧ Inv1 P ms S0 ds K (fun i => listed.getD i false) j X Y) ∨
     (∃ j g S', (∀ (i : Nat) (m : MO × DK), ms[i]? = some m → (listed.getD i false = true ↔ (m.2 ≠ .h ∨ i < j))) ∧ SR w0 W F0 V N g S' a w ∧ evK P .h (ms.drop j) S' K)) →
    wpAny P .any ops Q fuel listed a w := by
 obtain ⟨hlen0, hget0⟩ := compOps_get hc
 have hml : ms.length = ops.size := hok.len
 have hget : ∀ (i : Nat) (o : Oper) (m : MO × DK), ops[i]? = some o → ms[i]? = some m → compO P ops o = some m.1.strip := fun i o m ho hm => hget0 i o m.1 (by simpa using ho) (by simp [hm])
 intro fuel
 induction fuel with
 | zero =>
  intro listed a w hsz hcnt hclosed hinv
  have hall : ∀ i, i < ops.size → listed.getD i false = true := fun i hi => by
   have := List.countP_eq_zero.1 hcnt i (List.mem_range.2 hi)
   simpa using this
  have hallm : ∀ (k : Nat) (m : MO × DK), ms[k]? = some m → listed.getD k false = true := fun k m hm => hall k (by rw [← hml]; exact (List.getElem?_eq_some_iff.1 hm).1)
  have fin : Q .normal a w := by
   rcases hinv with ⟨g, j, X, Y, h1, h2⟩ | ⟨j, g, S', h1, h2, h3⟩
   ·obtain ⟨Y3, e1, e2⟩ := all_soft hok hst h2 (fun k m hm _ => hallm k m hm) h1
    refine hQ g _ a w e1 (evK_none (fun k m hm hk => ?_) e2)
    obtain ⟨m, κ⟩ := m
    simp only at hk; subst hk
    have := h2.nohard k m hm
    simp only [hallm k _ hm] at this; cases this
   ·refine hQ g _ a w h2 (evK_none (fun k m hm hk => ?_) h3)
    rw [List.getElem?_drop] at hm
    have := (h1 _ m hm).1 (hallm _ _ hm)
    rcases this with h | h
    ·exact h hk
    ·omega
  refine ⟨?_, fin⟩
  cases hr : Region.ready .any ops listed with
  | nil => rfl
  | cons i l =>
   have hi : i ∈ Region.ready .any ops listed := by rw [hr]; simp
   obtain ⟨h1, o, ho, _⟩ := mem_ready.1 hi
   have hlt : i < ops.size := (Array.getElem?_eq_some_iff.1 ho).1
   have := hall i hlt
   rw [Array.getD_eq_getD_getElem?] at this h1
   rw [Array.getElem?_eq_getElem (by omega)] at this h1
   simp only [Option.getD_some] at h1 this
   rw [this] at h1; cases h1
 | succ fuel ih =>
  intro listed a w hsz hcnt hclosed hinv
  refine ⟨fun hr => ?_, fun i hi => ?_⟩
  ·exfalso
   have hall : ∀ n i, i < n → i < ops.size → listed.getD i false = true := by
    intro n
    induction n with
    | zero => intro i hi; omega
    | succ n ihn =>
     intro i hi hlt
     by_cases hin : i < n
     ·exact ihn i hin hlt
     ·have hin : i = n := by omega
      subst hin
      cases hli : listed.getD i false with
      | true => rfl
      | false =>
       exfalso
       have : i ∈ Region.ready .any ops listed := by
        refine mem_ready.2 ⟨?_, ops[i], Array.getElem?_eq_getElem hlt, fun e he hb => ?_⟩
        ·rw [Array.getD_eq_getD_getElem?, Array.getElem?_eq_getElem (by omega)] at hli ⊢
         exact hli
        ·have hdn := hok.down i ops[i] e (Array.getElem?_eq_getElem hlt) he hb
         exact ihn e.on hdn (by omega)
       rw [hr] at this; simp at this
   have : (List.range ops.size).countP (fun k => !listed.getD k false) = 0 := List.countP_eq_zero.2 (fun i hi => by
    have := hall (i + 1) i (by omega) (List.mem_range.1 hi)
    simp [this])
   omega
  ·obtain ⟨h1, o, ho, hedges⟩ := mem_ready.1 hi
   have hlt : i < ops.size := (Array.getElem?_eq_some_iff.1 ho).1
   have hli : listed.getD i false = false := by
    rw [Array.getD_eq_getD_getElem?, Array.getElem?_eq_getElem (by omega)] at h1 ⊢
    exact h1
   have hgd : ∀ k, (listed.setIfInBounds i true).getD k false = if k = i then true else listed.getD k false := fun k => set_get _ _ _ (by omega)
   have hcnt' : (List.range ops.size).countP (fun k => !(listed.setIfInBounds i true).getD k false) = fuel := by
    have := (count_set listed i (by omega) hli (List.range ops.size) List.nodup_range).1 (List.mem_range.2 hlt)
    omega
   have hclosed' : Closed ops (fun k => (listed.setIfInBounds i true).getD k false) := fun k o' e hk ho' he hb => by
    simp only [hgd] at hk ⊢
    split
    ·rfl
    ·split at hk
     ·rename_i hki; subst hki
      rw [ho] at ho'; injection ho' with ho'; subst ho'
      exact hedges e he hb
     ·exact hclosed k o' e hk ho' he hb
   have hbef : ∀ k, Bef ops i k → listed.getD k false = true := fun k hb => hb.ready (E := fun k => listed.getD k false) hclosed (fun o' e ho' he hbb => by
    rw [ho] at ho'; injection ho' with ho'; subst ho'
    exact hedges e he hbb)
   have hcl : ∀ k, Bef ops k i → listed.getD k false = false := fun k hb => by
    cases hEk : listed.getD k false with
    | false => rfl
    | true =>
     have := hb.listed (E := fun k => listed.getD k false) hclosed hEk
     rw [hli] at this; cases this
   have hm : ms[i]? = some (ms[i]'(by omega)) := List.getElem?_eq_getElem (by omega)
   have hcm := hget i o _ ho hm
   have hdm : dstOk N (ms[i]'(by omega)).1 = true := List.all_eq_true.1 hd _ (List.mem_map.2 ⟨_, List.getElem_mem (by omega), rfl⟩)
   generalize ms[i]'(by omega) = mk at hm hcm hdm
   obtain ⟨m, κ⟩ := mk
   simp only at hcm hdm
   have hset : (fun k => (listed.setIfInBounds i true).getD k false) = fun k => if k = i then true else listed.getD k false := funext hgd
   -- the first hard one, or a later one
   have runh : ∀ (j : Nat) (g : Gh) (S' : St), κ = .h → (∀ (k : Nat) (n : MO × DK), ms[k]? = some n → (listed.getD k false = true ↔ (n.2 ≠ .h ∨ k < j))) → SR w0 W F0 V N g S' a w → evK P .h (ms.drop j) S' K →
       wpOp P ops Q i (wpAny P .any ops Q fuel (listed.setIfInBounds i true)) a w := fun j g S' hκ hl hS hv => by
    subst hκ
    have hij : j ≤ i := by
     by_cases h : i < j
     ·have := (hl i _ hm).2 (.inr h); rw [hli] at this; cases this
     ·omega
    have hgap : ∀ (k : Nat) (n : MO × DK), j ≤ k → k < i → ms[k]? = some n → n.2 ≠ .h := fun k n h1 h2 hn hk => by
     have := (hl k n hn).1 (hbef k (hok.hard k i n _ hn hm rfl (.inr h2)))
     rcases this with h | h
     ·exact h hk
     ·omega
    have hv' := evK_skip (ms.drop j) (i - j) S' (fun k n hk hn => hgap (j + k) n (by omega) (by omega) (by rw [List.getElem?_drop] at hn; exact hn)) hv
    rw [List.drop_drop, show j + (i - j) = i by omega, drop_at hm] at hv'
    simp only [evK, if_true] at hv'
    refine wpOp_mono (fun a' w' ⟨g', S'', e1, e2⟩ => ?_) (evOp_sound (P := P) (ops := ops) (Q := Q) (K := fun S' => evK P .h (ms.drop (i + 1)) S' K) hS ho hcm hdm hv')
    refine ih _ a' w' (by simpa using hsz) hcnt' hclosed' (.inr ⟨i + 1, g', S'', fun k n hn => ?_, e1, e2⟩)
    rw [hgd]
    by_cases hki : k = i
    ·subst hki; simp
    ·rw [if_neg hki, hl k n hn]
     constructor
     ·rintro (h | h)
      ·exact .inl h
      ·exact .inr (by omega)
     ·rintro (h | h)
      ·exact .inl h
      ·by_cases hkj : k < j
       ·exact .inr hkj
       ·exact .inl (hgap k n (by omega) (by omega) hn)
   rcases hinv with ⟨g, j, X, Y, hS, hI⟩ | ⟨j, g, S', hB1, hB2, hB3⟩
   ·cases κ with
    | q =>
     obtain ⟨hs, hmore, hwant, hI'⟩ := step_q hok hst hI hm hli hbef hcl
     obtain ⟨c1, c2, c3⟩ := compO_spec hcm
     replace c2 : m.dst = o.dst := c2
     obtain ⟨d1, d2⟩ := dst_ok hdm
     have next : ∀ a' w', (∃ g', SR w0 W F0 V N g' (X.put m.dst (ds i)) a' w') → wpAny P .any ops Q fuel (listed.setIfInBounds i true) a' w' := fun a' w' ⟨g', hsr⟩ => by
      refine ih _ a' w' (by simpa using hsz) hcnt' hclosed' (.inl ⟨g', j, _, Y, hsr, ?_⟩)
      rw [hset]; exact hI'
     unfold wpOp
     simp only [ho]
     rcases hst.val i m hm with ⟨hw, d0, hqv, he⟩ | ⟨hw, hu⟩
     ·have hwt := want_sound (m := m.strip) hS.core hcm (hwant ▸ hw)
      simp only [hwt, if_true]
      left
      refine Oper.wp_mono (fun a' w' ⟨g', hh⟩ => next a' w' ⟨g', ?_⟩) (q_sound hS c1 (fun t ht => d1 t (by rw [c2]; exact ht)) (hmore.QV hqv))
      rw [← c2] at hh
      cases hdst : m.dst with
      | none => rw [hdst] at hh; exact hh
      | some t =>
       rw [hdst] at hh he
       replace he := he.resolve_left (by simp)
       rw [he]
       have h2 := hh.weaken (t := t) (d := d0) (by rw [put_get', if_pos rfl]) (poL (osOf ms)) (ptL (tsOf ms))
       exact h2.sub (fun t' d' hd' => by
        rw [put_get'] at hd' ⊢
        rw [put_get']
        by_cases e : some t = some t'
        ·rw [if_pos e] at hd' ⊢; exact hd'
        ·rw [if_neg e] at hd'; rw [if_neg e, if_neg e]; exact hd') (fun o' c' hc' => by rw [put_box'] at hc'; rw [put_box', put_box']; exact hc') (fun t' x' hx' => by rw [put_tag'] at hx'; rw [put_tag', put_tag']; exact hx')
     ·have hwt := want_sound (m := m.strip) hS.core hcm (hwant ▸ hw)
      simp only [hwt, Bool.false_eq_true, if_false]
      rw [← c2]
      exact next _ _ ⟨g, hS.put d1 (by rw [hu]; exact .fz _ _ (.val _))⟩
    | s =>
     have hstep := step_s hok hst hI hm hli hbef hcl
     have hv : match want X m.guard with
      | some true => vstep P m.op m.dst X fun X' => ∃ X1 Y', (X1 = X'.kd m.dst (osOf ms) ∨ X1 = X') ∧ Inv1 P ms S0 ds K (fun k => if k = i then true else listed.getD k false) (i + 1) X1 Y'
      | some false => ∃ X1 Y', (X1 = (X.put m.dst (.val undef)).kd m.dst (osOf ms) ∨ X1 = X.put m.dst (.val undef)) ∧ Inv1 P ms S0 ds K (fun k => if k = i then true else listed.getD k false) (i + 1) X1 Y'
      | none => False := by
      split at hstep
      ·rename_i hw
       exact vstep_mono (fun X' ⟨Y', h⟩ => ⟨_, Y', .inl rfl, h⟩) hstep
      ·obtain ⟨Y', h⟩ := hstep
       exact ⟨_, Y', .inr rfl, h⟩
      ·exact hstep.elim
     refine wpOp_mono (fun a' w' ⟨g', X', e1, X1, Y', e2, e3⟩ => ?_) (evOp_sound (P := P) (ops := ops) (Q := Q) (K := fun X' => ∃ X1 Y', (X1 = X'.kd m.dst (osOf ms) ∨ X1 = X') ∧ Inv1 P ms S0 ds K (fun k => if k = i then true else listed.getD k false) (i + 1) X1 Y') hS ho hcm hdm hv)
     refine ih _ a' w' (by simpa using hsz) hcnt' hclosed' (.inl ⟨g', i + 1, X1, Y', ?_, ?_⟩)
     ·rcases e2 with e2 | e2
      ·rw [e2]; exact e1.kd _ _
      ·rw [e2]; exact e1
     ·rw [hset]; exact e3
    | a =>
     obtain ⟨ty, z, d, e1, e2⟩ := hok.alloc i _ hm rfl
     simp only at e1; subst e1
     have hI' := step_a hok hst hI hm
     refine wpOp_mono (fun a' w' ⟨g', X', e3, e4⟩ => ?_) (evOp_sound (P := P) (ops := ops) (Q := Q) (K := fun X' => X' = (X.newBox d z).put (some d) (.ptr d 0)) hS ho hcm hdm (by
      simp only [want, vstep]
      rw [nameless_keep e2]))
     subst e4
     refine ih _ a' w' (by simpa using hsz) hcnt' hclosed' (.inl ⟨g', j, _, Y, e3, ?_⟩)
     rw [hset]; exact hI'
    | h =>
     have hallb : ∀ (k : Nat) (n : MO × DK), ms[k]? = some n → n.2 ≠ .h → listed.getD k false = true := fun k n hn hk => hbef k (hok.hard k i n _ hn hm rfl (.inl hk))
     obtain ⟨Y3, e1, e2⟩ := all_soft hok hst hI hallb hS
     refine runh 0 g Y3 rfl (fun k n hn => ⟨fun hl => .inl (fun hk => ?_), fun hl => ?_⟩) e1 (by simpa using e2)
     ·obtain ⟨n, κ'⟩ := n
      simp only at hk; subst hk
      have := hI.nohard k n hn
      simp only [hl] at this; cases this
     ·rcases hl with hl | hl
      ·exact hallb k n hn hl
      ·omega
   ·have hκ : κ = .h := by
      cases κ with
      | h => rfl
      | q => have := (hB1 i _ hm).2 (.inl (by simp)); rw [hli] at this; cases this
      | s => have := (hB1 i _ hm).2 (.inl (by simp)); rw [hli] at this; cases this
      | a => have := (hB1 i _ hm).2 (.inl (by simp)); rw [hli] at this; cases this
    exact runh j g S' hκ hB1 hB2 hB3
def drawB2 (ops : Array Oper) (ms : List (MO × DK)) : Bool :=
 let mk := masks ops.toList []
 let n := ops.size
 (ms.length == n) && downB ops.toList 0 &&
 allB (fun i => match ms[i]? with
  | some m => (match m.2 with
      | .a => (match m.1 with
       | ⟨some _, .alloc _ z, none⟩ => z.all fun x => x.avoids (fun _ => false) (fun _ => false)
       | _ => false)
      | _ => true) &&
   allB (fun k => match ms[k]? with
   | some o => (match o.1.dst with
       | some t => (i == k || !(m.1.dst == some t)) && (!m.1.readT.contains t || ((!decide (k < i) || bitAt mk i k) && (!decide (i < k) || bitAt mk k i) &&
           (match m.2, o.2 with
            | .q, .q => true
            | .q, _ => false
            | .s, .q => decide (k < i)
            | .s, .s => true
            | .s, _ => false
            | _, _ => true)))
       | none => true) &&
    (match m.2, o.2 with
     | .s, .s => !decide (i < k) || bitAt mk k i
     | .h, .h => !decide (i < k) || bitAt mk k i
     | .h, _ => true
     | _, .h => bitAt mk k i
     | _, _ => true)
   | none => true) n
  | none => true) n
theorem drawB2_ok (h : drawB2 ops ms = true) : Draw2Ok ops ms := by
 simp only [drawB2, Bool.and_eq_true, beq_iff_eq] at h
 obtain ⟨⟨h1, h2⟩, h3⟩ := h
 have lt : ∀ {i : Nat} {m : MO × DK}, ms[i]? = some m → i < ops.size := fun hm => by rw [← h1]; exact (List.getElem?_eq_some_iff.1 hm).1
 have pair := fun (i k : Nat) (m n : MO × DK) (hm : ms[i]? = some m) (hn : ms[k]? = some n) => by
  have e1 := allB_at h3 i (lt hm)
  simp only [hm, Bool.and_eq_true] at e1
  have e2 := allB_at e1.2 k (lt hn)
  simp only [hn, Bool.and_eq_true] at e2
  exact e2
 refine ⟨h1, fun i o e ho he hb => ?_, fun i k m n t hm hn hd hd' => ?_, fun i k m n t hm hn ht hd => ?_, fun i k m n t hm hn ht hd => ?_, fun i j m n hij hm hn hk hk' => ?_, fun i j m n hm hn hk hk' => ?_, fun i m hm hk => ?_⟩
 ·have := downB_at h2 i o (by simpa using ho) e he hb
  omega
 ·have e := (pair i k m n hm hn).1
  simp only [hd', hd, Bool.and_eq_true, Bool.or_eq_true, beq_iff_eq] at e
  simpa using e.1
 ·have e := (pair i k m n hm hn).1
  simp only [hd] at e
  have hc' : m.1.readT.contains t = true := by simpa using ht
  rw [hc'] at e
  simp only [Bool.not_true, Bool.false_or, Bool.and_eq_true, Bool.or_eq_true, Bool.not_eq_true', decide_eq_false_iff_not] at e
  refine ⟨fun hki => ?_, fun hik => ?_⟩
  ·rcases e.2.1.1 with e1 | e1
   ·exact absurd hki e1
   ·exact bitAt_bef e1
  ·rcases e.2.1.2 with e1 | e1
   ·exact absurd hik e1
   ·exact bitAt_bef e1
 ·have e := (pair i k m n hm hn).1
  simp only [hd] at e
  have hc' : m.1.readT.contains t = true := by simpa using ht
  rw [hc'] at e
  simp only [Bool.not_true, Bool.false_or, Bool.and_eq_true] at e
  have e2 := e.2.2
  refine ⟨fun hq => ?_, fun hs => ?_⟩
  ·rw [hq] at e2
   cases hn2 : n.2 <;> rw [hn2] at e2 <;> first | rfl | cases e2
  ·rw [hs] at e2
   cases hn2 : n.2 <;> rw [hn2] at e2
   ·exact .inl ⟨rfl, by simpa using e2⟩
   ·exact .inr rfl
   ·cases e2
   ·cases e2
 ·have e := (pair i j m n hm hn).2
  simp only [hk, hk', Bool.or_eq_true, Bool.not_eq_true', decide_eq_false_iff_not] at e
  rcases e with e | e
  ·exact absurd hij e
  ·exact bitAt_bef e
 ·have e := (pair i j m n hm hn).2
  rw [hk] at e
  cases hm2 : m.2 <;> rw [hm2] at e
  ·exact bitAt_bef e
  ·exact bitAt_bef e
  ·exact bitAt_bef e
  ·simp only [Bool.or_eq_true, Bool.not_eq_true', decide_eq_false_iff_not] at e
   rcases hk' with hk' | hk'
   ·exact absurd hm2 hk'
   ·rcases e with e | e
    ·exact absurd hk' e
    ·exact bitAt_bef e
 ·have e1 := allB_at h3 i (lt hm)
  simp only [hm, Bool.and_eq_true] at e1
  have e2 := e1.1
  rw [hk] at e2
  obtain ⟨m, κ⟩ := m
  simp only at e2 hk
  split at e2
  ·exact ⟨_, _, _, rfl, fun x hx => List.all_eq_true.1 e2 x hx⟩
  ·cases e2
theorem drawB2_strip (h : drawB2 ops (ms.map fun x => (x.1.strip, x.2)) = true) : Draw2Ok ops ms := by
 have hd := drawB2_ok (ms := ms.map fun x => (x.1.strip, x.2)) h
 have hget : ∀ {i : Nat} {m : MO × DK}, ms[i]? = some m → (ms.map fun x => (x.1.strip, x.2))[i]? = some (m.1.strip, m.2) := fun hm => by simp [hm]
 refine ⟨by simpa using hd.len, hd.down, fun i k m n t hm hn h1 h2 => hd.uniq i k _ _ t (hget hm) (hget hn) h1 h2, fun i k m n t hm hn h1 h2 => hd.wait i k _ _ t (hget hm) (hget hn) (by rw [readT_strip]; exact h1) h2,
  fun i k m n t hm hn h1 h2 => hd.sep i k (m.1.strip, m.2) (n.1.strip, n.2) t (hget hm) (hget hn) (by rw [readT_strip]; exact h1) h2, fun i j m n hij hm hn h1 h2 => hd.soft i j _ _ hij (hget hm) (hget hn) h1 h2, fun i j m n hm hn h1 h2 => hd.hard i j _ _ (hget hm) (hget hn) h1 h2, fun i m hm h1 => ?_⟩
 obtain ⟨t, z, d, e1, e2⟩ := hd.alloc i _ (hget hm) h1
 obtain ⟨⟨dst, op, gd⟩, κ⟩ := m
 simp only [MO.strip, MO.mk.injEq] at e1
 obtain ⟨h3, h4, h5⟩ := e1
 cases op <;> simp only [MOp.strip] at h4
 case alloc t' z' =>
  injection h4 with h6 h7
  subst h7
  refine ⟨t', z', d, ?_, fun x hx => ?_⟩
  ·simp only [h3, h5]
  ·have := e2 (nilD x) (List.mem_map.2 ⟨x, hx, rfl⟩)
   unfold nilD at this
   split at this
   ·rfl
   ·exact this
 case xop k => cases k <;> cases h4
 all_goals cases h4
theorem draw2_sound {id : Nat} {Q : Exit → Act → World → Prop} (hm : P.follows .mixedOrders = true) (hc : compOps P ops ops.toList = some ((ms.map (·.1)).map MO.strip)) (hd : (ms.map (·.1)).all (dstOk N) = true) (hB : drawB2 ops (ms.map fun x => (x.1.strip, x.2)) = true)
    (hS : SR w0 W F0 V N g S a w) (hv : evDraw2 P ms S K) (hQ : ∀ g' S' a' w', SR w0 W F0 V N g' S' a' w' → K S' → Q .normal a' w') : (Code.region id ops true).wp P Q a w := by
 have hok := drawB2_strip hB
 obtain ⟨ds, h1, h2, h3⟩ := evQ_values ms _ hv
 have hS0 := (hS.cut (osOf ms) (tsOf ms)).drew (w.drawn + 1) (Nat.le_succ _)
 refine wp_region_any hm ?_
 have hf : ∀ j, (Array.replicate ops.size false).getD j false = false := fun j => by
  rw [Array.getD_eq_getD_getElem?]
  by_cases hj : j < ops.size
  ·simp [hj]
  ·simp [hj]
 have s1 : ∀ t d, (S.cut (osOf ms) (tsOf ms)).get t = some d → d.avoids (poL (osOf ms)) (ptL (tsOf ms)) = true := fun t d hd => by
  rw [cut_get] at hd
  obtain ⟨d0, -, rfl⟩ := Option.map_eq_some_iff.1 hd
  exact keep_avoids _ _ _
 have s2 : ∀ o cs, (S.cut (osOf ms) (tsOf ms)).box o = some cs → poL (osOf ms) o = true ∧ ∀ x ∈ cs, x.avoids (poL (osOf ms)) (ptL (tsOf ms)) = true := fun o cs hb => by
  rw [cut_box] at hb
  split at hb
  ·rename_i ho
   obtain ⟨c0, -, rfl⟩ := Option.map_eq_some_iff.1 hb
   refine ⟨ho, fun x hx => ?_⟩
   obtain ⟨y, -, rfl⟩ := List.mem_map.1 hx
   exact keep_avoids _ _ _
  ·cases hb
 have none_of : ∀ (E : Nat → Bool) n, (∀ i, E i = false) → stE (S.cut (osOf ms) (tsOf ms)) (dstQ ms) ds E n = S.cut (osOf ms) (tsOf ms) := fun E n hE => by
  induction n with
  | zero => rfl
  | succ n ih => simp [stE, ih, hE]
 refine draw2_any hc hok hd (S0 := S.cut (osOf ms) (tsOf ms)) (ds := ds) ⟨s1, s2, h1, h2⟩ hQ ops.size _ a _ (by simp) ?_ (fun i o e hi => ?_) (.inl ⟨g, 0, S.cut (osOf ms) (tsOf ms), stE (S.cut (osOf ms) (tsOf ms)) (dstQ ms) ds (fun _ => true) ms.length, hS0, ?_⟩)
 ·rw [List.countP_eq_length.2 (fun k _ => by rw [hf]; rfl)]; simp
 ·replace hi : (Array.replicate ops.size false).getD i false = true := hi
  rw [hf] at hi; cases hi
 ·refine ⟨fun t _ => ?_, fun k m t hn hd' => ?_, fun k ty z t _ hE => ?_, fun o _ => rfl, fun t => (stE_tag _ _).symm, fun t _ => rfl, fun o => stE_box _ _, fun t ht => by rw [stE_tag]; exact ht, fun t d hd' => ?_, fun k m _ => ⟨fun hE => ?_, fun h => by omega⟩, by simpa using h3, fun k m _ => hf k⟩
  ·rw [none_of _ _ hf]
  ·rw [stE_none ms.length (fun x hx _ hxt => by
     obtain ⟨m', e1, e2⟩ := dstQ_some hxt
     have := hok.uniq x k _ _ t e1 hn e2 hd'
     subst this; rw [hn] at e1; injection e1 with e1; injection e1 with _ e1; cases e1)]
  ·rw [hf] at hE; cases hE
  ·exact avoids_mono (fun _ h => h) (fun _ _ => rfl) d (stE_avoids s1 h1 _ t d hd')
  ·rw [hf] at hE; cases hE
end Go.Vm
