/- The value machine, 16: a statement's operations, in the order of the text. -/
import Derived.Test.YtncekmflajjmkaaVm15
import Derived.Still
namespace Go.Vm
open Go.RowKit
variable {P : Program} {w0 w w' : World} {W F0 : Reg} {V : Tag → Option Value} {N : Nat} {g g' : Gh} {S S' : St} {a : Act} {tm : Array Value} {K : St → Prop}

def MO.strip (m : MO) : MO := { m with op := m.op.strip }

/-- Does an operation take place? -/
def want (S : St) : Option (Nat × Bool) → Option Bool
  | none => some true
  | some (t, b) => match S.get t with
    | some (.val (.bool c)) => some (c == b)
    | some (.val (.tuple _)) => some false
    | _ => none

def evOps (P : Program) : List MO → St → (St → Prop) → Prop
  | [], S, K => K S
  | o :: rest, S, K => match want S o.guard with
    | some true => vstep P o.op o.dst S fun S' => evOps P rest S' K
    | some false => evOps P rest (S.put o.dst (.val undef)) K
    | none => False

def compOps (P : Program) (ops : Array Oper) : List Oper → Option (List MO)
  | [] => some []
  | o :: l => match compO P ops o, compOps P ops l with
    | some m, some ms => some (m :: ms)
    | _, _ => none

/-- The slots are there; a store has none. -/
def dstOk (N : Nat) (m : MO) : Bool := m.dst.all (fun t => decide (t < N)) && (match m.op with | .store .. => m.dst.isNone | _ => true)

theorem compO_spec {ops : Array Oper} {o : Oper} {m : MO} (h : compO P ops o = some m) : compOp P o = some m.op ∧ m.dst = o.dst ∧
    ((o.guard = none ∧ m.guard = none) ∨ ∃ j b go t, o.guard = some (j, b) ∧ ops[j]? = some go ∧ go.dst = some t ∧ m.guard = some (t, b)) := by
  unfold compO at h
  split at h
  · rename_i mo hmo
    split at h
    · rename_i hg
      injection h with h; subst h
      exact ⟨hmo, rfl, .inl ⟨hg, rfl⟩⟩
    · rename_i j b hg
      split at h
      · rename_i go hgo
        split at h
        · rename_i t ht
          injection h with h; subst h
          exact ⟨hmo, rfl, .inr ⟨j, b, go, t, hg, hgo, ht, rfl⟩⟩
        · cases h
      · cases h
  · cases h

theorem want_sound (h : Core g S a.tmps w) {ops : Array Oper} {o : Oper} {m : MO} (hc : compO P ops o = some m) {c : Bool} (hw : want S m.guard = some c) : Region.wanted o (yielded ops a.tmps) = c := by
  obtain ⟨h1, h2, h3⟩ := compO_spec hc
  rcases h3 with ⟨hg, hm⟩ | ⟨j, b, go, t, hg, hgo, ht, hm⟩
  · rw [hm] at hw
    simp only [want, Option.some.injEq] at hw
    simp [Region.wanted, hg, hw]
  · rw [hm] at hw
    simp only [want] at hw
    have hy : yielded ops a.tmps j = match a.tmps[t]? with | some (.bool c) => some c | _ => none := by
      simp only [yielded, hgo, Option.bind_some, ht]
      cases a.tmps[t]? with
      | none => rfl
      | some v => cases v <;> rfl
    split at hw
    · rename_i c' hget
      have hv := (h.env t _ hget).val_inv
      rw [Array.getD_eq_getD_getElem?] at hv
      injection hw with hw
      cases hq : a.tmps[t]? with
      | none => rw [hq] at hv; simp [undef] at hv
      | some v =>
        rw [hq] at hv
        simp only [Option.getD_some] at hv
        subst hv
        rw [hq] at hy
        simp only [Region.wanted, hg, hy, ← hw]
        cases c' <;> cases b <;> rfl
    · rename_i vs hget
      have hv := (h.env t _ hget).val_inv
      rw [Array.getD_eq_getD_getElem?] at hv
      injection hw with hw
      have : yielded ops a.tmps j = none := by
        rw [hy]
        cases hq : a.tmps[t]? with
        | none => rfl
        | some v =>
          rw [hq] at hv
          simp only [Option.getD_some] at hv
          subst hv
          rfl
      simp only [Region.wanted, hg, this, ← hw]
      rfl
    · cases hw

theorem dst_ok {m : MO} (h : dstOk N m = true) : (∀ t, m.dst = some t → t < N) ∧ (∀ sz x v, m.op = .store sz x v → m.dst = none) := by
  simp only [dstOk, Bool.and_eq_true] at h
  refine ⟨fun t ht => ?_, fun sz x v hm => ?_⟩
  · have := h.1
    rw [ht] at this
    simpa using this
  · have := h.2
    rw [hm] at this
    simpa using this

/-- One operation of a statement, wanted or not. -/
theorem evOp_sound (h : SR w0 W F0 V N g S a w) {ops : Array Oper} {Q : Exit → Act → World → Prop} {i : Nat} {o : Oper} {m : MO} (hi : ops[i]? = some o) (hc : compO P ops o = some m.strip) (hd : dstOk N m = true)
    (hv : match want S m.guard with | some true => vstep P m.op m.dst S K | some false => K (S.put m.dst (.val undef)) | none => False) :
    wpOp P ops Q i (fun a' w' => ∃ g' S', SR w0 W F0 V N g' S' a' w' ∧ K S') a w := by
  obtain ⟨h1, h2, h3⟩ := compO_spec hc
  replace h2 : m.dst = o.dst := h2
  obtain ⟨d1, d2⟩ := dst_ok hd
  unfold wpOp
  simp only [hi]
  split at hv
  · rename_i hw
    have := want_sound (m := m.strip) h.core hc hw
    simp only [this, if_true]
    left
    rw [h2] at hv d1
    exact vstep_sound h h1 d1 (fun sz x v hm => by rw [← h2]; exact d2 sz x v hm) hv
  · rename_i hw
    have := want_sound (m := m.strip) h.core hc hw
    simp only [this, Bool.false_eq_true, if_false]
    rw [h2] at hv d1
    exact ⟨g, _, h.put d1 (.fz _ _ (.val _)), hv⟩
  · exact hv.elim

theorem compOps_get0 {ops : Array Oper} : ∀ {l : List Oper} {ms : List MO}, compOps P ops l = some ms → ms.length = l.length ∧ ∀ (i : Nat) (o : Oper) (m : MO), l[i]? = some o → ms[i]? = some m → compO P ops o = some m
  | [], ms, h => by
    simp only [compOps, Option.some.injEq] at h; subst h
    exact ⟨rfl, fun i o m ho => by simp at ho⟩
  | o :: l, ms, h => by
    simp only [compOps] at h
    split at h
    · rename_i m ms' h1 h2
      injection h with h; subst h
      obtain ⟨e1, e2⟩ := compOps_get0 h2
      refine ⟨by simp [e1], fun i o' m' ho hm => ?_⟩
      cases i with
      | zero => simp at ho hm; subst ho; subst hm; exact h1
      | succ i => exact e2 i o' m' (by simpa using ho) (by simpa using hm)
    · cases h

theorem compOps_get {ops : Array Oper} {l : List Oper} {ms : List MO} (h : compOps P ops l = some (ms.map MO.strip)) : ms.length = l.length ∧ ∀ (i : Nat) (o : Oper) (m : MO), l[i]? = some o → ms[i]? = some m → compO P ops o = some m.strip := by
  obtain ⟨h1, h2⟩ := compOps_get0 h
  exact ⟨by simpa using h1, fun i o m ho hm => h2 i o m.strip ho (by simp [hm])⟩

/-- A statement's operations, in the order of the text. -/
theorem ops_sound {ops : Array Oper} {Q : Exit → Act → World → Prop} {ms : List MO} (hc : compOps P ops ops.toList = some (ms.map MO.strip)) (hd : ms.all (dstOk N) = true) : ∀ (n k : Nat) (g : Gh) (S : St) (a : Act) (w : World), k + n = ops.size → SR w0 W F0 V N g S a w →
    evOps P (ms.drop k) S K → (∀ g' S' a' w', SR w0 W F0 V N g' S' a' w' → K S' → Q .normal a' w') → wpOps P ops Q (List.range' k n) a w := by
  obtain ⟨hl, hget⟩ := compOps_get hc
  intro n
  induction n with
  | zero =>
    intro k g S a w hk hS hv hQ
    have : ms.drop k = [] := List.drop_of_length_le (by simp at hl; omega)
    rw [this] at hv
    exact hQ g S a w hS hv
  | succ n ih =>
    intro k g S a w hk hS hv hQ
    have hkl : k < ms.length := by simp at hl; omega
    have hko : k < ops.size := by omega
    rw [List.drop_eq_getElem_cons hkl] at hv
    simp only [evOps] at hv
    rw [List.range'_succ, wpOps_cons]
    have hcm := hget k ops[k] ms[k] (by simp [hko]) (List.getElem?_eq_getElem hkl)
    have := evOp_sound (P := P) (ops := ops) (Q := Q) (K := fun S' => evOps P (ms.drop (k + 1)) S' K) hS (Array.getElem?_eq_getElem hko) hcm (List.all_eq_true.1 hd _ (List.getElem_mem hkl)) hv
    exact wpOp_mono (fun a' w' ⟨g', S', h1, h2⟩ => ih (k + 1) g' S' a' w' (by omega) h1 h2 hQ) this

theorem reg_sound {id : Nat} {ops : Array Oper} {Q : Exit → Act → World → Prop} {ms : List MO} (hc : compOps P ops ops.toList = some (ms.map MO.strip)) (hd : ms.all (dstOk N) = true) (hS : SR w0 W F0 V N g S a w) (hv : evOps P ms S K)
    (hQ : ∀ g' S' a' w', SR w0 W F0 V N g' S' a' w' → K S' → Q .normal a' w') : (Code.region id ops false).wp P Q a w := by
  refine wp_region ?_
  rw [List.range_eq_range']
  exact ops_sound hc hd ops.size 0 g S a w (by omega) hS (by simpa using hv) hQ

end Go.Vm
