/- The value machine, 13: one operation. -/
import Derived.Test.YtncekmflajjmkaaVm12c
namespace Go.Vm
open Go.RowKit
variable {P : Program} {w0 w w' : World} {W F0 : Reg} {V : Tag → Option Value} {N : Nat} {g g' : Gh} {S : St} {a : Act} {tm : Array Value} {K : St → Prop}

/-- What holds while a function's body runs. -/
structure SR (w0 : World) (W F0 : Reg) (V : Tag → Option Value) (N : Nat) (g : Gh) (S : St) (a : Act) (w : World) : Prop where
  core : Core g S a.tmps w
  wr : Wr w0.heap.size W g S
  keep : Keep W w0 w
  size : a.tmps.size = N
  defers : a.defers = []
  fext : ∀ b k, F0 b k → g.F b k
  fnew : ∀ b k, g.F b k → F0 b k ∨ w0.heap.size ≤ b ∨ W b k
  cap : N ≤ 999999
  pin : ∀ t ti, 999999 ≤ t.1 → g.τ t = some ti → V t = some ti.v

theorem SR.put (h : SR w0 W F0 V N g S a w) {dst : Option Nat} {d : D} {v : Value} (hd : ∀ t, dst = some t → t < N) (hr : Rep g w d v) : SR w0 W F0 V N g (S.put dst d) (a.put dst v) w := by
  have hc := h.core.put (dst := dst) (fun t ht => by rw [h.size]; exact hd t ht) hr
  cases dst with
  | none => exact h
  | some t =>
    refine ⟨hc, ⟨h.wr.box, h.wr.tag⟩, h.keep, ?_, h.defers, h.fext, h.fnew, h.cap, h.pin⟩
    show (a.tmps.setIfInBounds t v).size = N
    rw [Array.size_setIfInBounds]; exact h.size

/-- A call of frozen data: a contract. -/
def PureAt (P : Program) (k : FuncId) (ds : List D) (R : D → Prop) : Prop :=
  (∃ fn, P.funcs[k]? = some fn ∧ (fn.name == "runtime.NumGoroutine") = false ∧ fn.body.isNone = false) ∧
  ∀ (F : Reg) (w : World) (vs : Array Value), (∀ b j, F b j → b < w.heap.size) → vs.size = ds.length → (∀ (i : Nat) (d : D) (v : Value), ds[i]? = some d → vs[i]? = some v → RepF F w d v) →
    Calls P k vs w fun e w' => ∃ r v, e = .returned v ∧ R r ∧ RepF (fun b j => F b j ∨ (w.heap.size ≤ b ∧ b < w'.heap.size)) w' r v ∧ Keep (fun _ _ => False) w w'

theorem PureAt.mono {k : FuncId} {ds : List D} {R R' : D → Prop} (h : PureAt P k ds R) (hR : ∀ r, R r → R' r) : PureAt P k ds R' :=
  ⟨h.1, fun F w vs h1 h2 h3 => (h.2 F w vs h1 h2 h3).mono fun _ _ ⟨r, v, e1, e2, e3⟩ => ⟨r, v, e1, hR r e2, e3⟩⟩

/-- A call of frozen data whose outcome is a row of the caller's own. -/
def FreshAt (P : Program) (k : FuncId) (ds : List D) (e sz : Nat) (R : List (List D) → Prop) : Prop :=
  (∃ fn, P.funcs[k]? = some fn ∧ (fn.name == "runtime.NumGoroutine") = false ∧ fn.body.isNone = false) ∧
  ∀ (F : Reg) (w : World) (vs : Array Value), (∀ b j, F b j → b < w.heap.size) → vs.size = ds.length → (∀ (i : Nat) (d : D) (v : Value), ds[i]? = some d → vs[i]? = some v → RepF F w d v) →
    Calls P k vs w fun en w' => ∃ es v xs, en = .returned v ∧ R es ∧ w'.ownsRow 0 e sz v es.length xs ∧ (∀ u ∈ xs, u.oneCell' = true) ∧ (∀ b, v.ownBlock = some b → w.heap.size ≤ b) ∧ Keep (fun _ _ => False) w w' ∧
      (∀ (i : Nat) (l : List D), es[i]? = some l → l.length = sz) ∧
      ∀ (i : Nat) (l : List D) (j : Nat) (d : D), es[i]? = some l → l[j]? = some d → ∃ u, xs[i * sz + j]? = some u ∧ RepF (fun b j => F b j ∨ (w.heap.size ≤ b ∧ b < w'.heap.size ∧ v.ownBlock ≠ some b)) w' d u

theorem FreshAt.mono {k : FuncId} {ds : List D} {e sz : Nat} {R R' : List (List D) → Prop} (h : FreshAt P k ds e sz R) (hR : ∀ r, R r → R' r) : FreshAt P k ds e sz R' :=
  ⟨h.1, fun F w vs h1 h2 h3 => (h.2 F w vs h1 h2 h3).mono fun _ _ ⟨es, v, xs, e1, e2, e3⟩ => ⟨es, v, xs, e1, hR es e2, e3⟩⟩

/-- A call that makes its first argument's row over, in place. -/
def MutAt (P : Program) (k : FuncId) (e sz : Nat) (es : List (List D)) (ds : List D) (R : List (List D) → D → Prop) : Prop :=
  (∃ fn, P.funcs[k]? = some fn ∧ (fn.name == "runtime.NumGoroutine") = false ∧ fn.body.isNone = false) ∧
  ∀ (F : Reg) (w : World) (v : Value) (xs : List Value) (vs : Array Value), (∀ b j, F b j → b < w.heap.size) → w.ownsRow 0 e sz v es.length xs → (∀ u ∈ xs, u.oneCell' = true) → (∀ b, v.ownBlock = some b → ∀ j, ¬ F b j) →
    (∀ (i : Nat) (l : List D), es[i]? = some l → l.length = sz) → (∀ (i : Nat) (l : List D) (j : Nat) (d : D), es[i]? = some l → l[j]? = some d → ∃ u, xs[i * sz + j]? = some u ∧ RepF F w d u) →
    vs.size = ds.length → (∀ (i : Nat) (d : D) (v : Value), ds[i]? = some d → vs[i]? = some v → RepF F w d v) →
    Calls P k (#[v] ++ vs) w fun en w' => ∃ es' r u xs', en = .returned u ∧ R es' r ∧ RepF (fun b j => F b j ∨ (w.heap.size ≤ b ∧ b < w'.heap.size)) w' r u ∧ es'.length = es.length ∧ w'.ownsRow 0 e sz v es'.length xs' ∧
      (∀ u ∈ xs', u.oneCell' = true) ∧ Keep (fun b _ => v.ownBlock = some b) w w' ∧ (∀ (i : Nat) (l : List D), es'[i]? = some l → l.length = sz) ∧
      ∀ (i : Nat) (l : List D) (j : Nat) (d : D), es'[i]? = some l → l[j]? = some d → ∃ u, xs'[i * sz + j]? = some u ∧ RepF (fun b j => F b j ∨ (w.heap.size ≤ b ∧ b < w'.heap.size)) w' d u

theorem MutAt.mono {k : FuncId} {e sz : Nat} {es : List (List D)} {ds : List D} {R R' : List (List D) → D → Prop} (h : MutAt P k e sz es ds R) (hR : ∀ r d, R r d → R' r d) : MutAt P k e sz es ds R' :=
  ⟨h.1, fun F w v xs vs h1 h2 h3 h4 h5 h6 h7 h8 => (h.2 F w v xs vs h1 h2 h3 h4 h5 h6 h7 h8).mono fun _ _ ⟨es', r, u, xs', e1, e2, e3⟩ => ⟨es', r, u, xs', e1, hR es' r e2, e3⟩⟩

def chunk (sz : Nat) : Nat → List D → List (List D)
  | 0, _ => []
  | n + 1, cs => cs.take sz :: chunk sz n (cs.drop sz)

def rept {α : Type} (xs : List α) : Nat → List α
  | 0 => []
  | n + 1 => xs ++ rept xs n

/-- What an operation does to a state. -/
def vstep (P : Program) (m : MOp) (dst : Option Nat) (S : St) (K : St → Prop) : Prop :=
  match m with
  | .nilsl e sz => match dst with
    | some d => K ((S.newTag (d, e, sz) true).put dst (.sl (some (d, e, sz)) []))
    | none => False
  | .alloc _ zero => match dst with
    | some d => K ((S.newBox d (zero.map (D.keep (fun y => decide (y ≠ d)) fun _ => true))).put dst (.ptr d 0))
    | none => False
  | .box _ sz x => match dst, look S x with
    | some d, some v => match v.cl with
      | some ds => ds.length = sz ∧ K ((S.newBox d (ds.map (D.keep (fun y => decide (y ≠ d)) fun _ => true))).put dst (.ptr d 0))
      | none => False
    | _, _ => False
  | .bslice e sz zero len parts => match dst, fillD S (rept zero len) parts with
    | some d, some cs => match frzL cs with
      | some fs => (tagsL cs).all (fun t => (S.tag t).isSome) = true ∧ fs.all D.one = true ∧ K (((S.share (tagsL cs)).newTag (d, e, sz) true).put dst (.sl (some (d, e, sz)) (chunk sz len fs)))
      | none => False
    | _, _ => False
  | .store sz x v => match look S x, look S v with
    | some (.ptr o off), some d => match S.box o, d.cl with
      | some cs, some ds => ds.length = sz ∧ off + sz ≤ cs.length ∧ K (S.setBox o (putCells cs off ds))
      | _, _ => False
    | some (.rp (some (t, i)) cs off), some d => match d.cl with
      | some ds => match frzL ds with
        | some fs => S.tag t = some true ∧ ds.length = sz ∧ off + sz ≤ cs.length ∧ (tagsL ds).all (fun t' => (S.tag t').isSome && decide (t' ≠ t)) = true ∧ K ((S.share (tagsL ds)).upd t i off fs)
        | none => False
      | none => False
    | _, _ => False
  | .append e sz bytes x y => match look S x, look S y with
    | some (.sl (some t) es), some (.sl tag ys) => t.2 = (e, sz) ∧ Nat.ble t.1 999998 = true ∧ (S.tag t).isSome = true ∧ tag.all (fun t' => (S.tag t').isSome) = true ∧ (∀ e ∈ es, e.length = sz) ∧ (∀ y ∈ ys, y.length = sz) ∧ es.length + ys.length ≤ 140737488355328 ∧
        (es.length + ys.length) * bytes ≤ 140737488355328 ∧ K ((S.only (fun _ => true) (fun y => decide (y ≠ t))).put dst (.sl (some t) (es ++ ys)))
    | _, _ => False
  | .call f args md => match look S f, looks S args with
    | some (.fn k first caps), some ds => match md with
      | .pure => match frzL (first ++ ds ++ caps) with
        | some fs => (tagsL (first ++ ds ++ caps)).all (fun t => (S.tag t).isSome) = true ∧ PureAt P k fs fun r => K ((S.share (tagsL (first ++ ds ++ caps))).put dst r)
        | none => False
      | .fresh e sz => match dst, frzL (first ++ ds ++ caps) with
        | some d, some fs => (tagsL (first ++ ds ++ caps)).all (fun t => (S.tag t).isSome) = true ∧
            FreshAt P k fs e sz fun es => K (((S.share (tagsL (first ++ ds ++ caps))).newTag (d, e, sz) true).put dst (.sl (some (d, e, sz)) es))
        | _, _ => False
      | .turn => match first ++ ds ++ caps with
        | .sl (some t) es :: rest => match frzL rest with
          | some fs => S.tag t = some true ∧ (tagsL rest).all (fun t' => (S.tag t').isSome && decide (t' ≠ t)) = true ∧
              MutAt P k t.2.1 t.2.2 es fs fun es' r => K (((S.share (tagsL rest)).remake t es').put dst r)
          | none => False
        | _ => False
    | _, _ => False
  | .isnil neg x => match look S x with
    | some (.sl tag es) => tag.all (fun t => (S.tag t).isSome) = true ∧ ∀ b, (b = true → es = []) → K (S.put dst (.val (.bool (b != neg))))
    | _ => False
  | m => match pop S m with
    | some d => K (S.put dst d)
    | none => False

theorem comp_alloc {o : Oper} {t : TypeId} {z : List D} (h : compOp P o = some (.alloc t z)) : o.op = .alloc t ∧ ∃ i zv, P.info? t = some i ∧ i.zero = some zv ∧ z = zeroD zv := by
  obtain ⟨dst, op, type, pos, after, guard⟩ := o
  cases op <;> simp only [compOp] at h <;> (repeat' (split at h)) <;> first
    | (cases h; done)
    | (injection h with h; injection h with h1 h2; subst h1; subst h2; exact ⟨rfl, _, _, by assumption, by assumption, rfl⟩)
    | (unfold compB at h; (repeat' (split at h)) <;> cases h)

theorem comp_box {o : Oper} {t : TypeId} {sz : Nat} {x : Operand} (h : compOp P o = some (.box t sz x)) : o.op = .box t x ∧ ∃ i, P.info? t = some i ∧ i.size = sz := by
  obtain ⟨dst, op, type, pos, after, guard⟩ := o
  cases op <;> simp only [compOp] at h <;> (repeat' (split at h)) <;> first
    | (cases h; done)
    | (injection h with h; injection h with h1 h2 h3; subst h1; subst h2; subst h3; exact ⟨rfl, _, by assumption, rfl⟩)
    | (unfold compB at h; (repeat' (split at h)) <;> cases h)

theorem isNil_eq {x : Operand} (h : isNilSl x = true) : x = .const (.slice none 0 0) := by
  unfold isNilSl at h
  split at h
  · rfl
  · cases h

theorem comp_nilsl {o : Oper} {e sz : Nat} (h : compOp P o = some (.nilsl e sz)) : o.op = .assign (.const (.slice none 0 0)) := by
  obtain ⟨dst, op, type, pos, after, guard⟩ := o
  cases op <;> simp only [compOp] at h <;> (repeat' (split at h)) <;> first
    | (cases h; done)
    | exact congrArg Op.assign (isNil_eq (by assumption))
    | (unfold compB at h; (repeat' (split at h)) <;> cases h)

theorem comp_store {o : Oper} {sz : Nat} {x v : Operand} (h : compOp P o = some (.store sz x v)) : ∃ t i, o.op = .store t x v ∧ P.info? t = some i ∧ i.size = sz := by
  obtain ⟨dst, op, type, pos, after, guard⟩ := o
  cases op <;> simp only [compOp] at h <;> (repeat' (split at h)) <;> first
    | (cases h; done)
    | (injection h with h; injection h with h1 h2 h3; subst h1; subst h2; subst h3; exact ⟨_, _, rfl, by assumption, rfl⟩)
    | (unfold compB at h; (repeat' (split at h)) <;> cases h)

theorem comp_bslice {o : Oper} {e sz len : Nat} {z : List D} {ps : List (Nat × Nat × Operand)} (h : compOp P o = some (.bslice e sz z len ps)) : ∃ t parts i zv, o.op = .buildSlice t len parts ∧ P.underlying t = some (.slice e) ∧ P.info? e = some i ∧ i.zero = some zv ∧
    i.size = sz ∧ 0 < i.size ∧ zv.cells.size = i.size ∧ len * i.size ≤ 2 ^ 24 ∧ z = zeroD zv ∧ ps = parts.toList.map fun p => (p.1 * i.size, i.size, p.2) := by
  obtain ⟨dst, op, type, pos, after, guard⟩ := o
  cases op <;> simp only [compOp] at h <;> (repeat' (split at h)) <;> first
    | (cases h; done)
    | (rename_i hc; injection h with h; injection h with h1 h2 h3 h4 h5; subst h1; subst h2; subst h3; subst h4; subst h5; exact ⟨_, _, _, _, rfl, by assumption, by assumption, by assumption, rfl, hc.1, hc.2.1, hc.2.2, rfl, rfl⟩)
    | (unfold compB at h; (repeat' (split at h)) <;> cases h)

theorem comp_append {o : Oper} {e sz bytes : Nat} {x y : Operand} (h : compOp P o = some (.append e sz bytes x y)) : ∃ t i zv, o.op = .call { callee := .builtin .append, args := #[x, y], argTypes := #[t, t] } ∧ P.underlying t = some (.slice e) ∧ P.info? e = some i ∧ i.zero = some zv ∧
    i.size = sz ∧ i.bytes = bytes ∧ 0 < i.size ∧ zv.cells.size = i.size := by
  obtain ⟨dst, op, type, pos, after, guard⟩ := o
  cases op
  case call c =>
    obtain ⟨callee, ⟨args⟩, ⟨ts⟩⟩ := c
    cases callee <;> simp only [compOp] at h <;> try (cases h; done)
    rename_i b
    cases b <;> simp only [compB] at h <;> (try (cases h; done)) <;> (repeat' (split at h)) <;> try (cases h; done)
    rename_i hc
    rename_i htu _ _ _ _ _ _ _ _ _
    subst htu
    injection h with h; injection h with h1 h2 h3 h4 h5
    subst h1; subst h2; subst h3; subst h4; subst h5
    exact ⟨_, _, _, rfl, by assumption, by assumption, by assumption, rfl, rfl, hc.1, hc.2⟩
  all_goals (simp only [compOp] at h; (repeat' (split at h)) <;> cases h)

theorem comp_isnil {o : Oper} {neg : Bool} {x : Operand} (h : compOp P o = some (.isnil neg x)) : ∃ op t e yt, o.op = .binOp op t x (.const (.slice none 0 0)) yt ∧ P.underlying t = some (.slice e) ∧ ((op = .eql ∧ neg = false) ∨ (op = .neq ∧ neg = true)) := by
  obtain ⟨dst, op, type, pos, after, guard⟩ := o
  cases op <;> simp only [compOp] at h <;> (repeat' (split at h)) <;> first
    | (cases h; done)
    | (rename_i hu hy _; injection h with h; injection h with h1 h2; subst h1; subst h2; exact ⟨_, _, _, _, congrArg (Op.binOp _ _ _ · _) (isNil_eq hy), hu, .inl ⟨rfl, rfl⟩⟩)
    | (rename_i hu hy _; injection h with h; injection h with h1 h2; subst h1; subst h2; exact ⟨_, _, _, _, congrArg (Op.binOp _ _ _ · _) (isNil_eq hy), hu, .inr ⟨rfl, rfl⟩⟩)
    | (unfold compB at h; (repeat' (split at h)) <;> cases h)

theorem comp_call {o : Oper} {f : Operand} {args : List Operand} {md : CM} (h : compOp P o = some (.call f args md)) : ∃ c : Call, o.op = .call c ∧ c.callee = .value f ∧ c.args.toList = args := by
  obtain ⟨dst, op, type, pos, after, guard⟩ := o
  cases op <;> simp only [compOp] at h <;> (repeat' (split at h)) <;> first
    | (cases h; done)
    | (injection h with h; injection h with h1 h2 h3; subst h1; subst h2; exact ⟨_, rfl, by assumption, rfl⟩)
    | (unfold compB at h; (repeat' (split at h)) <;> cases h)

/-- The world a row was written in, told by its place. -/
theorem SR.later (h : SR w0 W F0 V N g S a w) {S' : St} {g' : Gh} (hc : Core g' S' a.tmps w') (hw : Wr w0.heap.size W g' S') {W' : Reg} (hk : Keep W' w w') (hW : ∀ b k, b < w0.heap.size → W' b k → W b k)
    (hf : ∀ b k, g.F b k → g'.F b k) (hn : ∀ b k, g'.F b k → g.F b k ∨ w0.heap.size ≤ b ∨ W b k) (hp : ∀ t ti, 999999 ≤ t.1 → g'.τ t = some ti → ∃ ti0, g.τ t = some ti0 ∧ ti0.v = ti.v) : SR w0 W F0 V N g' S' a w' := by
  refine ⟨hc, hw, h.keep.trans hk hW, h.size, h.defers, fun b k hF => hf b k (h.fext b k hF), fun b k hF => ?_, h.cap, fun t ti ht hti => by obtain ⟨ti0, h1, h2⟩ := hp t ti ht hti; rw [← h2]; exact h.pin t ti0 ht h1⟩
  rcases hn b k hF with h1 | h1
  · exact h.fnew b k h1
  · exact .inr h1

theorem SR.le (h : SR w0 W F0 V N g S a w) : w0.heap.size ≤ w.heap.size := h.keep.size

theorem SR.share (h : SR w0 W F0 V N g S a w) (ts : List Tag) : SR w0 W F0 V N { g with F := shareF g S ts } (S.share ts) a w := by
  refine h.later (h.core.share ts) ⟨h.wr.box, fun t x ti b ht hti hb => ?_⟩ (Keep.refl (fun _ _ => False) w) (fun _ _ _ h => h.elim) (fun _ _ h => .inl h) (fun b k hF => ?_) (fun t ti _ h => ⟨ti, h, rfl⟩)
  · rw [share_tag] at ht
    obtain ⟨x0, h1, _⟩ := Option.map_eq_some_iff.1 ht
    exact h.wr.tag t x0 ti b h1 hti hb
  · rcases hF with hF | ⟨t, _, x, ti, h1, h2, h3, _⟩
    · exact .inl hF
    · rcases h.wr.tag t x ti b h1 h2 h3 with h4 | h4
      · exact .inr (.inl h4)
      · exact .inr (.inr (h4 k))

theorem SR.newRow (h : SR w0 W F0 V N g S a w) (t : Tag) (ti : TI) (hty : ti.e = t.2.1 ∧ ti.sz = t.2.2) (hk : Keep (fun _ _ => False) w w') (hheap : ∀ (b : Nat) (o : Obj), w.heap[b]? = some o → w'.heap[b]? = some o)
    (hown : w'.ownsRow 0 ti.e ti.sz ti.v ti.n ti.xs) (hone : ∀ u ∈ ti.xs, u.oneCell' = true) (hnew : ∀ b, ti.v.ownBlock = some b → w.heap.size ≤ b) (hpt : 999999 ≤ t.1 → ∃ ti0, g.τ t = some ti0 ∧ ti0.v = ti.v) :
    SR w0 W F0 V N { g with τ := fun t' => if t' = t then some ti else g.τ t' } (S.newTag t true) a w' := by
  refine h.later (h.core.newRow t ti hty hheap hk.size hown hone hnew) ⟨fun o cs b k i hb hμ hi => ?_, fun t' x ti' b ht hti hb => ?_⟩ hk (fun _ _ _ h => h.elim) (fun _ _ h => h) (fun _ _ h => .inl h) (fun t' ti2 hge hti => by
    simp only at hti
    split at hti
    · rename_i he; subst he; injection hti with hti; subst hti; exact hpt hge
    · exact ⟨ti2, hti, rfl⟩)
  · have hb' : (S.only (fun _ => true) (fun y => decide (y ≠ t))).box o = some cs := hb
    rw [only_box] at hb'
    obtain ⟨c0, h1, rfl⟩ := Option.map_eq_some_iff.1 hb'
    exact h.wr.box o c0 b k i h1 hμ (by simpa using hi)
  · rw [newTag_tag] at ht
    split at ht
    · rename_i he; subst he
      simp only [if_pos, Option.some.injEq] at hti
      subst hti
      have := hnew b hb
      have := h.le
      exact .inl (by omega)
    · rename_i hne
      simp only [if_neg hne] at hti
      exact h.wr.tag t' x ti' b ht hti hb

theorem SR.newRowU (h : SR w0 W F0 V N g S a w) (t : Tag) (ti : TI) (F' : Reg) (hty : ti.e = t.2.1 ∧ ti.sz = t.2.2) (hk : Keep (fun b _ => Own g S t b) w w')
    (hown : w'.ownsRow 0 ti.e ti.sz ti.v ti.n ti.xs) (hone : ∀ u ∈ ti.xs, u.oneCell' = true) (hnew : ∀ b, ti.v.ownBlock = some b → w.heap.size ≤ b ∨ Own g S t b)
    (hFF : ∀ b k, g.F b k → F' b k) (hFn : ∀ b k, F' b k → g.F b k ∨ (w.heap.size ≤ b ∧ b < w'.heap.size ∧ ti.v.ownBlock ≠ some b)) (hpt : 999999 ≤ t.1 → ∃ ti0, g.τ t = some ti0 ∧ ti0.v = ti.v) :
    SR w0 W F0 V N { g with τ := fun t' => if t' = t then some ti else g.τ t', F := F' } (S.newTag t true) a w' := by
  have hheap : ∀ (b : Nat) (o : Obj), ¬ Own g S t b → w.heap[b]? = some o → w'.heap[b]? = some o := fun b o hno hb => by
    rcases hk.block b o hb with h1 | ⟨vs, vs', e, rfl, h2, h3, h4⟩
    · exact h1
    · have : vs' = vs := Array.ext_getElem? (fun j => h4 j hno)
      rw [h2, this]
  have own : ∀ b, Own g S t b → w0.heap.size ≤ b ∨ ∀ i, W b i := fun b ⟨h1, ti0, h2, h3⟩ => h.wr.tag t true ti0 b h1 h2 h3
  refine h.later (h.core.newRowU t ti F' hty hheap hk.size hown hone hnew hFF hFn) ⟨fun o cs b k i hb hμ hi => ?_, fun t' x ti' b ht hti hb => ?_⟩ hk (fun b k hlt ho => by
    rcases own b ho with h1 | h1
    · omega
    · exact h1 k) hFF (fun b k hF => by
    rcases hFn b k hF with h1 | h1
    · exact .inl h1
    · have := h.le
      exact .inr (.inl (by omega))) (fun t' ti2 hge hti => by
    simp only at hti
    split at hti
    · rename_i he; subst he; injection hti with hti; subst hti; exact hpt hge
    · exact ⟨ti2, hti, rfl⟩)
  · have hb' : (S.only (fun _ => true) (fun y => decide (y ≠ t))).box o = some cs := hb
    rw [only_box] at hb'
    obtain ⟨c0, h1, rfl⟩ := Option.map_eq_some_iff.1 hb'
    exact h.wr.box o c0 b k i h1 hμ (by simpa using hi)
  · rw [newTag_tag] at ht
    split at ht
    · rename_i he; subst he
      simp only [if_pos, Option.some.injEq] at hti
      subst hti
      rcases hnew b hb with h1 | h1
      · have := h.le
        exact .inl (by omega)
      · exact own b h1
    · rename_i hne
      simp only [if_neg hne] at hti
      exact h.wr.tag t' x ti' b ht hti hb

theorem SR.newBox (h : SR w0 W F0 V N g S a w) (o : Nat) (cs : List D) (vs : Array Value) (e : TypeId) (hc : Cells g w cs vs) :
    SR w0 W F0 V N { g with μ := fun o' => if o' = o then some (w.heap.size, 0) else g.μ o' } (S.newBox o (cs.map (D.keep (fun y => decide (y ≠ o)) fun _ => true))) a (w.alloc (.cells vs e (0, 0))) := by
  refine h.later (h.core.newBox o cs vs e hc) ⟨fun o' c b k i hb hμ hi => ?_, h.wr.tag⟩ (Keep.alloc (fun _ _ => False) w _) (fun _ _ _ h => h.elim) (fun _ _ h => h) (fun _ _ h => .inl h) (fun t ti _ h => ⟨ti, h, rfl⟩)
  rw [newBox_box] at hb
  split at hb
  · rename_i he; subst he
    simp only [if_pos, Option.some.injEq, Prod.mk.injEq] at hμ
    have := h.le
    exact .inl (by omega)
  · rename_i hne
    simp only [if_neg hne] at hμ
    obtain ⟨c0, h1, rfl⟩ := Option.map_eq_some_iff.1 hb
    exact h.wr.box o' c0 b k i h1 hμ (by simpa using hi)

/-! ### the operations that make or write memory -/
theorem so_nilsl (h : SR w0 W F0 V N g S a w) {o : Oper} {e sz : Nat} {Q : Exit → Act → World → Prop} (hc : compOp P o = some (.nilsl e sz)) (hd : ∀ t, o.dst = some t → t < N) (hv : vstep P (.nilsl e sz) o.dst S K) :
    o.wp P a w (fun a' w' => ∃ g' S', SR w0 W F0 V N g' S' a' w' ∧ K S') Q := by
  have ho := comp_nilsl hc
  unfold Oper.wp
  simp only [execOp, ho, Sem.run_pure, Oper.upon_value]
  simp only [vstep] at hv
  split at hv
  · rename_i d hdst
    have h1 := h.newRow (w' := w) (d, e, sz) { v := .slice none 0 0, e := e, sz := sz, n := 0, xs := [], shape := .inl ⟨rfl, rfl⟩ } ⟨rfl, rfl⟩ (Keep.refl _ w) (fun _ _ h => h) (World.ownsRow_nil w 0 e sz) (by simp) (fun b hb => by simp [Value.ownBlock] at hb) (fun hge => absurd hge (Nat.not_le.2 (Nat.lt_of_lt_of_le (hd d hdst) h.cap)))
    refine ⟨_, _, h1.put hd ?_, hv⟩
    exact Rep.slT (d, e, sz) [] { v := .slice none 0 0, e := e, sz := sz, n := 0, xs := [], shape := .inl ⟨rfl, rfl⟩ } (if_pos rfl) rfl (fun i e h => by simp at h) (fun i e j d h => by simp at h)
  · exact hv.elim

theorem so_alloc (h : SR w0 W F0 V N g S a w) {o : Oper} {t : TypeId} {z : List D} {Q : Exit → Act → World → Prop} (hc : compOp P o = some (.alloc t z)) (hd : ∀ t, o.dst = some t → t < N) (hv : vstep P (.alloc t z) o.dst S K) :
    o.wp P a w (fun a' w' => ∃ g' S', SR w0 W F0 V N g' S' a' w' ∧ K S') Q := by
  obtain ⟨ho, i, zv, hi, hz, rfl⟩ := comp_alloc hc
  have hrun : (execOp a.eval o).run P w = .ok (.value (.pointer (some ⟨w.heap.size, 0, none⟩))) (w.alloc (.cells zv.cells t (0, 0))) := by
    simp [execOp, ho, Instr.alloc, zeroValue, typeInfo, hi, hz, newVar, newRow]
  unfold Oper.wp
  rw [hrun, Oper.upon_value]
  simp only [vstep] at hv
  split at hv
  · rename_i d hdst
    have h1 := h.newBox d (zeroD zv) zv.cells t (zero_cells zv)
    refine ⟨_, _, h1.put hd ?_, hv⟩
    exact Rep.ptr d 0 w.heap.size 0 (if_pos rfl)
  · exact hv.elim

theorem so_box (h : SR w0 W F0 V N g S a w) {o : Oper} {t : TypeId} {sz : Nat} {x : Operand} {Q : Exit → Act → World → Prop} (hc : compOp P o = some (.box t sz x)) (hd : ∀ t, o.dst = some t → t < N) (hv : vstep P (.box t sz x) o.dst S K) :
    o.wp P a w (fun a' w' => ∃ g' S', SR w0 W F0 V N g' S' a' w' ∧ K S') Q := by
  obtain ⟨ho, i, hi, rfl⟩ := comp_box hc
  have hrun : (execOp a.eval o).run P w = .ok (.value (.pointer (some ⟨w.heap.size, 0, none⟩))) (w.alloc (.cells (a.eval x).cells t (0, 0))) := by
    simp [execOp, ho, Instr.box, newVar, newRow]
  unfold Oper.wp
  rw [hrun, Oper.upon_value]
  simp only [vstep] at hv
  split at hv
  · rename_i d v hdst hx
    split at hv
    · rename_i ds hcl
      obtain ⟨c1, c2, c3, c4⟩ := cl_sound hcl (h.core.look hx)
      have h1 := h.newBox d ds (a.eval x).cells t ⟨c1, c2⟩
      refine ⟨_, _, h1.put hd ?_, hv.2⟩
      exact Rep.ptr d 0 w.heap.size 0 (if_pos rfl)
    · exact hv.elim
  · exact hv.elim

theorem live_all {S : St} {ts : List Tag} (h : ts.all (fun t => (S.tag t).isSome) = true) : ∀ t ∈ ts, ∃ x, S.tag t = some x := fun t ht => Option.isSome_iff_exists.1 (List.all_eq_true.1 h t ht)

end Go.Vm
