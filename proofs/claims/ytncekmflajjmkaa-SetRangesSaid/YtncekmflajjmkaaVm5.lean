/- The value machine, 5: comparisons and sums. -/
import Derived.Test.YtncekmflajjmkaaVm4
import Derived.Laws.StructEq
namespace Go.Vm
open Go.RowKit
variable {P : Program} {w0 w : World} {N : Nat} {g : Gh} {S : St} {a : Act}

theorem bin_sound {op : BinOp} {t : TypeId} {x y : Operand} {p q d : D} {v u : Value} (hp : Rep g w p v) (hq : Rep g w q u) (hl : binD op p q = some d) :
    ∃ r, (do eqGuard op t x y v u; binOp op t v u : Sem Value).run P w = .ok r w ∧ Rep g w d r := by
  cases p <;> cases q <;> try (simp only [binD] at hl; cases hl; done)
  rename_i v' u'
  have := hp.val_inv; subst this
  have := hq.val_inv; subst this
  have done : ∀ {r : Value}, d = .val r → (do eqGuard op t x y v u; binOp op t v u : Sem Value).run P w = .ok r w →
      ∃ r, (do eqGuard op t x y v u; binOp op t v u : Sem Value).run P w = .ok r w ∧ Rep g w d r := fun hd h => ⟨_, h, hd ▸ .fz _ _ (.val _)⟩
  cases v <;> cases u <;> try (simp only [binD] at hl; cases hl; done)
  case int.int k m k' n =>
    have hg : (eqGuard op t x y (.int k m) (.int k' n)).run P w = .ok () w := by cases op <;> rfl
    have sh : ∀ o, o = .shl ∨ o = .shr → ∀ r, shI o k m n = some r → (Op.shift o k m k' n).run P w = .ok r w := by
      rintro o ho r hr
      unfold shI at hr
      split at hr
      · cases hr
      · rename_i h0
        rcases ho with rfl | rfl <;> simp only [Option.some.injEq] at hr <;> subst hr <;> simp [Op.shift, h0]
    by_cases h1 : op = .shl
    · subst h1
      simp only [binD, Option.map_eq_some_iff] at hl
      obtain ⟨r, hr, rfl⟩ := hl
      exact done rfl (by simp only [Sem.run_bind, hg, Result.andThen_ok]; exact sh _ (.inl rfl) r hr)
    by_cases h2 : op = .shr
    · subst h2
      simp only [binD, Option.map_eq_some_iff] at hl
      obtain ⟨r, hr, rfl⟩ := hl
      exact done rfl (by simp only [Sem.run_bind, hg, Result.andThen_ok]; exact sh _ (.inr rfl) r hr)
    have hl' : (if k = k' then (binI op k m n).map D.val else none) = some d := by
      cases op <;> first | exact hl | exact absurd rfl h1 | exact absurd rfl h2
    split at hl'
    · rename_i hk; subst hk
      obtain ⟨r, hr, rfl⟩ := Option.map_eq_some_iff.1 hl'
      refine done rfl ?_
      simp only [Sem.run_bind, hg, Result.andThen_ok]
      cases op <;> simp only [binI] at hr <;> first
        | (injection hr with hr; subst hr; simp [binOp, Op.intArith, Op.intCmp, Op.intBits]; done)
        | (split at hr
           · cases hr
           · rename_i h0
             injection hr with hr; subst hr; simp [binOp, Op.intDiv, h0])
        | cases hr
    · cases hl'
  case string.string m n =>
    have hg : (eqGuard op t x y (.string m) (.string n)).run P w = .ok () w := by cases op <;> rfl
    simp only [binD, Option.map_eq_some_iff] at hl
    obtain ⟨r, hr, rfl⟩ := hl
    refine done rfl ?_
    simp only [Sem.run_bind, hg, Result.andThen_ok]
    cases op <;> simp only [binS] at hr <;> first
      | (injection hr with hr; subst hr; simp [binOp, Op.stringOp]; done)
      | (split at hr
         · rename_i h0
           injection hr with hr; subst hr
           have : ¬ (((m.size + n.size : Nat) : Int) > IntKind.i64.max) := by
             have : IntKind.i64.max = 9223372036854775807 := by decide
             omega
           simp only [binOp, Op.stringOp]
           rw [if_neg this]; rfl
         · cases hr)
      | cases hr

theorem binB_sound {op : BinOp} {neg : Bool} {t : TypeId} {x y : Operand} {p q d : D} {v u : Value} (hop : (op = .eql ∧ neg = false) ∨ (op = .neq ∧ neg = true)) (hu : P.underlying t = some .bool)
    (hp : Rep g w p v) (hq : Rep g w q u) (hl : binBD neg p q = some d) : ∃ r, (do eqGuard op t x y v u; binOp op t v u : Sem Value).run P w = .ok r w ∧ Rep g w d r := by
  unfold binBD at hl
  split at hl
  · rename_i m n
    have := hp.val_inv; subst this
    have := hq.val_inv; subst this
    injection hl with hl; subst hl
    refine ⟨_, ?_, .fz _ _ (.val _)⟩
    have he : (Op.equal t (.bool m) (.bool n)).run P w = .ok (m == n) w := run_equalIn_bool' w 9999 t m n hu
    rcases hop with ⟨rfl, rfl⟩ | ⟨rfl, rfl⟩
    · have hg : (eqGuard .eql t x y (.bool m) (.bool n)).run P w = .ok () w := rfl
      simp only [Sem.run_bind, hg, Result.andThen_ok, binOp, he, Sem.run_pure, Bool.bne_false]
    · have hg : (eqGuard .neq t x y (.bool m) (.bool n)).run P w = .ok () w := rfl
      simp only [Sem.run_bind, hg, Result.andThen_ok, binOp, he, Sem.run_pure, Bool.bne_true]
  · cases hl

theorem run_equal_ptr_nil {t e : TypeId} (hu : P.underlying t = some (.pointer e)) (p : Option Addr) : (Op.equal t (.pointer p) (.pointer none)).run P w = .ok p.isNone w := by
  show (Op.equalIn (9999 + 1) t (.pointer p) (.pointer none)).run P w = _
  generalize 9999 = k
  cases p <;> simp [Op.equalIn, run_underlying hu]

theorem binP_sound {op : BinOp} {neg : Bool} {t e : TypeId} {x y : Operand} {p q d : D} {v u : Value} (hop : (op = .eql ∧ neg = false) ∨ (op = .neq ∧ neg = true)) (hu : P.underlying t = some (.pointer e))
    (hp : Rep g w p v) (hq : Rep g w q u) (hl : binPD neg p q = some d) : ∃ r, (do eqGuard op t x y v u; binOp op t v u : Sem Value).run P w = .ok r w ∧ Rep g w d r := by
  have some_none : ∀ ad, (do eqGuard op t x y (.pointer (some ad)) (.pointer none); binOp op t (.pointer (some ad)) (.pointer none) : Sem Value).run P w = .ok (.bool neg) w := fun ad => by
    rcases hop with ⟨rfl, rfl⟩ | ⟨rfl, rfl⟩
    · have hg : (eqGuard .eql t x y (.pointer (some ad)) (.pointer none)).run P w = .ok () w := rfl
      simp only [Sem.run_bind, hg, Result.andThen_ok, binOp, run_equal_ptr_nil hu, Sem.run_pure, Option.isNone_some]
    · have hg : (eqGuard .neq t x y (.pointer (some ad)) (.pointer none)).run P w = .ok () w := rfl
      simp only [Sem.run_bind, hg, Result.andThen_ok, binOp, run_equal_ptr_nil hu, Sem.run_pure, Option.isNone_some, Bool.not_false]
  unfold binPD at hl
  split at hl
  · have := hp.val_inv; subst this
    have := hq.val_inv; subst this
    injection hl with hl; subst hl
    refine ⟨_, ?_, .fz _ _ (.val _)⟩
    rcases hop with ⟨rfl, rfl⟩ | ⟨rfl, rfl⟩
    · have hg : (eqGuard .eql t x y (.pointer none) (.pointer none)).run P w = .ok () w := rfl
      simp only [Sem.run_bind, hg, Result.andThen_ok, binOp, run_equal_ptr_nil hu, Sem.run_pure, Option.isNone_none, Bool.not_false]
    · have hg : (eqGuard .neq t x y (.pointer none) (.pointer none)).run P w = .ok () w := rfl
      simp only [Sem.run_bind, hg, Result.andThen_ok, binOp, run_equal_ptr_nil hu, Sem.run_pure, Option.isNone_none, Bool.not_true]
  · obtain ⟨b, k, rfl, _⟩ := hp.ptr_inv
    have := hq.val_inv; subst this
    injection hl with hl; subst hl
    exact ⟨_, some_none _, .fz _ _ (.val _)⟩
  · have := hq.val_inv; subst this
    injection hl with hl; subst hl
    have : ∃ ad, v = .pointer (some ad) := by
      cases hp with
      | fz _ _ h => cases h; exact ⟨_, rfl⟩
      | rpT => exact ⟨_, rfl⟩
    obtain ⟨ad, rfl⟩ := this
    exact ⟨_, some_none _, .fz _ _ (.val _)⟩
  · cases hl

/-! ### '==' of structs and arrays, cell by cell -/
def eqVs : List SK → List Value → List Value → Option Bool
  | [], [], [] => some true
  | k :: ks, a :: xs, b :: ys => match eqV k a b, eqVs ks xs ys with
    | some p, some q => some (p && q)
    | _, _ => none
  | _, _, _ => none

theorem eqVs_append : ∀ {ks ms : List SK} {a b c d : List Value} {p : Bool}, a.length = ks.length → b.length = ks.length → eqVs (ks ++ ms) (a ++ c) (b ++ d) = some p →
    ∃ q r, eqVs ks a b = some q ∧ eqVs ms c d = some r ∧ p = (q && r)
  | [], ms, [], [], c, d, p, _, _, h => ⟨true, p, rfl, h, by simp⟩
  | k :: ks, ms, x :: a, y :: b, c, d, p, ha, hb, h => by
    simp only [List.cons_append, eqVs] at h
    split at h
    · rename_i p1 q1 h1 h2
      obtain ⟨q, r, h3, h4, rfl⟩ := eqVs_append (by simpa using ha) (by simpa using hb) h2
      injection h with h
      exact ⟨p1 && q, r, by simp [eqVs, h1, h3], h4, by rw [← h, Bool.and_assoc]⟩
    · cases h
  | [], _, _ :: _, _, _, _, _, ha, _, _ => by simp at ha
  | [], _, [], _ :: _, _, _, _, _, hb, _ => by simp at hb
  | _ :: _, _, [], _, _, _, _, ha, _, _ => by simp at ha
  | _ :: _, _, _ :: _, [], _, _, _, _, hb, _ => by simp at hb

def seg (xs : Array Value) (off n : Nat) : List Value := (xs.toList.drop off).take n

theorem seg_length {xs : Array Value} {off n : Nat} (h : off + n ≤ xs.size) : (seg xs off n).length = n := by
  simp [seg]; omega

theorem seg_add (xs : Array Value) (off m n : Nat) : seg xs off (m + n) = seg xs off m ++ seg xs (off + m) n := by
  unfold seg
  rw [List.take_add, List.drop_drop]

theorem seg_extract {xs : Array Value} {off n i m : Nat} (hn : i + m ≤ n) : seg (xs.extract off (off + n)) i m = seg xs (off + i) m := by
  unfold seg
  simp only [Array.toList_extract, List.extract_eq_take_drop, Nat.add_sub_cancel_left]
  rw [List.drop_take, List.take_take, List.drop_drop, Nat.min_eq_left (by omega)]

theorem seg_one {xs : Array Value} {off : Nat} (h : off < xs.size) : seg xs off 1 = [xs[off]] := by
  unfold seg
  have h' : off < xs.toList.length := by simpa using h
  rw [List.drop_eq_getElem_cons h']
  simp

theorem part_scalar {t : TypeId} {d : TypeDesc} {xs : Array Value} {off : Nat} (hu : P.underlying t = some d) (hd : aggD d = false) (h : off < xs.size) : (part t xs off).run P w = .ok xs[off] w := by
  simp [part, isAgg_run hu, hd, h]

theorem part_agg {t : TypeId} {d : TypeDesc} {i : TypeInfo} {xs : Array Value} {off : Nat} (hu : P.underlying t = some d) (hd : aggD d = true) (hi : P.info? t = some i) :
    (part t xs off).run P w = .ok (.agg (xs.extract off (off + i.size))) w := by
  simp [part, isAgg_run hu, hd, sizeOf, typeInfo, hi]

theorem range_all (f : Nat → Sem Bool) (p : Nat → Bool) (n : Nat) (h : ∀ i, i < n → (f i).run P w = .ok (p i) w) :
    (do for i in [0:n] do { if !(← f i) then return false }; pure true : Sem Bool).run P w = .ok ((List.range n).all p) w := by
  simp only [Std.Legacy.Range.forIn_eq_forIn_range', Std.Legacy.Range.size, Nat.sub_zero, Nat.add_sub_cancel, Nat.div_one]
  rw [← List.range_eq_range']
  have hl : ∀ i ∈ List.range n, i < n := fun i hi => List.mem_range.1 hi
  generalize List.range n = l at hl
  induction l with
  | nil => simp
  | cons i l ih =>
    have hi := h i (hl i (by simp))
    simp only [List.forIn_cons, Sem.run_bind, hi, Result.andThen_ok, List.all_cons]
    by_cases hpi : p i = true
    · simp only [hpi, Bool.not_true, Bool.false_eq_true, if_false, Sem.run_pure, Result.andThen_ok, Bool.true_and]
      simpa only [Sem.run_bind] using ih (fun j hj => hl j (by simp [hj]))
    · simp only [hpi]
      rfl

theorem flatFs_ext {ft : TypeId → Option (List SK)} : ∀ {fs : List Field} {ks ms : List SK}, flatFs ft fs ks = some ms → ∃ r, ms = ks ++ r
  | [], ks, ms, h => by simp [flatFs] at h; exact ⟨[], by simp [h]⟩
  | f :: fs, ks, ms, h => by
    simp only [flatFs] at h
    split at h
    · split at h
      · obtain ⟨r, hr⟩ := flatFs_ext h
        exact ⟨_, by rw [hr, List.append_assoc]⟩
      · cases h
    · cases h

theorem eqV_eq {k : SK} {a b : Value} {p : Bool} (h : eqVs [k] [a] [b] = some p) : eqV k a b = some p := by
  simp only [eqVs] at h
  split at h
  · rename_i p1 q1 h1 h2
    simp only [Option.some.injEq] at h2 h
    rw [h1, ← h, ← h2, Bool.and_true]
  · cases h

/-- '==' of a flat type's value, a part of a greater one. -/
def EqAt (P : Program) (w : World) (d : Nat) (t : TypeId) (ks : List SK) : Prop := ∀ (xs ys : Array Value) (off : Nat) (b : Bool), off + ks.length ≤ xs.size → off + ks.length ≤ ys.size →
  eqVs ks (seg xs off ks.length) (seg ys off ks.length) = some b → ∃ x y, (part t xs off).run P w = .ok x w ∧ (part t ys off).run P w = .ok y w ∧ (Op.equalIn d t x y).run P w = .ok b w

theorem eq_fields {d : Nat} {ft : TypeId → Option (List SK)} (hft : ∀ t ks, ft t = some ks → EqAt P w d t ks) (xs ys : Array Value) : ∀ (fs : List Field) (ks ms : List SK) (b : Bool), flatFs ft fs ks = some (ks ++ ms) →
    (ks ++ ms).length ≤ xs.size → (ks ++ ms).length ≤ ys.size → eqVs ms (seg xs ks.length ms.length) (seg ys ks.length ms.length) = some b → (Op.eqFields d xs ys fs).run P w = .ok b w
  | [], ks, ms, b, h, _, _, hb => by
    simp only [flatFs, Option.some.injEq, List.self_eq_append_right] at h
    subst h
    simp only [eqVs, seg, List.length_nil, List.take_zero, Option.some.injEq] at hb
    subst hb
    simp [Op.eqFields]
  | f :: fs, ks, ms, b, h, hx, hy, hb => by
    simp only [flatFs] at h
    split at h
    · rename_i hf
      split at h
      · rename_i ks1 h1
        obtain ⟨r, hr⟩ := flatFs_ext h
        rw [List.append_assoc, List.append_cancel_left_eq] at hr
        subst hr
        simp only [List.length_append] at hx hy hb
        rw [seg_add, seg_add] at hb
        obtain ⟨q, r', hq, hr', rfl⟩ := eqVs_append (seg_length (by omega)) (seg_length (by omega)) hb
        obtain ⟨x, y, e1, e2, e3⟩ := hft _ _ h1 xs ys f.offset q (by omega) (by omega) (by rw [hf.2]; exact hq)
        have ih := eq_fields hft xs ys fs (ks ++ ks1) r r' (by rw [h, List.append_assoc]) (by simp; omega) (by simp; omega) (by simpa using hr')
        simp only [Op.eqFields, if_pos hf.1, Sem.run_bind, e1, e2, e3, Result.andThen_ok]
        cases q
        · rfl
        · simpa using ih
      · cases h
    · cases h

theorem reps_length {α : Type} (n : Nat) (xs : List α) : (reps n xs).length = n * xs.length := by
  induction n with
  | zero => simp [reps]
  | succ n ih => simp [reps, ih, Nat.succ_mul, Nat.add_comm]

theorem eq_elems {d : Nat} {e : TypeId} {ks : List SK} (he : EqAt P w d e ks) (xs ys : Array Value) : ∀ (n off : Nat) (b : Bool), off + n * ks.length ≤ xs.size → off + n * ks.length ≤ ys.size →
    eqVs (reps n ks) (seg xs off (n * ks.length)) (seg ys off (n * ks.length)) = some b → ∃ p : Nat → Bool,
      (∀ i, i < n → ∃ x y, (part e xs (off + i * ks.length)).run P w = .ok x w ∧ (part e ys (off + i * ks.length)).run P w = .ok y w ∧ (Op.equalIn d e x y).run P w = .ok (p i) w) ∧ (List.range n).all p = b
  | 0, off, b, _, _, hb => by
    simp only [reps, eqVs, Nat.zero_mul, seg, List.take_zero, Option.some.injEq] at hb
    exact ⟨fun _ => true, fun i hi => by omega, by simpa using hb⟩
  | n + 1, off, b, hx, hy, hb => by
    rw [Nat.succ_mul, Nat.add_comm (n * ks.length)] at hx hy hb
    rw [reps, seg_add, seg_add] at hb
    obtain ⟨q, r, hq, hr, rfl⟩ := eqVs_append (seg_length (by omega)) (seg_length (by omega)) hb
    obtain ⟨x, y, e1, e2, e3⟩ := he xs ys off q (by omega) (by omega) hq
    obtain ⟨p, hp, hall⟩ := eq_elems he xs ys n (off + ks.length) r (by omega) (by omega) hr
    refine ⟨fun i => match i with | 0 => q | i + 1 => p i, fun i hi => ?_, ?_⟩
    · cases i with
      | zero => simpa using ⟨x, e1, y, e2, e3⟩
      | succ i =>
        have := hp i (by omega)
        rw [show off + (i + 1) * ks.length = off + ks.length + i * ks.length by rw [Nat.succ_mul]; omega]
        exact this
    · rw [List.range_succ_eq_map, List.all_cons, List.all_map, ← hall]
      rfl

theorem eq_flat : ∀ (d : Nat) (t : TypeId) (ks : List SK), flatT P d t = some ks → ∀ k, EqAt P w (d + k) t ks := by
  intro d
  induction d with
  | zero => intro t ks h; simp [flatT] at h
  | succ d ih =>
    intro t ks h k xs ys off b hx hy hb
    have hdk : d + 1 + k = (d + k) + 1 := by omega
    rw [hdk]
    simp only [flatT] at h
    have scalar : ∀ (sk : SK) (dd : TypeDesc), P.underlying t = some dd → aggD dd = false → ks = [sk] → (∀ u v p, eqV sk u v = some p → (Op.equalIn (d + k + 1) t u v).run P w = .ok p w) →
        ∃ x y, (part t xs off).run P w = .ok x w ∧ (part t ys off).run P w = .ok y w ∧ (Op.equalIn (d + k + 1) t x y).run P w = .ok b w := by
      intro sk dd hu hd hk hs
      subst hk
      simp only [List.length_singleton] at hx hy hb
      rw [seg_one (by omega), seg_one (by omega)] at hb
      exact ⟨_, _, part_scalar hu hd (by omega), part_scalar hu hd (by omega), hs _ _ _ (eqV_eq hb)⟩
    split at h
    · rename_i hu
      injection h with h
      refine scalar .b _ hu rfl h.symm (fun u v p hp => ?_)
      cases u <;> cases v <;> simp only [eqV] at hp <;> try (cases hp; done)
      injection hp with hp; subst hp
      exact run_equalIn_bool' w _ t _ _ hu
    · rename_i hu
      injection h with h
      refine scalar .i _ hu rfl h.symm (fun u v p hp => ?_)
      cases u <;> cases v <;> simp only [eqV] at hp <;> try (cases hp; done)
      split at hp
      · rename_i hk; subst hk
        injection hp with hp; subst hp
        exact run_equalIn_int w _ t _ _ _ _ hu
      · cases hp
    · rename_i hu
      injection h with h
      refine scalar .s _ hu rfl h.symm (fun u v p hp => ?_)
      cases u <;> cases v <;> simp only [eqV] at hp <;> try (cases hp; done)
      injection hp with hp; subst hp
      exact run_equalIn_string w _ t _ _ hu
    · rename_i fs hu
      split at h
      · rename_i i ks' hi hfs
        split at h
        · rename_i hc
          injection h with h; subst h
          have hF : P.fieldsOf t = fs := by simp [Program.fieldsOf, hu]
          refine ⟨_, _, part_agg hu rfl hi, part_agg hu rfl hi, ?_⟩
          rw [run_equalIn_struct w _ t _ _ (by rw [hF]; exact hu) hc.2, hF]
          refine eq_fields (fun t ks h => ih t ks h k) _ _ fs.toList [] ks' b (by simpa using hfs) (by simp [hc.1]; omega) (by simp [hc.1]; omega) ?_
          rw [hc.1]
          simp only [List.length_nil]
          rw [seg_extract (by omega), seg_extract (by omega)]
          simpa using hb
        · cases h
      · cases h
    · rename_i n e hu
      split at h
      · rename_i ks' i it hks hi hit
        split at h
        · rename_i hc
          injection h with h; subst h
          rw [reps_length] at hx hy hb
          refine ⟨_, _, part_agg hu rfl hit, part_agg hu rfl hit, ?_⟩
          rw [hc.2]
          obtain ⟨p, hp, hall⟩ := eq_elems (ih e ks' hks k) (xs.extract off (off + n * ks'.length)) (ys.extract off (off + n * ks'.length)) n 0 b (by simp; omega) (by simp; omega)
            (by rw [seg_extract (by omega), seg_extract (by omega)]; simpa using hb)
          have hr := range_all (P := P) (w := w) (fun i => do Op.equalIn (d + k) e (← part e (xs.extract off (off + n * ks'.length)) (i * ks'.length)) (← part e (ys.extract off (off + n * ks'.length)) (i * ks'.length))) p n (fun i hi => by
            obtain ⟨x, y, e1, e2, e3⟩ := hp i hi
            rw [Nat.zero_add] at e1 e2
            simp only [Sem.run_bind, e1, e2, e3, Result.andThen_ok])
          rw [hall] at hr
          have hs : (sizeOf e).run P w = .ok ks'.length w := by simp [sizeOf, typeInfo, hi, hc.1]
          simp only [Op.equalIn, Sem.run_bind, run_underlying hu, Result.andThen_ok, hs]
          simpa only [Sem.run_bind, bind_assoc] using hr
        · cases h
      · cases h
    · cases h

end Go.Vm
