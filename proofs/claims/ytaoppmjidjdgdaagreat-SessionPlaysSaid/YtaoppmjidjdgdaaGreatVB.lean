/- A part of the proof; what is proved stands in the last text. -/
import Derived.Test.YtaoppmjidjdgdaaGreatVA
import Derived.Laws.StructEq
import Derived.Laws.BytesArg
set_option linter.unusedVariables false
set_option maxRecDepth 2000
namespace Go.Vm
open Go.RowKit
variable {P : Program} {w0 w : World} {N : Nat} {g : Gh} {S : St} {a : Act}
theorem bin_sound {op : BinOp} {t : TypeId} {x y : Operand} {p q d : D} {v u : Value} (hp : Rep g w p v) (hq : Rep g w q u) (hl : binD op p q = some d) :
    ∃ r, (do eqGuard op t x y v u; binOp op t v u : Sem Value).run P w = .ok r w ∧ Rep g w d r := by
 cases p <;> cases q <;> try (simp only [binD] at hl; cases hl; done)
 rename_i v' u'
 have := hp.val_inv; subst this
 have := hq.val_inv; subst this
 have done : ∀ {r : Value}, d = .val r → (do eqGuard op t x y v u; binOp op t v u : Sem Value).run P w = .ok r w →
     ∃ r, (do eqGuard op t x y v u; binOp op t v u : Sem Value).run P w = .ok r w ∧ Rep g w d r := fun hd h => ⟨_, h, hd ▸ .fz _ _ (.val _)⟩
 cases v <;> cases u <;> try (simp only [binD] at hl; cases hl; done)
 case int.int k m k' n =>
  have hg : (eqGuard op t x y (.int k m) (.int k' n)).run P w = .ok () w := by cases op <;> rfl
  have sh : ∀ o, o = .shl ∨ o = .shr → ∀ r, shI o k m n = some r → (Op.shift o k m k' n).run P w = .ok r w := by
   rintro o ho r hr
   unfold shI at hr
   split at hr
   ·cases hr
   ·rename_i h0
    rcases ho with rfl | rfl <;> simp only [Option.some.injEq] at hr <;> subst hr <;> simp [Op.shift, h0]
  by_cases h1 : op = .shl
  ·subst h1
   simp only [binD, Option.map_eq_some_iff] at hl
   obtain ⟨r, hr, rfl⟩ := hl
   exact done rfl (by simp only [Sem.run_bind, hg, Result.andThen_ok]; exact sh _ (.inl rfl) r hr)
  by_cases h2 : op = .shr
  ·subst h2
   simp only [binD, Option.map_eq_some_iff] at hl
   obtain ⟨r, hr, rfl⟩ := hl
   exact done rfl (by simp only [Sem.run_bind, hg, Result.andThen_ok]; exact sh _ (.inr rfl) r hr)
  have hl' : (if k = k' then (binI op k m n).map D.val else none) = some d := by
   cases op <;> first | exact hl | exact absurd rfl h1 | exact absurd rfl h2
  split at hl'
  ·rename_i hk; subst hk
   obtain ⟨r, hr, rfl⟩ := Option.map_eq_some_iff.1 hl'
   refine done rfl ?_
   simp only [Sem.run_bind, hg, Result.andThen_ok]
   cases op <;> simp only [binI] at hr <;> first
    | (injection hr with hr; subst hr; simp [binOp, Op.intArith, Op.intCmp, Op.intBits]; done)
    | (split at hr
       ·cases hr
       ·rename_i h0
        injection hr with hr; subst hr; simp [binOp, Op.intDiv, h0])
    | cases hr
  ·cases hl'
 case string.string m n =>
  have hg : (eqGuard op t x y (.string m) (.string n)).run P w = .ok () w := by cases op <;> rfl
  simp only [binD, Option.map_eq_some_iff] at hl
  obtain ⟨r, hr, rfl⟩ := hl
  refine done rfl ?_
  simp only [Sem.run_bind, hg, Result.andThen_ok]
  cases op <;> simp only [binS] at hr <;> first
   | (injection hr with hr; subst hr; simp [binOp, Op.stringOp]; done)
   | (split at hr
      ·rename_i h0
       injection hr with hr; subst hr
       have : ¬ (((m.size + n.size : Nat) : Int) > IntKind.i64.max) := by
        have : IntKind.i64.max = 9223372036854775807 := by decide
        omega
       simp only [binOp, Op.stringOp]
       rw [if_neg this]; rfl
      ·cases hr)
   | cases hr
theorem binB_sound {op : BinOp} {neg : Bool} {t : TypeId} {x y : Operand} {p q d : D} {v u : Value} (hop : (op = .eql ∧ neg = false) ∨ (op = .neq ∧ neg = true)) (hu : P.underlying t = some .bool)
    (hp : Rep g w p v) (hq : Rep g w q u) (hl : binBD neg p q = some d) : ∃ r, (do eqGuard op t x y v u; binOp op t v u : Sem Value).run P w = .ok r w ∧ Rep g w d r := by
 unfold binBD at hl
 split at hl
 ·rename_i m n
  have := hp.val_inv; subst this
  have := hq.val_inv; subst this
  injection hl with hl; subst hl
  refine ⟨_, ?_, .fz _ _ (.val _)⟩
  have he : (Op.equal t (.bool m) (.bool n)).run P w = .ok (m == n) w := run_equalIn_bool' w 9999 t m n hu
  rcases hop with ⟨rfl, rfl⟩ | ⟨rfl, rfl⟩
  ·have hg : (eqGuard .eql t x y (.bool m) (.bool n)).run P w = .ok () w := rfl
   simp only [Sem.run_bind, hg, Result.andThen_ok, binOp, he, Sem.run_pure, Bool.bne_false]
  ·have hg : (eqGuard .neq t x y (.bool m) (.bool n)).run P w = .ok () w := rfl
   simp only [Sem.run_bind, hg, Result.andThen_ok, binOp, he, Sem.run_pure, Bool.bne_true]
 ·cases hl
theorem run_equal_ptr_nil {t e : TypeId} (hu : P.underlying t = some (.pointer e)) (p : Option Addr) : (Op.equal t (.pointer p) (.pointer none)).run P w = .ok p.isNone w := by
 show (Op.equalIn (9999 + 1) t (.pointer p) (.pointer none)).run P w = _
 generalize 9999 = k
 cases p <;> simp [Op.equalIn, run_underlying hu]
theorem binP_sound {op : BinOp} {neg : Bool} {t e : TypeId} {x y : Operand} {p q d : D} {v u : Value} (hop : (op = .eql ∧ neg = false) ∨ (op = .neq ∧ neg = true)) (hu : P.underlying t = some (.pointer e))
    (hp : Rep g w p v) (hq : Rep g w q u) (hl : binPD neg p q = some d) : ∃ r, (do eqGuard op t x y v u; binOp op t v u : Sem Value).run P w = .ok r w ∧ Rep g w d r := by
 have some_none : ∀ ad, (do eqGuard op t x y (.pointer (some ad)) (.pointer none); binOp op t (.pointer (some ad)) (.pointer none) : Sem Value).run P w = .ok (.bool neg) w := fun ad => by
  rcases hop with ⟨rfl, rfl⟩ | ⟨rfl, rfl⟩
  ·have hg : (eqGuard .eql t x y (.pointer (some ad)) (.pointer none)).run P w = .ok () w := rfl
   simp only [Sem.run_bind, hg, Result.andThen_ok, binOp, run_equal_ptr_nil hu, Sem.run_pure, Option.isNone_some]
  ·have hg : (eqGuard .neq t x y (.pointer (some ad)) (.pointer none)).run P w = .ok () w := rfl
   simp only [Sem.run_bind, hg, Result.andThen_ok, binOp, run_equal_ptr_nil hu, Sem.run_pure, Option.isNone_some, Bool.not_false]
 unfold binPD at hl
 split at hl
 ·have := hp.val_inv; subst this
  have := hq.val_inv; subst this
  injection hl with hl; subst hl
  refine ⟨_, ?_, .fz _ _ (.val _)⟩
  rcases hop with ⟨rfl, rfl⟩ | ⟨rfl, rfl⟩
  ·have hg : (eqGuard .eql t x y (.pointer none) (.pointer none)).run P w = .ok () w := rfl
   simp only [Sem.run_bind, hg, Result.andThen_ok, binOp, run_equal_ptr_nil hu, Sem.run_pure, Option.isNone_none, Bool.not_false]
  ·have hg : (eqGuard .neq t x y (.pointer none) (.pointer none)).run P w = .ok () w := rfl
   simp only [Sem.run_bind, hg, Result.andThen_ok, binOp, run_equal_ptr_nil hu, Sem.run_pure, Option.isNone_none, Bool.not_true]
 ·obtain ⟨b, k, rfl, _⟩ := hp.ptr_inv
  have := hq.val_inv; subst this
  injection hl with hl; subst hl
  exact ⟨_, some_none _, .fz _ _ (.val _)⟩
 ·have := hq.val_inv; subst this
  injection hl with hl; subst hl
  have : ∃ ad, v = .pointer (some ad) := by
   cases hp with
   | fz _ _ h => cases h; exact ⟨_, rfl⟩
   | rpT => exact ⟨_, rfl⟩
  obtain ⟨ad, rfl⟩ := this
  exact ⟨_, some_none _, .fz _ _ (.val _)⟩
 ·cases hl
def eqVs : List SK → List Value → List Value → Option Bool
 | [], [], [] => some true
 | k :: ks, a :: xs, b :: ys => match eqV k a b, eqVs ks xs ys with
  | some p, some q => some (p && q)
  | _, _ => none
 | _, _, _ => none
theorem eqVs_append : ∀ {ks ms : List SK} {a b c d : List Value} {p : Bool}, a.length = ks.length → b.length = ks.length → eqVs (ks ++ ms) (a ++ c) (b ++ d) = some p →
    ∃ q r, eqVs ks a b = some q ∧ eqVs ms c d = some r ∧ p = (q && r)
 | [], ms, [], [], c, d, p, _, _, h => ⟨true, p, rfl, h, by simp⟩
 | k :: ks, ms, x :: a, y :: b, c, d, p, ha, hb, h => by
  simp only [List.cons_append, eqVs] at h
  split at h
  ·rename_i p1 q1 h1 h2
   obtain ⟨q, r, h3, h4, rfl⟩ := eqVs_append (by simpa using ha) (by simpa using hb) h2
   injection h with h
   exact ⟨p1 && q, r, by simp [eqVs, h1, h3], h4, by rw [← h, Bool.and_assoc]⟩
  ·cases h
 | [], _, _ :: _, _, _, _, _, ha, _, _ => by simp at ha
 | [], _, [], _ :: _, _, _, _, _, hb, _ => by simp at hb
 | _ :: _, _, [], _, _, _, _, ha, _, _ => by simp at ha
 | _ :: _, _, _ :: _, [], _, _, _, _, hb, _ => by simp at hb
def seg (xs : Array Value) (off n : Nat) : List Value := (xs.toList.drop off).take n
theorem seg_length {xs : Array Value} {off n : Nat} (h : off + n ≤ xs.size) : (seg xs off n).length = n := by
 simp [seg]; omega
theorem seg_add (xs : Array Value) (off m n : Nat) : seg xs off (m + n) = seg xs off m ++ seg xs (off + m) n := by
 unfold seg
 rw [List.take_add, List.drop_drop]
theorem seg_extract {xs : Array Value} {off n i m : Nat} (hn : i + m ≤ n) : seg (xs.extract off (off + n)) i m = seg xs (off + i) m := by
 unfold seg
 simp only [Array.toList_extract, List.extract_eq_take_drop, Nat.add_sub_cancel_left]
 rw [List.drop_take, List.take_take, List.drop_drop, Nat.min_eq_left (by omega)]
theorem seg_one {xs : Array Value} {off : Nat} (h : off < xs.size) : seg xs off 1 = [xs[off]] := by
 unfold seg
 have h' : off < xs.toList.length := by simpa using h
 rw [List.drop_eq_getElem_cons h']
 simp
theorem part_scalar {t : TypeId} {d : TypeDesc} {xs : Array Value} {off : Nat} (hu : P.underlying t = some d) (hd : aggD d = false) (h : off < xs.size) : (part t xs off).run P w = .ok xs[off] w := by
 simp [part, isAgg_run hu, hd, h]
theorem part_agg {t : TypeId} {d : TypeDesc} {i : TypeInfo} {xs : Array Value} {off : Nat} (hu : P.underlying t = some d) (hd : aggD d = true) (hi : P.info? t = some i) :
    (part t xs off).run P w = .ok (.agg (xs.extract off (off + i.size))) w := by
 simp [part, isAgg_run hu, hd, sizeOf, typeInfo, hi]
theorem range_all (f : Nat → Sem Bool) (p : Nat → Bool) (n : Nat) (h : ∀ i, i < n → (f i).run P w = .ok (p i) w) :
    (do for i in [0:n] do { if !(← f i) then return false }; pure true : Sem Bool).run P w = .ok ((List.range n).all p) w := by
 simp only [Std.Legacy.Range.forIn_eq_forIn_range', Std.Legacy.Range.size, Nat.sub_zero, Nat.add_sub_cancel, Nat.div_one]
 rw [← List.range_eq_range']
 have hl : ∀ i ∈ List.range n, i < n := fun i hi => List.mem_range.1 hi
 generalize List.range n = l at hl
 induction l with
 | nil => simp
 | cons i l ih =>
  have hi := h i (hl i (by simp))
  simp only [List.forIn_cons, Sem.run_bind, hi, Result.andThen_ok, List.all_cons]
  by_cases hpi : p i = true
  ·simp only [hpi, Bool.not_true, Bool.false_eq_true, if_false, Sem.run_pure, Result.andThen_ok, Bool.true_and]
   simpa only [Sem.run_bind] using ih (fun j hj => hl j (by simp [hj]))
  ·simp only [hpi]
   rfl
theorem flatFs_ext {ft : TypeId → Option (List SK)} : ∀ {fs : List Field} {ks ms : List SK}, flatFs ft fs ks = some ms → ∃ r, ms = ks ++ r
 | [], ks, ms, h => by simp [flatFs] at h; exact ⟨[], by simp [h]⟩
 | f :: fs, ks, ms, h => by
  simp only [flatFs] at h
  split at h
  ·split at h
   ·obtain ⟨r, hr⟩ := flatFs_ext h
    exact ⟨_, by rw [hr, List.append_assoc]⟩
   ·cases h
  ·cases h
theorem eqV_eq {k : SK} {a b : Value} {p : Bool} (h : eqVs [k] [a] [b] = some p) : eqV k a b = some p := by
 simp only [eqVs] at h
 split at h
 ·rename_i p1 q1 h1 h2
  simp only [Option.some.injEq] at h2 h
  rw [h1, ← h, ← h2, Bool.and_true]
 ·cases h
def EqAt (P : Program) (w : World) (d : Nat) (t : TypeId) (ks : List SK) : Prop := ∀ (xs ys : Array Value) (off : Nat) (b : Bool), off + ks.length ≤ xs.size → off + ks.length ≤ ys.size →
 eqVs ks (seg xs off ks.length) (seg ys off ks.length) = some b → ∃ x y, (part t xs off).run P w = .ok x w ∧ (part t ys off).run P w = .ok y w ∧ (Op.equalIn d t x y).run P w = .ok b w
theorem eq_fields {d : Nat} {ft : TypeId → Option (List SK)} (hft : ∀ t ks, ft t = some ks → EqAt P w d t ks) (xs ys : Array Value) : ∀ (fs : List Field) (ks ms : List SK) (b : Bool), flatFs ft fs ks = some (ks ++ ms) →
    (ks ++ ms).length ≤ xs.size → (ks ++ ms).length ≤ ys.size → eqVs ms (seg xs ks.length ms.length) (seg ys ks.length ms.length) = some b → (Op.eqFields d xs ys fs).run P w = .ok b w
 | [], ks, ms, b, h, _, _, hb => by
  simp only [flatFs, Option.some.injEq, List.self_eq_append_right] at h
  subst h
  simp only [eqVs, seg, List.length_nil, List.take_zero, Option.some.injEq] at hb
  subst hb
  simp [Op.eqFields]
 | f :: fs, ks, ms, b, h, hx, hy, hb => by
  simp only [flatFs] at h
  split at h
  ·rename_i hf
   split at h
   ·rename_i ks1 h1
    obtain ⟨r, hr⟩ := flatFs_ext h
    rw [List.append_assoc, List.append_cancel_left_eq] at hr
    subst hr
    simp only [List.length_append] at hx hy hb
    rw [seg_add, seg_add] at hb
    obtain ⟨q, r', hq, hr', rfl⟩ := eqVs_append (seg_length (by omega)) (seg_length (by omega)) hb
    obtain ⟨x, y, e1, e2, e3⟩ := hft _ _ h1 xs ys f.offset q (by omega) (by omega) (by rw [hf.2]; exact hq)
    have ih := eq_fields hft xs ys fs (ks ++ ks1) r r' (by rw [h, List.append_assoc]) (by simp; omega) (by simp; omega) (by simpa using hr')
    simp only [Op.eqFields, if_pos hf.1, Sem.run_bind, e1, e2, e3, Result.andThen_ok]
    cases q
    ·rfl
    ·simpa using ih
   ·cases h
  ·cases h
theorem reps_length {α : Type} (n : Nat) (xs : List α) : (reps n xs).length = n * xs.length := by
 induction n with
 | zero => simp [reps]
 | succ n ih => simp [reps, ih, Nat.succ_mul, Nat.add_comm]
theorem eq_elems {d : Nat} {e : TypeId} {ks : List SK} (he : EqAt P w d e ks) (xs ys : Array Value) : ∀ (n off : Nat) (b : Bool), off + n * ks.length ≤ xs.size → off + n * ks.length ≤ ys.size →
    eqVs (reps n ks) (seg xs off (n * ks.length)) (seg ys off (n * ks.length)) = some b → ∃ p : Nat → Bool,
     (∀ i, i < n → ∃ x y, (part e xs (off + i * ks.length)).run P w = .ok x w ∧ (part e ys (off + i * ks.length)).run P w = .ok y w ∧ (Op.equalIn d e x y).run P w = .ok (p i) w) ∧ (List.range n).all p = b
 | 0, off, b, _, _, hb => by
  simp only [reps, eqVs, Nat.zero_mul, seg, List.take_zero, Option.some.injEq] at hb
  exact ⟨fun _ => true, fun i hi => by omega, by simpa using hb⟩
 | n + 1, off, b, hx, hy, hb => by
  rw [Nat.succ_mul, Nat.add_comm (n * ks.length)] at hx hy hb
  rw [reps, seg_add, seg_add] at hb
  obtain ⟨q, r, hq, hr, rfl⟩ := eqVs_append (seg_length (by omega)) (seg_length (by omega)) hb
  obtain ⟨x, y, e1, e2, e3⟩ := he xs ys off q (by omega) (by omega) hq
  obtain ⟨p, hp, hall⟩ := eq_elems he xs ys n (off + ks.length) r (by omega) (by omega) hr
  refine ⟨fun i => match i with | 0 => q | i + 1 => p i, fun i hi => ?_, ?_⟩
  ·cases i with
   | zero => simpa using ⟨x, e1, y, e2, e3⟩
   | succ i =>
    have := hp i (by omega)
    rw [show off + (i + 1) * ks.length = off + ks.length + i * ks.length by rw [Nat.succ_mul]; omega]
    exact this
  ·rw [List.range_succ_eq_map, List.all_cons, List.all_map, ← hall]
   rfl
theorem eq_flat : ∀ (d : Nat) (t : TypeId) (ks : List SK), flatT P d t = some ks → ∀ k, EqAt P w (d + k) t ks := by
 intro d
 induction d with
 | zero => intro t ks h; simp [flatT] at h
 | succ d ih =>
  intro t ks h k xs ys off b hx hy hb
  have hdk : d + 1 + k = (d + k) + 1 := by omega
  rw [hdk]
  simp only [flatT] at h
  have scalar : ∀ (sk : SK) (dd : TypeDesc), P.underlying t = some dd → aggD dd = false → ks = [sk] → (∀ u v p, eqV sk u v = some p → (Op.equalIn (d + k + 1) t u v).run P w = .ok p w) →
      ∃ x y, (part t xs off).run P w = .ok x w ∧ (part t ys off).run P w = .ok y w ∧ (Op.equalIn (d + k + 1) t x y).run P w = .ok b w := by
   intro sk dd hu hd hk hs
   subst hk
   simp only [List.length_singleton] at hx hy hb
   rw [seg_one (by omega), seg_one (by omega)] at hb
   exact ⟨_, _, part_scalar hu hd (by omega), part_scalar hu hd (by omega), hs _ _ _ (eqV_eq hb)⟩
  split at h
  ·rename_i hu
   injection h with h
   refine scalar .b _ hu rfl h.symm (fun u v p hp => ?_)
   cases u <;> cases v <;> simp only [eqV] at hp <;> try (cases hp; done)
   injection hp with hp; subst hp
   exact run_equalIn_bool' w _ t _ _ hu
  ·rename_i hu
   injection h with h
   refine scalar .i _ hu rfl h.symm (fun u v p hp => ?_)
   cases u <;> cases v <;> simp only [eqV] at hp <;> try (cases hp; done)
   split at hp
   ·rename_i hk; subst hk
    injection hp with hp; subst hp
    exact run_equalIn_int w _ t _ _ _ _ hu
   ·cases hp
  ·rename_i hu
   injection h with h
   refine scalar .s _ hu rfl h.symm (fun u v p hp => ?_)
   cases u <;> cases v <;> simp only [eqV] at hp <;> try (cases hp; done)
   injection hp with hp; subst hp
   exact run_equalIn_string w _ t _ _ hu
  ·rename_i fs hu
   split at h
   ·rename_i i ks' hi hfs
    split at h
    ·rename_i hc
     injection h with h; subst h
     have hF : P.fieldsOf t = fs := by simp [Program.fieldsOf, hu]
     refine ⟨_, _, part_agg hu rfl hi, part_agg hu rfl hi, ?_⟩
     rw [run_equalIn_struct w _ t _ _ (by rw [hF]; exact hu) hc.2, hF]
     refine eq_fields (fun t ks h => ih t ks h k) _ _ fs.toList [] ks' b (by simpa using hfs) (by simp [hc.1]; omega) (by simp [hc.1]; omega) ?_
     rw [hc.1]
     simp only [List.length_nil]
     rw [seg_extract (by omega), seg_extract (by omega)]
     simpa using hb
    ·cases h
   ·cases h
  ·rename_i n e hu
   split at h
   ·rename_i ks' i it hks hi hit
    split at h
    ·rename_i hc
     injection h with h; subst h
     rw [reps_length] at hx hy hb
     refine ⟨_, _, part_agg hu rfl hit, part_agg hu rfl hit, ?_⟩
     rw [hc.2]
     obtain ⟨p, hp, hall⟩ := eq_elems (ih e ks' hks k) (xs.extract off (off + n * ks'.length)) (ys.extract off (off + n * ks'.length)) n 0 b (by simp; omega) (by simp; omega)
      (by rw [seg_extract (by omega), seg_extract (by omega)]; simpa using hb)
     have hr := range_all (P := P) (w := w) (fun i => do Op.equalIn (d + k) e (← part e (xs.extract off (off + n * ks'.length)) (i * ks'.length)) (← part e (ys.extract off (off + n * ks'.length)) (i * ks'.length))) p n (fun i hi => by
      obtain ⟨x, y, e1, e2, e3⟩ := hp i hi
      rw [Nat.zero_add] at e1 e2
      simp only [Sem.run_bind, e1, e2, e3, Result.andThen_ok])
     rw [hall] at hr
     have hs : (sizeOf e).run P w = .ok ks'.length w := by simp [sizeOf, typeInfo, hi, hc.1]
     simp only [Op.equalIn, Sem.run_bind, run_underlying hu, Result.andThen_ok, hs]
     simpa only [Sem.run_bind, bind_assoc] using hr
    ·cases h
   ·cases h
  ·cases h
end Go.Vm

namespace Go.Vm
open Go.RowKit
variable {P : Program} {w0 w : World} {N : Nat} {g : Gh} {S : St} {a : Act}
theorem eqDs_vs : ∀ {ks : List SK} {ds es : List D} {vs us : List Value} {b : Bool}, eqDs ks ds es = some b → vs.length = ds.length → us.length = es.length →
    (∀ (i : Nat) (d : D) (v : Value), ds[i]? = some d → vs[i]? = some v → Rep g w d v) → (∀ (i : Nat) (d : D) (v : Value), es[i]? = some d → us[i]? = some v → Rep g w d v) →
    eqVs ks vs us = some b ∧ ds.length = ks.length ∧ es.length = ks.length
 | [], [], [], [], [], b, h, _, _, _, _ => ⟨h, rfl, rfl⟩
 | k :: ks, .val x :: ds, .val y :: es, v :: vs, u :: us, b, h, hv, hu, h1, h2 => by
  simp only [eqDs] at h
  split at h
  ·rename_i p q hp hq
   have := (h1 0 _ v rfl rfl).val_inv; subst this
   have := (h2 0 _ u rfl rfl).val_inv; subst this
   obtain ⟨e1, e2, e3⟩ := eqDs_vs (vs := vs) (us := us) hq (by simpa using hv) (by simpa using hu) (fun i d v hd hv => h1 (i + 1) d v (by simpa using hd) (by simpa using hv)) (fun i d v hd hv => h2 (i + 1) d v (by simpa using hd) (by simpa using hv))
   exact ⟨by simp only [eqVs, hp, e1]; exact h, by simp [e2], by simp [e3]⟩
  ·cases h
 | [], _ :: _, _, _, _, _, h, _, _, _, _ => by simp [eqDs] at h
 | [], [], _ :: _, _, _, _, h, _, _, _, _ => by simp [eqDs] at h
 | _ :: _, [], _, _, _, _, h, _, _, _, _ => by simp [eqDs] at h
 | _ :: _, d :: _, [], _, _, _, h, _, _, _, _ => by cases d <;> simp [eqDs] at h
 | [], [], [], _ :: _, _, _, _, hv, _, _, _ => by simp at hv
 | [], [], [], [], _ :: _, _, _, _, hu, _, _ => by simp at hu
 | _ :: _, _ :: _, _ :: _, [], _, _, _, hv, _, _, _ => by simp at hv
 | _ :: _, _ :: _, _ :: _, _ :: _, [], _, _, _, hu, _, _ => by simp at hu
 | _ :: _, .undef :: _, _ :: _, _ :: _, _ :: _, _, h, _, _, _, _ => by simp [eqDs] at h
 | _ :: _, .sl .. :: _, _ :: _, _ :: _, _ :: _, _, h, _, _, _, _ => by simp [eqDs] at h
 | _ :: _, .ptr .. :: _, _ :: _, _ :: _, _ :: _, _, h, _, _, _, _ => by simp [eqDs] at h
 | _ :: _, .rp .. :: _, _ :: _, _ :: _, _ :: _, _, h, _, _, _, _ => by simp [eqDs] at h
 | _ :: _, .fn .. :: _, _ :: _, _ :: _, _ :: _, _, h, _, _, _, _ => by simp [eqDs] at h
 | _ :: _, .agg .. :: _, _ :: _, _ :: _, _ :: _, _, h, _, _, _, _ => by simp [eqDs] at h
 | _ :: _, .tup .. :: _, _ :: _, _ :: _, _ :: _, _, h, _, _, _, _ => by simp [eqDs] at h
 | _ :: _, .val _ :: _, .undef :: _, _ :: _, _ :: _, _, h, _, _, _, _ => by simp [eqDs] at h
 | _ :: _, .val _ :: _, .sl .. :: _, _ :: _, _ :: _, _, h, _, _, _, _ => by simp [eqDs] at h
 | _ :: _, .val _ :: _, .ptr .. :: _, _ :: _, _ :: _, _, h, _, _, _, _ => by simp [eqDs] at h
 | _ :: _, .val _ :: _, .rp .. :: _, _ :: _, _ :: _, _, h, _, _, _, _ => by simp [eqDs] at h
 | _ :: _, .val _ :: _, .fn .. :: _, _ :: _, _ :: _, _, h, _, _, _, _ => by simp [eqDs] at h
 | _ :: _, .val _ :: _, .agg .. :: _, _ :: _, _ :: _, _, h, _, _, _, _ => by simp [eqDs] at h
 | _ :: _, .val _ :: _, .tup .. :: _, _ :: _, _ :: _, _, h, _, _, _, _ => by simp [eqDs] at h
theorem flatT_size {d : Nat} {t : TypeId} {ks : List SK} {D : TypeDesc} (h : flatT P d t = some ks) (hu : P.underlying t = some D) (hd : aggD D = true) : ∃ i, P.info? t = some i ∧ i.size = ks.length := by
 cases d with
 | zero => simp [flatT] at h
 | succ d =>
  rw [flatT, hu] at h
  cases D <;> simp only [aggD] at hd <;> (try (cases hd; done)) <;> dsimp only at h
  ·split at h
   ·rename_i ks' i it hks hi hit
    split at h
    ·rename_i hc
     injection h with h; subst h
     exact ⟨it, hit, by rw [hc.2, reps_length]⟩
    ·cases h
   ·cases h
  ·split at h
   ·rename_i i ks' hi hfs
    split at h
    ·rename_i hc
     injection h with h; subst h
     exact ⟨i, hi, hc.1⟩
    ·cases h
   ·cases h
theorem eqs_sound {op : BinOp} {neg : Bool} {t : TypeId} {D0 : TypeDesc} {ks : List SK} {x y : Operand} {ds es : List D} {v u : Value} {b : Bool} (hop : (op = .eql ∧ neg = false) ∨ (op = .neq ∧ neg = true))
    (hu : P.underlying t = some D0) (hd : aggD D0 = true) (hg : P.eqGuardType P.depth t = false) (hf : flatT P 20 t = some ks) (hp : Rep g w (.agg ds) v) (hq : Rep g w (.agg es) u) (hl : eqDs ks ds es = some b) :
    ∃ r, (do eqGuard op t x y v u; binOp op t v u : Sem Value).run P w = .ok r w ∧ Rep g w (.val (.bool (b != neg))) r := by
 obtain ⟨vs, rfl, hvs, hv⟩ := hp.agg_inv
 obtain ⟨us, rfl, hus, hu'⟩ := hq.agg_inv
 obtain ⟨e1, e2, e3⟩ := eqDs_vs (vs := vs.toList) (us := us.toList) hl (by simpa using hvs) (by simpa using hus) (fun i d v h1 h2 => hv i d v h1 (by simpa using h2)) (fun i d v h1 h2 => hu' i d v h1 (by simpa using h2))
 obtain ⟨i, hi, hsz⟩ := flatT_size hf hu hd
 have seg0 : ∀ (zs : Array Value), zs.size = ks.length → seg zs 0 ks.length = zs.toList := fun zs hz => by simp only [seg, List.drop_zero, ← hz]; exact List.take_of_length_le (by simp)
 obtain ⟨x', y', p1, p2, p3⟩ := eq_flat (P := P) (w := w) 20 t ks hf 9980 vs us 0 b (by omega) (by omega) (by rw [seg0 vs (by omega), seg0 us (by omega)]; exact e1)
 rw [part_agg hu hd hi] at p1 p2
 injection p1 with p1; injection p2 with p2
 rw [hsz, Nat.zero_add] at p1 p2
 have ex : ∀ (zs : Array Value), zs.size = ks.length → zs.extract 0 ks.length = zs := fun zs hz => by rw [← hz]; simp
 rw [ex vs (by omega)] at p1
 rw [ex us (by omega)] at p2
 subst p1; subst p2
 have hguard := run_eqGuard_agg (P := P) w op t x y vs us hg
 refine ⟨_, ?_, .fz _ _ (.val _)⟩
 rcases hop with ⟨rfl, rfl⟩ | ⟨rfl, rfl⟩
 ·simp only [Sem.run_bind, hguard, Result.andThen_ok, run_eql_struct, p3, Bool.bne_false]
 ·simp only [Sem.run_bind, hguard, Result.andThen_ok, run_neq_struct, p3, Bool.bne_true]
theorem un_sound {op : UnOp} {p d : D} {v : Value} (hp : Rep g w p v) (hl : unD op p = some d) : ∃ r, (Op.unary op v).run P w = .ok r w ∧ Rep g w d r := by
 cases p <;> try (simp only [unD] at hl; cases hl; done)
 rename_i v'
 have := hp.val_inv; subst this
 cases v <;> try (simp only [unD] at hl; cases hl; done)
 ·cases op <;> simp only [unD] at hl <;> try (cases hl; done)
  injection hl with hl; subst hl
  exact ⟨_, rfl, .fz _ _ (.val _)⟩
 ·cases op <;> simp only [unD] at hl <;> try (cases hl; done)
  ·injection hl with hl; subst hl
   exact ⟨_, rfl, .fz _ _ (.val _)⟩
  ·simp only [binI, Option.map_some, Option.some.injEq] at hl
   subst hl
   exact ⟨_, rfl, .fz _ _ (.val _)⟩
theorem part_cut {t : TypeId} {sz : Option Nat} {ds : List D} {vs : Array Value} {off : Nat} {d : D} (ha : aggT P t = some sz) (hs : vs.size = ds.length)
    (h : ∀ (i : Nat) (d : D) (v : Value), ds[i]? = some d → vs[i]? = some v → Rep g w d v) (hc : cut sz ds off = some d) : ∃ r, (part t vs off).run P w = .ok r w ∧ Rep g w d r := by
 cases sz with
 | none =>
  simp only [cut] at hc
  have hlt : off < vs.size := by rw [hs]; exact (List.getElem?_eq_some_iff.1 hc).1
  refine ⟨vs[off], ?_, h off d _ hc (Array.getElem?_eq_getElem hlt)⟩
  simp [part, aggT_none ha, hlt]
 | some n =>
  simp only [cut] at hc
  split at hc
  ·rename_i hle
   injection hc with hc; subst hc
   have h2 := aggT_some (P := P) (w := w) ha
   refine ⟨.agg (vs.extract off (off + n)), by simp only [part, Sem.run_bind, h2.1, Result.andThen_ok, if_true, h2.2, Sem.run_pure], .agg _ _ ?_ ?_⟩
   ·simp; omega
   ·intro i d v hd hv
    rw [List.getElem?_take] at hd
    split at hd
    ·rw [List.getElem?_drop] at hd
     rw [Array.getElem?_extract] at hv
     split at hv
     ·exact h _ _ _ hd hv
     ·cases hv
    ·cases hd
  ·cases hc
theorem fld_sound {t : TypeId} {fs : Array Field} {f : Nat} {fd : Field} {sz : Option Nat} {ds : List D} {d : D} {v : Value} (hu : P.underlying t = some (.struct fs)) (hf : fs[f]? = some fd)
    (ha : aggT P fd.type = some sz) (hp : Rep g w (.agg ds) v) (hl : cut sz ds fd.offset = some d) : ∃ r, (Instr.field t v f).run P w = .ok r w ∧ Rep g w d r := by
 obtain ⟨vs, rfl, hvs, hv⟩ := hp.agg_inv
 obtain ⟨r, h1, h2⟩ := part_cut (P := P) ha hvs hv hl
 exact ⟨r, by simp [Instr.field, run_underlying hu, hf, asAgg, h1], h2⟩
theorem idxA_sound {t e : TypeId} {n : Nat} {i : TypeInfo} {sz : Option Nat} {p q d : D} {v u : Value} (hu : P.underlying t = some (.array n e)) (hi : P.info? e = some i) (ha : aggT P e = some sz)
    (hp : Rep g w p v) (hq : Rep g w q u) (hl : idxAD n i.size sz.isSome p q = some d) : ∃ r, (Instr.index t v u).run P w = .ok r w ∧ Rep g w d r := by
 unfold idxAD at hl
 split at hl
 ·rename_i ds k j
  split at hl
  ·rename_i hj
   obtain ⟨vs, rfl, hvs, hv⟩ := hp.agg_inv
   have := hq.val_inv; subst this
   have hsz : (if sz.isSome = true then some i.size else none) = sz := by
    cases sz with
    | none => rfl
    | some m =>
     unfold aggT at ha
     rw [hi] at ha
     split at ha
     ·rename_i h1 h2
      injection h2 with h2; subst h2
      injection ha with ha
      split at ha
      ·injection ha with ha; simp [ha]
      ·cases ha
     ·cases ha
   rw [hsz] at hl
   obtain ⟨r, h1, h2⟩ := part_cut (P := P) ha hvs hv hl
   exact ⟨r, by simp [Instr.index, asIntOf, run_underlying hu, hj.1, hj.2, sizeOf, typeInfo, hi, h1], h2⟩
  ·cases hl
 ·cases hl
theorem idxS_sound {t : TypeId} {p q d : D} {v u : Value} (hu : P.underlying t = some .string) (hp : Rep g w p v) (hq : Rep g w q u) (hl : idxSD p q = some d) :
    ∃ r, (Instr.index t v u).run P w = .ok r w ∧ Rep g w d r := by
 unfold idxSD at hl
 split at hl
 ·rename_i s k j
  split at hl
  ·rename_i hj
   split at hl
   ·rename_i b hb
    have := hp.val_inv; subst this
    have := hq.val_inv; subst this
    injection hl with hl; subst hl
    refine ⟨_, ?_, .fz _ _ (.val _)⟩
    have hlt : j.toNat < s.size := (Array.getElem?_eq_some_iff.1 hb).1
    have hs : s[j.toNat]? = some b := by
     rw [ByteArray.getElem?_lt' s _ hlt]
     congr 1
     have := (Array.getElem?_eq_some_iff.1 hb).2
     exact this
    simp [Instr.index, asIntOf, run_underlying hu, hj, hs]
   ·cases hl
  ·cases hl
 ·cases hl
theorem boundD_some {x : Operand} {top n dflt : Nat} (h : boundD S dflt top (some x) = some n) : ∃ k i, look S x = some (.val (.int k i)) ∧ 0 ≤ i ∧ i ≤ top ∧ n = i.toNat := by
 simp only [boundD] at h
 split at h
 ·rename_i k i hx
  split at h
  ·rename_i hi
   injection h with h
   exact ⟨k, i, hx, hi.1, hi.2, h.symm⟩
  ·cases h
 ·cases h
theorem bound_sound (hS : Core g S a.tmps w) {x : Operand} {top top' n dflt : Nat} {code : BoundsCode} (h : boundD S dflt top (some x) = some n) (ht : top ≤ top') : (Instr.sliceBound (a.eval x) top' code).run P w = .ok n w := by
 obtain ⟨k, i, hx, h0, h1, rfl⟩ := boundD_some h
 have := (hS.look hx).val_inv
 have h2 : i ≤ (top' : Int) := by omega
 simp [Instr.sliceBound, this, asIntOf, h0, h2]
theorem boundD_le {x : Option Operand} {top n dflt : Nat} (h : boundD S dflt top x = some n) (hd : dflt ≤ top) : n ≤ top := by
 cases x with
 | none => simp only [boundD, Option.some.injEq] at h; omega
 | some x => obtain ⟨k, i, hx, h0, h1, rfl⟩ := boundD_some h; omega
theorem bounds_sound (hS : Core g S a.tmps w) {lo hi : Option Operand} {len cap h l : Nat} {isS : Bool} (hle : len ≤ cap) (hh : boundD S len len hi = some h) (hl : boundD S 0 h lo = some l) :
    (Instr.sliceBounds isS len cap (lo.map a.eval) (hi.map a.eval) none).run P w = .ok (l, h, cap) w ∧ l ≤ h ∧ h ≤ len := by
 refine ⟨?_, boundD_le hl (by omega), boundD_le hh (by omega)⟩
 unfold Instr.sliceBounds
 cases hi with
 | none =>
  simp only [boundD, Option.some.injEq] at hh
  subst hh
  cases lo with
  | none => simp only [boundD, Option.some.injEq] at hl; subst hl; simp
  | some y => simp [bound_sound (P := P) (code := .sliceB) hS hl (Nat.le_refl _)]
 | some x =>
  have hx := bound_sound (P := P) (code := if isS then .sliceAcap else .sliceAlen) hS hh hle
  cases lo with
  | none => simp only [boundD, Option.some.injEq] at hl; subst hl; simp [hx]
  | some y => simp [hx, bound_sound (P := P) (code := .sliceB) hS hl (Nat.le_refl _)]
theorem bounds_sound' (hS : Core g S a.tmps w) {lo hi : Option Operand} {len top cap h l : Nat} {isS : Bool} (hle : len ≤ top) (htc : top ≤ cap) (hh : boundD S len top hi = some h) (hl : boundD S 0 h lo = some l) :
    (Instr.sliceBounds isS len cap (lo.map a.eval) (hi.map a.eval) none).run P w = .ok (l, h, cap) w ∧ l ≤ h ∧ h ≤ top := by
 refine ⟨?_, boundD_le hl (by omega), boundD_le hh (by omega)⟩
 unfold Instr.sliceBounds
 cases hi with
 | none =>
  simp only [boundD, Option.some.injEq] at hh
  subst hh
  cases lo with
  | none => simp only [boundD, Option.some.injEq] at hl; subst hl; simp
  | some y => simp [bound_sound (P := P) (code := .sliceB) hS hl (Nat.le_refl _)]
 | some x =>
  have hx := bound_sound (P := P) (code := if isS then .sliceAcap else .sliceAlen) hS hh htc
  cases lo with
  | none => simp only [boundD, Option.some.injEq] at hl; subst hl; simp [hx]
  | some y => simp [hx, bound_sound (P := P) (code := .sliceB) hS hl (Nat.le_refl _)]
theorem part_sound (hS : Core g S a.tmps w) {t e : TypeId} {i : TypeInfo} {lo hi : Option Operand} {tg : Tag} {lo0 n : Nat} {es : List (List D)} {ti : TI} {d : D} {v : Value} (hu : P.underlying t = some (.slice e)) (hi' : P.info? e = some i)
    (ht : g.τ tg = some ti) (hn : es.length = ti.n) (hel : ∀ (i : Nat) (e : List D), es[i]? = some e → e.length = ti.sz)
    (hr : ∀ (i : Nat) (e : List D) (j : Nat) (d : D), es[i]? = some e → e[j]? = some d → ∃ u, ti.xs[i * ti.sz + j]? = some u ∧ RepF g.F w d u) (hv : PartV lo0 n ti.sz ti.v v) (hl : partD S i.size lo hi tg lo0 n es = some d) :
    ∃ r, (Instr.sliceAt t v (lo.map a.eval) (hi.map a.eval) none).run P w = .ok r w ∧ Rep g w d r := by
 unfold partD at hl
 split at hl
 ·rename_i hc
  obtain ⟨hlive, hle, hsz⟩ := hc
  split at hl
  ·rename_i h hh
   split at hl
   ·rename_i l hlo
    injection hl with hl; subst hl
    obtain ⟨x, hx⟩ := live_some hlive tg 0 rfl
    obtain ⟨ti', q1, q2⟩ := hS.tag tg x hx
    rw [ht] at q1; injection q1 with q1; subst q1
    have hszt : ti.sz = i.size := q2.ty.2.trans hsz
    have hb1 := boundD_le hlo (Nat.zero_le _)
    have hb2 := boundD_le hh (by omega)
    rcases ti.shape with ⟨hv0, hz⟩ | ⟨b, c, hv0⟩
    ·rw [hv0] at hv
     have hv : v = .slice none 0 0 := hv
     subst hv
     have e1 : n = 0 := by omega
     have e2 : es.length - lo0 = 0 := by omega
     rw [e1, e2] at hh
     obtain ⟨h1, h2, h3⟩ := bounds_sound (P := P) (isS := true) hS (Nat.le_refl 0) hh hlo
     have e3 : h = 0 := by omega
     have e4 : l = 0 := by omega
     subst e3; subst e4
     refine ⟨.slice none 0 0, by simp [Instr.sliceAt, Instr.slice, run_underlying hu, h1, sizeOf, typeInfo, hi'], .part tg _ _ es ti _ ?_ ht hn (by omega) hel hr⟩
     rw [hv0]; rfl
    ·have hcap : ti.n ≤ c := by
       rcases q2.own.2 with ⟨h1, _⟩ | ⟨gg, cap, cur, h1, _, _, h2, _⟩
       ·rw [hv0] at h1; cases h1
       ·rw [hv0] at h1; injection h1 with _ _ h1; omega
     rw [hv0] at hv
     obtain ⟨p, rfl, hp⟩ := hv
     obtain ⟨h1, h2, h3⟩ := bounds_sound' (P := P) (cap := c - lo0) (isS := true) hS (show n ≤ es.length - lo0 by omega) (by omega) hh hlo
     have hrun : (Instr.sliceAt t (.slice (some p) n (c - lo0)) (lo.map a.eval) (hi.map a.eval) none).run P w = .ok (.slice (some (if c - lo0 = l then p else p.add (l * i.size))) (h - l) (c - lo0 - l)) w := by
      by_cases hcl : c - lo0 = l
      ·rw [hcl] at h1 ⊢
       simp [Instr.sliceAt, Instr.slice, run_underlying hu, h1, sizeOf, typeInfo, hi']
      ·simp [Instr.sliceAt, Instr.slice, run_underlying hu, h1, sizeOf, typeInfo, hi', hcl]
     refine ⟨_, hrun, .part tg _ _ es ti _ ?_ ht hn (by omega) hel hr⟩
     rw [hv0]
     refine ⟨_, by rw [Nat.sub_add_eq], fun hlt => ?_⟩
     rw [if_neg (by omega), hp (by omega), hszt]
     unfold Addr.add
     split
     ·rename_i h0; simp only [Nat.add_mul]; congr 1; omega
     ·simp only [Nat.add_mul]; congr 1; omega
   ·cases hl
  ·cases hl
 ·cases hl
theorem slcS_sound (hS : Core g S a.tmps w) {t : TypeId} {lo hi : Option Operand} {p d : D} {v : Value} (hu : P.underlying t = some .string) (hp : Rep g w p v) (hl : slcSD S lo hi p = some d) :
    ∃ r, (Instr.sliceAt t v (lo.map a.eval) (hi.map a.eval) none).run P w = .ok r w ∧ Rep g w d r := by
 unfold slcSD at hl
 split at hl
 ·rename_i s
  split at hl
  ·rename_i h hh
   split at hl
   ·rename_i l hlo
    have := hp.val_inv; subst this
    injection hl with hl; subst hl
    have := (bounds_sound (P := P) (isS := false) hS (Nat.le_refl _) hh hlo).1
    exact ⟨_, by simp [Instr.sliceAt, Instr.slice, run_underlying hu, this], .fz _ _ (.val _)⟩
   ·cases hl
  ·cases hl
 ·cases hl
theorem slc_sound (hS : Core g S a.tmps w) {t e : TypeId} {i : TypeInfo} {lo hi : Option Operand} {p d : D} {v : Value} (hu : P.underlying t = some (.slice e)) (hi' : P.info? e = some i)
    (hp : Rep g w p v) (hl : slcD S i.size lo hi p = some d) : ∃ r, (Instr.sliceAt t v (lo.map a.eval) (hi.map a.eval) none).run P w = .ok r w ∧ Rep g w d r := by
 unfold slcD at hl
 split at hl
 ·rename_i tg es
  cases hp with
  | fz _ _ hp => cases hp
  | slT _ _ ti ht hn hel hr =>
   refine part_sound hS hu hi' ht hn hel hr ?_ hl
   rcases ti.shape with ⟨hv0, hz⟩ | ⟨b, c, hv0⟩
   ·rw [hv0]; rfl
   ·rw [hv0, hn]; exact ⟨⟨b, 0, none⟩, by rw [Nat.sub_zero], fun _ => by simp⟩
 ·rename_i tg lo0 n es
  cases hp with
  | fz _ _ hp => cases hp
  | part _ _ _ _ ti _ hv ht hn hlo hel hr => exact part_sound hS hu hi' ht hn hel hr hv hl
 ·rename_i es
  split at hl
  ·rename_i hsz
   split at hl
   ·rename_i h hh
    split at hl
    ·rename_i l hlo
     injection hl with hl; subst hl
     cases hp with
     | fz _ _ hp => cases hp with
      | nil =>
       obtain ⟨h1, h2, h3⟩ := bounds_sound (P := P) (isS := true) hS (Nat.le_refl _) hh hlo
       simp only [List.length_nil] at h1 h3
       have hh0 : h = 0 := by omega
       have hl0 : l = 0 := by omega
       subst hh0; subst hl0
       exact ⟨.slice none 0 0, by simp [Instr.sliceAt, Instr.slice, run_underlying hu, h1, sizeOf, typeInfo, hi'], .fz _ _ .nil⟩
      | emp ad c =>
       obtain ⟨h1, h2, h3⟩ := bounds_sound (P := P) (isS := true) hS (Nat.zero_le c) hh hlo
       replace h3 : h ≤ 0 := h3
       have hh0 : h = 0 := by omega
       have hl0 : l = 0 := by omega
       subst hh0; subst hl0
       refine ⟨.slice (some ad) 0 c, ?_, .fz _ _ (.emp ad c)⟩
       by_cases hc0 : c = 0
       ·subst hc0
        simp [Instr.sliceAt, Instr.slice, run_underlying hu, h1, sizeOf, typeInfo, hi']
       ·simp [Instr.sliceAt, Instr.slice, run_underlying hu, h1, sizeOf, typeInfo, hi', Addr.add]
      | sl b off sz c _ us hc hlen hF hw h1 hr =>
       obtain ⟨hb, h2, h3⟩ := bounds_sound (P := P) (isS := true) hS hc hh hlo
       have key : ∃ o', (Instr.sliceAt t (.slice (some ⟨b, off, none⟩) es.length c) (lo.map a.eval) (hi.map a.eval) none).run P w = .ok (.slice (some ⟨b, o', none⟩) (h - l) (c - l)) w ∧ (l < h → o' = off + l * i.size) := by
        by_cases hcl : c = l
        ·refine ⟨off, by simp [Instr.sliceAt, Instr.slice, run_underlying hu, hb, sizeOf, typeInfo, hi']; exact fun h => absurd hcl h, fun h => by omega⟩
        ·refine ⟨off + l * i.size, by simp [Instr.sliceAt, Instr.slice, run_underlying hu, hb, sizeOf, typeInfo, hi', hcl, addr_add], fun _ => rfl⟩
       obtain ⟨o', hrun, ho'⟩ := key
       refine ⟨_, hrun, .fz _ _ ?_⟩
       have hln : ((es.take h).drop l).length = h - l := by simp; omega
       rw [← hln]
       have hget : ∀ (q : Nat) (e : List D), ((es.take h).drop l)[q]? = some e → es[l + q]? = some e ∧ l + q < h := fun q e hq => by
        rw [List.getElem?_drop, List.getElem?_take] at hq
        split at hq
        ·rename_i hlt; exact ⟨hq, hlt⟩
        ·cases hq
       have hszq : ∀ q, q < ((es.take h).drop l).length → sz = i.size ∧ o' = off + l * i.size := fun q hq => by
        have hq' : l + q < es.length := by omega
        obtain ⟨e0, he0⟩ : ∃ e0, es[l + q]? = some e0 := ⟨_, List.getElem?_eq_getElem hq'⟩
        have : e0.length = i.size := by
         have := List.all_eq_true.1 hsz e0 (List.mem_of_getElem? he0)
         simpa using this
        exact ⟨(hlen _ _ he0).symm.trans this, ho' (by omega)⟩
       refine .sl b o' sz (c - l) _ (fun q j => us (l + q) j) (by omega) (fun q e hq => hlen _ _ (hget q e hq).1) (fun q j hq hj => ?_) (fun q j hq hj => ?_) (fun q j hq hj => h1 _ _ (by omega) hj) (fun q e j d hq hd => hr _ _ _ _ (hget q e hq).1 hd)
       ·obtain ⟨e1, e2⟩ := hszq q hq
        have := hF (l + q) j (by omega) hj
        rw [e2, ← e1, show off + l * sz + q * sz + j = off + (l + q) * sz + j by rw [Nat.add_mul]; omega]
        exact this
       ·obtain ⟨e1, e2⟩ := hszq q hq
        have := hw (l + q) j (by omega) hj
        rw [e2, ← e1, show off + l * sz + q * sz + j = off + (l + q) * sz + j by rw [Nat.add_mul]; omega]
        exact this
    ·cases hl
   ·cases hl
  ·cases hl
 ·cases hl
theorem slcA_sound (hS : Core g S a.tmps w) {t e : TypeId} {n : Nat} {i : TypeInfo} {lo hi : Option Operand} {p d : D} {v : Value} (hu : P.underlying t = some (.array n e)) (hi' : P.info? e = some i) (h1 : i.size = 1)
    (hp : Rep g w p v) (hl : slcAD S n lo hi p = some d) : ∃ r, (Instr.sliceAt t v (lo.map a.eval) (hi.map a.eval) none).run P w = .ok r w ∧ Rep g w d r := by
 unfold slcAD at hl
 split at hl
 ·rename_i cs
  split at hl
  ·rename_i hcs
   obtain ⟨hn, hone⟩ := hcs
   split at hl
   ·rename_i h hh
    split at hl
    ·rename_i l hlo
     injection hl with hl; subst hl
     obtain ⟨hb, h2, h3⟩ := bounds_sound (P := P) (isS := false) hS (Nat.le_refl _) hh hlo
     cases hp with
     | fz _ _ hp => cases hp with
      | rp b o _ _ us hF hw hr =>
       have key : ∃ o', (Instr.sliceAt t (.pointer (some ⟨b, o + 0, none⟩)) (lo.map a.eval) (hi.map a.eval) none).run P w = .ok (.slice (some ⟨b, o', none⟩) (h - l) (n - l)) w ∧ (l < h → o' = o + l) := by
        have run : (Instr.sliceAt t (.pointer (some ⟨b, o + 0, none⟩)) (lo.map a.eval) (hi.map a.eval) none).run P w = .ok (.slice (some (if n = l then (⟨b, o, none⟩ : Addr) else (⟨b, o, none⟩ : Addr).add (l * i.size))) (h - l) (n - l)) w := by
         simp [Instr.sliceAt, run_underlying hu, Instr.sureAddr, hb, sizeOf, typeInfo, hi']
        by_cases hcl : n = l
        ·rw [if_pos hcl] at run
         exact ⟨o, run, fun h => by omega⟩
        ·rw [if_neg hcl, h1, addr_add] at run
         exact ⟨o + l * 1, run, fun _ => by omega⟩
       obtain ⟨o', hrun, ho'⟩ := key
       refine ⟨_, hrun, .fz _ _ ?_⟩
       have hln : (((cs.map fun d => [d]).take h).drop l).length = h - l := by simp; omega
       rw [← hln]
       have hget : ∀ (q : Nat) (e : List D), (((cs.map fun d => [d]).take h).drop l)[q]? = some e → ∃ c, cs[l + q]? = some c ∧ e = [c] ∧ l + q < h := fun q e hq => by
        rw [List.getElem?_drop, List.getElem?_take] at hq
        split at hq
        ·rename_i hlt
         rw [List.getElem?_map] at hq
         obtain ⟨c, hc, rfl⟩ := Option.map_eq_some_iff.1 hq
         exact ⟨c, hc, rfl, hlt⟩
        ·cases hq
       refine .sl b o' 1 (n - l) _ (fun q j => us (l + q)) (by omega) (fun q e hq => by obtain ⟨c, -, rfl, -⟩ := hget q e hq; rfl) (fun q j hq hj => ?_) (fun q j hq hj => ?_) (fun q j hq hj => ?_) (fun q e j d hq hj => ?_)
       ·have := hF (l + q) (by omega)
        rw [ho' (by omega), show o + l + q * 1 + j = o + (l + q) by omega]
        exact this
       ·have := hw (l + q) (by omega)
        rw [ho' (by omega), show o + l + q * 1 + j = o + (l + q) by omega]
        exact this
       ·have hlt : l + q < cs.length := by omega
        have hc := List.getElem?_eq_getElem hlt
        exact (hr _ _ hc).one (List.all_eq_true.1 hone _ (List.getElem_mem hlt))
       ·obtain ⟨c, hc, rfl, -⟩ := hget q e hq
        cases j with
        | zero => simp at hj; subst hj; exact hr _ _ hc
        | succ j => simp at hj
    ·cases hl
   ·cases hl
  ·cases hl
 ·cases hl
theorem lenS_sound {t ty : TypeId} {p d : D} {v : Value} (hu : P.underlying t = some .string) (hp : Rep g w p v) (hl : lenSD p = some d) :
    ∃ r, (Builtin.len_ #[t] ty #[v]).run P w = .ok r w ∧ Rep g w d r := by
 unfold lenSD at hl
 split at hl
 ·have := hp.val_inv; subst this
  injection hl with hl; subst hl
  exact ⟨_, by simp [Builtin.len_, run_underlying hu, goInt], .fz _ _ (.val _)⟩
 ·cases hl
theorem sl_inv {tag : Option Tag} {es : List (List D)} {v : Value} (hp : Rep g w (.sl tag es) v) : ∃ A c, v = .slice A es.length c := by
 cases hp with
 | fz _ _ h => cases h with
  | nil => exact ⟨none, 0, rfl⟩
  | emp a c => exact ⟨_, c, rfl⟩
  | sl b off sz c => exact ⟨_, c, rfl⟩
 | slT t es ti ht hn hl hr =>
  rcases ti.shape with ⟨h1, h2⟩ | ⟨b, c, h1⟩
  ·exact ⟨none, 0, by rw [h1, hn, h2]⟩
  ·exact ⟨_, c, by rw [h1, hn]⟩
theorem lenL_sound {t e ty : TypeId} {p d : D} {v : Value} (hu : P.underlying t = some (.slice e)) (hp : Rep g w p v) (hl : lenLD p = some d) :
    ∃ r, (Builtin.len_ #[t] ty #[v]).run P w = .ok r w ∧ Rep g w d r := by
 unfold lenLD at hl
 split at hl
 ·injection hl with hl; subst hl
  obtain ⟨A, c, rfl⟩ := sl_inv hp
  exact ⟨_, by simp [Builtin.len_, run_underlying hu, goInt], .fz _ _ (.val _)⟩
 ·rename_i t0 lo n es
  injection hl with hl; subst hl
  cases hp with
  | fz _ _ hp => cases hp
  | part _ _ _ _ ti _ hv ht hn hlo hl hr =>
   unfold PartV at hv
   split at hv
   ·obtain ⟨p, rfl, -⟩ := hv
    exact ⟨_, by simp [Builtin.len_, run_underlying hu, goInt], .fz _ _ (.val _)⟩
   ·rename_i hne
    have h0 : n = 0 := by
     rcases ti.shape with ⟨h1, h2⟩ | ⟨b, c, h1⟩
     ·omega
     ·exact absurd h1 (hne _ _ _)
    subst h0
    rw [hv]
    exact ⟨_, by simp [Builtin.len_, run_underlying hu, goInt], .fz _ _ (.val _)⟩
 ·cases hl
theorem max2_sound {mx : Bool} {p q d : D} {v u : Value} (hp : Rep g w p v) (hq : Rep g w q u) (hl : max2D mx p q = some d) :
    ∃ r, ((if mx then Builtin.max2 v u else Builtin.min2 v u) : Sem Value).run P w = .ok r w ∧ Rep g w d r := by
 unfold max2D at hl
 split at hl
 ·have := hp.val_inv; subst this
  have := hq.val_inv; subst this
  injection hl with hl; subst hl
  cases mx
  ·exact ⟨_, rfl, .fz _ _ (.val _)⟩
  ·exact ⟨_, rfl, .fz _ _ (.val _)⟩
 ·cases hl
theorem minmax_sound {mx : Bool} : ∀ {ds : List D} {vs : List Value} {x d : D} {v : Value}, Rep g w x v → vs.length = ds.length → (∀ (i : Nat) (d : D) (v : Value), ds[i]? = some d → vs[i]? = some v → Rep g w d v) →
    minmaxD mx x ds = some d → ∃ r, (vs.foldlM (if mx then Builtin.max2 else Builtin.min2) v : Sem Value).run P w = .ok r w ∧ Rep g w d r
 | [], [], x, d, v, hx, _, _, h => by
  simp only [minmaxD, Option.some.injEq] at h; subst h
  exact ⟨v, by simp, hx⟩
 | y :: ds, u :: vs, x, d, v, hx, hl, hr, h => by
  simp only [minmaxD] at h
  split at h
  ·rename_i z hz
   obtain ⟨r, h1, h2⟩ := max2_sound (P := P) hx (hr 0 y u rfl rfl) hz
   obtain ⟨r', h3, h4⟩ := minmax_sound (vs := vs) (v := r) h2 (by simpa using hl) (fun i d v hd hv => hr (i + 1) d v (by simpa using hd) (by simpa using hv)) h
   refine ⟨r', ?_, h4⟩
   have h1' : ((if mx = true then Builtin.max2 else Builtin.min2) v u : Sem Value).run P w = .ok r w := by
    cases mx <;> exact h1
   simp only [List.foldlM_cons, Sem.run_bind, h1', Result.andThen_ok, h3]
  ·cases h
 | [], _ :: _, _, _, _, _, hl, _, _ => by simp at hl
 | _ :: _, [], _, _, _, _, hl, _, _ => by simp at hl
theorem looks_sound (hS : Core g S a.tmps w) : ∀ {xs : List Operand} {ds : List D}, looks S xs = some ds → xs.length = ds.length ∧ ∀ (i : Nat) (d : D) (v : Value), ds[i]? = some d → (xs.map a.eval)[i]? = some v → Rep g w d v
 | [], ds, h => by
  simp only [looks, Option.some.injEq] at h; subst h
  exact ⟨rfl, fun i d v hd _ => by simp at hd⟩
 | x :: xs, ds, h => by
  simp only [looks] at h
  split at h
  ·rename_i d0 ds0 h0 h1
   injection h with h; subst h
   obtain ⟨hl, hr⟩ := looks_sound hS h1
   refine ⟨by simp [hl], fun i d v hd hv => ?_⟩
   cases i with
   | zero =>
    simp at hd hv; subst hd; subst hv
    exact hS.look h0
   | succ i => exact hr i d v (by simpa using hd) (by simpa using hv)
  ·cases h
theorem cl_sound {d : D} {ds : List D} {v : Value} (h : d.cl = some ds) (hp : Rep g w d v) : v.cells.size = ds.length ∧ (∀ (i : Nat) (d : D) (u : Value), ds[i]? = some d → v.cells[i]? = some u → Rep g w d u) ∧
    (∀ d ∈ ds, d.one = true) ∧ (∀ (i : Nat) (u : Value), v.cells[i]? = some u → u.oneCell' = true) := by
 have single : d.one = true → ds = [d] → v.cells.size = ds.length ∧ (∀ (i : Nat) (d : D) (u : Value), ds[i]? = some d → v.cells[i]? = some u → Rep g w d u) ∧
     (∀ d ∈ ds, d.one = true) ∧ (∀ (i : Nat) (u : Value), v.cells[i]? = some u → u.oneCell' = true) := fun h1 h3 => by
  have hv := hp.one h1
  have hc : v.cells = #[v] := by cases v <;> first | rfl | (simp [Value.oneCell'] at hv)
  subst h3
  rw [hc]
  refine ⟨rfl, fun i d' u hd hu => ?_, fun d' hd => by simp at hd; subst hd; exact h1, fun i u hu => ?_⟩
  ·cases i with
   | zero => simp at hd hu; subst hd; subst hu; exact hp
   | succ i => simp at hd
  ·cases i with
   | zero => simp at hu; subst hu; exact hv
   | succ i => simp at hu
 cases d
 case agg ds' =>
  simp only [D.cl] at h
  split at h
  ·rename_i hall
   injection h with h; subst h
   obtain ⟨vs, rfl, hvs, hv⟩ := hp.agg_inv
   have hone := List.all_eq_true.1 hall
   refine ⟨hvs, hv, hone, fun i u hu => ?_⟩
   have hlt : i < ds'.length := by rw [← hvs]; exact (Array.getElem?_eq_some_iff.1 hu).1
   exact (hv i ds'[i] u (List.getElem?_eq_getElem hlt) hu).one (hone _ (List.getElem_mem hlt))
  ·cases h
 all_goals
  simp only [D.cl] at h
  split at h
  ·rename_i h1
   injection h with h
   exact single h1 h.symm
  ·cases h
def Cells (g : Gh) (w : World) (ds : List D) (vs : Array Value) : Prop := vs.size = ds.length ∧ ∀ (i : Nat) (d : D) (v : Value), ds[i]? = some d → vs[i]? = some v → Rep g w d v
theorem Cells.put {cs : List D} {vs : Array Value} (h : Cells g w cs vs) (off : Nat) : ∀ (ds : List D) (us : List Value) (k : Nat), us.length = ds.length → (∀ (i : Nat) (d : D) (v : Value), ds[i]? = some d → us[i]? = some v → Rep g w d v) →
    Cells g w ((ds.zipIdx k).foldl (fun cs x => cs.set (off + x.2) x.1) cs) ((us.zipIdx k).foldl (fun cs x => cs.setIfInBounds (off + x.2) x.1) vs)
 | [], [], k, _, _ => h
 | d :: ds, u :: us, k, hl, hr => by
  simp only [List.zipIdx_cons, List.foldl_cons]
  refine Cells.put (cs := cs.set (off + k) d) (vs := vs.setIfInBounds (off + k) u) ⟨by simp [h.1], fun i d' v' hd hv => ?_⟩ off ds us (k + 1) (by simpa using hl) (fun i d' v' hd hv => hr (i + 1) d' v' (by simpa using hd) (by simpa using hv))
  rw [List.getElem?_set] at hd
  rw [Array.getElem?_setIfInBounds] at hv
  split at hd
  ·rename_i he
   rw [if_pos he] at hv
   split at hd
   ·split at hv
    ·injection hd with hd; injection hv with hv; subst hd; subst hv
     exact hr 0 _ _ rfl rfl
    ·cases hv
   ·cases hd
  ·rename_i he
   rw [if_neg he] at hv
   exact h.2 i d' v' hd hv
 | [], _ :: _, _, hl, _ => by simp at hl
 | _ :: _, [], _, hl, _ => by simp at hl
theorem foldl_set_length {α : Type} (off : Nat) : ∀ (zs : List (α × Nat)) (cs : List α), (zs.foldl (fun cs x => cs.set (off + x.2) x.1) cs).length = cs.length
 | [], _ => rfl
 | z :: zs, cs => by rw [List.foldl_cons, foldl_set_length off zs]; simp
theorem fill_sound (hS : Core g S a.tmps w) {place : Nat → Option (Nat × Nat)} : ∀ {ps : List (Nat × Operand)} {qs : List (Nat × Nat × Operand)} {cs ds : List D} {vs : Array Value},
    (qs.length = ps.length ∧ ∀ (i : Nat) (p : Nat × Operand) (q : Nat × Nat × Operand), ps[i]? = some p → qs[i]? = some q → place p.1 = some (q.1, q.2.1) ∧ p.2 = q.2.2) → Cells g w cs vs → fillD S cs qs = some ds →
    ∃ us, Instr.fill place vs (ps.map fun p => (p.1, a.eval p.2)) = some us ∧ Cells g w ds us ∧ us.size = vs.size
 | [], [], cs, ds, vs, _, hc, h => by
  simp only [fillD, Option.some.injEq] at h; subst h
  exact ⟨vs, rfl, hc, rfl⟩
 | p :: ps, q :: qs, cs, ds, vs, hp, hc, h => by
  obtain ⟨off, sz, x⟩ := q
  simp only [fillD] at h
  split at h
  ·rename_i d hd
   split at h
   ·rename_i es he
    split at h
    ·rename_i hsz
     obtain ⟨h1, h2⟩ := hp.2 0 p (off, sz, x) rfl rfl
     simp only at h1 h2
     obtain ⟨c1, c2, c3, c4⟩ := cl_sound he (hS.look hd)
     have hput := Cells.put hc off es (a.eval x).cells.toList 0 (by simpa using c1) (fun i d v hd hv => c2 i d v hd (by simpa using hv))
     obtain ⟨us, e1, e2, e3⟩ := fill_sound hS (place := place) (ps := ps) (qs := qs) ⟨by simpa using hp.1, fun i p q hp' hq => hp.2 (i + 1) p q (by simpa using hp') (by simpa using hq)⟩ hput h
     refine ⟨us, ?_, e2, ?_⟩
     ·simp only [List.map_cons, Instr.fill, h1, h2]
      rw [if_neg (by simp [c1, hc.1, hsz.1]; omega)]
      rw [← e1]
      congr 1
      rw [← Array.foldl_toList, Array.toList_zipIdx]
     ·rw [e3, hput.1, hc.1]
      exact foldl_set_length off _ cs
    ·cases h
   ·cases h
  ·cases h
 | [], _ :: _, _, _, _, hp, _, _ => by simp at hp
 | _ :: _, [], _, _, _, hp, _, _ => by simp at hp
end Go.Vm

namespace Go.Vm
open Go.RowKit
variable {P : Program} {w0 w w' : World} {W : Reg} {N : Nat} {g g' : Gh} {S : St} {a : Act} {tm : Array Value}
theorem src_cells (h : Core g S tm w) {tag : Option Tag} {ys : List (List D)} {v : Value} {sz : Nat} (hp : Rep g w (.sl tag ys) v) (hlive : ∀ t, tag = some t → ∃ x, S.tag t = some x) (hsz : ∀ y ∈ ys, y.length = sz) (h0 : 0 < sz) :
    (v = .slice none 0 0 ∧ ys = []) ∨ ∃ (ad : Addr) (c : Nat) (news : List Value), v = .slice (some ad) ys.length c ∧ news.length = ys.length * sz ∧ (∀ (j : Nat) (u : Value), news[j]? = some u → w.cell? (ad.add j) = some u) ∧ (∀ u ∈ news, u.oneCell' = true) ∧
     ∀ (i : Nat) (y : List D) (j : Nat) (d : D), ys[i]? = some y → y[j]? = some d → ∃ u, news[i * sz + j]? = some u ∧ RepF g.F w d u := by
 cases hp with
 | fz _ _ hp => cases hp with
  | nil => exact .inl ⟨rfl, rfl⟩
  | emp ad c => exact .inr ⟨ad, c, [], rfl, by simp, fun j u h => by simp at h, fun u h => by simp at h, fun i y j d h => by simp at h⟩
  | sl b off sz' c _ us hc hlen hF hw h1 hr =>
   right
   have hs : ys ≠ [] → sz' = sz := fun hne => by
    cases ys with
    | nil => exact absurd rfl hne
    | cons y ys => rw [← hlen 0 y rfl]; exact hsz y (by simp)
   have hcell : ∀ q, q < ys.length * sz → ∃ u, w.cell? ⟨b, off + q, none⟩ = some u ∧ u.oneCell' = true := fun q hq => by
    have hne : ys ≠ [] := by rintro rfl; simp at hq
    have e := hs hne
    subst e
    have hdiv : q / sz' < ys.length := by rw [Nat.div_lt_iff_lt_mul h0]; exact hq
    have hmod : q % sz' < sz' := Nat.mod_lt _ h0
    have hq' : q / sz' * sz' + q % sz' = q := by rw [Nat.mul_comm]; exact Nat.div_add_mod q sz'
    refine ⟨us (q / sz') (q % sz'), ?_, h1 _ _ hdiv hmod⟩
    have := hw _ _ hdiv hmod
    rwa [Nat.add_assoc, hq'] at this
   refine ⟨⟨b, off, none⟩, c, (List.range (ys.length * sz)).map fun q => (w.cell? ⟨b, off + q, none⟩).getD undef, rfl, by simp, fun j u hu => ?_, fun u hu => ?_, fun i y j d hy hd => ?_⟩
   ·rw [List.getElem?_map] at hu
    obtain ⟨q, hq, rfl⟩ := Option.map_eq_some_iff.1 hu
    have hlt : j < ys.length * sz := by have := (List.getElem?_eq_some_iff.1 hq).1; simpa using this
    rw [List.getElem?_range hlt] at hq
    injection hq with hq; subst hq
    obtain ⟨u, hu', _⟩ := hcell j hlt
    rw [addr_add, hu']; rfl
   ·obtain ⟨q, hq, rfl⟩ := List.mem_map.1 hu
    obtain ⟨u, hu', ho⟩ := hcell q (List.mem_range.1 hq)
    rw [hu']; exact ho
   ·have hi : i < ys.length := (List.getElem?_eq_some_iff.1 hy).1
    have e := hs (by rintro rfl; simp at hi)
    have hj : j < sz := by rw [← hsz y (List.mem_of_getElem? hy)]; exact (List.getElem?_eq_some_iff.1 hd).1
    have hlt : i * sz + j < ys.length * sz := by
     have : (i + 1) * sz ≤ ys.length * sz := Nat.mul_le_mul_right _ hi
     rw [Nat.succ_mul] at this; omega
    refine ⟨us i j, ?_, hr i y j d hy hd⟩
    rw [List.getElem?_map, List.getElem?_range hlt]
    have := hw i j hi (by omega)
    rw [e, Nat.add_assoc] at this
    simp [this]
 | slT t _ ti ht hn hlen hr =>
  obtain ⟨x, hx⟩ := hlive t rfl
  obtain ⟨ti', ht', ho⟩ := h.tag t x hx
  rw [ht] at ht'; injection ht' with ht'; subst ht'
  rcases ti.shape with ⟨hv, hz⟩ | ⟨b, c, hv⟩
  ·left
   exact ⟨hv, List.eq_nil_of_length_eq_zero (by omega)⟩
  ·right
   have hb : ti.v.ownBlock = some b := by rw [hv]; rfl
   have hs : ys ≠ [] → ti.sz = sz := fun hne => by
    cases ys with
    | nil => exact absurd rfl hne
    | cons y ys => rw [← hlen 0 y rfl]; exact hsz y (by simp)
   have hl : ti.xs.length = ys.length * sz := by
    rw [ho.own.1, hn]
    by_cases hne : ys = []
    ·subst hne; simp at hn; simp [← hn]
    ·rw [hs hne]
   refine ⟨⟨b, 0, none⟩, c, ti.xs, by rw [hv, hn], hl, ho.own.cells hb, ho.one, fun i y j d hy hd => ?_⟩
   obtain ⟨u, h2, h3⟩ := hr i y j d hy hd
   rw [hs (by rintro rfl; simp at hy)] at h2
   exact ⟨u, h2, h3⟩
theorem bytesOfD_nums : ∀ {es : List (List D)} {bs : List UInt8}, bytesOfD es = some bs → (∀ e ∈ es, e.length = 1) ∧ ∃ ns : List Int, es = ns.map (fun n => [.val (.int .u8 n)]) ∧ bs = ns.map fun n => UInt8.ofNat n.toNat
 | [], bs, h => by simp only [bytesOfD, Option.some.injEq] at h; subst h; exact ⟨by simp, [], rfl, rfl⟩
 | e :: es, bs, h => by
  unfold bytesOfD at h
  split at h
  ·rename_i heq; cases heq
  ·rename_i n es' heq
   injection heq with h1 h2; subst h1; subst h2
   split at h
   ·rename_i bs' hb
    injection h with h; subst h
    obtain ⟨h1, ns, rfl, rfl⟩ := bytesOfD_nums hb
    exact ⟨by intro e he; rcases List.mem_cons.1 he with rfl | he; rfl; exact h1 e he, n :: ns, rfl, rfl⟩
   ·cases h
  ·cases h
theorem b2s_sound (hS : Core g S a.tmps w) {s t e : TypeId} {p d : D} {v : Value} (hs : P.underlying s = some (.slice e)) (he : P.underlying e = some (.int .u8)) (ht : P.underlying t = some .string)
    (hp : Rep g w p v) (hl : b2sD S p = some d) : ∃ u, (convert s t v).run P w = .ok u w ∧ Rep g w d u := by
 unfold b2sD at hl
 split at hl
 ·rename_i own es
  split at hl
  ·rename_i hlive
   obtain ⟨bs, hb, rfl⟩ := Option.map_eq_some_iff.1 hl
   obtain ⟨h1, ns, rfl, rfl⟩ := bytesOfD_nums hb
   have hlv : ∀ t, own = some t → ∃ x, S.tag t = some x := fun t e => by subst e; simpa [St.live, Option.isSome_iff_exists] using hlive
   rcases src_cells hS hp hlv h1 (by omega) with ⟨rfl, h2⟩ | ⟨ad, c, news, rfl, h2, h3, h4, h5⟩
   ·have : ns = [] := by simpa using h2
    subst this
    exact ⟨_, by rw [run_convert_bytes_string w s t e none 0 0 hs he ht]; rfl, .fz _ _ (.val _)⟩
   ·have hn : news = ns.map (Value.int .u8) := by
      apply List.ext_getElem?
      intro i
      by_cases hi : i < ns.length
      ·obtain ⟨u, hu, hr⟩ := h5 i [.val (.int .u8 ns[i])] 0 (.val (.int .u8 ns[i])) (by simp [hi]) rfl
       cases hr
       rw [Nat.mul_one, Nat.add_zero] at hu
       rw [hu, List.getElem?_map, List.getElem?_eq_getElem hi]; rfl
      ·rw [List.getElem?_eq_none (by rw [h2]; simp; omega), List.getElem?_eq_none (by simp; omega)]
    subst hn
    have hc := run_loadCells_list (P := P) w ad (ns.map (Value.int .u8)) h3
    rw [List.length_map] at hc
    have := run_bytesToString (P := P) w ad ns.length c ns hc
    refine ⟨_, ?_, .fz _ _ (.val _)⟩
    rw [List.length_map, run_convert_bytes_string w s t e (some ad) _ _ hs he ht, this, foldl_push_bytes]
    simp
  ·cases hl
 ·cases hl
end Go.Vm

namespace Go.Vm
open Go.RowKit
variable {P : Program} {w0 w : World} {N : Nat} {g : Gh} {S : St} {a : Act}
theorem zero_cells (z : Value) : Cells g w (zeroD z) z.cells := by
 refine ⟨by simp [zeroD], fun i d v hd hv => ?_⟩
 simp only [zeroD, List.getElem?_map, Option.map_eq_some_iff] at hd
 obtain ⟨c, hc, rfl⟩ := hd
 have : c = v := by
  have h : z.cells.toList[i]? = some v := by simpa using hv
  rw [hc] at h; injection h
 subst this
 split
 ·exact .fz _ _ .nil
 ·exact .fz _ _ (.val _)
theorem nilD_val {d : D} {c : Value} (h : nilD d = .val c) : d = .val c := by
 unfold nilD at h
 split at h
 ·cases h
 ·exact h
theorem nilD_nil {d : D} (h : nilD d = .sl none []) : d = .sl none [] ∨ d = .val (.slice none 0 0) := by
 unfold nilD at h
 split at h
 ·exact .inr rfl
 ·exact .inl h
theorem zero_cells' {zl : List D} {z : Value} (h : zl.map nilD = zeroD z) : Cells g w zl z.cells := by
 refine ⟨by have := congrArg List.length h; simp [zeroD] at this; simp [this], fun i d v hd hv => ?_⟩
 have h1 := congrArg (·[i]?) h
 simp only [zeroD, List.getElem?_map, hd, Option.map_some] at h1
 have hc : z.cells.toList[i]? = some v := by simpa using hv
 rw [hc, Option.map_some, Option.some.injEq] at h1
 split at h1
 ·rcases nilD_nil h1 with rfl | rfl
  ·exact .fz _ _ .nil
  ·exact .fz _ _ (.val _)
 ·rw [nilD_val h1]; exact .fz _ _ (.val _)
theorem compParts_spec {pl : List (Nat × Nat)} : ∀ {ps : List (Nat × Operand)} {qs : List (Nat × Nat × Operand)}, compParts pl ps = some qs →
    qs.length = ps.length ∧ ∀ (i : Nat) (p : Nat × Operand) (q : Nat × Nat × Operand), ps[i]? = some p → qs[i]? = some q → pl.toArray[p.1]? = some (q.1, q.2.1) ∧ p.2 = q.2.2
 | [], qs, h => by
  simp only [compParts, Option.some.injEq] at h; subst h
  exact ⟨rfl, fun i p q hp _ => by simp at hp⟩
 | (j, x) :: ps, qs, h => by
  simp only [compParts] at h
  split at h
  ·rename_i p0 r h1 h2
   injection h with h; subst h
   obtain ⟨h3, h4⟩ := compParts_spec h2
   refine ⟨by simp [h3], fun i p q hp hq => ?_⟩
   cases i with
   | zero =>
    simp at hp hq; subst hp; subst hq
    exact ⟨by simpa using h1, rfl⟩
   | succ i => exact h4 i p q (by simpa using hp) (by simpa using hq)
  ·cases h
theorem ev_v {s : Sem Value} {r : Value} {w' : World} (h : s.run P w = .ok r w') : (do pure (Next.value (← s)) : Sem Next).run P w = .ok (.value r) w' := by
 simp only [Sem.run_bind, h, Result.andThen_ok, Sem.run_pure]
theorem map_parts (parts : Array (Nat × Operand)) : (parts.map fun (i, x) => (i, a.eval x)).toList = parts.toList.map fun p => (p.1, a.eval p.2) := by
 simp
theorem comp_build {o : Oper} {zl : List D} {ps : List (Nat × Nat × Operand)} (h : compOp P o = some (.build zl ps)) : ∃ t parts, o.op = .build t parts ∧
    ((∃ fs i z pl, P.underlying t = some (.struct fs) ∧ P.info? t = some i ∧ i.zero = some z ∧ places P fs.toList = some pl ∧ compParts pl parts.toList = some ps ∧ zl = zeroD z) ∨
    ∃ n e i z ie, P.underlying t = some (.array n e) ∧ P.info? t = some i ∧ i.zero = some z ∧ P.info? e = some ie ∧ zl = zeroD z ∧ ps = parts.toList.map fun p => (p.1 * ie.size, ie.size, p.2)) := by
 obtain ⟨dst, op, type, pos, after, guard⟩ := o
 cases op <;> simp only [compOp] at h <;> (repeat' (split at h)) <;> first
  | (cases h; done)
  | (injection h with h; injection h with h1 h2; subst h1; subst h2; exact ⟨_, _, rfl, .inl ⟨_, _, _, _, by assumption, by assumption, by assumption, by assumption, by assumption, rfl⟩⟩)
  | (injection h with h; injection h with h1 h2; subst h1; subst h2; exact ⟨_, _, rfl, .inr ⟨_, _, _, _, _, by assumption, by assumption, by assumption, by assumption, rfl, rfl⟩⟩)
  | (unfold compB at h; (repeat' (split at h)) <;> cases h)
theorem build_sound (hS : Core g S a.tmps w) {o : Oper} {zl : List D} {ps : List (Nat × Nat × Operand)} {d : D} (hc : compOp P o = some (.build (zl.map nilD) ps)) (hp : pop S (.build zl ps) = some d) : ∃ v, (execOp a.eval o).run P w = .ok (.value v) w ∧ Rep g w d v := by
 obtain ⟨t, parts, ho, h⟩ := comp_build hc
 simp only [pop, Option.map_eq_some_iff] at hp
 obtain ⟨ds, hf, rfl⟩ := hp
 obtain ⟨dst, op, type, pos, after, guard⟩ := o
 simp only at ho; subst ho
 rcases h with ⟨fs, i, z, pl, hu, hi, hz, hpl, hps, hzl⟩ | ⟨n, e, i, z, ie, hu, hi, hz, hie, hzl, rfl⟩
 ·obtain ⟨us, e1, e2, e3⟩ := fill_sound hS (place := fun x => pl.toArray[x]?) (compParts_spec hps) (zero_cells' hzl) hf
  refine ⟨.agg us, ev_v (run_build w t _ us ?_), .agg _ _ e2.1 e2.2⟩
  unfold places at hpl
  rw [map_parts]
  simp only [Program.built, hi, hu, hz, hpl, e1]
 ·obtain ⟨us, e1, e2, e3⟩ := fill_sound hS (place := fun i => some (i * ie.size, ie.size)) (ps := parts.toList) (by
    refine ⟨by simp, fun i p q hp hq => ?_⟩
    simp only [List.getElem?_map, hp, Option.map_some, Option.some.injEq] at hq
    subst hq
    exact ⟨rfl, rfl⟩) (zero_cells' hzl) hf
  refine ⟨.agg us, ev_v (run_build w t _ us ?_), .agg _ _ e2.1 e2.2⟩
  rw [map_parts]
  simp only [Program.built, hi, hu, hz, hie, e1]
theorem pop_sound (hS : Core g S a.tmps w) {o : Oper} {m : MOp} {d : D} (hc : compOp P o = some m) (hp : pop S m = some d) : ∃ v, (execOp a.eval o).run P w = .ok (.value v) w ∧ Rep g w d v := by
 obtain ⟨dst, op, type, pos, after, guard⟩ := o
 cases op <;> simp only [compOp] at hc <;> try (cases hc; done)
 case move x =>
  injection hc with hc; subst hc
  exact ⟨_, rfl, hS.look hp⟩
 case assign x =>
  split at hc
  ·split at hc
   ·split at hc
    ·injection hc with hc; subst hc; simp [pop] at hp
    ·cases hc
   ·cases hc
  ·injection hc with hc; subst hc
   exact ⟨_, rfl, hS.look hp⟩
 case pick c x y =>
  injection hc with hc; subst hc
  simp only [pop] at hp
  split at hp
  ·rename_i h
   exact ⟨_, by simp [execOp, (hS.look h).val_inv, asBool], hS.look hp⟩
  ·rename_i h
   exact ⟨_, by simp [execOp, (hS.look h).val_inv, asBool], hS.look hp⟩
  ·cases hp
 case makeMap t r =>
  (repeat' (split at hc)) <;> first | (cases hc; done) | (injection hc with hc; subst hc; simp [pop] at hp)
 case range t m =>
  (repeat' (split at hc)) <;> first | (cases hc; done) | (injection hc with hc; subst hc; simp [pop] at hp)
 case next it isS =>
  (repeat' (split at hc)) <;> first | (cases hc; done) | (injection hc with hc; subst hc; simp [pop] at hp)
 case entry it =>
  injection hc with hc; subst hc; simp [pop] at hp
 case lookup t m k ok =>
  (repeat' (split at hc)) <;> first | (cases hc; done) | (injection hc with hc; subst hc; simp [pop] at hp)
 case mapUpdate t m k v =>
  (repeat' (split at hc)) <;> first | (cases hc; done) | (injection hc with hc; subst hc; simp [pop] at hp)
 case alloc t =>
  split at hc
  ·split at hc
   ·injection hc with hc; subst hc; simp [pop] at hp
   ·cases hc
  ·cases hc
 case box t x =>
  split at hc
  ·injection hc with hc; subst hc; simp [pop] at hp
  ·cases hc
 case build t parts =>
  split at hc
  ·rename_i fs i hu hi
   split at hc
   ·rename_i z pl hz hpl
    split at hc
    ·rename_i ps hps
     injection hc with hc; subst hc
     simp only [pop, Option.map_eq_some_iff] at hp
     obtain ⟨ds, hf, rfl⟩ := hp
     obtain ⟨us, e1, e2, e3⟩ := fill_sound hS (place := fun x => pl.toArray[x]?) (compParts_spec hps) (zero_cells z) hf
     refine ⟨.agg us, ev_v (run_build w t _ us ?_), .agg _ _ e2.1 e2.2⟩
     unfold places at hpl
     rw [map_parts]
     simp only [Program.built, hi, hu, hz, hpl, e1]
    ·cases hc
   ·cases hc
  ·rename_i n e i hu hi
   split at hc
   ·rename_i z ie hz hie
    injection hc with hc; subst hc
    simp only [pop, Option.map_eq_some_iff] at hp
    obtain ⟨ds, hf, rfl⟩ := hp
    obtain ⟨us, e1, e2, e3⟩ := fill_sound hS (place := fun i => some (i * ie.size, ie.size)) (ps := parts.toList) (by
     refine ⟨by simp, fun i p q hp hq => ?_⟩
     simp only [List.getElem?_map, hp, Option.map_some, Option.some.injEq] at hq
     subst hq
     exact ⟨rfl, rfl⟩) (zero_cells z) hf
    refine ⟨.agg us, ev_v (run_build w t _ us ?_), .agg _ _ e2.1 e2.2⟩
    rw [map_parts]
    simp only [Program.built, hi, hu, hz, hie, e1]
   ·cases hc
  ·cases hc
 case buildSlice t len parts =>
  split at hc
  ·split at hc
   ·split at hc
    ·split at hc
     ·injection hc with hc; subst hc; simp [pop] at hp
     ·cases hc
    ·cases hc
   ·cases hc
  ·cases hc
 case load t x =>
  split at hc
  ·rename_i sz ha
   injection hc with hc; subst hc
   simp only [pop] at hp
   split at hp
   ·rename_i d0 h0
    obtain ⟨u, h1, h2⟩ := load_sound (P := P) hS ha (hS.look h0) hp
    exact ⟨u, ev_v h1, h2⟩
   ·cases hp
  ·cases hc
 case store t x v =>
  split at hc
  ·injection hc with hc; subst hc; simp [pop] at hp
  ·cases hc
 case nilCheck x =>
  injection hc with hc; subst hc
  simp only [pop] at hp
  split at hp
  ·rename_i d0 h0
   have hx := hS.look h0
   cases d0 <;> simp only [nilckD] at hp <;> try (cases hp; done)
   ·injection hp with hp; subst hp
    obtain ⟨b, k, hb, _⟩ := hx.ptr_inv
    exact ⟨a.eval x, by simp [execOp, hb], hx⟩
   ·injection hp with hp; subst hp
    have : ∃ ad, a.eval x = .pointer (some ad) := by
     generalize a.eval x = v at hx
     cases hx with
     | fz _ _ h => cases h; exact ⟨_, rfl⟩
     | rpT => exact ⟨_, rfl⟩
    obtain ⟨ad, had⟩ := this
    exact ⟨a.eval x, by simp [execOp, had], hx⟩
   ·injection hp with hp; subst hp
    have : ∃ f vs us, a.eval x = .func (.func f) vs us := by
     generalize a.eval x = v at hx
     cases hx with
     | fz _ _ h => cases h; exact ⟨_, _, _, rfl⟩
     | fn => exact ⟨_, _, _, rfl⟩
    obtain ⟨f, vs, us, had⟩ := this
    exact ⟨a.eval x, by simp [execOp, had], hx⟩
  ·cases hp
 case binOp op t x y yt =>
  split at hc
  ·rename_i hu
   split at hc
   ·injection hc with hc; subst hc
    simp only [pop] at hp
    split at hp
    ·rename_i p q h1 h2
     obtain ⟨r, e1, e2⟩ := binB_sound (P := P) (x := x) (y := y) (.inl ⟨rfl, rfl⟩) hu (hS.look h1) (hS.look h2) hp
     exact ⟨r, ev_v e1, e2⟩
    ·cases hp
   ·injection hc with hc; subst hc
    simp only [pop] at hp
    split at hp
    ·rename_i p q h1 h2
     obtain ⟨r, e1, e2⟩ := binB_sound (P := P) (x := x) (y := y) (.inr ⟨rfl, rfl⟩) hu (hS.look h1) (hS.look h2) hp
     exact ⟨r, ev_v e1, e2⟩
    ·cases hp
   ·cases hc
  ·rename_i e hu
   split at hc
   ·injection hc with hc; subst hc
    simp only [pop] at hp
    split at hp
    ·rename_i p q h1 h2
     obtain ⟨r, e1, e2⟩ := binP_sound (P := P) (x := x) (y := y) (.inl ⟨rfl, rfl⟩) hu (hS.look h1) (hS.look h2) hp
     exact ⟨r, ev_v e1, e2⟩
    ·cases hp
   ·injection hc with hc; subst hc
    simp only [pop] at hp
    split at hp
    ·rename_i p q h1 h2
     obtain ⟨r, e1, e2⟩ := binP_sound (P := P) (x := x) (y := y) (.inr ⟨rfl, rfl⟩) hu (hS.look h1) (hS.look h2) hp
     exact ⟨r, ev_v e1, e2⟩
    ·cases hp
   ·cases hc
  ·injection hc with hc; subst hc
   simp only [pop] at hp
   split at hp
   ·rename_i p q h1 h2
    obtain ⟨r, e1, e2⟩ := bin_sound (P := P) (t := t) (x := x) (y := y) (hS.look h1) (hS.look h2) hp
    exact ⟨r, ev_v e1, e2⟩
   ·cases hp
  ·injection hc with hc; subst hc
   simp only [pop] at hp
   split at hp
   ·rename_i p q h1 h2
    obtain ⟨r, e1, e2⟩ := bin_sound (P := P) (t := t) (x := x) (y := y) (hS.look h1) (hS.look h2) hp
    exact ⟨r, ev_v e1, e2⟩
   ·cases hp
  ·rename_i fs hu
   split at hc
   ·rename_i hg
    split at hc
    ·rename_i ks hf
     injection hc with hc; subst hc
     simp only [pop] at hp
     split at hp
     ·rename_i ds es h1 h2
      split at hp
      ·rename_i b hb
       injection hp with hp; subst hp
       obtain ⟨r, e1, e2⟩ := eqs_sound (P := P) (x := x) (y := y) (.inl ⟨rfl, rfl⟩) hu rfl hg hf (hS.look h1) (hS.look h2) hb
       exact ⟨r, ev_v e1, e2⟩
      ·cases hp
     ·cases hp
    ·rename_i ks hf
     injection hc with hc; subst hc
     simp only [pop] at hp
     split at hp
     ·rename_i ds es h1 h2
      split at hp
      ·rename_i b hb
       injection hp with hp; subst hp
       obtain ⟨r, e1, e2⟩ := eqs_sound (P := P) (x := x) (y := y) (.inr ⟨rfl, rfl⟩) hu rfl hg hf (hS.look h1) (hS.look h2) hb
       exact ⟨r, ev_v e1, e2⟩
      ·cases hp
     ·cases hp
    ·cases hc
   ·cases hc
  ·rename_i n e hu
   split at hc
   ·rename_i hg
    split at hc
    ·rename_i ks hf
     injection hc with hc; subst hc
     simp only [pop] at hp
     split at hp
     ·rename_i ds es h1 h2
      split at hp
      ·rename_i b hb
       injection hp with hp; subst hp
       obtain ⟨r, e1, e2⟩ := eqs_sound (P := P) (x := x) (y := y) (.inl ⟨rfl, rfl⟩) hu rfl hg hf (hS.look h1) (hS.look h2) hb
       exact ⟨r, ev_v e1, e2⟩
      ·cases hp
     ·cases hp
    ·rename_i ks hf
     injection hc with hc; subst hc
     simp only [pop] at hp
     split at hp
     ·rename_i ds es h1 h2
      split at hp
      ·rename_i b hb
       injection hp with hp; subst hp
       obtain ⟨r, e1, e2⟩ := eqs_sound (P := P) (x := x) (y := y) (.inr ⟨rfl, rfl⟩) hu rfl hg hf (hS.look h1) (hS.look h2) hb
       exact ⟨r, ev_v e1, e2⟩
      ·cases hp
     ·cases hp
    ·cases hc
   ·cases hc
  ·split at hc
   ·split at hc
    ·injection hc with hc; subst hc; simp [pop] at hp
    ·injection hc with hc; subst hc; simp [pop] at hp
    ·cases hc
   ·cases hc
  ·split at hc
   ·split at hc
    ·injection hc with hc; subst hc; simp [pop] at hp
    ·injection hc with hc; subst hc; simp [pop] at hp
    ·cases hc
   ·cases hc
  ·cases hc
 case unOp op t x =>
  injection hc with hc; subst hc
  simp only [pop] at hp
  split at hp
  ·rename_i d0 h0
   obtain ⟨r, e1, e2⟩ := un_sound (P := P) (hS.look h0) hp
   exact ⟨r, ev_v e1, e2⟩
  ·cases hp
 case convert s t x =>
  split at hc
  ·rename_i k k' hs ht
   injection hc with hc; subst hc
   simp only [pop] at hp
   split at hp
   ·rename_i kk n h0
    injection hp with hp; subst hp
    refine ⟨_, ev_v ?_, .fz _ _ (.val _)⟩
    have := (hS.look h0).val_inv
    simp [convert, run_underlying hs, run_underlying ht, this, Conv.intToInt]
   ·cases hp
  ·rename_i hs ht
   injection hc with hc; subst hc
   simp only [pop] at hp
   split at hp
   ·rename_i s0 h0
    injection hp with hp; subst hp
    refine ⟨_, ev_v ?_, .fz _ _ (.val _)⟩
    have := (hS.look h0).val_inv
    simp [convert, run_underlying hs, run_underlying ht, this]
   ·cases hp
  ·rename_i e hs ht
   split at hc
   ·rename_i he
    injection hc with hc; subst hc
    simp only [pop] at hp
    split at hp
    ·rename_i d0 h0
     obtain ⟨r, e1, e2⟩ := b2s_sound (P := P) hS hs he ht (hS.look h0) hp
     exact ⟨r, ev_v e1, e2⟩
    ·cases hp
   ·cases hc
  ·rename_i k hs ht
   injection hc with hc; subst hc
   simp only [pop] at hp
   split at hp
   ·rename_i kk n h0
    injection hp with hp; subst hp
    refine ⟨_, ev_v ?_, .fz _ _ (.val _)⟩
    have := (hS.look h0).val_inv
    simp [convert, run_underlying hs, run_underlying ht, this, Conv.intToString]
   ·cases hp
  ·cases hc
 case makeFunc f first caps =>
  split at hc <;> try (cases hc; done)
  injection hc with hc; subst hc
  simp only [pop] at hp
  split at hp
  ·rename_i ds es h1 h2
   injection hp with hp; subst hp
   obtain ⟨a1, a2⟩ := looks_sound hS h1
   obtain ⟨b1, b2⟩ := looks_sound hS h2
   refine ⟨_, ev_v rfl, .fn _ _ _ _ _ (by simpa using a1) (by simpa using b1) (fun i d v hd hv => a2 i d v hd (by simpa using hv)) (fun i d v hd hv => b2 i d v hd (by simpa using hv))⟩
  ·cases hp
 case slice t x lo hi mx =>
  cases mx with
  | some m =>
   simp only at hc
   split at hc
   ·split at hc
    ·injection hc with hc; subst hc; simp [pop] at hp
    ·cases hc
   ·cases hc
  | none =>
   simp only at hc
   split at hc
   ·rename_i hu
    injection hc with hc; subst hc
    simp only [pop] at hp
    split at hp
    ·rename_i d0 h0
     obtain ⟨r, e1, e2⟩ := slcS_sound (P := P) hS hu (hS.look h0) hp
     exact ⟨r, ev_v e1, e2⟩
    ·cases hp
   ·rename_i e hu
    split at hc
    ·rename_i i hi
     injection hc with hc; subst hc
     simp only [pop] at hp
     split at hp
     ·rename_i d0 h0
      obtain ⟨r, e1, e2⟩ := slc_sound (P := P) hS hu hi (hS.look h0) hp
      exact ⟨r, ev_v e1, e2⟩
     ·cases hp
    ·cases hc
   ·rename_i n e hu
    split at hc
    ·rename_i i hi
     split at hc
     ·rename_i h1
      injection hc with hc; subst hc
      simp only [pop] at hp
      split at hp
      ·rename_i d0 h0
       obtain ⟨r, e1, e2⟩ := slcA_sound (P := P) hS hu hi h1 (hS.look h0) hp
       exact ⟨r, ev_v e1, e2⟩
      ·cases hp
     ·cases hc
    ·cases hc
   ·cases hc
 case fieldAddr t x f =>
  split at hc
  ·rename_i fs hu
   split at hc
   ·rename_i fd hf
    split at hc
    ·rename_i i hi
     split at hc
     ·cases hc
     ·rename_i h0
      injection hc with hc; subst hc
      simp only [pop] at hp
      split at hp
      ·rename_i d0 hd0
       obtain ⟨r, e1, e2⟩ := faddr_sound (P := P) hu hf hi h0 (hS.look hd0) hp
       exact ⟨r, ev_v e1, e2⟩
      ·cases hp
    ·cases hc
   ·cases hc
  ·cases hc
 case field t x f =>
  split at hc
  ·rename_i fs hu
   split at hc
   ·rename_i fd hf
    split at hc
    ·rename_i sz ha
     injection hc with hc; subst hc
     simp only [pop] at hp
     split at hp
     ·rename_i ds hd0
      obtain ⟨r, e1, e2⟩ := fld_sound (P := P) hu hf ha (hS.look hd0) hp
      exact ⟨r, ev_v e1, e2⟩
     ·cases hp
    ·cases hc
   ·cases hc
  ·cases hc
 case indexAddr t x i =>
  split at hc
  ·rename_i e hu
   split at hc
   ·rename_i ti hi
    injection hc with hc; subst hc
    simp only [pop] at hp
    split at hp
    ·rename_i d0 d1 h0 h1
     obtain ⟨r, e1, e2⟩ := iaddrS_sound (P := P) hu hi (hS.look h0) (hS.look h1) hp
     exact ⟨r, ev_v (e1 _), e2⟩
    ·cases hp
   ·cases hc
  ·rename_i n e hu
   split at hc
   ·rename_i ti hi
    injection hc with hc; subst hc
    simp only [pop] at hp
    split at hp
    ·rename_i d0 d1 h0 h1
     obtain ⟨r, e1, e2⟩ := iaddrA_sound (P := P) hu hi (hS.look h0) (hS.look h1) hp
     exact ⟨r, ev_v e1, e2⟩
    ·cases hp
   ·cases hc
  ·cases hc
 case index t x i =>
  split at hc
  ·rename_i hu
   injection hc with hc; subst hc
   simp only [pop] at hp
   split at hp
   ·rename_i d0 d1 h0 h1
    obtain ⟨r, e1, e2⟩ := idxS_sound (P := P) hu (hS.look h0) (hS.look h1) hp
    exact ⟨r, ev_v e1, e2⟩
   ·cases hp
  ·rename_i n e hu
   split at hc
   ·rename_i sz ti ha hi
    injection hc with hc; subst hc
    simp only [pop] at hp
    split at hp
    ·rename_i d0 d1 h0 h1
     obtain ⟨r, e1, e2⟩ := idxA_sound (P := P) hu hi ha (hS.look h0) (hS.look h1) hp
     exact ⟨r, ev_v e1, e2⟩
    ·cases hp
   ·cases hc
  ·cases hc
 case extract t i =>
  injection hc with hc; subst hc
  simp only [pop] at hp
  split at hp
  ·rename_i d0 h0
   cases d0 <;> simp only [extD] at hp <;> try (cases hp; done)
   rename_i ds
   obtain ⟨vs, hv, hl, hr⟩ := (hS.look h0).tup_inv
   have hlt : i < vs.size := by rw [hl]; exact (List.getElem?_eq_some_iff.1 hp).1
   exact ⟨vs[i], ev_v (by simp [Instr.extract, hv, hlt]), hr i d _ hp (Array.getElem?_eq_getElem hlt)⟩
  ·cases hp
 case call c =>
  obtain ⟨callee, args, argTypes⟩ := c
  obtain ⟨args⟩ := args
  obtain ⟨argTypes⟩ := argTypes
  cases callee with
  | value f => simp only at hc; injection hc with hc; subst hc; simp [pop] at hp
  | invoke r n => simp only at hc; cases hc
  | builtin b =>
   simp only at hc
   cases b <;> simp only [compB] at hc <;> try (cases hc; done)
   case clear =>
    (repeat' (split at hc)) <;> first | (cases hc; done) | (injection hc with hc; subst hc; simp [pop] at hp)
   case delete =>
    (repeat' (split at hc)) <;> first | (cases hc; done) | (injection hc with hc; subst hc; simp [pop] at hp)
   case append =>
    split at hc
    ·split at hc
     ·split at hc
      ·split at hc
       ·split at hc
        ·split at hc
         ·injection hc with hc; subst hc; simp [pop] at hp
         ·cases hc
        ·cases hc
       ·cases hc
      ·cases hc
     ·cases hc
    ·cases hc
   case len =>
    split at hc
    ·split at hc
     ·rename_i hu
      injection hc with hc; subst hc
      simp only [pop] at hp
      split at hp
      ·rename_i d0 h0
       obtain ⟨r, e1, e2⟩ := lenS_sound (P := P) (ty := type) hu (hS.look h0) hp
       refine ⟨r, ?_, e2⟩
       simp only [execOp, resolve, invoke, builtin, Sem.run_bind, Sem.run_pure, Result.andThen_ok, List.map_toArray, List.map_cons, List.map_nil, e1]
      ·cases hp
     ·rename_i e hu
      injection hc with hc; subst hc
      simp only [pop] at hp
      split at hp
      ·rename_i d0 h0
       obtain ⟨r, e1, e2⟩ := lenL_sound (P := P) (ty := type) hu (hS.look h0) hp
       refine ⟨r, ?_, e2⟩
       simp only [execOp, resolve, invoke, builtin, Sem.run_bind, Sem.run_pure, Result.andThen_ok, List.map_toArray, List.map_cons, List.map_nil, e1]
      ·cases hp
     ·injection hc with hc; subst hc; simp [pop] at hp
     ·cases hc
    ·cases hc
   case max =>
    injection hc with hc; subst hc
    simp only [pop] at hp
    split at hp
    ·rename_i d0 ds h0
     obtain ⟨hl, hr⟩ := looks_sound hS h0
     cases args with
     | nil => simp at hl
     | cons x xs =>
      obtain ⟨r, e1, e2⟩ := minmax_sound (P := P) (mx := true) (vs := xs.map a.eval) (hr 0 d0 _ rfl rfl) (by simpa using hl) (fun i d v hd hv => hr (i + 1) d v (by simpa using hd) (by simpa using hv)) hp
      refine ⟨r, ?_, e2⟩
      simp only [if_true] at e1
      simp only [execOp, resolve, invoke, builtin, Sem.run_bind, Sem.run_pure, Result.andThen_ok, List.map_toArray, List.map_cons, Builtin.max_, e1]
    ·cases hp
   case min =>
    injection hc with hc; subst hc
    simp only [pop] at hp
    split at hp
    ·rename_i d0 ds h0
     obtain ⟨hl, hr⟩ := looks_sound hS h0
     cases args with
     | nil => simp at hl
     | cons x xs =>
      obtain ⟨r, e1, e2⟩ := minmax_sound (P := P) (mx := false) (vs := xs.map a.eval) (hr 0 d0 _ rfl rfl) (by simpa using hl) (fun i d v hd hv => hr (i + 1) d v (by simpa using hd) (by simpa using hv)) hp
      refine ⟨r, ?_, e2⟩
      simp only [Bool.false_eq_true, if_false] at e1
      simp only [execOp, resolve, invoke, builtin, Sem.run_bind, Sem.run_pure, Result.andThen_ok, List.map_toArray, List.map_cons, Builtin.min_, e1]
    ·cases hp
end Go.Vm
