/- The value machine, 6: the other operations that leave memory as it is; all of them in one theorem. -/
import Derived.Test.YtncekmflajjmkaaVm5
namespace Go.Vm
open Go.RowKit
variable {P : Program} {w0 w : World} {N : Nat} {g : Gh} {S : St} {a : Act}

theorem eqDs_vs : ∀ {ks : List SK} {ds es : List D} {vs us : List Value} {b : Bool}, eqDs ks ds es = some b → vs.length = ds.length → us.length = es.length →
    (∀ (i : Nat) (d : D) (v : Value), ds[i]? = some d → vs[i]? = some v → Rep g w d v) → (∀ (i : Nat) (d : D) (v : Value), es[i]? = some d → us[i]? = some v → Rep g w d v) →
    eqVs ks vs us = some b ∧ ds.length = ks.length ∧ es.length = ks.length
  | [], [], [], [], [], b, h, _, _, _, _ => ⟨h, rfl, rfl⟩
  | k :: ks, .val x :: ds, .val y :: es, v :: vs, u :: us, b, h, hv, hu, h1, h2 => by
    simp only [eqDs] at h
    split at h
    · rename_i p q hp hq
      have := (h1 0 _ v rfl rfl).val_inv; subst this
      have := (h2 0 _ u rfl rfl).val_inv; subst this
      obtain ⟨e1, e2, e3⟩ := eqDs_vs (vs := vs) (us := us) hq (by simpa using hv) (by simpa using hu) (fun i d v hd hv => h1 (i + 1) d v (by simpa using hd) (by simpa using hv)) (fun i d v hd hv => h2 (i + 1) d v (by simpa using hd) (by simpa using hv))
      exact ⟨by simp only [eqVs, hp, e1]; exact h, by simp [e2], by simp [e3]⟩
    · cases h
  | [], _ :: _, _, _, _, _, h, _, _, _, _ => by simp [eqDs] at h
  | [], [], _ :: _, _, _, _, h, _, _, _, _ => by simp [eqDs] at h
  | _ :: _, [], _, _, _, _, h, _, _, _, _ => by simp [eqDs] at h
  | _ :: _, d :: _, [], _, _, _, h, _, _, _, _ => by cases d <;> simp [eqDs] at h
  | [], [], [], _ :: _, _, _, _, hv, _, _, _ => by simp at hv
  | [], [], [], [], _ :: _, _, _, _, hu, _, _ => by simp at hu
  | _ :: _, _ :: _, _ :: _, [], _, _, _, hv, _, _, _ => by simp at hv
  | _ :: _, _ :: _, _ :: _, _ :: _, [], _, _, _, hu, _, _ => by simp at hu
  | _ :: _, .undef :: _, _ :: _, _ :: _, _ :: _, _, h, _, _, _, _ => by simp [eqDs] at h
  | _ :: _, .sl .. :: _, _ :: _, _ :: _, _ :: _, _, h, _, _, _, _ => by simp [eqDs] at h
  | _ :: _, .ptr .. :: _, _ :: _, _ :: _, _ :: _, _, h, _, _, _, _ => by simp [eqDs] at h
  | _ :: _, .rp .. :: _, _ :: _, _ :: _, _ :: _, _, h, _, _, _, _ => by simp [eqDs] at h
  | _ :: _, .fn .. :: _, _ :: _, _ :: _, _ :: _, _, h, _, _, _, _ => by simp [eqDs] at h
  | _ :: _, .agg .. :: _, _ :: _, _ :: _, _ :: _, _, h, _, _, _, _ => by simp [eqDs] at h
  | _ :: _, .tup .. :: _, _ :: _, _ :: _, _ :: _, _, h, _, _, _, _ => by simp [eqDs] at h
  | _ :: _, .val _ :: _, .undef :: _, _ :: _, _ :: _, _, h, _, _, _, _ => by simp [eqDs] at h
  | _ :: _, .val _ :: _, .sl .. :: _, _ :: _, _ :: _, _, h, _, _, _, _ => by simp [eqDs] at h
  | _ :: _, .val _ :: _, .ptr .. :: _, _ :: _, _ :: _, _, h, _, _, _, _ => by simp [eqDs] at h
  | _ :: _, .val _ :: _, .rp .. :: _, _ :: _, _ :: _, _, h, _, _, _, _ => by simp [eqDs] at h
  | _ :: _, .val _ :: _, .fn .. :: _, _ :: _, _ :: _, _, h, _, _, _, _ => by simp [eqDs] at h
  | _ :: _, .val _ :: _, .agg .. :: _, _ :: _, _ :: _, _, h, _, _, _, _ => by simp [eqDs] at h
  | _ :: _, .val _ :: _, .tup .. :: _, _ :: _, _ :: _, _, h, _, _, _, _ => by simp [eqDs] at h

theorem flatT_size {d : Nat} {t : TypeId} {ks : List SK} {D : TypeDesc} (h : flatT P d t = some ks) (hu : P.underlying t = some D) (hd : aggD D = true) : ∃ i, P.info? t = some i ∧ i.size = ks.length := by
  cases d with
  | zero => simp [flatT] at h
  | succ d =>
    rw [flatT, hu] at h
    cases D <;> simp only [aggD] at hd <;> (try (cases hd; done)) <;> dsimp only at h
    · split at h
      · rename_i ks' i it hks hi hit
        split at h
        · rename_i hc
          injection h with h; subst h
          exact ⟨it, hit, by rw [hc.2, reps_length]⟩
        · cases h
      · cases h
    · split at h
      · rename_i i ks' hi hfs
        split at h
        · rename_i hc
          injection h with h; subst h
          exact ⟨i, hi, hc.1⟩
        · cases h
      · cases h

theorem eqs_sound {op : BinOp} {neg : Bool} {t : TypeId} {D0 : TypeDesc} {ks : List SK} {x y : Operand} {ds es : List D} {v u : Value} {b : Bool} (hop : (op = .eql ∧ neg = false) ∨ (op = .neq ∧ neg = true))
    (hu : P.underlying t = some D0) (hd : aggD D0 = true) (hg : P.eqGuardType P.depth t = false) (hf : flatT P 20 t = some ks) (hp : Rep g w (.agg ds) v) (hq : Rep g w (.agg es) u) (hl : eqDs ks ds es = some b) :
    ∃ r, (do eqGuard op t x y v u; binOp op t v u : Sem Value).run P w = .ok r w ∧ Rep g w (.val (.bool (b != neg))) r := by
  obtain ⟨vs, rfl, hvs, hv⟩ := hp.agg_inv
  obtain ⟨us, rfl, hus, hu'⟩ := hq.agg_inv
  obtain ⟨e1, e2, e3⟩ := eqDs_vs (vs := vs.toList) (us := us.toList) hl (by simpa using hvs) (by simpa using hus) (fun i d v h1 h2 => hv i d v h1 (by simpa using h2)) (fun i d v h1 h2 => hu' i d v h1 (by simpa using h2))
  obtain ⟨i, hi, hsz⟩ := flatT_size hf hu hd
  have seg0 : ∀ (zs : Array Value), zs.size = ks.length → seg zs 0 ks.length = zs.toList := fun zs hz => by simp only [seg, List.drop_zero, ← hz]; exact List.take_of_length_le (by simp)
  obtain ⟨x', y', p1, p2, p3⟩ := eq_flat (P := P) (w := w) 20 t ks hf 9980 vs us 0 b (by omega) (by omega) (by rw [seg0 vs (by omega), seg0 us (by omega)]; exact e1)
  rw [part_agg hu hd hi] at p1 p2
  injection p1 with p1; injection p2 with p2
  rw [hsz, Nat.zero_add] at p1 p2
  have ex : ∀ (zs : Array Value), zs.size = ks.length → zs.extract 0 ks.length = zs := fun zs hz => by rw [← hz]; simp
  rw [ex vs (by omega)] at p1
  rw [ex us (by omega)] at p2
  subst p1; subst p2
  have hguard := run_eqGuard_agg (P := P) w op t x y vs us hg
  refine ⟨_, ?_, .fz _ _ (.val _)⟩
  rcases hop with ⟨rfl, rfl⟩ | ⟨rfl, rfl⟩
  · simp only [Sem.run_bind, hguard, Result.andThen_ok, run_eql_struct, p3, Bool.bne_false]
  · simp only [Sem.run_bind, hguard, Result.andThen_ok, run_neq_struct, p3, Bool.bne_true]

theorem un_sound {op : UnOp} {p d : D} {v : Value} (hp : Rep g w p v) (hl : unD op p = some d) : ∃ r, (Op.unary op v).run P w = .ok r w ∧ Rep g w d r := by
  cases p <;> try (simp only [unD] at hl; cases hl; done)
  rename_i v'
  have := hp.val_inv; subst this
  cases v <;> try (simp only [unD] at hl; cases hl; done)
  · cases op <;> simp only [unD] at hl <;> try (cases hl; done)
    injection hl with hl; subst hl
    exact ⟨_, rfl, .fz _ _ (.val _)⟩
  · cases op <;> simp only [unD] at hl <;> try (cases hl; done)
    · injection hl with hl; subst hl
      exact ⟨_, rfl, .fz _ _ (.val _)⟩
    · simp only [binI, Option.map_some, Option.some.injEq] at hl
      subst hl
      exact ⟨_, rfl, .fz _ _ (.val _)⟩

theorem part_cut {t : TypeId} {sz : Option Nat} {ds : List D} {vs : Array Value} {off : Nat} {d : D} (ha : aggT P t = some sz) (hs : vs.size = ds.length)
    (h : ∀ (i : Nat) (d : D) (v : Value), ds[i]? = some d → vs[i]? = some v → Rep g w d v) (hc : cut sz ds off = some d) : ∃ r, (part t vs off).run P w = .ok r w ∧ Rep g w d r := by
  cases sz with
  | none =>
    simp only [cut] at hc
    have hlt : off < vs.size := by rw [hs]; exact (List.getElem?_eq_some_iff.1 hc).1
    refine ⟨vs[off], ?_, h off d _ hc (Array.getElem?_eq_getElem hlt)⟩
    simp [part, aggT_none ha, hlt]
  | some n =>
    simp only [cut] at hc
    split at hc
    · rename_i hle
      injection hc with hc; subst hc
      have h2 := aggT_some (P := P) (w := w) ha
      refine ⟨.agg (vs.extract off (off + n)), by simp only [part, Sem.run_bind, h2.1, Result.andThen_ok, if_true, h2.2, Sem.run_pure], .agg _ _ ?_ ?_⟩
      · simp; omega
      · intro i d v hd hv
        rw [List.getElem?_take] at hd
        split at hd
        · rw [List.getElem?_drop] at hd
          rw [Array.getElem?_extract] at hv
          split at hv
          · exact h _ _ _ hd hv
          · cases hv
        · cases hd
    · cases hc

theorem fld_sound {t : TypeId} {fs : Array Field} {f : Nat} {fd : Field} {sz : Option Nat} {ds : List D} {d : D} {v : Value} (hu : P.underlying t = some (.struct fs)) (hf : fs[f]? = some fd)
    (ha : aggT P fd.type = some sz) (hp : Rep g w (.agg ds) v) (hl : cut sz ds fd.offset = some d) : ∃ r, (Instr.field t v f).run P w = .ok r w ∧ Rep g w d r := by
  obtain ⟨vs, rfl, hvs, hv⟩ := hp.agg_inv
  obtain ⟨r, h1, h2⟩ := part_cut (P := P) ha hvs hv hl
  exact ⟨r, by simp [Instr.field, run_underlying hu, hf, asAgg, h1], h2⟩

theorem idxA_sound {t e : TypeId} {n : Nat} {i : TypeInfo} {sz : Option Nat} {p q d : D} {v u : Value} (hu : P.underlying t = some (.array n e)) (hi : P.info? e = some i) (ha : aggT P e = some sz)
    (hp : Rep g w p v) (hq : Rep g w q u) (hl : idxAD n i.size sz.isSome p q = some d) : ∃ r, (Instr.index t v u).run P w = .ok r w ∧ Rep g w d r := by
  unfold idxAD at hl
  split at hl
  · rename_i ds k j
    split at hl
    · rename_i hj
      obtain ⟨vs, rfl, hvs, hv⟩ := hp.agg_inv
      have := hq.val_inv; subst this
      have hsz : (if sz.isSome = true then some i.size else none) = sz := by
        cases sz with
        | none => rfl
        | some m =>
          unfold aggT at ha
          rw [hi] at ha
          split at ha
          · rename_i h1 h2
            injection h2 with h2; subst h2
            injection ha with ha
            split at ha
            · injection ha with ha; simp [ha]
            · cases ha
          · cases ha
      rw [hsz] at hl
      obtain ⟨r, h1, h2⟩ := part_cut (P := P) ha hvs hv hl
      exact ⟨r, by simp [Instr.index, asIntOf, run_underlying hu, hj.1, hj.2, sizeOf, typeInfo, hi, h1], h2⟩
    · cases hl
  · cases hl

theorem idxS_sound {t : TypeId} {p q d : D} {v u : Value} (hu : P.underlying t = some .string) (hp : Rep g w p v) (hq : Rep g w q u) (hl : idxSD p q = some d) :
    ∃ r, (Instr.index t v u).run P w = .ok r w ∧ Rep g w d r := by
  unfold idxSD at hl
  split at hl
  · rename_i s k j
    split at hl
    · rename_i hj
      split at hl
      · rename_i b hb
        have := hp.val_inv; subst this
        have := hq.val_inv; subst this
        injection hl with hl; subst hl
        refine ⟨_, ?_, .fz _ _ (.val _)⟩
        have hlt : j.toNat < s.size := (Array.getElem?_eq_some_iff.1 hb).1
        have hs : s[j.toNat]? = some b := by
          rw [ByteArray.getElem?_lt' s _ hlt]
          congr 1
          have := (Array.getElem?_eq_some_iff.1 hb).2
          exact this
        simp [Instr.index, asIntOf, run_underlying hu, hj, hs]
      · cases hl
    · cases hl
  · cases hl

theorem boundD_some {x : Operand} {top n dflt : Nat} (h : boundD S dflt top (some x) = some n) : ∃ k i, look S x = some (.val (.int k i)) ∧ 0 ≤ i ∧ i ≤ top ∧ n = i.toNat := by
  simp only [boundD] at h
  split at h
  · rename_i k i hx
    split at h
    · rename_i hi
      injection h with h
      exact ⟨k, i, hx, hi.1, hi.2, h.symm⟩
    · cases h
  · cases h

theorem bound_sound (hS : Core g S a.tmps w) {x : Operand} {top top' n dflt : Nat} {code : BoundsCode} (h : boundD S dflt top (some x) = some n) (ht : top ≤ top') : (Instr.sliceBound (a.eval x) top' code).run P w = .ok n w := by
  obtain ⟨k, i, hx, h0, h1, rfl⟩ := boundD_some h
  have := (hS.look hx).val_inv
  have h2 : i ≤ (top' : Int) := by omega
  simp [Instr.sliceBound, this, asIntOf, h0, h2]

theorem boundD_le {x : Option Operand} {top n dflt : Nat} (h : boundD S dflt top x = some n) (hd : dflt ≤ top) : n ≤ top := by
  cases x with
  | none => simp only [boundD, Option.some.injEq] at h; omega
  | some x => obtain ⟨k, i, hx, h0, h1, rfl⟩ := boundD_some h; omega

theorem bounds_sound (hS : Core g S a.tmps w) {lo hi : Option Operand} {len cap h l : Nat} {isS : Bool} (hle : len ≤ cap) (hh : boundD S len len hi = some h) (hl : boundD S 0 h lo = some l) :
    (Instr.sliceBounds isS len cap (lo.map a.eval) (hi.map a.eval) none).run P w = .ok (l, h, cap) w ∧ l ≤ h ∧ h ≤ len := by
  refine ⟨?_, boundD_le hl (by omega), boundD_le hh (by omega)⟩
  unfold Instr.sliceBounds
  cases hi with
  | none =>
    simp only [boundD, Option.some.injEq] at hh
    subst hh
    cases lo with
    | none => simp only [boundD, Option.some.injEq] at hl; subst hl; simp
    | some y => simp [bound_sound (P := P) (code := .sliceB) hS hl (Nat.le_refl _)]
  | some x =>
    have hx := bound_sound (P := P) (code := if isS then .sliceAcap else .sliceAlen) hS hh hle
    cases lo with
    | none => simp only [boundD, Option.some.injEq] at hl; subst hl; simp [hx]
    | some y => simp [hx, bound_sound (P := P) (code := .sliceB) hS hl (Nat.le_refl _)]

theorem slcS_sound (hS : Core g S a.tmps w) {t : TypeId} {lo hi : Option Operand} {p d : D} {v : Value} (hu : P.underlying t = some .string) (hp : Rep g w p v) (hl : slcSD S lo hi p = some d) :
    ∃ r, (Instr.sliceAt t v (lo.map a.eval) (hi.map a.eval) none).run P w = .ok r w ∧ Rep g w d r := by
  unfold slcSD at hl
  split at hl
  · rename_i s
    split at hl
    · rename_i h hh
      split at hl
      · rename_i l hlo
        have := hp.val_inv; subst this
        injection hl with hl; subst hl
        have := (bounds_sound (P := P) (isS := false) hS (Nat.le_refl _) hh hlo).1
        exact ⟨_, by simp [Instr.sliceAt, Instr.slice, run_underlying hu, this], .fz _ _ (.val _)⟩
      · cases hl
    · cases hl
  · cases hl

theorem slc_sound (hS : Core g S a.tmps w) {t e : TypeId} {i : TypeInfo} {lo hi : Option Operand} {p d : D} {v : Value} (hu : P.underlying t = some (.slice e)) (hi' : P.info? e = some i)
    (hp : Rep g w p v) (hl : slcD S i.size lo hi p = some d) : ∃ r, (Instr.sliceAt t v (lo.map a.eval) (hi.map a.eval) none).run P w = .ok r w ∧ Rep g w d r := by
  unfold slcD at hl
  split at hl
  · rename_i es
    split at hl
    · rename_i hsz
      split at hl
      · rename_i h hh
        split at hl
        · rename_i l hlo
          injection hl with hl; subst hl
          cases hp with
          | fz _ _ hp => cases hp with
            | nil =>
              obtain ⟨h1, h2, h3⟩ := bounds_sound (P := P) (isS := true) hS (Nat.le_refl _) hh hlo
              simp only [List.length_nil] at h1 h3
              have hh0 : h = 0 := by omega
              have hl0 : l = 0 := by omega
              subst hh0; subst hl0
              exact ⟨.slice none 0 0, by simp [Instr.sliceAt, Instr.slice, run_underlying hu, h1, sizeOf, typeInfo, hi'], .fz _ _ .nil⟩
            | emp ad c =>
              obtain ⟨h1, h2, h3⟩ := bounds_sound (P := P) (isS := true) hS (Nat.zero_le c) hh hlo
              replace h3 : h ≤ 0 := h3
              have hh0 : h = 0 := by omega
              have hl0 : l = 0 := by omega
              subst hh0; subst hl0
              refine ⟨.slice (some ad) 0 c, ?_, .fz _ _ (.emp ad c)⟩
              by_cases hc0 : c = 0
              · subst hc0
                simp [Instr.sliceAt, Instr.slice, run_underlying hu, h1, sizeOf, typeInfo, hi']
              · simp [Instr.sliceAt, Instr.slice, run_underlying hu, h1, sizeOf, typeInfo, hi', Addr.add]
            | sl b off sz c _ us hc hlen hF hw h1 hr =>
              obtain ⟨hb, h2, h3⟩ := bounds_sound (P := P) (isS := true) hS hc hh hlo
              have key : ∃ o', (Instr.sliceAt t (.slice (some ⟨b, off, none⟩) es.length c) (lo.map a.eval) (hi.map a.eval) none).run P w = .ok (.slice (some ⟨b, o', none⟩) (h - l) (c - l)) w ∧ (l < h → o' = off + l * i.size) := by
                by_cases hcl : c = l
                · refine ⟨off, by simp [Instr.sliceAt, Instr.slice, run_underlying hu, hb, sizeOf, typeInfo, hi']; exact fun h => absurd hcl h, fun h => by omega⟩
                · refine ⟨off + l * i.size, by simp [Instr.sliceAt, Instr.slice, run_underlying hu, hb, sizeOf, typeInfo, hi', hcl, addr_add], fun _ => rfl⟩
              obtain ⟨o', hrun, ho'⟩ := key
              refine ⟨_, hrun, .fz _ _ ?_⟩
              have hln : ((es.take h).drop l).length = h - l := by simp; omega
              rw [← hln]
              have hget : ∀ (q : Nat) (e : List D), ((es.take h).drop l)[q]? = some e → es[l + q]? = some e ∧ l + q < h := fun q e hq => by
                rw [List.getElem?_drop, List.getElem?_take] at hq
                split at hq
                · rename_i hlt; exact ⟨hq, hlt⟩
                · cases hq
              have hszq : ∀ q, q < ((es.take h).drop l).length → sz = i.size ∧ o' = off + l * i.size := fun q hq => by
                have hq' : l + q < es.length := by omega
                obtain ⟨e0, he0⟩ : ∃ e0, es[l + q]? = some e0 := ⟨_, List.getElem?_eq_getElem hq'⟩
                have : e0.length = i.size := by
                  have := List.all_eq_true.1 hsz e0 (List.mem_of_getElem? he0)
                  simpa using this
                exact ⟨(hlen _ _ he0).symm.trans this, ho' (by omega)⟩
              refine .sl b o' sz (c - l) _ (fun q j => us (l + q) j) (by omega) (fun q e hq => hlen _ _ (hget q e hq).1) (fun q j hq hj => ?_) (fun q j hq hj => ?_) (fun q j hq hj => h1 _ _ (by omega) hj) (fun q e j d hq hd => hr _ _ _ _ (hget q e hq).1 hd)
              · obtain ⟨e1, e2⟩ := hszq q hq
                have := hF (l + q) j (by omega) hj
                rw [e2, ← e1, show off + l * sz + q * sz + j = off + (l + q) * sz + j by rw [Nat.add_mul]; omega]
                exact this
              · obtain ⟨e1, e2⟩ := hszq q hq
                have := hw (l + q) j (by omega) hj
                rw [e2, ← e1, show off + l * sz + q * sz + j = off + (l + q) * sz + j by rw [Nat.add_mul]; omega]
                exact this
        · cases hl
      · cases hl
    · cases hl
  · cases hl

theorem lenS_sound {t ty : TypeId} {p d : D} {v : Value} (hu : P.underlying t = some .string) (hp : Rep g w p v) (hl : lenSD p = some d) :
    ∃ r, (Builtin.len_ #[t] ty #[v]).run P w = .ok r w ∧ Rep g w d r := by
  unfold lenSD at hl
  split at hl
  · have := hp.val_inv; subst this
    injection hl with hl; subst hl
    exact ⟨_, by simp [Builtin.len_, run_underlying hu, goInt], .fz _ _ (.val _)⟩
  · cases hl

theorem sl_inv {tag : Option Tag} {es : List (List D)} {v : Value} (hp : Rep g w (.sl tag es) v) : ∃ A c, v = .slice A es.length c := by
  cases hp with
  | fz _ _ h => cases h with
    | nil => exact ⟨none, 0, rfl⟩
    | emp a c => exact ⟨_, c, rfl⟩
    | sl b off sz c => exact ⟨_, c, rfl⟩
  | slT t es ti ht hn hl hr =>
    rcases ti.shape with ⟨h1, h2⟩ | ⟨b, c, h1⟩
    · exact ⟨none, 0, by rw [h1, hn, h2]⟩
    · exact ⟨_, c, by rw [h1, hn]⟩

theorem lenL_sound {t e ty : TypeId} {p d : D} {v : Value} (hu : P.underlying t = some (.slice e)) (hp : Rep g w p v) (hl : lenLD p = some d) :
    ∃ r, (Builtin.len_ #[t] ty #[v]).run P w = .ok r w ∧ Rep g w d r := by
  unfold lenLD at hl
  split at hl
  · injection hl with hl; subst hl
    obtain ⟨A, c, rfl⟩ := sl_inv hp
    exact ⟨_, by simp [Builtin.len_, run_underlying hu, goInt], .fz _ _ (.val _)⟩
  · cases hl

theorem max2_sound {mx : Bool} {p q d : D} {v u : Value} (hp : Rep g w p v) (hq : Rep g w q u) (hl : max2D mx p q = some d) :
    ∃ r, ((if mx then Builtin.max2 v u else Builtin.min2 v u) : Sem Value).run P w = .ok r w ∧ Rep g w d r := by
  unfold max2D at hl
  split at hl
  · have := hp.val_inv; subst this
    have := hq.val_inv; subst this
    injection hl with hl; subst hl
    cases mx
    · exact ⟨_, rfl, .fz _ _ (.val _)⟩
    · exact ⟨_, rfl, .fz _ _ (.val _)⟩
  · cases hl

theorem minmax_sound {mx : Bool} : ∀ {ds : List D} {vs : List Value} {x d : D} {v : Value}, Rep g w x v → vs.length = ds.length → (∀ (i : Nat) (d : D) (v : Value), ds[i]? = some d → vs[i]? = some v → Rep g w d v) →
    minmaxD mx x ds = some d → ∃ r, (vs.foldlM (if mx then Builtin.max2 else Builtin.min2) v : Sem Value).run P w = .ok r w ∧ Rep g w d r
  | [], [], x, d, v, hx, _, _, h => by
    simp only [minmaxD, Option.some.injEq] at h; subst h
    exact ⟨v, by simp, hx⟩
  | y :: ds, u :: vs, x, d, v, hx, hl, hr, h => by
    simp only [minmaxD] at h
    split at h
    · rename_i z hz
      obtain ⟨r, h1, h2⟩ := max2_sound (P := P) hx (hr 0 y u rfl rfl) hz
      obtain ⟨r', h3, h4⟩ := minmax_sound (vs := vs) (v := r) h2 (by simpa using hl) (fun i d v hd hv => hr (i + 1) d v (by simpa using hd) (by simpa using hv)) h
      refine ⟨r', ?_, h4⟩
      have h1' : ((if mx = true then Builtin.max2 else Builtin.min2) v u : Sem Value).run P w = .ok r w := by
        cases mx <;> exact h1
      simp only [List.foldlM_cons, Sem.run_bind, h1', Result.andThen_ok, h3]
    · cases h
  | [], _ :: _, _, _, _, _, hl, _, _ => by simp at hl
  | _ :: _, [], _, _, _, _, hl, _, _ => by simp at hl

theorem looks_sound (hS : Core g S a.tmps w) : ∀ {xs : List Operand} {ds : List D}, looks S xs = some ds → xs.length = ds.length ∧ ∀ (i : Nat) (d : D) (v : Value), ds[i]? = some d → (xs.map a.eval)[i]? = some v → Rep g w d v
  | [], ds, h => by
    simp only [looks, Option.some.injEq] at h; subst h
    exact ⟨rfl, fun i d v hd _ => by simp at hd⟩
  | x :: xs, ds, h => by
    simp only [looks] at h
    split at h
    · rename_i d0 ds0 h0 h1
      injection h with h; subst h
      obtain ⟨hl, hr⟩ := looks_sound hS h1
      refine ⟨by simp [hl], fun i d v hd hv => ?_⟩
      cases i with
      | zero =>
        simp at hd hv; subst hd; subst hv
        exact hS.look h0
      | succ i => exact hr i d v (by simpa using hd) (by simpa using hv)
    · cases h

theorem cl_sound {d : D} {ds : List D} {v : Value} (h : d.cl = some ds) (hp : Rep g w d v) : v.cells.size = ds.length ∧ (∀ (i : Nat) (d : D) (u : Value), ds[i]? = some d → v.cells[i]? = some u → Rep g w d u) ∧
    (∀ d ∈ ds, d.one = true) ∧ (∀ (i : Nat) (u : Value), v.cells[i]? = some u → u.oneCell' = true) := by
  have single : d.one = true → ds = [d] → v.cells.size = ds.length ∧ (∀ (i : Nat) (d : D) (u : Value), ds[i]? = some d → v.cells[i]? = some u → Rep g w d u) ∧
      (∀ d ∈ ds, d.one = true) ∧ (∀ (i : Nat) (u : Value), v.cells[i]? = some u → u.oneCell' = true) := fun h1 h3 => by
    have hv := hp.one h1
    have hc : v.cells = #[v] := by cases v <;> first | rfl | (simp [Value.oneCell'] at hv)
    subst h3
    rw [hc]
    refine ⟨rfl, fun i d' u hd hu => ?_, fun d' hd => by simp at hd; subst hd; exact h1, fun i u hu => ?_⟩
    · cases i with
      | zero => simp at hd hu; subst hd; subst hu; exact hp
      | succ i => simp at hd
    · cases i with
      | zero => simp at hu; subst hu; exact hv
      | succ i => simp at hu
  cases d
  case agg ds' =>
    simp only [D.cl] at h
    split at h
    · rename_i hall
      injection h with h; subst h
      obtain ⟨vs, rfl, hvs, hv⟩ := hp.agg_inv
      have hone := List.all_eq_true.1 hall
      refine ⟨hvs, hv, hone, fun i u hu => ?_⟩
      have hlt : i < ds'.length := by rw [← hvs]; exact (Array.getElem?_eq_some_iff.1 hu).1
      exact (hv i ds'[i] u (List.getElem?_eq_getElem hlt) hu).one (hone _ (List.getElem_mem hlt))
    · cases h
  all_goals
    simp only [D.cl] at h
    split at h
    · rename_i h1
      injection h with h
      exact single h1 h.symm
    · cases h

/-- Two lists that say the same, cell by cell. -/
def Cells (g : Gh) (w : World) (ds : List D) (vs : Array Value) : Prop := vs.size = ds.length ∧ ∀ (i : Nat) (d : D) (v : Value), ds[i]? = some d → vs[i]? = some v → Rep g w d v

theorem Cells.put {cs : List D} {vs : Array Value} (h : Cells g w cs vs) (off : Nat) : ∀ (ds : List D) (us : List Value) (k : Nat), us.length = ds.length → (∀ (i : Nat) (d : D) (v : Value), ds[i]? = some d → us[i]? = some v → Rep g w d v) →
    Cells g w ((ds.zipIdx k).foldl (fun cs x => cs.set (off + x.2) x.1) cs) ((us.zipIdx k).foldl (fun cs x => cs.setIfInBounds (off + x.2) x.1) vs)
  | [], [], k, _, _ => h
  | d :: ds, u :: us, k, hl, hr => by
    simp only [List.zipIdx_cons, List.foldl_cons]
    refine Cells.put (cs := cs.set (off + k) d) (vs := vs.setIfInBounds (off + k) u) ⟨by simp [h.1], fun i d' v' hd hv => ?_⟩ off ds us (k + 1) (by simpa using hl) (fun i d' v' hd hv => hr (i + 1) d' v' (by simpa using hd) (by simpa using hv))
    rw [List.getElem?_set] at hd
    rw [Array.getElem?_setIfInBounds] at hv
    split at hd
    · rename_i he
      rw [if_pos he] at hv
      split at hd
      · split at hv
        · injection hd with hd; injection hv with hv; subst hd; subst hv
          exact hr 0 _ _ rfl rfl
        · cases hv
      · cases hd
    · rename_i he
      rw [if_neg he] at hv
      exact h.2 i d' v' hd hv
  | [], _ :: _, _, hl, _ => by simp at hl
  | _ :: _, [], _, hl, _ => by simp at hl

theorem foldl_set_length {α : Type} (off : Nat) : ∀ (zs : List (α × Nat)) (cs : List α), (zs.foldl (fun cs x => cs.set (off + x.2) x.1) cs).length = cs.length
  | [], _ => rfl
  | z :: zs, cs => by rw [List.foldl_cons, foldl_set_length off zs]; simp

theorem fill_sound (hS : Core g S a.tmps w) {place : Nat → Option (Nat × Nat)} : ∀ {ps : List (Nat × Operand)} {qs : List (Nat × Nat × Operand)} {cs ds : List D} {vs : Array Value},
    (qs.length = ps.length ∧ ∀ (i : Nat) (p : Nat × Operand) (q : Nat × Nat × Operand), ps[i]? = some p → qs[i]? = some q → place p.1 = some (q.1, q.2.1) ∧ p.2 = q.2.2) → Cells g w cs vs → fillD S cs qs = some ds →
    ∃ us, Instr.fill place vs (ps.map fun p => (p.1, a.eval p.2)) = some us ∧ Cells g w ds us ∧ us.size = vs.size
  | [], [], cs, ds, vs, _, hc, h => by
    simp only [fillD, Option.some.injEq] at h; subst h
    exact ⟨vs, rfl, hc, rfl⟩
  | p :: ps, q :: qs, cs, ds, vs, hp, hc, h => by
    obtain ⟨off, sz, x⟩ := q
    simp only [fillD] at h
    split at h
    · rename_i d hd
      split at h
      · rename_i es he
        split at h
        · rename_i hsz
          obtain ⟨h1, h2⟩ := hp.2 0 p (off, sz, x) rfl rfl
          simp only at h1 h2
          obtain ⟨c1, c2, c3, c4⟩ := cl_sound he (hS.look hd)
          have hput := Cells.put hc off es (a.eval x).cells.toList 0 (by simpa using c1) (fun i d v hd hv => c2 i d v hd (by simpa using hv))
          obtain ⟨us, e1, e2, e3⟩ := fill_sound hS (place := place) (ps := ps) (qs := qs) ⟨by simpa using hp.1, fun i p q hp' hq => hp.2 (i + 1) p q (by simpa using hp') (by simpa using hq)⟩ hput h
          refine ⟨us, ?_, e2, ?_⟩
          · simp only [List.map_cons, Instr.fill, h1, h2]
            rw [if_neg (by simp [c1, hc.1, hsz.1]; omega)]
            rw [← e1]
            congr 1
            rw [← Array.foldl_toList, Array.toList_zipIdx]
          · rw [e3, hput.1, hc.1]
            exact foldl_set_length off _ cs
        · cases h
      · cases h
    · cases h
  | [], _ :: _, _, _, _, hp, _, _ => by simp at hp
  | _ :: _, [], _, _, _, hp, _, _ => by simp at hp

end Go.Vm
