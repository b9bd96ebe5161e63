/- The value machine, 7: all operations that leave memory as it is. -/
import Derived.Test.YtncekmflajjmkaaVm6
namespace Go.Vm
open Go.RowKit
variable {P : Program} {w0 w : World} {N : Nat} {g : Gh} {S : St} {a : Act}

theorem zero_cells (z : Value) : Cells g w (zeroD z) z.cells := by
  refine ⟨by simp [zeroD], fun i d v hd hv => ?_⟩
  simp only [zeroD, List.getElem?_map, Option.map_eq_some_iff] at hd
  obtain ⟨c, hc, rfl⟩ := hd
  have : c = v := by
    have h : z.cells.toList[i]? = some v := by simpa using hv
    rw [hc] at h; injection h
  subst this
  split
  · exact .fz _ _ .nil
  · exact .fz _ _ (.val _)

theorem compParts_spec {pl : List (Nat × Nat)} : ∀ {ps : List (Nat × Operand)} {qs : List (Nat × Nat × Operand)}, compParts pl ps = some qs →
    qs.length = ps.length ∧ ∀ (i : Nat) (p : Nat × Operand) (q : Nat × Nat × Operand), ps[i]? = some p → qs[i]? = some q → pl.toArray[p.1]? = some (q.1, q.2.1) ∧ p.2 = q.2.2
  | [], qs, h => by
    simp only [compParts, Option.some.injEq] at h; subst h
    exact ⟨rfl, fun i p q hp _ => by simp at hp⟩
  | (j, x) :: ps, qs, h => by
    simp only [compParts] at h
    split at h
    · rename_i p0 r h1 h2
      injection h with h; subst h
      obtain ⟨h3, h4⟩ := compParts_spec h2
      refine ⟨by simp [h3], fun i p q hp hq => ?_⟩
      cases i with
      | zero =>
        simp at hp hq; subst hp; subst hq
        exact ⟨by simpa using h1, rfl⟩
      | succ i => exact h4 i p q (by simpa using hp) (by simpa using hq)
    · cases h

theorem ev_v {s : Sem Value} {r : Value} {w' : World} (h : s.run P w = .ok r w') : (do pure (Next.value (← s)) : Sem Next).run P w = .ok (.value r) w' := by
  simp only [Sem.run_bind, h, Result.andThen_ok, Sem.run_pure]

theorem map_parts (parts : Array (Nat × Operand)) : (parts.map fun (i, x) => (i, a.eval x)).toList = parts.toList.map fun p => (p.1, a.eval p.2) := by
  simp

theorem pop_sound (hS : Core g S a.tmps w) {o : Oper} {m : MOp} {d : D} (hc : compOp P o = some m) (hp : pop S m = some d) : ∃ v, (execOp a.eval o).run P w = .ok (.value v) w ∧ Rep g w d v := by
  obtain ⟨dst, op, type, pos, after, guard⟩ := o
  cases op <;> simp only [compOp] at hc <;> try (cases hc; done)
  case move x =>
    injection hc with hc; subst hc
    exact ⟨_, rfl, hS.look hp⟩
  case assign x =>
    split at hc
    · split at hc
      · split at hc
        · injection hc with hc; subst hc; simp [pop] at hp
        · cases hc
      · cases hc
    · injection hc with hc; subst hc
      exact ⟨_, rfl, hS.look hp⟩
  case pick c x y =>
    injection hc with hc; subst hc
    simp only [pop] at hp
    split at hp
    · rename_i h
      exact ⟨_, by simp [execOp, (hS.look h).val_inv, asBool], hS.look hp⟩
    · rename_i h
      exact ⟨_, by simp [execOp, (hS.look h).val_inv, asBool], hS.look hp⟩
    · cases hp
  case alloc t =>
    split at hc
    · split at hc
      · injection hc with hc; subst hc; simp [pop] at hp
      · cases hc
    · cases hc
  case box t x =>
    split at hc
    · injection hc with hc; subst hc; simp [pop] at hp
    · cases hc
  case build t parts =>
    split at hc
    · rename_i fs i hu hi
      split at hc
      · rename_i z pl hz hpl
        split at hc
        · rename_i ps hps
          injection hc with hc; subst hc
          simp only [pop, Option.map_eq_some_iff] at hp
          obtain ⟨ds, hf, rfl⟩ := hp
          obtain ⟨us, e1, e2, e3⟩ := fill_sound hS (place := fun x => pl.toArray[x]?) (compParts_spec hps) (zero_cells z) hf
          refine ⟨.agg us, ev_v (run_build w t _ us ?_), .agg _ _ e2.1 e2.2⟩
          unfold places at hpl
          rw [map_parts]
          simp only [Program.built, hi, hu, hz, hpl, e1]
        · cases hc
      · cases hc
    · rename_i n e i hu hi
      split at hc
      · rename_i z ie hz hie
        injection hc with hc; subst hc
        simp only [pop, Option.map_eq_some_iff] at hp
        obtain ⟨ds, hf, rfl⟩ := hp
        obtain ⟨us, e1, e2, e3⟩ := fill_sound hS (place := fun i => some (i * ie.size, ie.size)) (ps := parts.toList) (by
          refine ⟨by simp, fun i p q hp hq => ?_⟩
          simp only [List.getElem?_map, hp, Option.map_some, Option.some.injEq] at hq
          subst hq
          exact ⟨rfl, rfl⟩) (zero_cells z) hf
        refine ⟨.agg us, ev_v (run_build w t _ us ?_), .agg _ _ e2.1 e2.2⟩
        rw [map_parts]
        simp only [Program.built, hi, hu, hz, hie, e1]
      · cases hc
    · cases hc
  case buildSlice t len parts =>
    split at hc
    · split at hc
      · split at hc
        · split at hc
          · injection hc with hc; subst hc; simp [pop] at hp
          · cases hc
        · cases hc
      · cases hc
    · cases hc
  case load t x =>
    split at hc
    · rename_i sz ha
      injection hc with hc; subst hc
      simp only [pop] at hp
      split at hp
      · rename_i d0 h0
        obtain ⟨u, h1, h2⟩ := load_sound (P := P) hS ha (hS.look h0) hp
        exact ⟨u, ev_v h1, h2⟩
      · cases hp
    · cases hc
  case store t x v =>
    split at hc
    · injection hc with hc; subst hc; simp [pop] at hp
    · cases hc
  case nilCheck x =>
    injection hc with hc; subst hc
    simp only [pop] at hp
    split at hp
    · rename_i d0 h0
      have hx := hS.look h0
      cases d0 <;> simp only [nilckD] at hp <;> try (cases hp; done)
      · injection hp with hp; subst hp
        obtain ⟨b, k, hb, _⟩ := hx.ptr_inv
        exact ⟨a.eval x, by simp [execOp, hb], hx⟩
      · injection hp with hp; subst hp
        have : ∃ ad, a.eval x = .pointer (some ad) := by
          generalize a.eval x = v at hx
          cases hx with
          | fz _ _ h => cases h; exact ⟨_, rfl⟩
          | rpT => exact ⟨_, rfl⟩
        obtain ⟨ad, had⟩ := this
        exact ⟨a.eval x, by simp [execOp, had], hx⟩
      · injection hp with hp; subst hp
        have : ∃ f vs us, a.eval x = .func (.func f) vs us := by
          generalize a.eval x = v at hx
          cases hx with
          | fz _ _ h => cases h; exact ⟨_, _, _, rfl⟩
          | fn => exact ⟨_, _, _, rfl⟩
        obtain ⟨f, vs, us, had⟩ := this
        exact ⟨a.eval x, by simp [execOp, had], hx⟩
    · cases hp
  case binOp op t x y yt =>
    split at hc
    · rename_i hu
      split at hc
      · injection hc with hc; subst hc
        simp only [pop] at hp
        split at hp
        · rename_i p q h1 h2
          obtain ⟨r, e1, e2⟩ := binB_sound (P := P) (x := x) (y := y) (.inl ⟨rfl, rfl⟩) hu (hS.look h1) (hS.look h2) hp
          exact ⟨r, ev_v e1, e2⟩
        · cases hp
      · injection hc with hc; subst hc
        simp only [pop] at hp
        split at hp
        · rename_i p q h1 h2
          obtain ⟨r, e1, e2⟩ := binB_sound (P := P) (x := x) (y := y) (.inr ⟨rfl, rfl⟩) hu (hS.look h1) (hS.look h2) hp
          exact ⟨r, ev_v e1, e2⟩
        · cases hp
      · cases hc
    · rename_i e hu
      split at hc
      · injection hc with hc; subst hc
        simp only [pop] at hp
        split at hp
        · rename_i p q h1 h2
          obtain ⟨r, e1, e2⟩ := binP_sound (P := P) (x := x) (y := y) (.inl ⟨rfl, rfl⟩) hu (hS.look h1) (hS.look h2) hp
          exact ⟨r, ev_v e1, e2⟩
        · cases hp
      · injection hc with hc; subst hc
        simp only [pop] at hp
        split at hp
        · rename_i p q h1 h2
          obtain ⟨r, e1, e2⟩ := binP_sound (P := P) (x := x) (y := y) (.inr ⟨rfl, rfl⟩) hu (hS.look h1) (hS.look h2) hp
          exact ⟨r, ev_v e1, e2⟩
        · cases hp
      · cases hc
    · injection hc with hc; subst hc
      simp only [pop] at hp
      split at hp
      · rename_i p q h1 h2
        obtain ⟨r, e1, e2⟩ := bin_sound (P := P) (t := t) (x := x) (y := y) (hS.look h1) (hS.look h2) hp
        exact ⟨r, ev_v e1, e2⟩
      · cases hp
    · injection hc with hc; subst hc
      simp only [pop] at hp
      split at hp
      · rename_i p q h1 h2
        obtain ⟨r, e1, e2⟩ := bin_sound (P := P) (t := t) (x := x) (y := y) (hS.look h1) (hS.look h2) hp
        exact ⟨r, ev_v e1, e2⟩
      · cases hp
    · rename_i fs hu
      split at hc
      · rename_i hg
        split at hc
        · rename_i ks hf
          injection hc with hc; subst hc
          simp only [pop] at hp
          split at hp
          · rename_i ds es h1 h2
            split at hp
            · rename_i b hb
              injection hp with hp; subst hp
              obtain ⟨r, e1, e2⟩ := eqs_sound (P := P) (x := x) (y := y) (.inl ⟨rfl, rfl⟩) hu rfl hg hf (hS.look h1) (hS.look h2) hb
              exact ⟨r, ev_v e1, e2⟩
            · cases hp
          · cases hp
        · rename_i ks hf
          injection hc with hc; subst hc
          simp only [pop] at hp
          split at hp
          · rename_i ds es h1 h2
            split at hp
            · rename_i b hb
              injection hp with hp; subst hp
              obtain ⟨r, e1, e2⟩ := eqs_sound (P := P) (x := x) (y := y) (.inr ⟨rfl, rfl⟩) hu rfl hg hf (hS.look h1) (hS.look h2) hb
              exact ⟨r, ev_v e1, e2⟩
            · cases hp
          · cases hp
        · cases hc
      · cases hc
    · rename_i n e hu
      split at hc
      · rename_i hg
        split at hc
        · rename_i ks hf
          injection hc with hc; subst hc
          simp only [pop] at hp
          split at hp
          · rename_i ds es h1 h2
            split at hp
            · rename_i b hb
              injection hp with hp; subst hp
              obtain ⟨r, e1, e2⟩ := eqs_sound (P := P) (x := x) (y := y) (.inl ⟨rfl, rfl⟩) hu rfl hg hf (hS.look h1) (hS.look h2) hb
              exact ⟨r, ev_v e1, e2⟩
            · cases hp
          · cases hp
        · rename_i ks hf
          injection hc with hc; subst hc
          simp only [pop] at hp
          split at hp
          · rename_i ds es h1 h2
            split at hp
            · rename_i b hb
              injection hp with hp; subst hp
              obtain ⟨r, e1, e2⟩ := eqs_sound (P := P) (x := x) (y := y) (.inr ⟨rfl, rfl⟩) hu rfl hg hf (hS.look h1) (hS.look h2) hb
              exact ⟨r, ev_v e1, e2⟩
            · cases hp
          · cases hp
        · cases hc
      · cases hc
    · split at hc
      · split at hc
        · injection hc with hc; subst hc; simp [pop] at hp
        · injection hc with hc; subst hc; simp [pop] at hp
        · cases hc
      · cases hc
    · cases hc
  case unOp op t x =>
    injection hc with hc; subst hc
    simp only [pop] at hp
    split at hp
    · rename_i d0 h0
      obtain ⟨r, e1, e2⟩ := un_sound (P := P) (hS.look h0) hp
      exact ⟨r, ev_v e1, e2⟩
    · cases hp
  case convert s t x =>
    split at hc
    · rename_i k k' hs ht
      injection hc with hc; subst hc
      simp only [pop] at hp
      split at hp
      · rename_i kk n h0
        injection hp with hp; subst hp
        refine ⟨_, ev_v ?_, .fz _ _ (.val _)⟩
        have := (hS.look h0).val_inv
        simp [convert, run_underlying hs, run_underlying ht, this, Conv.intToInt]
      · cases hp
    · rename_i hs ht
      injection hc with hc; subst hc
      simp only [pop] at hp
      split at hp
      · rename_i s0 h0
        injection hp with hp; subst hp
        refine ⟨_, ev_v ?_, .fz _ _ (.val _)⟩
        have := (hS.look h0).val_inv
        simp [convert, run_underlying hs, run_underlying ht, this]
      · cases hp
    · split at hc
      · injection hc with hc; subst hc; simp [pop] at hp
      · cases hc
    · cases hc
  case makeFunc f first caps =>
    split at hc <;> try (cases hc; done)
    injection hc with hc; subst hc
    simp only [pop] at hp
    split at hp
    · rename_i ds es h1 h2
      injection hp with hp; subst hp
      obtain ⟨a1, a2⟩ := looks_sound hS h1
      obtain ⟨b1, b2⟩ := looks_sound hS h2
      refine ⟨_, ev_v rfl, .fn _ _ _ _ _ (by simpa using a1) (by simpa using b1) (fun i d v hd hv => a2 i d v hd (by simpa using hv)) (fun i d v hd hv => b2 i d v hd (by simpa using hv))⟩
    · cases hp
  case slice t x lo hi mx =>
    cases mx with
    | some m => simp only at hc; cases hc
    | none =>
      simp only at hc
      split at hc
      · rename_i hu
        injection hc with hc; subst hc
        simp only [pop] at hp
        split at hp
        · rename_i d0 h0
          obtain ⟨r, e1, e2⟩ := slcS_sound (P := P) hS hu (hS.look h0) hp
          exact ⟨r, ev_v e1, e2⟩
        · cases hp
      · rename_i e hu
        split at hc
        · rename_i i hi
          injection hc with hc; subst hc
          simp only [pop] at hp
          split at hp
          · rename_i d0 h0
            obtain ⟨r, e1, e2⟩ := slc_sound (P := P) hS hu hi (hS.look h0) hp
            exact ⟨r, ev_v e1, e2⟩
          · cases hp
        · cases hc
      · cases hc
  case fieldAddr t x f =>
    split at hc
    · rename_i fs hu
      split at hc
      · rename_i fd hf
        split at hc
        · rename_i i hi
          split at hc
          · cases hc
          · rename_i h0
            injection hc with hc; subst hc
            simp only [pop] at hp
            split at hp
            · rename_i d0 hd0
              obtain ⟨r, e1, e2⟩ := faddr_sound (P := P) hu hf hi h0 (hS.look hd0) hp
              exact ⟨r, ev_v e1, e2⟩
            · cases hp
        · cases hc
      · cases hc
    · cases hc
  case field t x f =>
    split at hc
    · rename_i fs hu
      split at hc
      · rename_i fd hf
        split at hc
        · rename_i sz ha
          injection hc with hc; subst hc
          simp only [pop] at hp
          split at hp
          · rename_i ds hd0
            obtain ⟨r, e1, e2⟩ := fld_sound (P := P) hu hf ha (hS.look hd0) hp
            exact ⟨r, ev_v e1, e2⟩
          · cases hp
        · cases hc
      · cases hc
    · cases hc
  case indexAddr t x i =>
    split at hc
    · rename_i e hu
      split at hc
      · rename_i ti hi
        injection hc with hc; subst hc
        simp only [pop] at hp
        split at hp
        · rename_i d0 d1 h0 h1
          obtain ⟨r, e1, e2⟩ := iaddrS_sound (P := P) hu hi (hS.look h0) (hS.look h1) hp
          exact ⟨r, ev_v (e1 _), e2⟩
        · cases hp
      · cases hc
    · rename_i n e hu
      split at hc
      · rename_i ti hi
        injection hc with hc; subst hc
        simp only [pop] at hp
        split at hp
        · rename_i d0 d1 h0 h1
          obtain ⟨r, e1, e2⟩ := iaddrA_sound (P := P) hu hi (hS.look h0) (hS.look h1) hp
          exact ⟨r, ev_v e1, e2⟩
        · cases hp
      · cases hc
    · cases hc
  case index t x i =>
    split at hc
    · rename_i hu
      injection hc with hc; subst hc
      simp only [pop] at hp
      split at hp
      · rename_i d0 d1 h0 h1
        obtain ⟨r, e1, e2⟩ := idxS_sound (P := P) hu (hS.look h0) (hS.look h1) hp
        exact ⟨r, ev_v e1, e2⟩
      · cases hp
    · rename_i n e hu
      split at hc
      · rename_i sz ti ha hi
        injection hc with hc; subst hc
        simp only [pop] at hp
        split at hp
        · rename_i d0 d1 h0 h1
          obtain ⟨r, e1, e2⟩ := idxA_sound (P := P) hu hi ha (hS.look h0) (hS.look h1) hp
          exact ⟨r, ev_v e1, e2⟩
        · cases hp
      · cases hc
    · cases hc
  case extract t i =>
    injection hc with hc; subst hc
    simp only [pop] at hp
    split at hp
    · rename_i d0 h0
      cases d0 <;> simp only [extD] at hp <;> try (cases hp; done)
      rename_i ds
      obtain ⟨vs, hv, hl, hr⟩ := (hS.look h0).tup_inv
      have hlt : i < vs.size := by rw [hl]; exact (List.getElem?_eq_some_iff.1 hp).1
      exact ⟨vs[i], ev_v (by simp [Instr.extract, hv, hlt]), hr i d _ hp (Array.getElem?_eq_getElem hlt)⟩
    · cases hp
  case call c =>
    obtain ⟨callee, args, argTypes⟩ := c
    obtain ⟨args⟩ := args
    obtain ⟨argTypes⟩ := argTypes
    cases callee with
    | value f => simp only at hc; injection hc with hc; subst hc; simp [pop] at hp
    | invoke r n => simp only at hc; cases hc
    | builtin b =>
      simp only at hc
      cases b <;> simp only [compB] at hc <;> try (cases hc; done)
      case append =>
        split at hc
        · split at hc
          · split at hc
            · split at hc
              · split at hc
                · split at hc
                  · injection hc with hc; subst hc; simp [pop] at hp
                  · cases hc
                · cases hc
              · cases hc
            · cases hc
          · cases hc
        · cases hc
      case len =>
        split at hc
        · split at hc
          · rename_i hu
            injection hc with hc; subst hc
            simp only [pop] at hp
            split at hp
            · rename_i d0 h0
              obtain ⟨r, e1, e2⟩ := lenS_sound (P := P) (ty := type) hu (hS.look h0) hp
              refine ⟨r, ?_, e2⟩
              simp only [execOp, resolve, invoke, builtin, Sem.run_bind, Sem.run_pure, Result.andThen_ok, List.map_toArray, List.map_cons, List.map_nil, e1]
            · cases hp
          · rename_i e hu
            injection hc with hc; subst hc
            simp only [pop] at hp
            split at hp
            · rename_i d0 h0
              obtain ⟨r, e1, e2⟩ := lenL_sound (P := P) (ty := type) hu (hS.look h0) hp
              refine ⟨r, ?_, e2⟩
              simp only [execOp, resolve, invoke, builtin, Sem.run_bind, Sem.run_pure, Result.andThen_ok, List.map_toArray, List.map_cons, List.map_nil, e1]
            · cases hp
          · cases hc
        · cases hc
      case max =>
        injection hc with hc; subst hc
        simp only [pop] at hp
        split at hp
        · rename_i d0 ds h0
          obtain ⟨hl, hr⟩ := looks_sound hS h0
          cases args with
          | nil => simp at hl
          | cons x xs =>
            obtain ⟨r, e1, e2⟩ := minmax_sound (P := P) (mx := true) (vs := xs.map a.eval) (hr 0 d0 _ rfl rfl) (by simpa using hl) (fun i d v hd hv => hr (i + 1) d v (by simpa using hd) (by simpa using hv)) hp
            refine ⟨r, ?_, e2⟩
            simp only [if_true] at e1
            simp only [execOp, resolve, invoke, builtin, Sem.run_bind, Sem.run_pure, Result.andThen_ok, List.map_toArray, List.map_cons, Builtin.max_, e1]
        · cases hp
      case min =>
        injection hc with hc; subst hc
        simp only [pop] at hp
        split at hp
        · rename_i d0 ds h0
          obtain ⟨hl, hr⟩ := looks_sound hS h0
          cases args with
          | nil => simp at hl
          | cons x xs =>
            obtain ⟨r, e1, e2⟩ := minmax_sound (P := P) (mx := false) (vs := xs.map a.eval) (hr 0 d0 _ rfl rfl) (by simpa using hl) (fun i d v hd hv => hr (i + 1) d v (by simpa using hd) (by simpa using hv)) hp
            refine ⟨r, ?_, e2⟩
            simp only [Bool.false_eq_true, if_false] at e1
            simp only [execOp, resolve, invoke, builtin, Sem.run_bind, Sem.run_pure, Result.andThen_ok, List.map_toArray, List.map_cons, Builtin.min_, e1]
        · cases hp

end Go.Vm
