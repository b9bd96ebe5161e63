/- The value machine, 4: operations that leave memory as it is. -/
import Derived.Test.YtncekmflajjmkaaVm3
namespace Go.Vm
open Go.RowKit
variable {P : Program} {w0 w : World} {N : Nat} {g : Gh} {S : St} {a : Act}

theorem addr_add (b o j : Nat) : (⟨b, o, none⟩ : Addr).add j = ⟨b, o + j, none⟩ := by
  unfold Addr.add; split
  · rename_i h; rw [h]; rfl
  · rfl

theorem live_some {own : Option (Tag × Nat)} (h : S.live own = true) : ∀ t i, own = some (t, i) → ∃ x, S.tag t = some x := by
  rintro t i rfl
  simp only [St.live, Option.all_some] at h
  exact Option.isSome_iff_exists.1 h

theorem isAgg_run {t : TypeId} {d : TypeDesc} (hu : P.underlying t = some d) : (isAgg t).run P w = .ok (aggD d) w := by
  simp only [isAgg, Sem.run_bind, run_underlying hu, Result.andThen_ok]
  cases d <;> rfl

theorem aggT_some {t : TypeId} {n : Nat} (h : aggT P t = some (some n)) : (isAgg t).run P w = .ok true w ∧ (sizeOf t).run P w = .ok n w := by
  unfold aggT at h
  cases hu : P.underlying t with
  | none => simp [hu] at h
  | some d =>
    cases hi : P.info? t with
    | none => simp [hu, hi] at h
    | some i =>
      simp only [hu, hi, Option.some.injEq] at h
      split at h
      · rename_i hd
        injection h with h
        exact ⟨by rw [isAgg_run hu, hd], by simp [sizeOf, typeInfo, hi, h]⟩
      · cases h

theorem aggT_none {t : TypeId} (h : aggT P t = some none) : (isAgg t).run P w = .ok false w := by
  unfold aggT at h
  cases hu : P.underlying t with
  | none => simp [hu] at h
  | some d =>
    cases hi : P.info? t with
    | none => simp [hu, hi] at h
    | some i =>
      simp only [hu, hi, Option.some.injEq] at h
      split at h
      · cases h
      · rename_i hd
        rw [isAgg_run hu]; simpa using hd

theorem load_cut {t : TypeId} {sz : Option Nat} {cs : List D} {b o off : Nat} {d : D} (ha : aggT P t = some sz)
    (hcell : ∀ (j : Nat) (d : D), cs[j]? = some d → ∃ x, w.cell? ⟨b, o + j, none⟩ = some x ∧ Rep g w d x) (hc : cut sz cs off = some d) :
    ∃ v, (loadVar t ⟨b, o + off, none⟩).run P w = .ok v w ∧ Rep g w d v := by
  cases sz with
  | none =>
    simp only [cut] at hc
    obtain ⟨x, hx, hr⟩ := hcell off d hc
    exact ⟨x, by simp [loadVar, aggT_none ha, hx], hr⟩
  | some n =>
    simp only [cut] at hc
    split at hc
    · rename_i hle
      injection hc with hc
      subst hc
      have hget : ∀ j, j < n → ∃ d, cs[off + j]? = some d := fun j hj => ⟨cs[off + j], List.getElem?_eq_getElem (by omega)⟩
      have hl := run_loadCells (P := P) w ⟨b, o + off, none⟩ n (fun j => (w.cell? ⟨b, o + off + j, none⟩).getD undef) (fun j hj => by
        obtain ⟨d, hd⟩ := hget j hj
        obtain ⟨x, hx, _⟩ := hcell _ d hd
        rw [addr_add, Nat.add_assoc, hx]; rfl)
      have h2 := aggT_some (P := P) (w := w) ha
      refine ⟨_, by simp only [loadVar, Sem.run_bind, h2.1, Result.andThen_ok, if_true, h2.2, hl, Sem.run_pure]; rfl, .agg _ _ ?_ ?_⟩
      · simp; omega
      · intro i d v hd hv
        simp only [List.getElem?_toArray, List.getElem?_map, Option.map_eq_some_iff] at hv
        obtain ⟨j, hj, rfl⟩ := hv
        rw [List.getElem?_take] at hd
        split at hd
        · rename_i hlt
          rw [List.getElem?_range hlt] at hj
          injection hj with hj; subst hj
          rw [List.getElem?_drop] at hd
          obtain ⟨x, hx, hr⟩ := hcell _ d hd
          rw [Nat.add_assoc, hx]; exact hr
        · cases hd
    · cases hc

theorem load_sound (hS : Core g S a.tmps w) {t : TypeId} {sz : Option Nat} {p d : D} {v : Value} (ha : aggT P t = some sz) (hp : Rep g w p v) (hl : loadD S sz p = some d) :
    ∃ u, (Instr.loadAt t v).run P w = .ok u w ∧ Rep g w d u := by
  cases p <;> simp only [loadD] at hl <;> try (cases hl; done)
  case ptr o off =>
    obtain ⟨b, k, rfl, hμ⟩ := hp.ptr_inv
    split at hl
    · rename_i cs hb
      obtain ⟨b', k', vs, e, hμ', hh, hsz, hr⟩ := hS.box o cs hb
      rw [hμ] at hμ'; injection hμ' with hμ'; injection hμ' with h1 h2; subst h1; subst h2
      have hcell : ∀ (j : Nat) (d : D), cs[j]? = some d → ∃ x, w.cell? ⟨b, k + j, none⟩ = some x ∧ Rep g w d x := fun j d hd => by
        have hj : k + j < vs.size := by have := (List.getElem?_eq_some_iff.1 hd).1; omega
        refine ⟨vs[k + j], ?_, hr j d _ hd (Array.getElem?_eq_getElem hj)⟩
        rw [cell_of_row w b (k + j) vs e (0, 0) hh, Array.getElem?_eq_getElem hj]
      obtain ⟨u, h1, h2⟩ := load_cut ha hcell hl
      exact ⟨u, by simp only [Instr.loadAt, Instr.sureAddr, Sem.run_bind, Sem.run_pure, Result.andThen_ok, h1], h2⟩
    · cases hl
  case rp own cs off =>
    split at hl
    · rename_i hlv
      obtain ⟨b, o, rfl, hcell⟩ := hp.rp_inv hS (live_some hlv)
      obtain ⟨u, h1, h2⟩ := load_cut ha hcell hl
      exact ⟨u, by simp only [Instr.loadAt, Instr.sureAddr, Sem.run_bind, Sem.run_pure, Result.andThen_ok, h1], h2⟩
    · cases hl

theorem faddr_sound {t : TypeId} {fs : Array Field} {f : Nat} {fd : Field} {i : TypeInfo} {p d : D} {v : Value} (hu : P.underlying t = some (.struct fs)) (hf : fs[f]? = some fd)
    (hi : P.info? fd.type = some i) (h0 : i.size ≠ 0) (hp : Rep g w p v) (hl : faddrD fd.offset p = some d) : ∃ u, (Instr.fieldAt t v f).run P w = .ok u w ∧ Rep g w d u := by
  have key : ∀ b k, (Instr.fieldAt t (.pointer (some ⟨b, k, none⟩)) f).run P w = .ok (.pointer (some ⟨b, k + fd.offset, none⟩)) w := fun b k => by
    simp [Instr.fieldAt, run_underlying hu, hf, Instr.sureAddr, fieldPlace, sizeOf, typeInfo, hi, h0, addr_add]
  cases p <;> simp only [faddrD] at hl <;> try (cases hl; done)
  case ptr o off =>
    obtain ⟨b, k, rfl, hμ⟩ := hp.ptr_inv
    injection hl with hl; subst hl
    exact ⟨_, key _ _, by rw [Nat.add_assoc]; exact .ptr _ _ _ _ hμ⟩
  case rp own cs off =>
    injection hl with hl; subst hl
    cases hp with
    | fz _ _ h => cases h with
      | rp b o _ _ us hF hw hr =>
        refine ⟨_, key _ _, .fz _ _ ?_⟩
        rw [Nat.add_assoc]
        exact .rp b o cs (off + fd.offset) us hF hw hr
    | rpT t' i' _ _ ti ht hi' hl b n c hv hr =>
      refine ⟨_, key _ _, ?_⟩
      rw [Nat.add_assoc]
      exact .rpT t' i' cs (off + fd.offset) ti ht hi' hl b n c hv hr

theorem iaddrA_sound {t e : TypeId} {n : Nat} {i : TypeInfo} {p x d : D} {v u : Value} (hu : P.underlying t = some (.array n e)) (hi : P.info? e = some i)
    (hp : Rep g w p v) (hx : Rep g w x u) (hl : iaddrAD n i.size p x = some d) : ∃ r, (Instr.indexAt t v u).run P w = .ok r w ∧ Rep g w d r := by
  have key : ∀ b k (kk : IntKind) (j : Int), 0 ≤ j ∧ j < n → (Instr.indexAt t (.pointer (some ⟨b, k, none⟩)) (.int kk j)).run P w = .ok (.pointer (some ⟨b, k + j.toNat * i.size, none⟩)) w := fun b k kk j hj => by
    simp [Instr.indexAt, asIntOf, run_underlying hu, Instr.sureAddr, sizeOf, typeInfo, hi, hj.1, hj.2, addr_add]
  cases p <;> cases x <;> try (simp only [iaddrAD] at hl; cases hl; done)
  case ptr.val o off y =>
    cases y <;> try (simp only [iaddrAD] at hl; cases hl; done)
    rename_i kk j
    simp only [iaddrAD] at hl
    split at hl
    · rename_i hj
      obtain ⟨b, k, rfl, hμ⟩ := hp.ptr_inv
      injection hl with hl; subst hl
      have := hx.val_inv; subst this
      exact ⟨_, key _ _ _ _ hj, by rw [Nat.add_assoc]; exact .ptr _ _ _ _ hμ⟩
    · cases hl
  case rp.val own cs off y =>
    cases y <;> try (simp only [iaddrAD] at hl; cases hl; done)
    rename_i kk j
    simp only [iaddrAD] at hl
    split at hl
    · rename_i hj
      injection hl with hl; subst hl
      have := hx.val_inv; subst this
      cases hp with
      | fz _ _ h => cases h with
        | rp b o _ _ us hF hw hr =>
          refine ⟨_, key _ _ _ _ hj, .fz _ _ ?_⟩
          rw [Nat.add_assoc]
          exact .rp b o cs _ us hF hw hr
      | rpT t' i' _ _ ti ht hi' hl b n c hv hr =>
        refine ⟨_, key _ _ _ _ hj, ?_⟩
        rw [Nat.add_assoc]
        exact .rpT t' i' cs _ ti ht hi' hl b n c hv hr
    · cases hl

theorem iaddrS_sound {t e : TypeId} {i : TypeInfo} {p x d : D} {v u : Value} (hu : P.underlying t = some (.slice e)) (hi : P.info? e = some i)
    (hp : Rep g w p v) (hx : Rep g w x u) (hl : iaddrSD i.size p x = some d) : ∃ r, (∀ w', (Instr.indexAt t v u).run P w' = .ok r w') ∧ Rep g w d r := by
  have key : ∀ b k (m c : Nat) (kk : IntKind) (j : Int), 0 ≤ j → j < m → ∀ w', (Instr.indexAt t (.slice (some ⟨b, k, none⟩) m c) (.int kk j)).run P w' = .ok (.pointer (some ⟨b, k + j.toNat * i.size, none⟩)) w' := fun b k m c kk j h0 h1 w' => by
    simp [Instr.indexAt, asIntOf, run_underlying hu, sizeOf, typeInfo, hi, h0, h1, addr_add]
  cases p <;> cases x <;> try (simp only [iaddrSD] at hl; cases hl; done)
  case sl.val tag es y =>
    cases y <;> try (simp only [iaddrSD] at hl; cases hl; done)
    rename_i kk j
    simp only [iaddrSD] at hl
    split at hl
    · rename_i h0
      split at hl
      · rename_i el he
        split at hl
        · rename_i hsz
          injection hl with hl; subst hl
          have := hx.val_inv; subst this
          have hlt : j.toNat < es.length := (List.getElem?_eq_some_iff.1 he).1
          cases hp with
          | fz _ _ h => cases h with
            | nil => simp at he
            | emp a c => simp at he
            | sl b off sz c _ us hc hlen hF hw h1 hr =>
              have hs : sz = i.size := (hlen _ _ he).symm.trans hsz
              subst hs
              refine ⟨_, key _ _ _ _ _ _ h0 (by omega), .fz _ _ ?_⟩
              have := RepF.rp (F := g.F) (w := w) b (off + j.toNat * i.size) el 0 (us j.toNat) (fun q hq => hF _ _ hlt (by omega)) (fun q hq => hw _ _ hlt (by omega))
                (fun q d hd => hr _ _ _ _ he hd)
              simpa using this
          | slT t' _ ti ht hn hlen hr =>
            have hs : ti.sz = i.size := (hlen _ _ he).symm.trans hsz
            rcases ti.shape with ⟨hv, hz⟩ | ⟨b, c, hv⟩
            · omega
            · rw [hv]
              refine ⟨_, key _ _ _ _ _ _ h0 (by omega), ?_⟩
              have := Rep.rpT (g := g) (w := w) t' j.toNat el 0 ti ht (by omega) (hlen _ _ he) b ti.n c hv (fun q d hd => hr _ _ _ _ he hd)
              rw [hs] at this
              simpa using this
        · cases hl
      · cases hl
    · cases hl

end Go.Vm
