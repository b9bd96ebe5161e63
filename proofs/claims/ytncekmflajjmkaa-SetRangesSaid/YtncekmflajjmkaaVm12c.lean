/- The value machine, 12c: a box that nobody writes any more. -/
import Derived.Test.YtncekmflajjmkaaVm12b
namespace Go.Vm
open Go.RowKit
variable {P : Program} {w0 w w' : World} {W : Reg} {N : Nat} {g g' : Gh} {S : St} {a : Act} {tm : Array Value}

mutual
def D.fzb (o : Nat) (fs : List D) : D → D
  | .ptr o' off => if o' = o then .rp none fs off else .ptr o' off
  | .fn f x y => .fn f (fzbL o fs x) (fzbL o fs y)
  | .agg ds => .agg (fzbL o fs ds)
  | .tup ds => .tup (fzbL o fs ds)
  | .undef => .undef
  | .val v => .val v
  | .sl t es => .sl t es
  | .rp own cs off => .rp own cs off
def fzbL (o : Nat) (fs : List D) : List D → List D
  | [] => []
  | d :: ds => d.fzb o fs :: fzbL o fs ds
end

theorem fzbL_map (o : Nat) (fs : List D) : ∀ ds : List D, fzbL o fs ds = ds.map (D.fzb o fs)
  | [] => rfl
  | d :: ds => by simp [fzbL, fzbL_map o fs ds]

theorem RepF.fzb {F : Reg} {d : D} {v : Value} (h : RepF F w d v) (o : Nat) (fs : List D) : d.fzb o fs = d := by
  have lst : ∀ (ds : List D) (vs : Array Value), vs.size = ds.length → (∀ (i : Nat) (d : D) (v : Value), ds[i]? = some d → vs[i]? = some v → d.fzb o fs = d) → fzbL o fs ds = ds := fun ds vs hl h => by
    rw [fzbL_map]
    apply List.ext_getElem?
    intro i
    rw [List.getElem?_map]
    cases hd : ds[i]? with
    | none => rfl
    | some d =>
      have hi : i < vs.size := by rw [hl]; exact (List.getElem?_eq_some_iff.1 hd).1
      simp only [Option.map_some, h i d vs[i] hd (Array.getElem?_eq_getElem hi)]
  induction h with
  | fn f first caps vs us hv hu h1 h2 ih1 ih2 => simp only [D.fzb, lst first vs hv ih1, lst caps us hu ih2]
  | agg ds vs hl h ih => simp only [D.fzb, lst ds vs hl ih]
  | tup ds vs hl h ih => simp only [D.fzb, lst ds vs hl ih]
  | _ => rfl

theorem Rep.fzb {d : D} {v : Value} (h : Rep g w d v) (o : Nat) (fs : List D) (hμ : ∀ o' b, o' ≠ o → g.μ o' = some b → g'.μ o' = some b) (hτ : ∀ t ti, g.τ t = some ti → g'.τ t = some ti)
    (hF : ∀ b k, g.F b k → g'.F b k) (hp : ∀ off b k, g.μ o = some (b, k) → RepF g'.F w (.rp none fs off) (.pointer (some ⟨b, k + off, none⟩))) : Rep g' w (d.fzb o fs) v := by
  have lst : ∀ (ds : List D) (vs : Array Value), (∀ (i : Nat) (d : D) (v : Value), ds[i]? = some d → vs[i]? = some v → Rep g' w (d.fzb o fs) v) → ∀ (i : Nat) (d : D) (v : Value), (fzbL o fs ds)[i]? = some d → vs[i]? = some v → Rep g' w d v := fun ds vs h i d v hd hv => by
    rw [fzbL_map, List.getElem?_map] at hd
    obtain ⟨d0, h1, rfl⟩ := Option.map_eq_some_iff.1 hd
    exact h i d0 v h1 hv
  induction h with
  | fz d v h => rw [h.fzb]; exact .fz _ _ (h.mono hF (fun _ _ _ => rfl))
  | slT t es ti ht hn hl hr => exact .slT t es ti (hτ t ti ht) hn hl (fun i e j d he hd => let ⟨u, h1, h2⟩ := hr i e j d he hd; ⟨u, h1, h2.mono hF (fun _ _ _ => rfl)⟩)
  | rpT t i cs off ti ht hi hl b n c hv hr => exact .rpT t i cs off ti (hτ t ti ht) hi hl b n c hv (fun j d hd => let ⟨u, h1, h2⟩ := hr j d hd; ⟨u, h1, h2.mono hF (fun _ _ _ => rfl)⟩)
  | ptr o' off b k h =>
    simp only [D.fzb]
    split
    · rename_i he; subst he; exact .fz _ _ (hp off b k h)
    · rename_i hne; exact .ptr o' off b k (hμ o' _ hne h)
  | fn f first caps vs us hv hu h1 h2 ih1 ih2 => exact .fn f _ _ vs us (by rw [fzbL_map]; simpa using hv) (by rw [fzbL_map]; simpa using hu) (lst first vs ih1) (lst caps us ih2)
  | agg ds vs hl h ih => exact .agg _ vs (by rw [fzbL_map]; simpa using hl) (lst ds vs ih)
  | tup ds vs hl h ih => exact .tup _ vs (by rw [fzbL_map]; simpa using hl) (lst ds vs ih)

def St.fzb (S : St) (o : Nat) (fs : List D) : St :=
  { env := S.env.map fun x => (x.1, x.2.fzb o fs), hp := (S.hp.filter fun y => decide (y.1 ≠ o)).map fun x => (x.1, x.2.map (D.fzb o fs)), tg := S.tg }

theorem fzb_get (o : Nat) (fs : List D) (t : Nat) : (S.fzb o fs).get t = (S.get t).map (D.fzb o fs) := lookup_map _ _ _
theorem fzb_box (o o' : Nat) (fs : List D) : (S.fzb o fs).box o' = if o' = o then none else (S.box o').map (List.map (D.fzb o fs)) := by
  simp only [St.fzb, St.box]
  rw [lookup_map (List.map (D.fzb o fs)), lookup_filter]
  split <;> simp

/-- The box's cells are frozen from now on. -/
theorem Core.fzb (h : Core g S tm w) {o : Nat} {cs fs : List D} (hb : S.box o = some cs) {b0 k0 : Nat} (hμ : g.μ o = some (b0, k0)) (hfs : fs.length = cs.length)
    (hr : ∀ (j : Nat) (d : D) (e : D) (u : Value), fs[j]? = some d → cs[j]? = some e → Rep g w e u → RepF g.F w d u) :
    Core { g with F := fun b k => g.F b k ∨ (b = b0 ∧ k0 ≤ k ∧ k < k0 + cs.length) } (S.fzb o fs) tm w := by
  obtain ⟨b1, k1, vs, ety, q1, q2, q3, q4⟩ := h.box o cs hb
  rw [hμ] at q1; injection q1 with q1; injection q1 with e1 e2; subst e1; subst e2
  let g' : Gh := { g with F := fun b k => g.F b k ∨ (b = b0 ∧ k0 ≤ k ∧ k < k0 + cs.length) }
  have cellv : ∀ j, j < cs.length → ∃ u, vs[k0 + j]? = some u ∧ w.cell? ⟨b0, k0 + j, none⟩ = some u := fun j hj => by
    have hj' : k0 + j < vs.size := by omega
    exact ⟨vs[k0 + j], Array.getElem?_eq_getElem hj', by rw [cell_of_row w b0 (k0 + j) vs ety (0, 0) q2, Array.getElem?_eq_getElem hj']⟩
  have hp : ∀ off b k, g.μ o = some (b, k) → RepF g'.F w (.rp none fs off) (.pointer (some ⟨b, k + off, none⟩)) := fun off b k hbk => by
    rw [hμ] at hbk; injection hbk with hbk; injection hbk with e1 e2; subst e1; subst e2
    refine .rp b0 k0 fs off (fun j => (w.cell? ⟨b0, k0 + j, none⟩).getD undef) (fun j hj => .inr ⟨rfl, by omega, by omega⟩) (fun j hj => ?_) (fun j d hd => ?_)
    · obtain ⟨u, _, h2⟩ := cellv j (by omega)
      rw [h2]; rfl
    · have hj : j < cs.length := by rw [← hfs]; exact (List.getElem?_eq_some_iff.1 hd).1
      obtain ⟨u, h1, h2⟩ := cellv j hj
      rw [h2]
      exact (hr j d cs[j] u hd (List.getElem?_eq_getElem hj) (q4 j _ u (List.getElem?_eq_getElem hj) h1)).mono (fun _ _ h => .inl h) (fun _ _ _ => rfl)
  have rep : ∀ {d : D} {v : Value}, Rep g w d v → Rep g' w (d.fzb o fs) v := fun hd => hd.fzb o fs (fun _ _ _ h => h) (fun _ _ h => h) (fun _ _ h => .inl h) hp
  have unb : ∀ o' c, (S.fzb o fs).box o' = some c → o' ≠ o ∧ ∃ c0, S.box o' = some c0 ∧ c = c0.map (D.fzb o fs) := fun o' c hc => by
    rw [fzb_box] at hc
    split at hc
    · cases hc
    · rename_i hne
      obtain ⟨c0, h1, h2⟩ := Option.map_eq_some_iff.1 hc
      exact ⟨hne, c0, h1, h2.symm⟩
  refine ⟨fun t d hd => ?_, fun o' c hc => ?_, fun o' c b k i hc hμ' hi hF => ?_, fun o1 o2 c1 c2 b k k' h1 h2 hm1 hm2 => ?_, fun t x ht => ?_, fun t x ti o' c b k ht hti hc hμ' => ?_, h.tagI, fun b k hF => ?_⟩
  · rw [fzb_get] at hd
    obtain ⟨d0, h1, rfl⟩ := Option.map_eq_some_iff.1 hd
    exact rep (h.env t d0 h1)
  · obtain ⟨_, c0, hc0, rfl⟩ := unb o' c hc
    obtain ⟨b, k, vs', e', p1, p2, p3, p4⟩ := h.box o' c0 hc0
    refine ⟨b, k, vs', e', p1, p2, by simpa using p3, fun i d u hd hu => ?_⟩
    rw [List.getElem?_map] at hd
    obtain ⟨d0, h5, rfl⟩ := Option.map_eq_some_iff.1 hd
    exact rep (p4 i d0 u h5 hu)
  · obtain ⟨hne, c0, hc0, rfl⟩ := unb o' c hc
    rcases hF with hF | ⟨e1, e2, e3⟩
    · exact h.boxF o' c0 b k i hc0 hμ' (by simpa using hi) hF
    · subst e1
      have hi' : i < c0.length := by simpa using hi
      rcases h.boxI o' o c0 cs b k k0 hc0 hb hμ' hμ with h1 | h1 | h1
      · exact hne h1
      · omega
      · omega
  · obtain ⟨_, d1, hd1, rfl⟩ := unb o1 c1 h1
    obtain ⟨_, d2, hd2, rfl⟩ := unb o2 c2 h2
    simpa using h.boxI o1 o2 d1 d2 b k k' hd1 hd2 hm1 hm2
  · obtain ⟨ti, p1, p2⟩ := h.tag t x ht
    refine ⟨ti, p1, p2.ty, p2.own, p2.one, fun b k hbk hF => ?_, fun b k hbk hx hk => .inl (p2.inn b k hbk hx hk)⟩
    rcases hF with hF | ⟨e1, _, _⟩
    · exact p2.out b k hbk hF
    · subst e1
      exact absurd hbk (h.tagB t x ti o cs b k0 ht p1 hb hμ)
  · obtain ⟨_, c0, hc0, rfl⟩ := unb o' c hc
    exact h.tagB t x ti o' c0 b k ht hti hc0 hμ'
  · rcases hF with hF | ⟨e1, _, _⟩
    · exact h.frz b k hF
    · subst e1
      exact (Array.getElem?_eq_some_iff.1 q2).1

end Go.Vm
