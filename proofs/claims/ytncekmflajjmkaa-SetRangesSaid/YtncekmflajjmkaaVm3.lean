/- The value machine, 3: what a state says of a frame and a world; operations that leave memory as it is. -/
import Derived.Test.YtncekmflajjmkaaVm2
namespace Go.Vm
open Go.RowKit

structure OwnT (w : World) (g : Gh) (t : Tag) (x : Bool) (ti : TI) : Prop where
  ty : ti.e = t.2.1 ∧ ti.sz = t.2.2
  own : w.ownsRow 0 ti.e ti.sz ti.v ti.n ti.xs
  one : ∀ u ∈ ti.xs, u.oneCell' = true
  out : ∀ b k, ti.v.ownBlock = some b → g.F b k → x = false ∧ k < ti.n * ti.sz
  inn : ∀ b k, ti.v.ownBlock = some b → x = false → k < ti.n * ti.sz → g.F b k

/-- What a state says of temporaries and memory. -/
structure Core (g : Gh) (S : St) (tm : Array Value) (w : World) : Prop where
  env : ∀ t d, S.get t = some d → Rep g w d (tm.getD t undef)
  box : ∀ o cs, S.box o = some cs → ∃ b k vs e, g.μ o = some (b, k) ∧ w.heap[b]? = some (.cells vs e (0, 0)) ∧ k + cs.length ≤ vs.size ∧
    (∀ (i : Nat) (d : D) (u : Value), cs[i]? = some d → vs[k + i]? = some u → Rep g w d u)
  boxF : ∀ o cs b k i, S.box o = some cs → g.μ o = some (b, k) → i < cs.length → ¬ g.F b (k + i)
  boxI : ∀ o o' cs cs' b k k', S.box o = some cs → S.box o' = some cs' → g.μ o = some (b, k) → g.μ o' = some (b, k') → o = o' ∨ k + cs.length ≤ k' ∨ k' + cs'.length ≤ k
  tag : ∀ t x, S.tag t = some x → ∃ ti, g.τ t = some ti ∧ OwnT w g t x ti
  tagB : ∀ t x ti o cs b k, S.tag t = some x → g.τ t = some ti → S.box o = some cs → g.μ o = some (b, k) → ti.v.ownBlock ≠ some b
  tagI : ∀ t x ti t' x' ti' b, S.tag t = some x → g.τ t = some ti → S.tag t' = some x' → g.τ t' = some ti' → ti.v.ownBlock = some b → ti'.v.ownBlock = some b → t = t'
  frz : ∀ b k, g.F b k → b < w.heap.size

/-- Memory is as it was, but for some cells; new blocks may be there. -/
structure Keep (W : Reg) (w w' : World) : Prop where
  os : w'.os = w.os
  tape : w'.tape = w.tape
  output : w'.output = w.output
  size : w.heap.size ≤ w'.heap.size
  drawn : w.drawn ≤ w'.drawn
  block : ∀ (b : Nat) (o : Obj), w.heap[b]? = some o → w'.heap[b]? = some o ∨ ∃ vs vs' e, o = .cells vs e (0, 0) ∧ w'.heap[b]? = some (.cells vs' e (0, 0)) ∧ vs'.size = vs.size ∧
    ∀ k, ¬ W b k → vs'[k]? = vs[k]?

/-- What a state owns may be written. -/
structure Wr (base : Nat) (W : Reg) (g : Gh) (S : St) : Prop where
  box : ∀ o cs b k i, S.box o = some cs → g.μ o = some (b, k) → i < cs.length → base ≤ b ∨ W b (k + i)
  tag : ∀ t x ti b, S.tag t = some x → g.τ t = some ti → ti.v.ownBlock = some b → base ≤ b ∨ ∀ i, W b i

structure StRel (w0 : World) (W : Reg) (N : Nat) (g : Gh) (S : St) (a : Act) (w : World) : Prop where
  core : Core g S a.tmps w
  wr : Wr w0.heap.size W g S
  keep : Keep W w0 w
  size : a.tmps.size = N
  defers : a.defers = []

variable {w0 w : World} {N : Nat} {g : Gh} {S : St} {a : Act}

theorem Keep.refl (W : Reg) (w : World) : Keep W w w := ⟨rfl, rfl, rfl, Nat.le_refl _, Nat.le_refl _, fun _ _ h => .inl h⟩

theorem Keep.trans {W W' : Reg} {w w1 w2 : World} (h : Keep W w w1) (h' : Keep W' w1 w2) (hW : ∀ b k, b < w.heap.size → W' b k → W b k) : Keep W w w2 := by
  refine ⟨h'.os.trans h.os, h'.tape.trans h.tape, h'.output.trans h.output, Nat.le_trans h.size h'.size, Nat.le_trans h.drawn h'.drawn, fun b o hb => ?_⟩
  have hlt : b < w.heap.size := (Array.getElem?_eq_some_iff.1 hb).1
  rcases h.block b o hb with h1 | ⟨vs, vs', e, rfl, h1, h2, h3⟩
  · rcases h'.block b o h1 with h4 | ⟨us, us', e', rfl, h4, h5, h6⟩
    · exact .inl h4
    · exact .inr ⟨us, us', e', rfl, h4, h5, fun k hk => h6 k (fun hk' => hk (hW b k hlt hk'))⟩
  · rcases h'.block b _ h1 with h4 | ⟨us, us', e', he, h4, h5, h6⟩
    · exact .inr ⟨vs, vs', e, rfl, h4, h2, h3⟩
    · injection he with he1 he2; subst he1; subst he2
      exact .inr ⟨vs, us', e, rfl, h4, h5.trans h2, fun k hk => (h6 k (fun hk' => hk (hW b k hlt hk'))).trans (h3 k hk)⟩

theorem Keep.mono {W W' : Reg} {w w1 : World} (h : Keep W w w1) (hW : ∀ b k, b < w.heap.size → W b k → W' b k) : Keep W' w w1 :=
  (Keep.refl W' w).trans h hW

theorem Keep.cell {W : Reg} {w w1 : World} (h : Keep W w w1) {b k : Nat} (hb : b < w.heap.size) (hk : ¬ W b k) : w1.cell? ⟨b, k, none⟩ = w.cell? ⟨b, k, none⟩ := by
  rcases h.block b _ (Array.getElem?_eq_getElem hb) with h1 | ⟨vs, vs', e, h0, h1, h2, h3⟩
  · exact World.cell?_of_block (a := ⟨b, k, none⟩) (by rw [h1, Array.getElem?_eq_getElem hb])
  · have h0' : w.heap[b]? = some (.cells vs e (0, 0)) := by rw [Array.getElem?_eq_getElem hb, h0]
    rw [cell_of_row w1 b k vs' e (0, 0) h1, cell_of_row w b k vs e (0, 0) h0', h3 k hk]

theorem Keep.drew (W : Reg) (w : World) (n : Nat) (hn : w.drawn ≤ n) : Keep W w { w with drawn := n } := ⟨rfl, rfl, rfl, Nat.le_refl _, hn, fun _ _ h => .inl h⟩

theorem Keep.alloc (W : Reg) (w : World) (o : Obj) : Keep W w (w.alloc o) :=
  ⟨rfl, rfl, rfl, by simp, Nat.le_refl _, fun b o' h => .inl (by rw [heap_alloc_old w o b (Array.getElem?_eq_some_iff.1 h).1]; exact h)⟩

theorem Keep.grown {W : Reg} {w w1 : World} {row : Option Nat} (hg : w.grownBy w1 row) (hdr : w.drawn ≤ w1.drawn) (hrow : ∀ b, row = some b → w.heap[b]? = w1.heap[b]? ∨ ∃ vs vs' e, w.heap[b]? = some (.cells vs e (0, 0)) ∧ w1.heap[b]? = some (.cells vs' e (0, 0)) ∧ vs'.size = vs.size ∧
    ∀ k, ¬ W b k → vs'[k]? = vs[k]?) : Keep W w w1 := by
  refine ⟨hg.os, hg.tape, hg.output, hg.size, hdr, fun b o hb => ?_⟩
  by_cases h : row = some b
  · rcases hrow b h with h1 | ⟨vs, vs', e, h1, h2, h3, h4⟩
    · exact .inl (h1 ▸ hb)
    · rw [hb] at h1; injection h1 with h1
      exact .inr ⟨vs, vs', e, h1, h2, h3, h4⟩
  · exact .inl (by rw [hg.block b (Array.getElem?_eq_some_iff.1 hb).1 (fun e => h e.symm)]; exact hb)

theorem Core.look (h : Core g S a.tmps w) {x : Operand} {d : D} (hx : look S x = some d) : Rep g w d (a.eval x) := by
  cases x with
  | tmp t => exact h.env t d hx
  | const v =>
    simp only [Vm.look] at hx
    injection hx with hx
    subst hx
    show Rep g w (constD v) v
    unfold constD
    split
    · exact .fz _ _ .nil
    · exact .fz _ _ (.val _)
  | func f =>
    simp only [Vm.look] at hx; injection hx with hx; subst hx
    exact .fz _ _ (.fn f [] [] #[] #[] rfl rfl (fun i d v h => by simp at h) (fun i d v h => by simp at h))
  | global g => simp [Vm.look] at hx

theorem Rep.val_inv {v u : Value} (h : Rep g w (.val v) u) : u = v := by
  cases h with
  | fz _ _ h => cases h; rfl

theorem Rep.agg_inv {ds : List D} {u : Value} (h : Rep g w (.agg ds) u) : ∃ vs, u = .agg vs ∧ vs.size = ds.length ∧
    ∀ (i : Nat) (d : D) (v : Value), ds[i]? = some d → vs[i]? = some v → Rep g w d v := by
  cases h with
  | fz _ _ h => cases h with | agg _ vs hl h => exact ⟨vs, rfl, hl, fun i d v hd hv => .fz _ _ (h i d v hd hv)⟩
  | agg _ vs hl h => exact ⟨vs, rfl, hl, h⟩

theorem Rep.tup_inv {ds : List D} {u : Value} (h : Rep g w (.tup ds) u) : ∃ vs, u = .tuple vs ∧ vs.size = ds.length ∧
    ∀ (i : Nat) (d : D) (v : Value), ds[i]? = some d → vs[i]? = some v → Rep g w d v := by
  cases h with
  | fz _ _ h => cases h with | tup _ vs hl h => exact ⟨vs, rfl, hl, fun i d v hd hv => .fz _ _ (h i d v hd hv)⟩
  | tup _ vs hl h => exact ⟨vs, rfl, hl, h⟩

theorem Rep.ptr_inv {o off : Nat} {u : Value} (h : Rep g w (.ptr o off) u) : ∃ b k, u = .pointer (some ⟨b, k + off, none⟩) ∧ g.μ o = some (b, k) := by
  cases h with
  | fz _ _ h => cases h
  | ptr _ _ b k h => exact ⟨b, k, rfl, h⟩

/-- The cells that a reading pointer shows. -/
theorem Rep.rp_inv (hS : Core g S a.tmps w) {own : Option (Tag × Nat)} {cs : List D} {off : Nat} {u : Value} (h : Rep g w (.rp own cs off) u)
    (hlive : ∀ t i, own = some (t, i) → ∃ x, S.tag t = some x) :
    ∃ b o, u = .pointer (some ⟨b, o + off, none⟩) ∧ ∀ (j : Nat) (d : D), cs[j]? = some d → ∃ x, w.cell? ⟨b, o + j, none⟩ = some x ∧ Rep g w d x := by
  cases h with
  | fz _ _ h => cases h with
    | rp b o _ _ us hF hw hr => exact ⟨b, o, rfl, fun j d hd => ⟨us j, hw j (List.getElem?_eq_some_iff.1 hd).1, .fz _ _ (hr j d hd)⟩⟩
  | rpT t i _ _ ti ht hi hl b n c hv hr =>
    refine ⟨b, i * ti.sz, rfl, fun j d hd => ?_⟩
    obtain ⟨x, hx⟩ := hlive t i rfl
    obtain ⟨ti', ht', ho⟩ := hS.tag t x hx
    rw [ht] at ht'; injection ht' with ht'; subst ht'
    obtain ⟨v, h1, h2⟩ := hr j d hd
    have hb : ti.v.ownBlock = some b := by rw [hv]; rfl
    have := ho.own.cells hb _ v h1
    refine ⟨v, ?_, .fz _ _ h2⟩
    rw [Addr.add] at this
    split at this
    · rename_i h0; rw [h0]; exact this
    · simpa using this

end Go.Vm
