/- The value machine, 1: abstract data, and what it says of memory. -/
import Derived.Below
import Derived.Laws.AppendOwn
import Derived.Laws.MakeOwn
import Derived.Orders
import Derived.Laws.Slices
import Derived.KernelRfl
namespace Go.Vm
open Go.RowKit

/-- A tag names a row of the call's own: where it was made, its elements' type, their size. -/
abbrev Tag := Nat × Nat × Nat

/-- Abstract data: what a variable holds, without addresses of rows. -/
inductive D where
  | undef
  | val (v : Value)
  | sl (tag : Option Tag) (es : List (List D))
  | ptr (o off : Nat)
  | rp (own : Option (Tag × Nat)) (cs : List D) (off : Nat)
  | fn (f : FuncId) (first caps : List D)
  | agg (ds : List D)
  | tup (ds : List D)
  deriving Inhabited

def D.one : D → Bool
  | .val v => v.oneCell'
  | .sl .. | .ptr .. | .rp .. | .fn .. => true
  | _ => false

def D.cells : D → List D
  | .agg ds => ds
  | d => [d]

abbrev Reg := Nat → Nat → Prop

/-- Frozen data: its cells lie in F, which nobody writes. -/
inductive RepF (F : Reg) (w : World) : D → Value → Prop
  | undef (v : Value) : RepF F w .undef v
  | val (v : Value) : RepF F w (.val v) v
  | nil : RepF F w (.sl none []) (.slice none 0 0)
  | emp (a : Addr) (c : Nat) : RepF F w (.sl none []) (.slice (some a) 0 c)
  | sl (b off sz c : Nat) (es : List (List D)) (us : Nat → Nat → Value) (hc : es.length ≤ c)
      (hl : ∀ (i : Nat) (e : List D), es[i]? = some e → e.length = sz)
      (hF : ∀ i j, i < es.length → j < sz → F b (off + i * sz + j))
      (hw : ∀ i j, i < es.length → j < sz → w.cell? ⟨b, off + i * sz + j, none⟩ = some (us i j))
      (h1 : ∀ i j, i < es.length → j < sz → (us i j).oneCell' = true)
      (hr : ∀ (i : Nat) (e : List D) (j : Nat) (d : D), es[i]? = some e → e[j]? = some d → RepF F w d (us i j)) :
      RepF F w (.sl none es) (.slice (some ⟨b, off, none⟩) es.length c)
  | rp (b o : Nat) (cs : List D) (off : Nat) (us : Nat → Value)
      (hF : ∀ j, j < cs.length → F b (o + j))
      (hw : ∀ j, j < cs.length → w.cell? ⟨b, o + j, none⟩ = some (us j))
      (hr : ∀ (j : Nat) (d : D), cs[j]? = some d → RepF F w d (us j)) :
      RepF F w (.rp none cs off) (.pointer (some ⟨b, o + off, none⟩))
  | fn (f : FuncId) (first caps : List D) (vs us : Array Value) (hv : vs.size = first.length) (hu : us.size = caps.length)
      (h1 : ∀ (i : Nat) (d : D) (v : Value), first[i]? = some d → vs[i]? = some v → RepF F w d v)
      (h2 : ∀ (i : Nat) (d : D) (v : Value), caps[i]? = some d → us[i]? = some v → RepF F w d v) :
      RepF F w (.fn f first caps) (.func (.func f) vs us)
  | agg (ds : List D) (vs : Array Value) (hl : vs.size = ds.length)
      (h : ∀ (i : Nat) (d : D) (v : Value), ds[i]? = some d → vs[i]? = some v → RepF F w d v) : RepF F w (.agg ds) (.agg vs)
  | tup (ds : List D) (vs : Array Value) (hl : vs.size = ds.length)
      (h : ∀ (i : Nat) (d : D) (v : Value), ds[i]? = some d → vs[i]? = some v → RepF F w d v) : RepF F w (.tup ds) (.tuple vs)

theorem RepF.mono {F F' : Reg} {w w' : World} {d : D} {v : Value} (h : RepF F w d v)
    (hF : ∀ b k, F b k → F' b k) (hw : ∀ b k, F b k → w'.cell? ⟨b, k, none⟩ = w.cell? ⟨b, k, none⟩) : RepF F' w' d v := by
  induction h with
  | undef v => exact .undef v
  | val v => exact .val v
  | nil => exact .nil
  | emp a c => exact .emp a c
  | sl b off sz c es us hc hl hFF hww h1 hr ih =>
    exact .sl b off sz c es us hc hl (fun i j hi hj => hF _ _ (hFF i j hi hj)) (fun i j hi hj => (hw _ _ (hFF i j hi hj)).trans (hww i j hi hj)) h1 ih
  | rp b o cs off us hFF hww hr ih =>
    exact .rp b o cs off us (fun j hj => hF _ _ (hFF j hj)) (fun j hj => (hw _ _ (hFF j hj)).trans (hww j hj)) ih
  | fn f first caps vs us hv hu h1 h2 ih1 ih2 => exact .fn f first caps vs us hv hu ih1 ih2
  | agg ds vs hl h ih => exact .agg ds vs hl ih
  | tup ds vs hl h ih => exact .tup ds vs hl ih

theorem RepF.one {F : Reg} {w : World} {d : D} {v : Value} (h : RepF F w d v) (hd : d.one = true) : v.oneCell' = true := by
  cases h <;> simp_all [D.one, Value.oneCell']

/-- What is known of a tagged row: its slice value, its element type and size, how many elements, its cells. -/
structure TI where
  v : Value
  e : TypeId
  sz : Nat
  n : Nat
  xs : List Value
  shape : (v = .slice none 0 0 ∧ n = 0) ∨ ∃ b c, v = .slice (some ⟨b, 0, none⟩) n c

theorem TI.one (ti : TI) : ti.v.oneCell' = true := by
  rcases ti.shape with ⟨h, _⟩ | ⟨b, c, h⟩ <;> rw [h] <;> rfl

structure Gh where
  μ : Nat → Option (Nat × Nat)
  τ : Tag → Option TI
  F : Reg

inductive Rep (g : Gh) (w : World) : D → Value → Prop
  | fz (d : D) (v : Value) (h : RepF g.F w d v) : Rep g w d v
  | slT (t : Tag) (es : List (List D)) (ti : TI) (ht : g.τ t = some ti) (hn : es.length = ti.n)
      (hl : ∀ (i : Nat) (e : List D), es[i]? = some e → e.length = ti.sz)
      (hr : ∀ (i : Nat) (e : List D) (j : Nat) (d : D), es[i]? = some e → e[j]? = some d → ∃ u, ti.xs[i * ti.sz + j]? = some u ∧ RepF g.F w d u) :
      Rep g w (.sl (some t) es) ti.v
  | rpT (t : Tag) (i : Nat) (cs : List D) (off : Nat) (ti : TI) (ht : g.τ t = some ti) (hi : i < ti.n) (hl : cs.length = ti.sz) (b n c : Nat) (hv : ti.v = .slice (some ⟨b, 0, none⟩) n c)
      (hr : ∀ (j : Nat) (d : D), cs[j]? = some d → ∃ u, ti.xs[i * ti.sz + j]? = some u ∧ RepF g.F w d u) :
      Rep g w (.rp (some (t, i)) cs off) (.pointer (some ⟨b, i * ti.sz + off, none⟩))
  | ptr (o off b k : Nat) (h : g.μ o = some (b, k)) : Rep g w (.ptr o off) (.pointer (some ⟨b, k + off, none⟩))
  | fn (f : FuncId) (first caps : List D) (vs us : Array Value) (hv : vs.size = first.length) (hu : us.size = caps.length)
      (h1 : ∀ (i : Nat) (d : D) (v : Value), first[i]? = some d → vs[i]? = some v → Rep g w d v)
      (h2 : ∀ (i : Nat) (d : D) (v : Value), caps[i]? = some d → us[i]? = some v → Rep g w d v) :
      Rep g w (.fn f first caps) (.func (.func f) vs us)
  | agg (ds : List D) (vs : Array Value) (hl : vs.size = ds.length)
      (h : ∀ (i : Nat) (d : D) (v : Value), ds[i]? = some d → vs[i]? = some v → Rep g w d v) : Rep g w (.agg ds) (.agg vs)
  | tup (ds : List D) (vs : Array Value) (hl : vs.size = ds.length)
      (h : ∀ (i : Nat) (d : D) (v : Value), ds[i]? = some d → vs[i]? = some v → Rep g w d v) : Rep g w (.tup ds) (.tuple vs)

/-- What a datum names: boxes and tags. -/
def D.avoids (po : Nat → Bool) (pt : Tag → Bool) : D → Bool
  | .undef | .val _ => true
  | .sl tag _ => tag.all pt
  | .ptr o _ => po o
  | .rp own _ _ => own.all fun x => pt x.1
  | .fn _ first caps => avoidsL po pt first && avoidsL po pt caps
  | .agg ds => avoidsL po pt ds
  | .tup ds => avoidsL po pt ds
where
  avoidsL (po : Nat → Bool) (pt : Tag → Bool) : List D → Bool
    | [] => true
    | d :: ds => d.avoids po pt && avoidsL po pt ds

theorem avoidsL_at {po : Nat → Bool} {pt : Tag → Bool} : ∀ {ds : List D} (_ : D.avoids.avoidsL po pt ds = true) (i : Nat) (d : D), ds[i]? = some d → d.avoids po pt = true
  | [], _, i, d, hd => by simp at hd
  | x :: ds, h, i, d, hd => by
    simp only [D.avoids.avoidsL, Bool.and_eq_true] at h
    cases i with
    | zero => simp at hd; subst hd; exact h.1
    | succ i => exact avoidsL_at h.2 i d (by simpa using hd)

/-- A datum says the same of a later world, where what it names is as it was. -/
theorem Rep.mono {g g' : Gh} {w w' : World} {d : D} {v : Value} (h : Rep g w d v) (po : Nat → Bool) (pt : Tag → Bool) (ha : d.avoids po pt = true)
    (hμ : ∀ o, po o = true → ∀ b, g.μ o = some b → g'.μ o = some b) (hτ : ∀ t, pt t = true → ∀ ti, g.τ t = some ti → g'.τ t = some ti)
    (hF : ∀ b k, g.F b k → g'.F b k) (hw : ∀ b k, g.F b k → w'.cell? ⟨b, k, none⟩ = w.cell? ⟨b, k, none⟩) : Rep g' w' d v := by
  induction h with
  | fz d v h => exact .fz d v (h.mono hF hw)
  | slT t es ti ht hn hl hr =>
    simp only [D.avoids, Option.all_some] at ha
    exact .slT t es ti (hτ t ha ti ht) hn hl (fun i e j d he hd => let ⟨u, h1, h2⟩ := hr i e j d he hd; ⟨u, h1, h2.mono hF hw⟩)
  | rpT t i cs off ti ht hi hl b n c hv hr =>
    simp only [D.avoids, Option.all_some] at ha
    exact .rpT t i cs off ti (hτ t ha ti ht) hi hl b n c hv (fun j d hd => let ⟨u, h1, h2⟩ := hr j d hd; ⟨u, h1, h2.mono hF hw⟩)
  | ptr o off b k h =>
    simp only [D.avoids] at ha
    exact .ptr o off b k (hμ o ha _ h)
  | fn f first caps vs us hv hu h1 h2 ih1 ih2 =>
    simp only [D.avoids, Bool.and_eq_true] at ha
    exact .fn f first caps vs us hv hu (fun i d v hd hv => ih1 i d v hd hv (avoidsL_at ha.1 i d hd)) (fun i d v hd hv => ih2 i d v hd hv (avoidsL_at ha.2 i d hd))
  | agg ds vs hl h ih => exact .agg ds vs hl (fun i d v hd hv => ih i d v hd hv (avoidsL_at ha i d hd))
  | tup ds vs hl h ih => exact .tup ds vs hl (fun i d v hd hv => ih i d v hd hv (avoidsL_at ha i d hd))

theorem avoids_all (d : D) : d.avoids (fun _ => true) (fun _ => true) = true := by
  refine D.rec (motive_1 := fun d => d.avoids (fun _ => true) (fun _ => true) = true) (motive_2 := fun _ => True) (motive_3 := fun ds => D.avoids.avoidsL (fun _ => true) (fun _ => true) ds = true)
    rfl (fun _ => rfl) ?_ (fun _ _ => rfl) ?_ ?_ ?_ ?_ trivial (fun _ _ _ _ => trivial) rfl ?_ d
  · intro tag es _; cases tag <;> rfl
  · intro own cs off _; cases own <;> rfl
  · intro f first caps h1 h2; simp [D.avoids, h1, h2]
  · intro ds h; simpa [D.avoids] using h
  · intro ds h; simpa [D.avoids] using h
  · intro d ds h1 h2; simp [D.avoids.avoidsL, h1, h2]

/-- Nothing named has turned. -/
theorem Rep.mono' {g g' : Gh} {w w' : World} {d : D} {v : Value} (h : Rep g w d v)
    (hμ : ∀ o b, g.μ o = some b → g'.μ o = some b) (hτ : ∀ t ti, g.τ t = some ti → g'.τ t = some ti)
    (hF : ∀ b k, g.F b k → g'.F b k) (hw : ∀ b k, g.F b k → w'.cell? ⟨b, k, none⟩ = w.cell? ⟨b, k, none⟩) : Rep g' w' d v :=
  h.mono _ _ (avoids_all d) (fun o _ b => hμ o b) (fun t _ ti => hτ t ti) hF hw

theorem Rep.one {g : Gh} {w : World} {d : D} {v : Value} (h : Rep g w d v) (hd : d.one = true) : v.oneCell' = true := by
  cases h with
  | fz _ _ h => exact h.one hd
  | slT t es ti h1 => exact ti.one
  | agg => simp [D.one] at hd
  | tup => simp [D.one] at hd
  | _ => rfl

end Go.Vm
