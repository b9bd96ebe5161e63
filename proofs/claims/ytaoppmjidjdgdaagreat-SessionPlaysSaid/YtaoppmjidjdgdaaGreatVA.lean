/- A part of the proof; what is proved stands in the last text. -/
import Derived.Below
import Derived.Laws.AppendOwn
import Derived.Laws.MakeOwn
import Derived.Orders
import Derived.Laws.Slices
import Derived.KernelRfl
set_option linter.unusedVariables false
set_option maxRecDepth 2000
namespace Go.Vm
open Go.RowKit
abbrev Tag := Nat × Nat × Nat
inductive D where
 | undef
 | val (v : Value)
 | sl (tag : Option Tag) (es : List (List D))
 | ptr (o off : Nat)
 | rp (own : Option (Tag × Nat)) (cs : List D) (off : Nat)
 | fn (f : FuncId) (first caps : List D)
 | agg (ds : List D)
 | tup (ds : List D)
 | part (t : Tag) (lo n : Nat) (es : List (List D))
 | mh (o : Nat)
 | mpc (es : List (List D))
 deriving Inhabited
abbrev mapB : Nat := 10000000
abbrev itB : Nat := 20000000
def mapV (n : Nat) (us : Nat → Nat → Value) : Value := .tuple ((List.range n).map fun i => Value.tuple #[us i 0, us i 1]).toArray
def handV (o b : Nat) : Value := if o < itB then .map (some b) else .pointer (some ⟨b, 0, none⟩)
def PartV (lo n sz : Nat) (tv v : Value) : Prop := match tv with
 | .slice (some a) _ c => ∃ p, v = .slice (some p) n (c - lo) ∧ (lo < c → p = ⟨a.block, a.off + lo * sz, none⟩)
 | _ => v = .slice none 0 0
theorem PartV.one {lo n sz : Nat} {tv v : Value} (h : PartV lo n sz tv v) : v.oneCell' = true := by
 unfold PartV at h
 split at h
 ·obtain ⟨p, rfl, -⟩ := h; rfl
 ·rw [h]; rfl
theorem handV_one (o b : Nat) : (handV o b).oneCell' = true := by unfold handV; split <;> rfl
def D.one : D → Bool
 | .val v => v.oneCell'
 | .sl .. | .ptr .. | .rp .. | .fn .. | .part .. | .mh .. => true
 | _ => false
abbrev Reg := Nat → Nat → Prop
inductive RepF (F : Reg) (w : World) : D → Value → Prop
 | undef (v : Value) : RepF F w .undef v
 | val (v : Value) : RepF F w (.val v) v
 | nil : RepF F w (.sl none []) (.slice none 0 0)
 | emp (a : Addr) (c : Nat) : RepF F w (.sl none []) (.slice (some a) 0 c)
 | sl (b off sz c : Nat) (es : List (List D)) (us : Nat → Nat → Value) (hc : es.length ≤ c)
     (hl : ∀ (i : Nat) (e : List D), es[i]? = some e → e.length = sz)
     (hF : ∀ i j, i < es.length → j < sz → F b (off + i * sz + j))
     (hw : ∀ i j, i < es.length → j < sz → w.cell? ⟨b, off + i * sz + j, none⟩ = some (us i j))
     (h1 : ∀ i j, i < es.length → j < sz → (us i j).oneCell' = true)
     (hr : ∀ (i : Nat) (e : List D) (j : Nat) (d : D), es[i]? = some e → e[j]? = some d → RepF F w d (us i j)) :
     RepF F w (.sl none es) (.slice (some ⟨b, off, none⟩) es.length c)
 | rp (b o : Nat) (cs : List D) (off : Nat) (us : Nat → Value)
     (hF : ∀ j, j < cs.length → F b (o + j))
     (hw : ∀ j, j < cs.length → w.cell? ⟨b, o + j, none⟩ = some (us j))
     (hr : ∀ (j : Nat) (d : D), cs[j]? = some d → RepF F w d (us j)) :
     RepF F w (.rp none cs off) (.pointer (some ⟨b, o + off, none⟩))
 | fn (f : FuncId) (first caps : List D) (vs us : Array Value) (hv : vs.size = first.length) (hu : us.size = caps.length)
     (h1 : ∀ (i : Nat) (d : D) (v : Value), first[i]? = some d → vs[i]? = some v → RepF F w d v)
     (h2 : ∀ (i : Nat) (d : D) (v : Value), caps[i]? = some d → us[i]? = some v → RepF F w d v) :
     RepF F w (.fn f first caps) (.func (.func f) vs us)
 | agg (ds : List D) (vs : Array Value) (hl : vs.size = ds.length)
     (h : ∀ (i : Nat) (d : D) (v : Value), ds[i]? = some d → vs[i]? = some v → RepF F w d v) : RepF F w (.agg ds) (.agg vs)
 | tup (ds : List D) (vs : Array Value) (hl : vs.size = ds.length)
     (h : ∀ (i : Nat) (d : D) (v : Value), ds[i]? = some d → vs[i]? = some v → RepF F w d v) : RepF F w (.tup ds) (.tuple vs)
 | mpc (es : List (List D)) (us : Nat → Nat → Value) (hl : ∀ (i : Nat) (e : List D), es[i]? = some e → e.length = 2)
     (hr : ∀ (i : Nat) (e : List D) (j : Nat) (d : D), es[i]? = some e → e[j]? = some d → RepF F w d (us i j)) : RepF F w (.mpc es) (mapV es.length us)
theorem RepF.mono {F F' : Reg} {w w' : World} {d : D} {v : Value} (h : RepF F w d v)
    (hF : ∀ b k, F b k → F' b k) (hw : ∀ b k, F b k → w'.cell? ⟨b, k, none⟩ = w.cell? ⟨b, k, none⟩) : RepF F' w' d v := by
 induction h with
 | undef v => exact .undef v
 | val v => exact .val v
 | nil => exact .nil
 | emp a c => exact .emp a c
 | sl b off sz c es us hc hl hFF hww h1 hr ih =>
  exact .sl b off sz c es us hc hl (fun i j hi hj => hF _ _ (hFF i j hi hj)) (fun i j hi hj => (hw _ _ (hFF i j hi hj)).trans (hww i j hi hj)) h1 ih
 | rp b o cs off us hFF hww hr ih =>
  exact .rp b o cs off us (fun j hj => hF _ _ (hFF j hj)) (fun j hj => (hw _ _ (hFF j hj)).trans (hww j hj)) ih
 | fn f first caps vs us hv hu h1 h2 ih1 ih2 => exact .fn f first caps vs us hv hu ih1 ih2
 | agg ds vs hl h ih => exact .agg ds vs hl ih
 | tup ds vs hl h ih => exact .tup ds vs hl ih
 | mpc es us hl hr ih => exact .mpc es us hl ih
mutual
/-- Data without addresses. -/
def D.plain : D → Bool
 | .undef | .val _ => true
 | .agg ds => plainL ds
 | .tup ds => plainL ds
 | _ => false
def plainL : List D → Bool
 | [] => true
 | d :: ds => d.plain && plainL ds
end
theorem plainL_at : ∀ {ds : List D} (_ : plainL ds = true) {i : Nat} {d : D}, ds[i]? = some d → d.plain = true
 | [], _, i, d, hd => by simp at hd
 | x :: ds, h, i, d, hd => by
  simp only [plainL, Bool.and_eq_true] at h
  cases i with
  | zero => simp at hd; subst hd; exact h.1
  | succ i => exact plainL_at h.2 (by simpa using hd)
theorem RepF.plain {F F' : Reg} {w w' : World} {d : D} {v : Value} (h : RepF F w d v) (hp : d.plain = true) : RepF F' w' d v := by
 induction h with
 | undef v => exact .undef v
 | val v => exact .val v
 | agg ds vs hl h ih => exact .agg ds vs hl (fun i d v hd hv => ih i d v hd hv (plainL_at (by simpa [D.plain] using hp) hd))
 | tup ds vs hl h ih => exact .tup ds vs hl (fun i d v hd hv => ih i d v hd hv (plainL_at (by simpa [D.plain] using hp) hd))
 | _ => simp [D.plain] at hp
theorem RepF.one {F : Reg} {w : World} {d : D} {v : Value} (h : RepF F w d v) (hd : d.one = true) : v.oneCell' = true := by
 cases h <;> simp_all [D.one, Value.oneCell']
structure TI where
 v : Value
 e : TypeId
 sz : Nat
 n : Nat
 xs : List Value
 shape : (v = .slice none 0 0 ∧ n = 0) ∨ ∃ b c, v = .slice (some ⟨b, 0, none⟩) n c
theorem TI.one (ti : TI) : ti.v.oneCell' = true := by
 rcases ti.shape with ⟨h, _⟩ | ⟨b, c, h⟩ <;> rw [h] <;> rfl
structure Gh where
 μ : Nat → Option (Nat × Nat)
 τ : Tag → Option TI
 F : Reg
inductive Rep (g : Gh) (w : World) : D → Value → Prop
 | fz (d : D) (v : Value) (h : RepF g.F w d v) : Rep g w d v
 | slT (t : Tag) (es : List (List D)) (ti : TI) (ht : g.τ t = some ti) (hn : es.length = ti.n)
     (hl : ∀ (i : Nat) (e : List D), es[i]? = some e → e.length = ti.sz)
     (hr : ∀ (i : Nat) (e : List D) (j : Nat) (d : D), es[i]? = some e → e[j]? = some d → ∃ u, ti.xs[i * ti.sz + j]? = some u ∧ RepF g.F w d u) :
     Rep g w (.sl (some t) es) ti.v
 | rpT (t : Tag) (i : Nat) (cs : List D) (off : Nat) (ti : TI) (ht : g.τ t = some ti) (hi : i < ti.n) (hl : cs.length = ti.sz) (b n c : Nat) (hv : ti.v = .slice (some ⟨b, 0, none⟩) n c)
     (hr : ∀ (j : Nat) (d : D), cs[j]? = some d → ∃ u, ti.xs[i * ti.sz + j]? = some u ∧ RepF g.F w d u) :
     Rep g w (.rp (some (t, i)) cs off) (.pointer (some ⟨b, i * ti.sz + off, none⟩))
 | ptr (o off b k : Nat) (h : g.μ o = some (b, k)) (ho : o < mapB) : Rep g w (.ptr o off) (.pointer (some ⟨b, k + off, none⟩))
 | fn (f : FuncId) (first caps : List D) (vs us : Array Value) (hv : vs.size = first.length) (hu : us.size = caps.length)
     (h1 : ∀ (i : Nat) (d : D) (v : Value), first[i]? = some d → vs[i]? = some v → Rep g w d v)
     (h2 : ∀ (i : Nat) (d : D) (v : Value), caps[i]? = some d → us[i]? = some v → Rep g w d v) :
     Rep g w (.fn f first caps) (.func (.func f) vs us)
 | agg (ds : List D) (vs : Array Value) (hl : vs.size = ds.length)
     (h : ∀ (i : Nat) (d : D) (v : Value), ds[i]? = some d → vs[i]? = some v → Rep g w d v) : Rep g w (.agg ds) (.agg vs)
 | tup (ds : List D) (vs : Array Value) (hl : vs.size = ds.length)
     (h : ∀ (i : Nat) (d : D) (v : Value), ds[i]? = some d → vs[i]? = some v → Rep g w d v) : Rep g w (.tup ds) (.tuple vs)
 | part (t : Tag) (lo n : Nat) (es : List (List D)) (ti : TI) (v : Value) (hv : PartV lo n ti.sz ti.v v) (ht : g.τ t = some ti) (hn : es.length = ti.n) (hlo : lo + n ≤ ti.n)
     (hl : ∀ (i : Nat) (e : List D), es[i]? = some e → e.length = ti.sz)
     (hr : ∀ (i : Nat) (e : List D) (j : Nat) (d : D), es[i]? = some e → e[j]? = some d → ∃ u, ti.xs[i * ti.sz + j]? = some u ∧ RepF g.F w d u) :
     Rep g w (.part t lo n es) v
 | mh (o b : Nat) (h : g.μ o = some (b, 0)) (ho : mapB ≤ o) : Rep g w (.mh o) (handV o b)
def D.avoids (po : Nat → Bool) (pt : Tag → Bool) : D → Bool
 | .undef | .val _ => true
 | .sl tag _ => tag.all pt
 | .ptr o _ => po o
 | .rp own _ _ => own.all fun x => pt x.1
 | .fn _ first caps => avoidsL po pt first && avoidsL po pt caps
 | .agg ds => avoidsL po pt ds
 | .tup ds => avoidsL po pt ds
 | .part t _ _ _ => pt t
 | .mh o => po o
 | .mpc _ => true
where
 avoidsL (po : Nat → Bool) (pt : Tag → Bool) : List D → Bool
  | [] => true
  | d :: ds => d.avoids po pt && avoidsL po pt ds
theorem avoidsL_at {po : Nat → Bool} {pt : Tag → Bool} : ∀ {ds : List D} (_ : D.avoids.avoidsL po pt ds = true) (i : Nat) (d : D), ds[i]? = some d → d.avoids po pt = true
 | [], _, i, d, hd => by simp at hd
 | x :: ds, h, i, d, hd => by
  simp only [D.avoids.avoidsL, Bool.and_eq_true] at h
  cases i with
  | zero => simp at hd; subst hd; exact h.1
  | succ i => exact avoidsL_at h.2 i d (by simpa using hd)
theorem Rep.mono {g g' : Gh} {w w' : World} {d : D} {v : Value} (h : Rep g w d v) (po : Nat → Bool) (pt : Tag → Bool) (ha : d.avoids po pt = true)
    (hμ : ∀ o, po o = true → ∀ b, g.μ o = some b → g'.μ o = some b) (hτ : ∀ t, pt t = true → ∀ ti, g.τ t = some ti → g'.τ t = some ti)
    (hF : ∀ b k, g.F b k → g'.F b k) (hw : ∀ b k, g.F b k → w'.cell? ⟨b, k, none⟩ = w.cell? ⟨b, k, none⟩) : Rep g' w' d v := by
 induction h with
 | fz d v h => exact .fz d v (h.mono hF hw)
 | slT t es ti ht hn hl hr =>
  simp only [D.avoids, Option.all_some] at ha
  exact .slT t es ti (hτ t ha ti ht) hn hl (fun i e j d he hd => let ⟨u, h1, h2⟩ := hr i e j d he hd; ⟨u, h1, h2.mono hF hw⟩)
 | rpT t i cs off ti ht hi hl b n c hv hr =>
  simp only [D.avoids, Option.all_some] at ha
  exact .rpT t i cs off ti (hτ t ha ti ht) hi hl b n c hv (fun j d hd => let ⟨u, h1, h2⟩ := hr j d hd; ⟨u, h1, h2.mono hF hw⟩)
 | ptr o off b k h ho =>
  simp only [D.avoids] at ha
  exact .ptr o off b k (hμ o ha _ h) ho
 | part t lo n es ti v hv ht hn hlo hl hr =>
  simp only [D.avoids] at ha
  exact .part t lo n es ti v hv (hτ t ha ti ht) hn hlo hl (fun i e j d he hd => let ⟨u, h1, h2⟩ := hr i e j d he hd; ⟨u, h1, h2.mono hF hw⟩)
 | mh o b h ho =>
  simp only [D.avoids] at ha
  exact .mh o b (hμ o ha _ h) ho
 | fn f first caps vs us hv hu h1 h2 ih1 ih2 =>
  simp only [D.avoids, Bool.and_eq_true] at ha
  exact .fn f first caps vs us hv hu (fun i d v hd hv => ih1 i d v hd hv (avoidsL_at ha.1 i d hd)) (fun i d v hd hv => ih2 i d v hd hv (avoidsL_at ha.2 i d hd))
 | agg ds vs hl h ih => exact .agg ds vs hl (fun i d v hd hv => ih i d v hd hv (avoidsL_at ha i d hd))
 | tup ds vs hl h ih => exact .tup ds vs hl (fun i d v hd hv => ih i d v hd hv (avoidsL_at ha i d hd))
theorem avoids_all (d : D) : d.avoids (fun _ => true) (fun _ => true) = true := by
 refine D.rec (motive_1 := fun d => d.avoids (fun _ => true) (fun _ => true) = true) (motive_2 := fun _ => True) (motive_3 := fun ds => D.avoids.avoidsL (fun _ => true) (fun _ => true) ds = true)
  rfl (fun _ => rfl) ?_ (fun _ _ => rfl) ?_ ?_ ?_ ?_ (fun _ _ _ _ _ => rfl) (fun _ => rfl) (fun _ _ => rfl) trivial (fun _ _ _ _ => trivial) rfl ?_ d
 ·intro tag es _; cases tag <;> rfl
 ·intro own cs off _; cases own <;> rfl
 ·intro f first caps h1 h2; simp [D.avoids, h1, h2]
 ·intro ds h; simpa [D.avoids] using h
 ·intro ds h; simpa [D.avoids] using h
 ·intro d ds h1 h2; simp [D.avoids.avoidsL, h1, h2]
theorem Rep.mono' {g g' : Gh} {w w' : World} {d : D} {v : Value} (h : Rep g w d v)
    (hμ : ∀ o b, g.μ o = some b → g'.μ o = some b) (hτ : ∀ t ti, g.τ t = some ti → g'.τ t = some ti)
    (hF : ∀ b k, g.F b k → g'.F b k) (hw : ∀ b k, g.F b k → w'.cell? ⟨b, k, none⟩ = w.cell? ⟨b, k, none⟩) : Rep g' w' d v :=
 h.mono _ _ (avoids_all d) (fun o _ b => hμ o b) (fun t _ ti => hτ t ti) hF hw
theorem Rep.one {g : Gh} {w : World} {d : D} {v : Value} (h : Rep g w d v) (hd : d.one = true) : v.oneCell' = true := by
 cases h with
 | fz _ _ h => exact h.one hd
 | slT t es ti h1 => exact ti.one
 | part t lo n es ti v hv => exact hv.one
 | mh => exact handV_one _ _
 | agg => simp [D.one] at hd
 | tup => simp [D.one] at hd
 | _ => rfl
end Go.Vm

namespace Go.Vm
open Go.RowKit
structure St where
 env : List (Nat × D)
 hp : List (Nat × List D)
 tg : List (Tag × Bool)
 deriving Inhabited
def lkp {α β : Type} [DecidableEq α] (t : α) : List (α × β) → Option β
 | [] => none
 | (k, v) :: l => if t = k then some v else lkp t l
def St.get (S : St) (t : Nat) : Option D := lkp t S.env
def St.box (S : St) (o : Nat) : Option (List D) := lkp o S.hp
def St.tag (S : St) (t : Tag) : Option Bool := lkp t S.tg
def St.put (S : St) (dst : Option Nat) (d : D) : St :=
 match dst with
 | some t => { S with env := (t, d) :: S.env }
 | none => S
def constD : Value → D
 | .slice none 0 0 => .sl none []
 | v => .val v
def look (S : St) : Operand → Option D
 | .tmp t => S.get t
 | .const v => some (constD v)
 | .func f => some (.fn f [] [])
 | .global _ => none
def looks (S : St) : List Operand → Option (List D)
 | [] => some []
 | x :: xs => match look S x, looks S xs with
  | some d, some ds => some (d :: ds)
  | _, _ => none
inductive SK | b | i | s
 deriving DecidableEq
inductive CM
 | pure
 | fresh (e sz : Nat)
 | turn
 | take
 | lend
 | freshV (e sz : Nat)
 | copy (e sz : Nat)
 | obj (bs : List (Nat × Nat)) (ts : List (Tag × Tag)) (nb : List (Nat × Nat)) (nt : List (Tag × Tag))
 deriving Inhabited
inductive XOp
 | clr (sz : Nat) (zero : List D) (x : Operand)
 | slc3 (sz : Nat) (x : Operand) (lo hi : Option Operand) (mx : Operand)
 | appP (e sz bytes : Nat) (x y : Operand)
 | mkmap
 | mget (ks : List SK) (zero : D) (ok : Bool) (m k : Operand)
 | mput (ks : List SK) (m k v : Operand)
 | mdel (ks : List SK) (m k : Operand)
 | mlen (m : Operand)
 | isnilI (neg : Bool) (x : Operand)
 | mrange (m : Operand)
 | mnext (it : Operand)
 | mentry (it : Operand)
 deriving Inhabited
inductive MOp
 | xop (k : XOp)
 | mov (x : Operand)
 | movS (x : Operand)
 | pick (c a b : Operand)
 | load (sz : Option Nat) (x : Operand)
 | bin (op : BinOp) (x y : Operand)
 | binB (neg : Bool) (x y : Operand)
 | binP (neg : Bool) (x y : Operand)
 | eqs (neg : Bool) (ks : List SK) (x y : Operand)
 | un (op : UnOp) (x : Operand)
 | conv (k : IntKind) (x : Operand)
 | faddr (off : Nat) (x : Operand)
 | fld (off : Nat) (sz : Option Nat) (x : Operand)
 | iaddrS (sz : Nat) (x i : Operand)
 | iaddrA (n sz : Nat) (x i : Operand)
 | idxA (n sz : Nat) (agg : Bool) (x i : Operand)
 | idxS (x i : Operand)
 | build (zero : List D) (parts : List (Nat × Nat × Operand))
 | slcS (x : Operand) (lo hi : Option Operand)
 | slc (sz : Nat) (x : Operand) (lo hi : Option Operand)
 | slcA (n : Nat) (x : Operand) (lo hi : Option Operand)
 | lenS (x : Operand)
 | lenL (x : Operand)
 | minmax (mx : Bool) (xs : List Operand)
 | ext (x : Operand) (i : Nat)
 | mkfn (f : FuncId) (first caps : List Operand)
 | nilck (x : Operand)
 | b2s (x : Operand)
 | r2s (x : Operand)
 | alloc (t : TypeId) (zero : List D)
 | box (t : TypeId) (sz : Nat) (x : Operand)
 | nilsl (e sz : Nat)
 | bslice (e sz : Nat) (zero : List D) (len : Nat) (parts : List (Nat × Nat × Operand))
 | store (sz : Nat) (x v : Operand)
 | append (e sz bytes : Nat) (x y : Operand)
 | call (f : Operand) (args : List Operand) (md : CM)
 | isnil (neg : Bool) (x : Operand)
 | bad
structure MO where
 dst : Option Nat
 op : MOp
 guard : Option (Nat × Bool)
def binI (op : BinOp) (k : IntKind) (a b : Int) : Option Value :=
 match op with
 | .add => some (.int k (k.wrap (a + b)))
 | .sub => some (.int k (k.wrap (a - b)))
 | .mul => some (.int k (k.wrap (a * b)))
 | .quo => if b = 0 then none else some (.int k (k.wrap (a.tdiv b)))
 | .rem => if b = 0 then none else some (.int k (a.tmod b))
 | .and => some (.int k (k.wrap (BitVec.ofInt k.bits a &&& BitVec.ofInt k.bits b).toNat))
 | .or => some (.int k (k.wrap (BitVec.ofInt k.bits a ||| BitVec.ofInt k.bits b).toNat))
 | .xor => some (.int k (k.wrap (BitVec.ofInt k.bits a ^^^ BitVec.ofInt k.bits b).toNat))
 | .andNot => some (.int k (k.wrap (BitVec.ofInt k.bits a &&& ~~~ BitVec.ofInt k.bits b).toNat))
 | .eql => some (.bool (a == b))
 | .neq => some (.bool (a != b))
 | .lss => some (.bool (decide (a < b)))
 | .leq => some (.bool (decide (a ≤ b)))
 | .gtr => some (.bool (decide (a > b)))
 | .geq => some (.bool (decide (a ≥ b)))
 | _ => none
def shI (op : BinOp) (k : IntKind) (a b : Int) : Option Value :=
 if b < 0 then none else
 match op with
 | .shl => some (.int k (k.wrap (a * 2 ^ (min b.toNat k.bits))))
 | .shr => some (.int k (a.fdiv (2 ^ (min b.toNat k.bits))))
 | _ => none
def binS (op : BinOp) (a b : ByteArray) : Option Value :=
 match op with
 | .add => if a.size + b.size ≤ 9223372036854775807 then some (.string (a ++ b)) else none
 | .eql => some (.bool (a.toList == b.toList))
 | .neq => some (.bool !(a.toList == b.toList))
 | .lss => some (.bool (Op.bytesLess a.toList b.toList))
 | .leq => some (.bool (Op.bytesLess a.toList b.toList || a.toList == b.toList))
 | .gtr => some (.bool !(Op.bytesLess a.toList b.toList || a.toList == b.toList))
 | .geq => some (.bool !(Op.bytesLess a.toList b.toList))
 | _ => none
def binD (op : BinOp) : D → D → Option D
 | .val (.int k a), .val (.int k' b) => match op with
  | .shl => (shI .shl k a b).map .val
  | .shr => (shI .shr k a b).map .val
  | op => if k = k' then (binI op k a b).map .val else none
 | .val (.string a), .val (.string b) => (binS op a b).map .val
 | _, _ => none
def binBD (neg : Bool) : D → D → Option D
 | .val (.bool a), .val (.bool b) => some (.val (.bool ((a == b) != neg)))
 | _, _ => none
def binPD (neg : Bool) : D → D → Option D
 | .val (.pointer none), .val (.pointer none) => some (.val (.bool (!neg)))
 | .ptr _ _, .val (.pointer none) | .rp _ _ _, .val (.pointer none) => some (.val (.bool neg))
 | _, _ => none
def eqV : SK → Value → Value → Option Bool
 | .i, .int k a, .int k' b => if k = k' then some (a == b) else none
 | .s, .string a, .string b => some (a.toList == b.toList)
 | .b, .bool a, .bool b => some (a == b)
 | _, _, _ => none
def eqDs : List SK → List D → List D → Option Bool
 | [], [], [] => some true
 | k :: ks, .val a :: xs, .val b :: ys => match eqV k a b, eqDs ks xs ys with
  | some p, some q => some (p && q)
  | _, _ => none
 | _, _, _ => none
def unD (op : UnOp) : D → Option D
 | .val (.int k n) => match op with
  | .neg => some (.val (.int k (k.wrap (0 - n))))
  | .xor => (binI .xor k (if k.signed then -1 else k.max) n).map .val
  | _ => none
 | .val (.bool b) => match op with
  | .not => some (.val (.bool !b))
  | _ => none
 | _ => none
def putCells {α : Type} (cs : List α) (off : Nat) (vs : List α) : List α := vs.zipIdx.foldl (fun cs x => cs.set (off + x.2) x.1) cs
def D.cl : D → Option (List D)
 | .agg ds => if ds.all D.one then some ds else none
 | d => if d.one then some [d] else none
def fillD (S : St) (cs : List D) : List (Nat × Nat × Operand) → Option (List D)
 | [] => some cs
 | (off, sz, x) :: rest => match look S x with
  | some d => match d.cl with
   | some ds => if ds.length = sz ∧ off + sz ≤ cs.length then fillD S (putCells cs off ds) rest else none
   | none => none
  | none => none
def cut (sz : Option Nat) (cs : List D) (off : Nat) : Option D :=
 match sz with
 | some n => if off + n ≤ cs.length then some (.agg ((cs.drop off).take n)) else none
 | none => cs[off]?
def St.live (S : St) (own : Option (Tag × Nat)) : Bool := own.all fun x => (S.tag x.1).isSome
def loadD (S : St) (sz : Option Nat) : D → Option D
 | .ptr o off => match S.box o with
  | some cs => cut sz cs off
  | none => none
 | .rp own cs off => if S.live own then cut sz cs off else none
 | _ => none
def faddrD (off : Nat) : D → Option D
 | .ptr o k => some (.ptr o (k + off))
 | .rp own cs k => some (.rp own cs (k + off))
 | _ => none
def iaddrSD (sz : Nat) : D → D → Option D
 | .sl tag es, .val (.int _ i) => if 0 ≤ i then match es[i.toNat]? with
     | some e => if e.length = sz then some (.rp (tag.map (·, i.toNat)) e 0) else none
     | none => none
  else none
 | _, _ => none
def iaddrAD (n sz : Nat) : D → D → Option D
 | .ptr o k, .val (.int _ i) => if 0 ≤ i ∧ i < n then some (.ptr o (k + i.toNat * sz)) else none
 | .rp own cs k, .val (.int _ i) => if 0 ≤ i ∧ i < n then some (.rp own cs (k + i.toNat * sz)) else none
 | _, _ => none
def idxAD (n sz : Nat) (agg : Bool) : D → D → Option D
 | .agg ds, .val (.int _ i) => if 0 ≤ i ∧ i < n then cut (if agg then some sz else none) ds (i.toNat * sz) else none
 | _, _ => none
def idxSD : D → D → Option D
 | .val (.string s), .val (.int _ i) => if 0 ≤ i then match s.data[i.toNat]? with
     | some b => some (.val (.int .u8 b.toNat))
     | none => none
  else none
 | _, _ => none
def boundD (S : St) (dflt : Nat) (top : Nat) : Option Operand → Option Nat
 | none => some dflt
 | some x => match look S x with
  | some (.val (.int _ i)) => if 0 ≤ i ∧ i ≤ top then some i.toNat else none
  | _ => none
def slcSD (S : St) (lo hi : Option Operand) : D → Option D
 | .val (.string s) => match boundD S s.size s.size hi with
  | some h => match boundD S 0 h lo with
   | some l => some (.val (.string (s.extract l h)))
   | none => none
  | none => none
 | _ => none
def partD (S : St) (sz : Nat) (lo hi : Option Operand) (t : Tag) (lo0 n : Nat) (es : List (List D)) : Option D :=
 if S.live (some (t, 0)) = true ∧ lo0 + n ≤ es.length ∧ t.2.2 = sz then match boundD S n (es.length - lo0) hi with
  | some h => match boundD S 0 h lo with
   | some l => some (.part t (lo0 + l) (h - l) es)
   | none => none
  | none => none
 else none
def slcD (S : St) (sz : Nat) (lo hi : Option Operand) : D → Option D
 | .sl (some t) es => partD S sz lo hi t 0 es.length es
 | .part t lo0 n es => partD S sz lo hi t lo0 n es
 | .sl none es => if es.all (fun e => e.length == sz) then match boundD S es.length es.length hi with
  | some h => match boundD S 0 h lo with
   | some l => some (.sl none ((es.take h).drop l))
   | none => none
  | none => none
  else none
 | _ => none
def slcAD (S : St) (n : Nat) (lo hi : Option Operand) : D → Option D
 | .rp none cs 0 => if cs.length = n ∧ cs.all D.one = true then match boundD S n n hi with
  | some h => match boundD S 0 h lo with
   | some l => some (.sl none (((cs.map fun d => [d]).take h).drop l))
   | none => none
  | none => none
  else none
 | _ => none
def lenSD : D → Option D
 | .val (.string s) => some (.val (.int .i64 s.size))
 | _ => none
def lenLD : D → Option D
 | .sl _ es => some (.val (.int .i64 es.length))
 | .part _ _ n _ => some (.val (.int .i64 n))
 | _ => none
def max2D (mx : Bool) : D → D → Option D
 | .val (.int k x), .val (.int _ y) => some (.val (.int k (if mx then (if y > x then y else x) else (if y < x then y else x))))
 | _, _ => none
def minmaxD (mx : Bool) (x : D) : List D → Option D
 | [] => some x
 | y :: ys => match max2D mx x y with
  | some z => minmaxD mx z ys
  | none => none
def extD (i : Nat) : D → Option D
 | .tup ds => ds[i]?
 | _ => none
def nilckD : D → Option D
 | .ptr o k => some (.ptr o k)
 | .rp own cs k => some (.rp own cs k)
 | .fn f a b => some (.fn f a b)
 | _ => none
def bytesOfD : List (List D) → Option (List UInt8)
 | [] => some []
 | [.val (.int .u8 n)] :: es => match bytesOfD es with
  | some bs => some (n.toNat.toUInt8 :: bs)
  | none => none
 | _ => none
def b2sD (S : St) : D → Option D
 | .sl own es => if S.live (own.map fun t => (t, 0)) then (bytesOfD es).map fun bs => .val (.string ⟨bs.toArray⟩) else none
 | _ => none
def pop (S : St) : MOp → Option D
 | .mov x => look S x
 | .movS x => match look S x with | some (.val (.string s)) => some (.val (.string s)) | _ => none
 | .pick c a b => match look S c with
  | some (.val (.bool true)) => look S a
  | some (.val (.bool false)) => look S b
  | _ => none
 | .load sz x => match look S x with | some d => loadD S sz d | none => none
 | .bin op x y => match look S x, look S y with | some a, some b => binD op a b | _, _ => none
 | .binB neg x y => match look S x, look S y with | some a, some b => binBD neg a b | _, _ => none
 | .binP neg x y => match look S x, look S y with | some a, some b => binPD neg a b | _, _ => none
 | .eqs neg ks x y => match look S x, look S y with
  | some (.agg a), some (.agg b) => match eqDs ks a b with
      | some p => some (.val (.bool (p != neg)))
      | none => none
  | _, _ => none
 | .un op x => match look S x with | some d => unD op d | none => none
 | .conv k x => match look S x with | some (.val (.int _ n)) => some (.val (.int k (k.wrap n))) | _ => none
 | .faddr off x => match look S x with | some d => faddrD off d | none => none
 | .fld off sz x => match look S x with | some (.agg ds) => cut sz ds off | _ => none
 | .iaddrS sz x i => match look S x, look S i with | some a, some b => iaddrSD sz a b | _, _ => none
 | .iaddrA n sz x i => match look S x, look S i with | some a, some b => iaddrAD n sz a b | _, _ => none
 | .idxA n sz ag x i => match look S x, look S i with | some a, some b => idxAD n sz ag a b | _, _ => none
 | .idxS x i => match look S x, look S i with | some a, some b => idxSD a b | _, _ => none
 | .build zero parts => (fillD S zero parts).map .agg
 | .slcS x lo hi => match look S x with | some d => slcSD S lo hi d | none => none
 | .slc sz x lo hi => match look S x with | some d => slcD S sz lo hi d | none => none
 | .slcA n x lo hi => match look S x with | some d => slcAD S n lo hi d | none => none
 | .lenS x => match look S x with | some d => lenSD d | none => none
 | .lenL x => match look S x with | some d => lenLD d | none => none
 | .minmax mx xs => match looks S xs with | some (d :: ds) => minmaxD mx d ds | _ => none
 | .ext x i => match look S x with | some d => extD i d | none => none
 | .mkfn f first caps => match looks S first, looks S caps with | some a, some b => some (.fn f a b) | _, _ => none
 | .nilck x => match look S x with | some d => nilckD d | none => none
 | .b2s x => match look S x with | some d => b2sD S d | none => none
 | .r2s x => match look S x with | some (.val (.int _ n)) => some (.val (.string (Utf8.encode n))) | _ => none
 | _ => none
def zeroD (v : Value) : List D := v.cells.toList.map fun
 | .slice none 0 0 => .sl none []
 | c => .val c
def nilD : D → D
 | .val (.slice none 0 0) => .sl none []
 | d => d
def aggD : TypeDesc → Bool
 | .struct _ | .array _ _ => true
 | _ => false
def aggT (P : Program) (t : TypeId) : Option (Option Nat) :=
 match P.underlying t, P.info? t with
 | some d, some i => some (if aggD d then some i.size else none)
 | _, _ => none
def flatFs (ft : TypeId → Option (List SK)) : List Field → List SK → Option (List SK)
 | [], ks => some ks
 | f :: fs, ks => if f.name ≠ "_" ∧ f.offset = ks.length then match ft f.type with | some ms => flatFs ft fs (ks ++ ms) | none => none else none
def reps {α : Type} : Nat → List α → List α
 | 0, _ => []
 | n + 1, xs => xs ++ reps n xs
def flatT (P : Program) : Nat → TypeId → Option (List SK)
 | 0, _ => none
 | d + 1, t => match P.underlying t with
  | some .bool => some [.b]
  | some (.int _) => some [.i]
  | some .string => some [.s]
  | some (.struct fs) => match P.info? t, flatFs (flatT P d) fs.toList [] with
   | some i, some ks => if i.size = ks.length ∧ P.stoodInHeld t = false then some ks else none
   | _, _ => none
  | some (.array n e) => match flatT P d e, P.info? e, P.info? t with
   | some ks, some i, some it => if i.size = ks.length ∧ it.size = n * ks.length then some (reps n ks) else none
   | _, _, _ => none
  | _ => none
def keyT (P : Program) (t : TypeId) : Option (List SK) := match P.underlying t with
 | some .bool => some [.b]
 | some (.int _) => some [.i]
 | some .string => some [.s]
 | some (.array _ e) => match P.underlying e with
  | some .bool | some (.int _) | some .string => match flatT P 20 t with | some ks => if 2 ≤ ks.length then some ks else none | none => none
  | _ => none
 | _ => none
def eqKey (ks : List SK) (a b : D) : Option Bool := match ks with
 | [k] => match a, b with | .val x, .val y => eqV k x y | _, _ => none
 | _ => match a, b with | .agg xs, .agg ys => eqDs ks xs ys | _, _ => none
def findE (ks : List SK) (kd : D) : List (List D) → Nat → Option (Option (Nat × D))
 | [], _ => some none
 | [k, d] :: es, i => match eqKey ks kd k with
  | some true => some (some (i, d))
  | some false => findE ks kd es (i + 1)
  | none => none
 | _ :: _, _ => none
def putE (kd vd : D) (es : List (List D)) : Option (Nat × D) → List (List D)
 | some (i, _) => es.set i [kd, vd]
 | none => es ++ [[kd, vd]]
def delE0 (es : List (List D)) : Option (Nat × D) → List (List D)
 | some (i, _) => es.eraseIdx i
 | none => es
def mres (ok : Bool) (zero : D) : Option (Nat × D) → D
 | some (_, d) => if ok = true then .tup [d, .val (.bool true)] else d
 | none => if ok = true then .tup [zero, .val (.bool false)] else zero
def zeroV : Value → D
 | .agg vs => .agg (zeroD (.agg vs))
 | v => constD v
def compParts (places : List (Nat × Nat)) : List (Nat × Operand) → Option (List (Nat × Nat × Operand))
 | [] => some []
 | (i, x) :: rest => match places[i]?, compParts places rest with
  | some p, some r => some ((p.1, p.2, x) :: r)
  | _, _ => none
def places (P : Program) (fs : List Field) : Option (List (Nat × Nat)) := fs.mapM fun f => (P.info? f.type).map fun i => (f.offset, i.size)
def isNilSl : Operand → Bool
 | .const (.slice none 0 0) => true
 | _ => false
def isNilI : Operand → Bool
 | .const .nilIface => true
 | _ => false
def compB (P : Program) (b : Builtin) (args : List Operand) (ts : List TypeId) : Option MOp :=
 match b with
 | .len => match args, ts with
  | [x], [t] => match P.underlying t with
   | some .string => some (.lenS x)
   | some (.slice _) => some (.lenL x)
   | some (.map _ _) => some (.xop (.mlen x))
   | _ => none
  | _, _ => none
 | .delete => match args, ts with
  | [m, k], [t, _] => match P.underlying t with
   | some (.map kt _) => match keyT P kt with | some ks => some (.xop (.mdel ks m k)) | none => none
   | _ => none
  | _, _ => none
 | .clear => match args, ts with
  | [x], [t] => match P.underlying t with
   | some (.slice e) => match P.info? e with
    | some i => match i.zero with
     | some z => if 0 < i.size ∧ z.cells.size = i.size then some (.xop (.clr i.size (zeroD z) x)) else none
     | none => none
    | none => none
   | _ => none
  | _, _ => none
 | .max => some (.minmax true args)
 | .min => some (.minmax false args)
 | .append => match args, ts with
  | [x, y], [t, u] => if t = u then match P.underlying t with
      | some (.slice e) => match P.info? e with
       | some i => match i.zero with
        | some z => if 0 < i.size ∧ z.cells.size = i.size then some (.append e i.size i.bytes x y) else none
        | none => none
       | none => none
      | _ => none
   else none
  | _, _ => none
 | _ => none
def compOp (P : Program) (o : Oper) : Option MOp :=
 match o.op with
 | .move x => some (.mov x)
 | .assign x => if isNilSl x then match P.underlying o.type with
     | some (.slice e) => match P.info? e with | some i => some (.nilsl e i.size) | none => none
     | _ => none
  else some (.mov x)
 | .pick c a b => some (.pick c a b)
 | .makeMap t r => match P.underlying t with | some (.map _ _) => if r.isNone = true then some (.xop .mkmap) else none | _ => none
 | .lookup t m k ok => match P.underlying t with
  | some (.map kt e) => match keyT P kt, P.info? e with
   | some ks, some i => match i.zero with | some z => some (.xop (.mget ks (zeroV z) ok m k)) | none => none
   | _, _ => none
  | _ => none
 | .mapUpdate t m k v => match P.underlying t with
  | some (.map kt _) => match keyT P kt with | some ks => some (.xop (.mput ks m k v)) | none => none
  | _ => none
 | .range t x => match P.underlying t with | some (.map _ _) => some (.xop (.mrange x)) | _ => none
 | .next it isS => if isS = true then none else some (.xop (.mnext it))
 | .entry it => some (.xop (.mentry it))
 | .alloc t => match P.info? t with
  | some i => match i.zero with | some z => some (.alloc t (zeroD z)) | none => none
  | none => none
 | .box t x => match P.info? t with | some i => some (.box t i.size x) | none => none
 | .build t parts => match P.underlying t, P.info? t with
  | some (.struct fs), some i => match i.zero, places P fs.toList with
   | some z, some pl => match compParts pl parts.toList with
    | some ps => some (.build (zeroD z) ps)
    | none => none
   | _, _ => none
  | some (.array _ e), some i => match i.zero, P.info? e with
   | some z, some ie => some (.build (zeroD z) (parts.toList.map fun p => (p.1 * ie.size, ie.size, p.2)))
   | _, _ => none
  | _, _ => none
 | .buildSlice t len parts => match P.underlying t with
  | some (.slice e) => match P.info? e with
   | some i => match i.zero with
    | some z => if 0 < i.size ∧ z.cells.size = i.size ∧ len * i.size ≤ 2 ^ 24 then
        some (.bslice e i.size (zeroD z) len (parts.toList.map fun p => (p.1 * i.size, i.size, p.2))) else none
    | none => none
   | none => none
  | _ => none
 | .load t x => match aggT P t with | some sz => some (.load sz x) | none => none
 | .store t x v => match P.info? t with | some i => some (.store i.size x v) | none => none
 | .nilCheck x => some (.nilck x)
 | .binOp op t x y _ => match P.underlying t with
  | some .bool => match op with
   | .eql => some (.binB false x y)
   | .neq => some (.binB true x y)
   | _ => none
  | some (.pointer _) => match op with
   | .eql => some (.binP false x y)
   | .neq => some (.binP true x y)
   | _ => none
  | some (.int _) | some .string => some (.bin op x y)
  | some (.struct _) | some (.array _ _) => if P.eqGuardType P.depth t = false then match op, flatT P 20 t with
   | .eql, some ks => some (.eqs false ks x y)
   | .neq, some ks => some (.eqs true ks x y)
   | _, _ => none
   else none
  | some (.slice _) => if isNilSl y then match op with
      | .eql => some (.isnil false x)
      | .neq => some (.isnil true x)
      | _ => none
   else none
  | some (.interface _) => if isNilI y then match op with
      | .eql => some (.xop (.isnilI false x))
      | .neq => some (.xop (.isnilI true x))
      | _ => none
   else none
  | _ => none
 | .unOp op _ x => some (.un op x)
 | .convert s d x => match P.underlying s, P.underlying d with
  | some (.int _), some (.int k) => some (.conv k x)
  | some .string, some .string => some (.movS x)
  | some (.slice e), some .string => match P.underlying e with | some (.int .u8) => some (.b2s x) | _ => none
  | some (.int _), some .string => some (.r2s x)
  | _, _ => none
 | .makeFunc fn first caps => match fn with
  | .func f => some (.mkfn f first.toList caps.toList)
  | _ => none
 | .slice t x lo hi mx => match mx with
  | none => match P.underlying t with
   | some .string => some (.slcS x lo hi)
   | some (.slice e) => match P.info? e with | some i => some (.slc i.size x lo hi) | none => none
   | some (.array n e) => match P.info? e with | some i => if i.size = 1 then some (.slcA n x lo hi) else none | none => none
   | _ => none
  | some m => match P.underlying t with
   | some (.slice e) => match P.info? e with | some i => some (.xop (.slc3 i.size x lo hi m)) | none => none
   | _ => none
 | .fieldAddr t x f => match P.underlying t with
  | some (.struct fs) => match fs[f]? with
   | some fd => match P.info? fd.type with
    | some i => if i.size = 0 then none else some (.faddr fd.offset x)
    | none => none
   | none => none
  | _ => none
 | .field t x f => match P.underlying t with
  | some (.struct fs) => match fs[f]? with
   | some fd => match aggT P fd.type with | some sz => some (.fld fd.offset sz x) | none => none
   | none => none
  | _ => none
 | .indexAddr t x i => match P.underlying t with
  | some (.slice e) => match P.info? e with | some ti => some (.iaddrS ti.size x i) | none => none
  | some (.array n e) => match P.info? e with | some ti => some (.iaddrA n ti.size x i) | none => none
  | _ => none
 | .index t x i => match P.underlying t with
  | some .string => some (.idxS x i)
  | some (.array n e) => match aggT P e, P.info? e with
   | some a, some ti => some (.idxA n ti.size a.isSome x i)
   | _, _ => none
  | _ => none
 | .extract t i => some (.ext t i)
 | .call c => match c.callee with
  | .value f => some (.call f c.args.toList .pure)
  | .builtin b => compB P b c.args.toList c.argTypes.toList
  | .invoke _ _ => none
 | _ => none
def compOb (P : Program) (o : Oper) : MOp := (compOp P o).getD .bad
def compO (P : Program) (ops : Array Oper) (o : Oper) : Option MO :=
 match o.guard with
  | none => some { dst := o.dst, op := compOb P o, guard := none }
  | some (j, want) => match ops[j]? with
   | some g => match g.dst with
    | some t => some { dst := o.dst, op := compOb P o, guard := some (t, want) }
    | none => none
   | none => none
theorem compOb_some {P : Program} {o : Oper} {m : MOp} (h : compOb P o = m) (hb : m ≠ .bad) : compOp P o = some m := by
 unfold compOb at h
 cases hc : compOp P o with
 | none => rw [hc] at h; exact absurd h.symm hb
 | some x => rw [hc] at h; exact congrArg some h
end Go.Vm

namespace Go.Vm
def laidTabs : List (Nat × List Value) := []
def laidErrs : List Nat := []
end Go.Vm

namespace Go.Vm
open Go.RowKit
structure OwnT (w : World) (g : Gh) (t : Tag) (x : Bool) (ti : TI) : Prop where
 ty : ti.e = t.2.1 ∧ ti.sz = t.2.2
 own : w.ownsRow 0 ti.e ti.sz ti.v ti.n ti.xs
 one : ∀ u ∈ ti.xs, u.oneCell' = true
 out : ∀ b k, ti.v.ownBlock = some b → g.F b k → x = false ∧ k < ti.n * ti.sz
 inn : ∀ b k, ti.v.ownBlock = some b → x = false → k < ti.n * ti.sz → g.F b k
def TabF (F : Reg) (w : World) : Prop := (∀ (n : Nat) (vs : List Value), (n, vs) ∈ laidTabs → ∀ i, F n i ∧ w.cell? ⟨n, i, none⟩ = vs[i]?) ∧
 ∀ n, n ∈ laidErrs → F n 0 ∧ ∃ t x, w.cell? ⟨n, 0, none⟩ = some (.iface t x)
theorem TabF.mono {F F' : Reg} {w w' : World} (h : TabF F w) (hF : ∀ b k, F b k → F' b k) (hw : ∀ b k, F b k → w'.cell? ⟨b, k, none⟩ = w.cell? ⟨b, k, none⟩) : TabF F' w' :=
 ⟨fun n vs hn i => ⟨hF _ _ (h.1 n vs hn i).1, (hw _ _ (h.1 n vs hn i).1).trans (h.1 n vs hn i).2⟩,
  fun n hn => let ⟨h1, t, x, h2⟩ := h.2 n hn; ⟨hF _ _ h1, t, x, (hw _ _ h1).trans h2⟩⟩
def FB (F : Reg) (w : World) : Prop := (∀ b k, F b k → b < w.heap.size) ∧ TabF F w
theorem heap_alloc_old (w : World) (o : Obj) (i : Nat) (h : i < w.heap.size) : (w.alloc o).heap[i]? = w.heap[i]? := by
 show (w.heap.push o)[i]? = w.heap[i]?
 rw [Array.getElem?_push, if_neg (by omega)]
theorem heap_alloc_new (w : World) (o : Obj) : (w.alloc o).heap[w.heap.size]? = some o := by
 show (w.heap.push o)[w.heap.size]? = some o
 simp
def isMapO : Obj → Bool
 | .map .. | .mapIter .. => true
 | _ => false
def wfM (es : Array MapEntry) (clk : Nat) : Bool := decide ((es.toList.map (·.born)).Nodup) && es.toList.all (fun e => decide (e.born < clk))
def virtO (o : Nat) : Obj → Option (Array Value)
 | .map es clk => if o < itB ∧ wfM es clk = true then some #[mapV es.size (fun i j => if j = 0 then (es[i]?.map (·.key)).getD undef else (es[i]?.map (·.val)).getD undef), .tuple (es.map fun e => goInt (e.born : Int)), goInt clk] else none
 | .mapIter m since seen stepped => if o < itB then none else some #[.map m, .tuple (seen.map fun (n : Nat) => goInt (n : Int)), goInt since, goInt stepped]
 | _ => none
def Blk (w : World) (o b k n : Nat) (vs : Array Value) (e : TypeId) : Prop :=
 if o < mapB then w.heap[b]? = some (.cells vs e (0, 0)) else (k = 0 ∧ 0 < n) ∧ ∃ ob, w.heap[b]? = some ob ∧ virtO o ob = some vs
section
variable {w w' : World} {o b k n : Nat} {vs : Array Value} {e : TypeId}
theorem Blk.cells (h : Blk w o b k n vs e) (ho : o < mapB) : w.heap[b]? = some (.cells vs e (0, 0)) := by
 unfold Blk at h; rwa [if_pos ho] at h
theorem Blk.of (h : w.heap[b]? = some (.cells vs e (0, 0))) (ho : o < mapB) : Blk w o b k n vs e := by
 unfold Blk; rwa [if_pos ho]
theorem virt_map {o : Nat} {ob : Obj} {vs : Array Value} (h : virtO o ob = some vs) : isMapO ob = true := by
 unfold virtO at h; split at h <;> first | rfl | cases h
theorem Blk.lt (h : Blk w o b k n vs e) : b < w.heap.size := by
 unfold Blk at h
 split at h
 ·exact (Array.getElem?_eq_some_iff.1 h).1
 ·obtain ⟨-, ob, h, -⟩ := h; exact (Array.getElem?_eq_some_iff.1 h).1
theorem Blk.keep (h : Blk w o b k n vs e) (hk : ∀ ob, w.heap[b]? = some ob → w'.heap[b]? = some ob) {n' : Nat} (hn : n' = n := by simp) : Blk w' o b k n' vs e := by
 subst hn
 unfold Blk at h ⊢
 split
 ·rename_i ho; rw [if_pos ho] at h; exact hk _ h
 ·rename_i ho; rw [if_neg ho] at h
  obtain ⟨h0, ob, h1, h2⟩ := h
  exact ⟨h0, ob, hk _ h1, h2⟩
theorem Blk.isMap (h : Blk w o b k n vs e) (ho : ¬ o < mapB) : (k = 0 ∧ 0 < n) ∧ ∃ ob, w.heap[b]? = some ob ∧ isMapO ob = true ∧ virtO o ob = some vs := by
 unfold Blk at h
 rw [if_neg ho] at h
 obtain ⟨h0, ob, h1, h2⟩ := h
 exact ⟨h0, ob, h1, virt_map h2, h2⟩
theorem virt_kind {o o' : Nat} (hk : o / mapB = o' / mapB) (ob : Obj) : virtO o ob = virtO o' ob := by
 have : (o < itB) = (o' < itB) := by apply propext; unfold itB; unfold mapB at hk; omega
 cases ob <;> simp only [virtO, this]
theorem Blk.kind (h : Blk w o b k n vs e) {o' : Nat} (hk : o / mapB = o' / mapB) {n' : Nat} (hn : n' = n := by simp) : Blk w o' b k n' vs e := by
 subst hn
 have : (o < mapB) ↔ (o' < mapB) := by unfold mapB at *; omega
 unfold Blk at h ⊢
 by_cases ho : o < mapB
 ·rw [if_pos ho] at h; rw [if_pos (this.1 ho)]; exact h
 ·rw [if_neg ho] at h; rw [if_neg (fun h => ho (this.2 h))]
  obtain ⟨h0, ob, h1, h2⟩ := h
  exact ⟨h0, ob, h1, by rw [← virt_kind hk]; exact h2⟩
theorem virt_size {o : Nat} {ob : Obj} (h : virtO o ob = some vs) : vs.size ≤ 4 := by
 unfold virtO at h; split at h <;> first | (cases h; done) | (split at h <;> first | (cases h; done) | (injection h with h; subst h; simp))
theorem Blk.ofMap {ob : Obj} (hh : w.heap[b]? = some ob) (hv : virtO o ob = some vs) (ho : ¬ o < mapB) (hn : 0 < n) : Blk w o b 0 n vs e := by
 unfold Blk; rw [if_neg ho]; exact ⟨⟨rfl, hn⟩, ob, hh, hv⟩
end
structure Core (g : Gh) (S : St) (tm : Array Value) (w : World) : Prop where
 env : ∀ t d, S.get t = some d → Rep g w d (tm.getD t undef)
 box : ∀ o cs, S.box o = some cs → ∃ b k vs e, g.μ o = some (b, k) ∧ Blk w o b k cs.length vs e ∧ k + cs.length ≤ vs.size ∧
  (∀ (i : Nat) (d : D) (u : Value), cs[i]? = some d → vs[k + i]? = some u → Rep g w d u)
 boxF : ∀ o cs b k i, S.box o = some cs → g.μ o = some (b, k) → i < cs.length → ¬ g.F b (k + i)
 boxI : ∀ o o' cs cs' b k k', S.box o = some cs → S.box o' = some cs' → g.μ o = some (b, k) → g.μ o' = some (b, k') → ∀ i i', i < cs.length → i' < cs'.length → k + i = k' + i' → o = o'
 tag : ∀ t x, S.tag t = some x → ∃ ti, g.τ t = some ti ∧ OwnT w g t x ti
 tagB : ∀ t x ti o cs b k, S.tag t = some x → g.τ t = some ti → S.box o = some cs → g.μ o = some (b, k) → ti.v.ownBlock ≠ some b
 tagI : ∀ t x ti t' x' ti' b, S.tag t = some x → g.τ t = some ti → S.tag t' = some x' → g.τ t' = some ti' → ti.v.ownBlock = some b → ti'.v.ownBlock = some b → t = t'
 frz : FB g.F w
structure Keep (W : Reg) (w w' : World) : Prop where
 os : w'.os = w.os
 tape : w'.tape = w.tape
 output : w'.output = w.output
 size : w.heap.size ≤ w'.heap.size
 drawn : w.drawn ≤ w'.drawn
 block : ∀ (b : Nat) (o : Obj), w.heap[b]? = some o → w'.heap[b]? = some o ∨ (∃ vs vs' e, o = .cells vs e (0, 0) ∧ w'.heap[b]? = some (.cells vs' e (0, 0)) ∧ vs'.size = vs.size ∧
  (∀ k, ¬ W b k → vs'[k]? = vs[k]?)) ∨ (isMapO o = true ∧ W b 0 ∧ ∃ o', w'.heap[b]? = some o' ∧ isMapO o' = true)
structure Wr (base : Nat) (W : Reg) (g : Gh) (S : St) : Prop where
 box : ∀ o cs b k i, S.box o = some cs → g.μ o = some (b, k) → i < cs.length → base ≤ b ∨ W b (k + i)
 tag : ∀ t x ti b, S.tag t = some x → g.τ t = some ti → ti.v.ownBlock = some b → base ≤ b ∨ ∀ i, W b i
variable {w0 w : World} {N : Nat} {g : Gh} {S : St} {a : Act}
theorem Keep.refl (W : Reg) (w : World) : Keep W w w := ⟨rfl, rfl, rfl, Nat.le_refl _, Nat.le_refl _, fun _ _ h => .inl h⟩
theorem Keep.trans {W W' : Reg} {w w1 w2 : World} (h : Keep W w w1) (h' : Keep W' w1 w2) (hW : ∀ b k, b < w.heap.size → W' b k → W b k) : Keep W w w2 := by
 refine ⟨h'.os.trans h.os, h'.tape.trans h.tape, h'.output.trans h.output, Nat.le_trans h.size h'.size, Nat.le_trans h.drawn h'.drawn, fun b o hb => ?_⟩
 have hlt : b < w.heap.size := (Array.getElem?_eq_some_iff.1 hb).1
 rcases h.block b o hb with h1 | ⟨vs, vs', e, rfl, h1, h2, h3⟩ | ⟨m1, m2, o1, m3, m4⟩
 ·rcases h'.block b o h1 with h4 | ⟨us, us', e', rfl, h4, h5, h6⟩ | ⟨m1, m2, m3⟩
  ·exact .inl h4
  ·exact .inr (.inl ⟨us, us', e', rfl, h4, h5, fun k hk => h6 k (fun hk' => hk (hW b k hlt hk'))⟩)
  ·exact .inr (.inr ⟨m1, hW b 0 hlt m2, m3⟩)
 ·rcases h'.block b _ h1 with h4 | ⟨us, us', e', he, h4, h5, h6⟩ | ⟨m1, -⟩
  ·exact .inr (.inl ⟨vs, vs', e, rfl, h4, h2, h3⟩)
  ·injection he with he1 he2; subst he1; subst he2
   exact .inr (.inl ⟨vs, us', e, rfl, h4, h5.trans h2, fun k hk => (h6 k (fun hk' => hk (hW b k hlt hk'))).trans (h3 k hk)⟩)
  ·cases m1
 ·rcases h'.block b _ m3 with h4 | ⟨us, us', e', rfl, -⟩ | ⟨-, -, o2, m5, m6⟩
  ·exact .inr (.inr ⟨m1, m2, o1, h4, m4⟩)
  ·cases m4
  ·exact .inr (.inr ⟨m1, m2, o2, m5, m6⟩)
theorem Keep.mono {W W' : Reg} {w w1 : World} (h : Keep W w w1) (hW : ∀ b k, b < w.heap.size → W b k → W' b k) : Keep W' w w1 :=
 (Keep.refl W' w).trans h hW
theorem Keep.cell {W : Reg} {w w1 : World} (h : Keep W w w1) {b k : Nat} (hb : b < w.heap.size) (hk : ¬ W b k) : w1.cell? ⟨b, k, none⟩ = w.cell? ⟨b, k, none⟩ := by
 rcases h.block b _ (Array.getElem?_eq_getElem hb) with h1 | ⟨vs, vs', e, h0, h1, h2, h3⟩ | ⟨m1, -, o', m3, m4⟩
 ·exact World.cell?_of_block (a := ⟨b, k, none⟩) (by rw [h1, Array.getElem?_eq_getElem hb])
 ·have h0' : w.heap[b]? = some (.cells vs e (0, 0)) := by rw [Array.getElem?_eq_getElem hb, h0]
  rw [cell_of_row w1 b k vs' e (0, 0) h1, cell_of_row w b k vs e (0, 0) h0', h3 k hk]
 ·have nc : ∀ (v : World) (x : Obj), v.heap[b]? = some x → isMapO x = true → v.cell? ⟨b, k, none⟩ = none := fun v x hx hm => by
    unfold World.cell?
    cases x <;> first | (cases hm; done) | simp [hx]
  rw [nc w1 o' m3 m4, nc w _ (Array.getElem?_eq_getElem hb) m1]
theorem Keep.drew (W : Reg) (w : World) (n : Nat) (hn : w.drawn ≤ n) : Keep W w { w with drawn := n } := ⟨rfl, rfl, rfl, Nat.le_refl _, hn, fun _ _ h => .inl h⟩
theorem Keep.alloc (W : Reg) (w : World) (o : Obj) : Keep W w (w.alloc o) :=
 ⟨rfl, rfl, rfl, by simp, Nat.le_refl _, fun b o' h => .inl (by rw [heap_alloc_old w o b (Array.getElem?_eq_some_iff.1 h).1]; exact h)⟩
theorem Keep.grown {W : Reg} {w w1 : World} {row : Option Nat} (hg : w.grownBy w1 row) (hdr : w.drawn ≤ w1.drawn) (hrow : ∀ b, row = some b → w.heap[b]? = w1.heap[b]? ∨ ∃ vs vs' e, w.heap[b]? = some (.cells vs e (0, 0)) ∧ w1.heap[b]? = some (.cells vs' e (0, 0)) ∧ vs'.size = vs.size ∧
    ∀ k, ¬ W b k → vs'[k]? = vs[k]?) : Keep W w w1 := by
 refine ⟨hg.os, hg.tape, hg.output, hg.size, hdr, fun b o hb => ?_⟩
 by_cases h : row = some b
 ·rcases hrow b h with h1 | ⟨vs, vs', e, h1, h2, h3, h4⟩
  ·exact .inl (h1 ▸ hb)
  ·rw [hb] at h1; injection h1 with h1
   exact .inr (.inl ⟨vs, vs', e, h1, h2, h3, h4⟩)
 ·exact .inl (by rw [hg.block b (Array.getElem?_eq_some_iff.1 hb).1 (fun e => h e.symm)]; exact hb)
theorem Core.look (h : Core g S a.tmps w) {x : Operand} {d : D} (hx : look S x = some d) : Rep g w d (a.eval x) := by
 cases x with
 | tmp t => exact h.env t d hx
 | const v =>
  simp only [Vm.look] at hx
  injection hx with hx
  subst hx
  show Rep g w (constD v) v
  unfold constD
  split
  ·exact .fz _ _ .nil
  ·exact .fz _ _ (.val _)
 | func f =>
  simp only [Vm.look] at hx; injection hx with hx; subst hx
  exact .fz _ _ (.fn f [] [] #[] #[] rfl rfl (fun i d v h => by simp at h) (fun i d v h => by simp at h))
 | global g => simp [Vm.look] at hx
theorem Rep.val_inv {v u : Value} (h : Rep g w (.val v) u) : u = v := by
 cases h with
 | fz _ _ h => cases h; rfl
theorem Rep.agg_inv {ds : List D} {u : Value} (h : Rep g w (.agg ds) u) : ∃ vs, u = .agg vs ∧ vs.size = ds.length ∧
    ∀ (i : Nat) (d : D) (v : Value), ds[i]? = some d → vs[i]? = some v → Rep g w d v := by
 cases h with
 | fz _ _ h => cases h with | agg _ vs hl h => exact ⟨vs, rfl, hl, fun i d v hd hv => .fz _ _ (h i d v hd hv)⟩
 | agg _ vs hl h => exact ⟨vs, rfl, hl, h⟩
theorem Rep.tup_inv {ds : List D} {u : Value} (h : Rep g w (.tup ds) u) : ∃ vs, u = .tuple vs ∧ vs.size = ds.length ∧
    ∀ (i : Nat) (d : D) (v : Value), ds[i]? = some d → vs[i]? = some v → Rep g w d v := by
 cases h with
 | fz _ _ h => cases h with | tup _ vs hl h => exact ⟨vs, rfl, hl, fun i d v hd hv => .fz _ _ (h i d v hd hv)⟩
 | tup _ vs hl h => exact ⟨vs, rfl, hl, h⟩
theorem Rep.ptr_inv {o off : Nat} {u : Value} (h : Rep g w (.ptr o off) u) : ∃ b k, u = .pointer (some ⟨b, k + off, none⟩) ∧ g.μ o = some (b, k) ∧ o < mapB := by
 cases h with
 | fz _ _ h => cases h
 | ptr _ _ b k h ho => exact ⟨b, k, rfl, h, ho⟩
theorem Rep.mh_inv {o : Nat} {u : Value} (h : Rep g w (.mh o) u) : ∃ b, u = handV o b ∧ g.μ o = some (b, 0) ∧ mapB ≤ o := by
 cases h with
 | fz _ _ h => cases h
 | mh _ b h ho => exact ⟨b, rfl, h, ho⟩
theorem Rep.rp_inv (hS : Core g S a.tmps w) {own : Option (Tag × Nat)} {cs : List D} {off : Nat} {u : Value} (h : Rep g w (.rp own cs off) u)
    (hlive : ∀ t i, own = some (t, i) → ∃ x, S.tag t = some x) :
    ∃ b o, u = .pointer (some ⟨b, o + off, none⟩) ∧ ∀ (j : Nat) (d : D), cs[j]? = some d → ∃ x, w.cell? ⟨b, o + j, none⟩ = some x ∧ Rep g w d x := by
 cases h with
 | fz _ _ h => cases h with
  | rp b o _ _ us hF hw hr => exact ⟨b, o, rfl, fun j d hd => ⟨us j, hw j (List.getElem?_eq_some_iff.1 hd).1, .fz _ _ (hr j d hd)⟩⟩
 | rpT t i _ _ ti ht hi hl b n c hv hr =>
  refine ⟨b, i * ti.sz, rfl, fun j d hd => ?_⟩
  obtain ⟨x, hx⟩ := hlive t i rfl
  obtain ⟨ti', ht', ho⟩ := hS.tag t x hx
  rw [ht] at ht'; injection ht' with ht'; subst ht'
  obtain ⟨v, h1, h2⟩ := hr j d hd
  have hb : ti.v.ownBlock = some b := by rw [hv]; rfl
  have := ho.own.cells hb _ v h1
  refine ⟨v, ?_, .fz _ _ h2⟩
  rw [Addr.add] at this
  split at this
  ·rename_i h0; rw [h0]; exact this
  ·simpa using this
end Go.Vm

namespace Go.Vm
open Go.RowKit
variable {P : Program} {w0 w : World} {N : Nat} {g : Gh} {S : St} {a : Act}
theorem addr_add (b o j : Nat) : (⟨b, o, none⟩ : Addr).add j = ⟨b, o + j, none⟩ := by
 unfold Addr.add; split
 ·rename_i h; rw [h]; rfl
 ·rfl
theorem live_some {own : Option (Tag × Nat)} (h : S.live own = true) : ∀ t i, own = some (t, i) → ∃ x, S.tag t = some x := by
 rintro t i rfl
 simp only [St.live, Option.all_some] at h
 exact Option.isSome_iff_exists.1 h
theorem isAgg_run {t : TypeId} {d : TypeDesc} (hu : P.underlying t = some d) : (isAgg t).run P w = .ok (aggD d) w := by
 simp only [isAgg, Sem.run_bind, run_underlying hu, Result.andThen_ok]
 cases d <;> rfl
theorem aggT_some {t : TypeId} {n : Nat} (h : aggT P t = some (some n)) : (isAgg t).run P w = .ok true w ∧ (sizeOf t).run P w = .ok n w := by
 unfold aggT at h
 cases hu : P.underlying t with
 | none => simp [hu] at h
 | some d =>
  cases hi : P.info? t with
  | none => simp [hu, hi] at h
  | some i =>
   simp only [hu, hi, Option.some.injEq] at h
   split at h
   ·rename_i hd
    injection h with h
    exact ⟨by rw [isAgg_run hu, hd], by simp [sizeOf, typeInfo, hi, h]⟩
   ·cases h
theorem aggT_none {t : TypeId} (h : aggT P t = some none) : (isAgg t).run P w = .ok false w := by
 unfold aggT at h
 cases hu : P.underlying t with
 | none => simp [hu] at h
 | some d =>
  cases hi : P.info? t with
  | none => simp [hu, hi] at h
  | some i =>
   simp only [hu, hi, Option.some.injEq] at h
   split at h
   ·cases h
   ·rename_i hd
    rw [isAgg_run hu]; simpa using hd
theorem load_cut {t : TypeId} {sz : Option Nat} {cs : List D} {b o off : Nat} {d : D} (ha : aggT P t = some sz)
    (hcell : ∀ (j : Nat) (d : D), cs[j]? = some d → ∃ x, w.cell? ⟨b, o + j, none⟩ = some x ∧ Rep g w d x) (hc : cut sz cs off = some d) :
    ∃ v, (loadVar t ⟨b, o + off, none⟩).run P w = .ok v w ∧ Rep g w d v := by
 cases sz with
 | none =>
  simp only [cut] at hc
  obtain ⟨x, hx, hr⟩ := hcell off d hc
  exact ⟨x, by simp [loadVar, aggT_none ha, hx], hr⟩
 | some n =>
  simp only [cut] at hc
  split at hc
  ·rename_i hle
   injection hc with hc
   subst hc
   have hget : ∀ j, j < n → ∃ d, cs[off + j]? = some d := fun j hj => ⟨cs[off + j], List.getElem?_eq_getElem (by omega)⟩
   have hl := run_loadCells (P := P) w ⟨b, o + off, none⟩ n (fun j => (w.cell? ⟨b, o + off + j, none⟩).getD undef) (fun j hj => by
    obtain ⟨d, hd⟩ := hget j hj
    obtain ⟨x, hx, _⟩ := hcell _ d hd
    rw [addr_add, Nat.add_assoc, hx]; rfl)
   have h2 := aggT_some (P := P) (w := w) ha
   refine ⟨_, by simp only [loadVar, Sem.run_bind, h2.1, Result.andThen_ok, if_true, h2.2, hl, Sem.run_pure]; rfl, .agg _ _ ?_ ?_⟩
   ·simp; omega
   ·intro i d v hd hv
    simp only [List.getElem?_toArray, List.getElem?_map, Option.map_eq_some_iff] at hv
    obtain ⟨j, hj, rfl⟩ := hv
    rw [List.getElem?_take] at hd
    split at hd
    ·rename_i hlt
     rw [List.getElem?_range hlt] at hj
     injection hj with hj; subst hj
     rw [List.getElem?_drop] at hd
     obtain ⟨x, hx, hr⟩ := hcell _ d hd
     rw [Nat.add_assoc, hx]; exact hr
    ·cases hd
  ·cases hc
theorem load_sound (hS : Core g S a.tmps w) {t : TypeId} {sz : Option Nat} {p d : D} {v : Value} (ha : aggT P t = some sz) (hp : Rep g w p v) (hl : loadD S sz p = some d) :
    ∃ u, (Instr.loadAt t v).run P w = .ok u w ∧ Rep g w d u := by
 cases p <;> simp only [loadD] at hl <;> try (cases hl; done)
 case ptr o off =>
  obtain ⟨b, k, rfl, hμ, ho⟩ := hp.ptr_inv
  split at hl
  ·rename_i cs hb
   obtain ⟨b', k', vs, e, hμ', hh, hsz, hr⟩ := hS.box o cs hb
   replace hh := hh.cells ho
   rw [hμ] at hμ'; injection hμ' with hμ'; injection hμ' with h1 h2; subst h1; subst h2
   have hcell : ∀ (j : Nat) (d : D), cs[j]? = some d → ∃ x, w.cell? ⟨b, k + j, none⟩ = some x ∧ Rep g w d x := fun j d hd => by
    have hj : k + j < vs.size := by have := (List.getElem?_eq_some_iff.1 hd).1; omega
    refine ⟨vs[k + j], ?_, hr j d _ hd (Array.getElem?_eq_getElem hj)⟩
    rw [cell_of_row w b (k + j) vs e (0, 0) hh, Array.getElem?_eq_getElem hj]
   obtain ⟨u, h1, h2⟩ := load_cut ha hcell hl
   exact ⟨u, by simp only [Instr.loadAt, Instr.sureAddr, Sem.run_bind, Sem.run_pure, Result.andThen_ok, h1], h2⟩
  ·cases hl
 case rp own cs off =>
  split at hl
  ·rename_i hlv
   obtain ⟨b, o, rfl, hcell⟩ := hp.rp_inv hS (live_some hlv)
   obtain ⟨u, h1, h2⟩ := load_cut ha hcell hl
   exact ⟨u, by simp only [Instr.loadAt, Instr.sureAddr, Sem.run_bind, Sem.run_pure, Result.andThen_ok, h1], h2⟩
  ·cases hl
theorem faddr_sound {t : TypeId} {fs : Array Field} {f : Nat} {fd : Field} {i : TypeInfo} {p d : D} {v : Value} (hu : P.underlying t = some (.struct fs)) (hf : fs[f]? = some fd)
    (hi : P.info? fd.type = some i) (h0 : i.size ≠ 0) (hp : Rep g w p v) (hl : faddrD fd.offset p = some d) : ∃ u, (Instr.fieldAt t v f).run P w = .ok u w ∧ Rep g w d u := by
 have key : ∀ b k, (Instr.fieldAt t (.pointer (some ⟨b, k, none⟩)) f).run P w = .ok (.pointer (some ⟨b, k + fd.offset, none⟩)) w := fun b k => by
  simp [Instr.fieldAt, run_underlying hu, hf, Instr.sureAddr, fieldPlace, sizeOf, typeInfo, hi, h0, addr_add]
 cases p <;> simp only [faddrD] at hl <;> try (cases hl; done)
 case ptr o off =>
  obtain ⟨b, k, rfl, hμ, ho⟩ := hp.ptr_inv
  injection hl with hl; subst hl
  exact ⟨_, key _ _, by rw [Nat.add_assoc]; exact .ptr _ _ _ _ hμ ho⟩
 case rp own cs off =>
  injection hl with hl; subst hl
  cases hp with
  | fz _ _ h => cases h with
   | rp b o _ _ us hF hw hr =>
    refine ⟨_, key _ _, .fz _ _ ?_⟩
    rw [Nat.add_assoc]
    exact .rp b o cs (off + fd.offset) us hF hw hr
  | rpT t' i' _ _ ti ht hi' hl b n c hv hr =>
   refine ⟨_, key _ _, ?_⟩
   rw [Nat.add_assoc]
   exact .rpT t' i' cs (off + fd.offset) ti ht hi' hl b n c hv hr
theorem iaddrA_sound {t e : TypeId} {n : Nat} {i : TypeInfo} {p x d : D} {v u : Value} (hu : P.underlying t = some (.array n e)) (hi : P.info? e = some i)
    (hp : Rep g w p v) (hx : Rep g w x u) (hl : iaddrAD n i.size p x = some d) : ∃ r, (Instr.indexAt t v u).run P w = .ok r w ∧ Rep g w d r := by
 have key : ∀ b k (kk : IntKind) (j : Int), 0 ≤ j ∧ j < n → (Instr.indexAt t (.pointer (some ⟨b, k, none⟩)) (.int kk j)).run P w = .ok (.pointer (some ⟨b, k + j.toNat * i.size, none⟩)) w := fun b k kk j hj => by
  simp [Instr.indexAt, asIntOf, run_underlying hu, Instr.sureAddr, sizeOf, typeInfo, hi, hj.1, hj.2, addr_add]
 cases p <;> cases x <;> try (simp only [iaddrAD] at hl; cases hl; done)
 case ptr.val o off y =>
  cases y <;> try (simp only [iaddrAD] at hl; cases hl; done)
  rename_i kk j
  simp only [iaddrAD] at hl
  split at hl
  ·rename_i hj
   obtain ⟨b, k, rfl, hμ, ho⟩ := hp.ptr_inv
   injection hl with hl; subst hl
   have := hx.val_inv; subst this
   exact ⟨_, key _ _ _ _ hj, by rw [Nat.add_assoc]; exact .ptr _ _ _ _ hμ ho⟩
  ·cases hl
 case rp.val own cs off y =>
  cases y <;> try (simp only [iaddrAD] at hl; cases hl; done)
  rename_i kk j
  simp only [iaddrAD] at hl
  split at hl
  ·rename_i hj
   injection hl with hl; subst hl
   have := hx.val_inv; subst this
   cases hp with
   | fz _ _ h => cases h with
    | rp b o _ _ us hF hw hr =>
     refine ⟨_, key _ _ _ _ hj, .fz _ _ ?_⟩
     rw [Nat.add_assoc]
     exact .rp b o cs _ us hF hw hr
   | rpT t' i' _ _ ti ht hi' hl b n c hv hr =>
    refine ⟨_, key _ _ _ _ hj, ?_⟩
    rw [Nat.add_assoc]
    exact .rpT t' i' cs _ ti ht hi' hl b n c hv hr
  ·cases hl
theorem iaddrS_sound {t e : TypeId} {i : TypeInfo} {p x d : D} {v u : Value} (hu : P.underlying t = some (.slice e)) (hi : P.info? e = some i)
    (hp : Rep g w p v) (hx : Rep g w x u) (hl : iaddrSD i.size p x = some d) : ∃ r, (∀ w', (Instr.indexAt t v u).run P w' = .ok r w') ∧ Rep g w d r := by
 have key : ∀ b k (m c : Nat) (kk : IntKind) (j : Int), 0 ≤ j → j < m → ∀ w', (Instr.indexAt t (.slice (some ⟨b, k, none⟩) m c) (.int kk j)).run P w' = .ok (.pointer (some ⟨b, k + j.toNat * i.size, none⟩)) w' := fun b k m c kk j h0 h1 w' => by
  simp [Instr.indexAt, asIntOf, run_underlying hu, sizeOf, typeInfo, hi, h0, h1, addr_add]
 cases p <;> cases x <;> try (simp only [iaddrSD] at hl; cases hl; done)
 case sl.val tag es y =>
  cases y <;> try (simp only [iaddrSD] at hl; cases hl; done)
  rename_i kk j
  simp only [iaddrSD] at hl
  split at hl
  ·rename_i h0
   split at hl
   ·rename_i el he
    split at hl
    ·rename_i hsz
     injection hl with hl; subst hl
     have := hx.val_inv; subst this
     have hlt : j.toNat < es.length := (List.getElem?_eq_some_iff.1 he).1
     cases hp with
     | fz _ _ h => cases h with
      | nil => simp at he
      | emp a c => simp at he
      | sl b off sz c _ us hc hlen hF hw h1 hr =>
       have hs : sz = i.size := (hlen _ _ he).symm.trans hsz
       subst hs
       refine ⟨_, key _ _ _ _ _ _ h0 (by omega), .fz _ _ ?_⟩
       have := RepF.rp (F := g.F) (w := w) b (off + j.toNat * i.size) el 0 (us j.toNat) (fun q hq => hF _ _ hlt (by omega)) (fun q hq => hw _ _ hlt (by omega))
        (fun q d hd => hr _ _ _ _ he hd)
       simpa using this
     | slT t' _ ti ht hn hlen hr =>
      have hs : ti.sz = i.size := (hlen _ _ he).symm.trans hsz
      rcases ti.shape with ⟨hv, hz⟩ | ⟨b, c, hv⟩
      ·omega
      ·rw [hv]
       refine ⟨_, key _ _ _ _ _ _ h0 (by omega), ?_⟩
       have := Rep.rpT (g := g) (w := w) t' j.toNat el 0 ti ht (by omega) (hlen _ _ he) b ti.n c hv (fun q d hd => hr _ _ _ _ he hd)
       rw [hs] at this
       simpa using this
    ·cases hl
   ·cases hl
  ·cases hl
end Go.Vm
