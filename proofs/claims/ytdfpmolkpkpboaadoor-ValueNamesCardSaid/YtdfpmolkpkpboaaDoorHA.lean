/- A part of the proof; what is proved stands in the last text. -/
import Derived.Test.YtdfpmolkpkpboaaDoorVm24
set_option linter.unusedVariables false
set_option maxRecDepth 2000
namespace Go.Vm
open Go.RowKit
set_option linter.unusedVariables false
variable {P : Program} {w0 w w' : World} {W F0 : Reg} {V : Pins} {N : Nat} {g g' : Gh} {S S' : St} {a a' : Act} {ops : Array Oper} {σ : Type}
structure KeepX (B : Nat → Prop) (w w' : World) : Prop where
 os : w'.os = w.os
 tape : w'.tape = w.tape
 output : w'.output = w.output
 size : w.heap.size ≤ w'.heap.size
 drawn : w.drawn ≤ w'.drawn
 block : ∀ (b : Nat) (o : Obj), ¬ B b → w.heap[b]? = some o → w'.heap[b]? = some o
theorem KeepX.refl (B : Nat → Prop) (w : World) : KeepX B w w := ⟨rfl, rfl, rfl, Nat.le_refl _, Nat.le_refl _, fun _ _ _ h => h⟩
theorem KeepX.trans {B B' : Nat → Prop} {w w1 w2 : World} (h : KeepX B w w1) (h' : KeepX B' w1 w2) (hB : ∀ b, b < w.heap.size → B' b → B b) : KeepX B w w2 :=
 ⟨h'.os.trans h.os, h'.tape.trans h.tape, h'.output.trans h.output, Nat.le_trans h.size h'.size, Nat.le_trans h.drawn h'.drawn,
  fun b o hb ho => h'.block b o (fun hb' => hb (hB b (Array.getElem?_eq_some_iff.1 ho).1 hb')) (h.block b o hb ho)⟩
theorem KeepX.cell {B : Nat → Prop} (h : KeepX B w w') {b k : Nat} (hb : b < w.heap.size) (hk : ¬ B b) : w'.cell? ⟨b, k, none⟩ = w.cell? ⟨b, k, none⟩ :=
 World.cell?_of_block (a := ⟨b, k, none⟩) (by rw [h.block b _ hk (Array.getElem?_eq_getElem hb), Array.getElem?_eq_getElem hb])
theorem KeepX.keep (h : KeepX (fun _ => False) w w') : Keep (fun _ _ => False) w w' := ⟨h.os, h.tape, h.output, h.size, h.drawn, fun b o hb => .inl (h.block b o (fun h => h) hb)⟩
theorem Keep.x (h : Keep (fun _ _ => False) w w') (B : Nat → Prop) : KeepX B w w' := ⟨h.os, h.tape, h.output, h.size, h.drawn, fun b o _ hb => heap_kept h b o hb⟩
structure HidT (σ : Type) where
 holds : σ → (Nat → Prop) → World → Prop
 lt : ∀ {s : σ} {B : Nat → Prop} {w : World} {b : Nat}, holds s B w → B b → b < w.heap.size
 keep : ∀ {s : σ} {B : Nat → Prop} {w w' : World}, holds s B w → (∀ b, B b → w'.heap[b]? = w.heap[b]?) → holds s B w'
 make : TypeId → Array Value → σ → Nat → σ → Prop
 made : ∀ {s s' : σ} {B : Nat → Prop} {w : World} {t : TypeId} {cs : Array Value}, holds s B w → make t cs s w.heap.size s' → holds s' (fun b => B b ∨ b = w.heap.size) (w.alloc (.cells cs t (0, 0)))
def HidAt (P : Program) (H : HidT σ) (k : FuncId) (s : σ) (ds : List D) (R : D → σ → Prop) : Prop :=
 (∃ fn, P.funcs[k]? = some fn ∧ (fn.name == "runtime.NumGoroutine") = false ∧ fn.body.isNone = false) ∧
 ∀ (F : Reg) (w : World) (B : Nat → Prop) (vs : Array Value), FB F w → H.holds s B w → (∀ b j, F b j → ¬ B b) → vs.size = ds.length → (∀ (i : Nat) (d : D) (v : Value), ds[i]? = some d → vs[i]? = some v → RepF F w d v) →
  Calls P k vs w fun e w' => ∃ r v s' B', e = .returned v ∧ R r s' ∧ H.holds s' B' w' ∧ (∀ b, B' b → B b ∨ w.heap.size ≤ b) ∧
   RepF (fun b j => F b j ∨ (w.heap.size ≤ b ∧ b < w'.heap.size ∧ ¬ B' b)) w' r v ∧ KeepX B w w'
theorem HidAt.mono {H : HidT σ} {k : FuncId} {s : σ} {ds : List D} {R R' : D → σ → Prop} (h : HidAt P H k s ds R) (hR : ∀ r s', R r s' → R' r s') : HidAt P H k s ds R' :=
 ⟨h.1, fun F w B vs h1 h2 h3 h4 h5 => (h.2 F w B vs h1 h2 h3 h4 h5).mono fun _ _ ⟨r, v, s', B', e1, e2, e3⟩ => ⟨r, v, s', B', e1, hR _ _ e2, e3⟩⟩
def OwnW (g : Gh) (S : St) (b k : Nat) : Prop :=
 (∃ o cs k0 i, S.box o = some cs ∧ g.μ o = some (b, k0) ∧ i < cs.length ∧ k = k0 + i) ∨ ∃ t x ti, S.tag t = some x ∧ g.τ t = some ti ∧ ti.v.ownBlock = some b
theorem SR.self (h : SR w0 W F0 V N g S a w) : SR w (OwnW g S) g.F V N g S a w :=
 ⟨h.core, ⟨fun o cs b k i h1 h2 h3 => .inr (.inl ⟨o, cs, k, i, h1, h2, h3, rfl⟩), fun t x ti b h1 h2 h3 => .inr fun i => .inr ⟨t, x, ti, h1, h2, h3⟩⟩, Keep.refl _ _, h.size, h.defers, fun _ _ h => h, fun _ _ h => .inl h, h.cap, h.pin⟩
structure HR (H : HidT σ) (w0 : World) (B0 : Nat → Prop) (F0 : Reg) (V : Pins) (N : Nat) (s : σ) (g : Gh) (S : St) (a : Act) (w : World) : Prop where
 sr : SR w (OwnW g S) g.F V N g S a w
 ex : ∃ B, H.holds s B w ∧ (∀ b k, g.F b k → ¬ B b) ∧ (∀ b k, OwnW g S b k → ¬ B b) ∧ ∀ b, B b → B0 b ∨ w0.heap.size ≤ b
 new : ∀ b k, OwnW g S b k → w0.heap.size ≤ b
 keep : KeepX B0 w0 w
 fext : ∀ b k, F0 b k → g.F b k
 fnew : ∀ b k, g.F b k → F0 b k ∨ w0.heap.size ≤ b
variable {H : HidT σ} {B0 : Nat → Prop} {s s' : σ}
theorem own_next (h : SR w (OwnW g S) g.F V N g' S' a' w') {b k : Nat} (ho : OwnW g' S' b k) : w.heap.size ≤ b ∨ ∃ j, OwnW g S b j := by
 rcases ho with ⟨o, cs, k0, i, h1, h2, h3, -⟩ | ⟨t, x, ti, h1, h2, h3⟩
 ·rcases h.wr.box o cs b k0 i h1 h2 h3 with h4 | h4
  ·exact .inl h4
  ·exact .inr ⟨_, h4⟩
 ·rcases h.wr.tag t x ti b h1 h2 h3 with h4 | h4
  ·exact .inl h4
  ·exact .inr ⟨0, h4 0⟩
theorem kept_next {X : Reg} (h : Keep X w w') {b : Nat} {o : Obj} (hn : ∀ k, ¬ X b k) (ho : w.heap[b]? = some o) : w'.heap[b]? = some o := by
 rcases h.block b o ho with h1 | ⟨x1, x2, ee, rfl, h2, h3, h4⟩
 ·exact h1
 ·have : x2 = x1 := Array.ext_getElem? (fun j => h4 j (hn j))
  rw [h2, this]
 ·rename_i h; exact absurd h.2.1 (hn 0)
theorem HR.step (h : HR H w0 B0 F0 V N s g S a w) (h' : SR w (OwnW g S) g.F V N g' S' a' w') : HR H w0 B0 F0 V N s g' S' a' w' := by
 obtain ⟨B, e1, e2, e3, e4⟩ := h.ex
 refine ⟨h'.self, ⟨B, H.keep e1 (fun b hb => ?_), fun b k hF hb => ?_, fun b k ho hb => ?_, e4⟩, fun b k ho => ?_, ?_, fun b k hF => h'.fext b k (h.fext b k hF), fun b k hF => ?_⟩
 ·rw [Array.getElem?_eq_getElem (H.lt e1 hb)]
  exact kept_next h'.keep (fun k ho => e3 b k ho hb) (Array.getElem?_eq_getElem (H.lt e1 hb))
 ·have := H.lt e1 hb
  rcases h'.fnew b k hF with h1 | h1 | h1
  ·exact e2 b k h1 hb
  ·omega
  ·exact e3 b k h1 hb
 ·have := H.lt e1 hb
  rcases own_next h' ho with h1 | ⟨j, h1⟩
  ·omega
  ·exact e3 b j h1 hb
 ·rcases own_next h' ho with h1 | ⟨j, h1⟩
  ·exact Nat.le_trans h.keep.size h1
  ·exact h.new b j h1
 ·refine ⟨h'.keep.os.trans h.keep.os, h'.keep.tape.trans h.keep.tape, h'.keep.output.trans h.keep.output, Nat.le_trans h.keep.size h'.keep.size, Nat.le_trans h.keep.drawn h'.keep.drawn, fun b o hb ho => ?_⟩
  have hlt := (Array.getElem?_eq_some_iff.1 ho).1
  exact kept_next h'.keep (fun k hk => by have := h.new b k hk; omega) (h.keep.block b o hb ho)
 ·rcases h'.fnew b k hF with h1 | h1 | h1
  ·exact h.fnew b k h1
  ·exact .inr (Nat.le_trans h.keep.size h1)
  ·exact .inr (h.new b k h1)
theorem HR.called (h : HR H w0 B0 F0 V N s g S a w) {B B' : Nat → Prop} (hB : H.holds s B w) (hF : ∀ b k, g.F b k → ¬ B b) (hO : ∀ b k, OwnW g S b k → ¬ B b) (h0 : ∀ b, B b → B0 b ∨ w0.heap.size ≤ b)
    (hk : KeepX B w w') (hs : H.holds s' B' w') (hB' : ∀ b, B' b → B b ∨ w.heap.size ≤ b) (hfull : ∀ o cs, S.box o = some cs → cs ≠ []) :
    HR H w0 B0 F0 V N s' { g with F := fun b j => g.F b j ∨ (w.heap.size ≤ b ∧ b < w'.heap.size ∧ ¬ B' b) } S a w' := by
 have hlat : Later g { g with F := fun b j => g.F b j ∨ (w.heap.size ≤ b ∧ b < w'.heap.size ∧ ¬ B' b) } w w' (fun _ => true) (fun _ => true) :=
  ⟨fun _ _ _ h => h, fun _ _ _ h => h, fun _ _ h => .inl h, fun b j hFj => hk.cell (h.sr.core.frz.1 b j hFj) (hF b j hFj)⟩
 have hcore := h.sr.core.laterU B hlat (fun o cs b k h1 h2 hb => ?_) (fun t x ti b h1 h2 h3 => hO b 0 (.inr ⟨t, x, ti, h1, h2, h3⟩)) (fun _ _ _ => rfl) (fun _ _ _ => rfl) (fun b o hb ho => hk.block b o hb ho) (fun b j hFj => by
  rcases hFj with hFj | hFj
  ·exact .inl hFj
  ·exact .inr hFj.1) (fun b j hFj => by
  rcases hFj with hFj | hFj
  ·have := h.sr.core.frz.1 b j hFj
   have := hk.size
   omega
  ·exact hFj.2.1)
 ·rw [only_all'] at hcore
  have hsr : SR w' (OwnW { g with F := fun b j => g.F b j ∨ (w.heap.size ≤ b ∧ b < w'.heap.size ∧ ¬ B' b) } S) (fun b j => g.F b j ∨ (w.heap.size ≤ b ∧ b < w'.heap.size ∧ ¬ B' b)) V N { g with F := fun b j => g.F b j ∨ (w.heap.size ≤ b ∧ b < w'.heap.size ∧ ¬ B' b) } S a w' :=
   ⟨hcore, ⟨fun o cs b k i h1 h2 h3 => .inr (.inl ⟨o, cs, k, i, h1, h2, h3, rfl⟩), fun t x ti b h1 h2 h3 => .inr fun i => .inr ⟨t, x, ti, h1, h2, h3⟩⟩, Keep.refl _ _, h.sr.size, h.sr.defers, fun _ _ h => h, fun _ _ h => .inl h, h.sr.cap, h.sr.pin⟩
  have own_lt : ∀ b k, OwnW g S b k → b < w.heap.size := fun b k ho => by
   rcases ho with ⟨o, cs, k0, i, h1, h2, -, -⟩ | ⟨t, x, ti, h1, h2, h3⟩
   ·obtain ⟨b', k', vs, e, q1, q2, -⟩ := h.sr.core.box o cs h1
    rw [h2] at q1; injection q1 with q1; injection q1 with q1 _; subst q1
    exact q2.lt
   ·obtain ⟨ti', q1, q2⟩ := h.sr.core.tag t x h1
    rw [h2] at q1; injection q1 with q1; subst q1
    exact (q2.own.lt b h3).2
  refine ⟨hsr, ⟨B', hs, fun b k hFk hb => ?_, fun b k ho hb => ?_, fun b hb => ?_⟩, h.new, h.keep.trans hk (fun b hlt hb => ?_), fun b k h1 => .inl (h.fext b k h1), fun b k hFk => ?_⟩
  ·rcases hFk with hFk | hFk
   ·rcases hB' b hb with h1 | h1
    ·exact hF b k hFk h1
    ·have := h.sr.core.frz.1 b k hFk; omega
   ·exact hFk.2.2 hb
  ·rcases hB' b hb with h1 | h1
   ·exact hO b k ho h1
   ·have := own_lt b k ho; omega
  ·rcases hB' b hb with h1 | h1
   ·exact h0 b h1
   ·exact .inr (Nat.le_trans h.keep.size h1)
  ·rcases h0 b hb with h1 | h1
   ·exact h1
   ·omega
  ·rcases hFk with hFk | hFk
   ·exact h.fnew b k hFk
   ·exact .inr (Nat.le_trans h.keep.size hFk.1)
 ·exact hO b (k + 0) (.inl ⟨o, cs, k, 0, h1, h2, List.length_pos_iff.2 (hfull o cs h1), rfl⟩) hb
end Go.Vm

namespace Go.Vm
open Go.RowKit
set_option linter.unusedVariables false
variable {P : Program} {w0 w w' : World} {W F0 : Reg} {V : Pins} {N : Nat} {g g' : Gh} {S S' : St} {a a' : Act} {ops : Array Oper} {σ : Type} {H : HidT σ} {B0 : Nat → Prop} {s s' : σ}
def fullB (S : St) : Bool := S.hp.all fun x => !x.2.isEmpty
theorem lkp_in {α β : Type} [DecidableEq α] {t : α} {x : β} : ∀ {l : List (α × β)}, lkp t l = some x → (t, x) ∈ l
 | [], h => by simp [lkp] at h
 | (u, y) :: l, h => by
  simp only [lkp] at h
  split at h
  ·rename_i he; injection h with h; subst h; subst he; simp
  ·exact List.mem_cons_of_mem _ (lkp_in h)
theorem fullB_box (h : fullB S = true) {o : Nat} {cs : List D} (hb : S.box o = some cs) : cs ≠ [] := fun hc => by
 have := List.all_eq_true.1 h _ (lkp_in hb)
 subst hc
 simp at this
def hcall (P : Program) (H : HidT σ) (d : Option Nat) (k : FuncId) (args : List Operand) (S : St) (s : σ) (J : St → σ → Prop) : Prop :=
 match looks S args with
 | some ds => match frzL ds with
  | some fs => fullB S = true ∧ (tagsL ds).all (fun t => (S.tag t).isSome) = true ∧ HidAt P H k s fs fun r s' => J ((S.share (tagsL ds)).put d r) s'
  | none => False
 | none => False
def hnew (P : Program) (H : HidT σ) (t1 : Nat) (zd : List D) (T : TypeId) (t2 : Nat) (S : St) (s : σ) (J : St → σ → Prop) : Prop :=
 fullB S = true ∧ ∃ i z, P.info? T = some i ∧ i.zero = some z ∧ zd = zeroD z ∧ ∀ b, ∃ s', H.make T z.cells s b s' ∧ J ((S.put (some t1) .undef).put (some t2) (.val (.pointer (some ⟨b, 0, none⟩)))) s'
def halloc (P : Program) (H : HidT σ) (zd : List D) (T : TypeId) (t2 : Nat) (S : St) (s : σ) (J : St → σ → Prop) : Prop :=
 fullB S = true ∧ ∃ i z, P.info? T = some i ∧ i.zero = some z ∧ zd = zeroD z ∧ ∀ b, ∃ s', H.make T z.cells s b s' ∧ J (S.put (some t2) (.val (.pointer (some ⟨b, 0, none⟩)))) s'
inductive HO
 | call (d : Option Nat) (k : FuncId) (args : List Operand)
 | new (t1 : Nat) (zd : List D) (T : TypeId) (sz t2 : Nat)
 | alloc (zd : List D) (T : TypeId) (t2 : Nat)
def HO.mos : HO → List MO
 | .call d k args => [⟨d, .call (.func k) args .pure, none⟩]
 | .new t1 zd T sz t2 => [⟨some t1, .build zd [], none⟩, ⟨some t2, .box T sz (.tmp t1), none⟩]
 | .alloc zd T t2 => [⟨some t2, .alloc T zd, none⟩]
inductive MH
 | pure (m : MC)
 | reg (segs : List (List MO × HO)) (last : List MO)
 | dreg (q : Nat) (lead : List MO) (d : Option Nat) (k : FuncId) (args : List Operand)
 | seq (x y : MH)
 | cond (c : Operand) (x y : MH)
 | block (id : Nat) (x : MH)
 | loop (x : MH)
 | trim (ts os : List Nat) (gs : List Tag) (x : MH)
 | fzb (o : Nat) (x : MH)
def flatS : List (List MO × HO) → List MO → List MO
 | [], last => last
 | (pre, h) :: segs, last => pre ++ (h.mos ++ flatS segs last)
def MH.flat : MH → MC
 | .pure m => m
 | .reg segs last => .reg (flatS segs last)
 | .dreg q lead d k args => .dreg q (lead ++ [⟨d, .call (.func k) args .pure, none⟩])
 | .seq x y => .seq x.flat y.flat
 | .cond c x y => .cond c x.flat y.flat
 | .block id x => .block id x.flat
 | .loop x => .loop x.flat
 | .trim ts os gs x => .trim ts os gs x.flat
 | .fzb o x => .fzb o x.flat
def evHO (P : Program) (H : HidT σ) : HO → St → σ → (St → σ → Prop) → Prop
 | .call d k args, S, s, J => hcall P H d k args S s J
 | .new t1 zd T sz t2, S, s, J => hnew P H t1 zd T t2 S s J
 | .alloc zd T t2, S, s, J => halloc P H zd T t2 S s J
def evSegs (P : Program) (H : HidT σ) : List (List MO × HO) → List MO → St → σ → (St → σ → Prop) → Prop
 | [], last, S, s, J => evOps P last S fun S' => J S' s
 | (pre, h) :: segs, last, S, s, J => evOps P pre S fun S' => evHO P H h S' s fun S'' s'' => evSegs P H segs last S'' s'' J
def iterH (f : St → σ → (Ex → St → σ → Prop) → Prop) (K : Ex → St → σ → Prop) : Nat → St → σ → Prop
 | 0, _, _ => False
 | n + 1, S, s => f S s fun e S' s' => match e with
  | .normal => iterH f K n S' s'
  | .exit id => K (.exit id) S' s'
  | .ret => K .ret S' s'
def evH (P : Program) (H : HidT σ) : MH → St → σ → (Ex → St → σ → Prop) → Prop
 | .pure m, S, s, K => ev P m S fun e S' => K e S' s
 | .reg segs last, S, s, K => evSegs P H segs last S s (K .normal)
 | .dreg q lead d k args, S, s, K => q = lead.length ∧ evDraw P q lead S fun S' => hcall P H d k args S' s (K .normal)
 | .seq x y, S, s, K => evH P H x S s fun e S' s' => match e with
  | .normal => evH P H y S' s' K
  | .exit id => K (.exit id) S' s'
  | .ret => K .ret S' s'
 | .cond c x y, S, s, K => match look S c with
  | some (.val (.bool t)) => (t = true → evH P H x S s K) ∧ (t = false → evH P H y S s K)
  | _ => False
 | .block id x, S, s, K => evH P H x S s fun e S' s' => match e with
  | .normal => K .normal S' s'
  | .exit id' => if id' = id then K .normal S' s' else K (.exit id') S' s'
  | .ret => K .ret S' s'
 | .loop x, S, s, K => ∃ n, iterH (evH P H x) K n S s
 | .trim ts os gs x, S, s, K => evH P H x (S.trim ts os gs) s K
 | .fzb o x, S, s, K => match S.fzB o with
  | some S' => evH P H x S' s K
  | none => False
theorem hcall_sound (h : HR H w0 B0 F0 V N s g S a w) {Q : Exit → Act → World → Prop} {i : Nat} {o : Oper} {d : Option Nat} {k : FuncId} {args : List Operand} {J : St → σ → Prop} (hi : ops[i]? = some o) (hc : compO P ops o = some (MO.strip ⟨d, .call (.func k) args .pure, none⟩)) (hd : dstOk N ⟨d, .call (.func k) args .pure, none⟩ = true)
    (hv : hcall P H d k args S s J) : wpOp P ops Q i (fun a' w' => ∃ g' S' s', HR H w0 B0 F0 V N s' g' S' a' w' ∧ J S' s') a w := by
 obtain ⟨h1, h2, h3⟩ := compO_spec hc
 replace h2 : d = o.dst := h2
 obtain ⟨d1, -⟩ := dst_ok hd
 unfold hcall at hv
 split at hv
 ·rename_i ds hargs
  split at hv
  ·rename_i fs hfs
   obtain ⟨hfull, hlive, hfn, hcalls⟩ := hv
   unfold wpOp
   simp only [hi]
   have hw := want_sound (m := MO.strip ⟨d, .call (.func k) args .pure, none⟩) h.sr.core hc (show want S none = some true from rfl)
   simp only [hw, if_true]
   left
   have hco : compOp P o = some (.call (.func k) args .pure) := compOb_some h1 (fun e => by cases e)
   have hl1 := live_all hlive
   obtain ⟨vs, hrun, hsz, hr⟩ := call_enter (f := .func k) (k := k) (first := []) (caps := []) h.sr hco rfl hargs hfn
   simp only [List.nil_append, List.append_nil] at hsz hr
   obtain ⟨e1, e2⟩ := frz_args h.sr hfs hl1 hsz hr
   have hs := h.step (h.sr.share (tagsL ds))
   obtain ⟨B, b1, b2, b3, b4⟩ := hs.ex
   unfold Oper.wp
   rw [hrun, Oper.upon_enter]
   refine (hcalls _ w B vs hs.sr.core.frz b1 b2 e1 e2).mono fun e w' ⟨r, v, s', B', he, hK, hs', hB', hrep, hkx⟩ => ?_
   subst he
   have hcd := hs.called b1 b2 b3 b4 hkx hs' hB' (fun o cs hb => fullB_box hfull (o := o) hb)
   refine ⟨_, _, s', hcd.step (hcd.sr.put (dst := o.dst) (d := r) (fun t ht => d1 t (by rw [← ht]; exact h2)) (.fz _ _ hrep)), ?_⟩
   rw [← h2]; exact hK
  ·exact hv.elim
 ·exact hv.elim
theorem ops_one (h : HR H w0 B0 F0 V N s g S a w) {Q : Exit → Act → World → Prop} {i : Nat} {o : Oper} {m : MO} {K : St → Prop} (hi : ops[i]? = some o) (hc : compO P ops o = some m.strip) (hd : dstOk N m = true)
    (hv : match want S m.guard with | some true => vstep P m.op m.dst S K | some false => K (S.put m.dst (.val undef)) | none => False) :
    wpOp P ops Q i (fun a' w' => ∃ g' S', HR H w0 B0 F0 V N s g' S' a' w' ∧ K S') a w :=
 wpOp_mono (fun a' w' ⟨g', S', h1, h2⟩ => ⟨g', S', h.step h1, h2⟩) (evOp_sound h.sr hi hc hd hv)
end Go.Vm

namespace Go.Vm
open Go.RowKit
set_option linter.unusedVariables false
variable {P : Program} {w0 w w' : World} {W F0 : Reg} {V : Pins} {N : Nat} {g g' : Gh} {S S' : St} {a a' : Act} {ops : Array Oper} {σ : Type} {H : HidT σ} {B0 : Nat → Prop} {s s' : σ}
theorem zeroD_inj {u v : Value} (h : zeroD u = zeroD v) : u.cells = v.cells := by
 have inj : ∀ (l m : List Value), (l.map fun | .slice none 0 0 => D.sl none [] | c => .val c) = (m.map fun | .slice none 0 0 => D.sl none [] | c => .val c) → l = m := by
  intro l
  induction l with
  | nil =>
   intro m hm
   cases m with
   | nil => rfl
   | cons y m => simp at hm
  | cons x l ih =>
   intro m hm
   cases m with
   | nil => simp at hm
   | cons y m =>
    rw [List.map_cons, List.map_cons] at hm
    injection hm with h1 h2
    rw [ih m h2]
    congr 1
    split at h1
    ·split at h1
     ·rfl
     ·cases h1
    ·split at h1
     ·cases h1
     ·injection h1
 have := inj _ _ h
 exact Array.toList_inj.1 this
theorem comp_build0 {o : Oper} {zd : List D} (h : compOp P o = some (.build zd [])) : ∃ t i z, o.op = .build t #[] ∧ P.info? t = some i ∧ i.zero = some z ∧ zd = zeroD z ∧ P.built t [] = some z.cells := by
 obtain ⟨dst, op, type, pos, after, guard⟩ := o
 cases op with
 | build t parts =>
  simp only [compOp] at h
  split at h
  ·rename_i fs i hu hi
   split at h
   ·rename_i z pl hz hpl
    split at h
    ·rename_i ps hps
     injection h with h; injection h with h1 h2; subst h1; subst h2
     have hp : parts = #[] := by
      cases hl : parts.toList with
      | nil => exact Array.toList_eq_nil_iff.1 hl
      | cons p l => rw [hl] at hps; simp only [compParts] at hps; (repeat' (split at hps)) <;> cases hps
     subst hp
     refine ⟨t, i, z, rfl, hi, hz, rfl, ?_⟩
     unfold places at hpl
     simp only [Program.built, hi, hu, hz, hpl]
     rfl
    ·cases h
   ·cases h
  ·rename_i n e i hu hi
   split at h
   ·rename_i z ie hz hie
    injection h with h; injection h with h1 h2; subst h1
    have hp : parts = #[] := Array.toList_eq_nil_iff.1 (List.map_eq_nil_iff.1 h2)
    subst hp
    refine ⟨t, i, z, rfl, hi, hz, rfl, ?_⟩
    simp only [Program.built, hi, hu, hz, hie]
    rfl
   ·cases h
  ·cases h
 | _ =>
  simp only [compOp] at h <;> (repeat' (split at h)) <;> first
  | (cases h; done)
  | (unfold compB at h; (repeat' (split at h)) <;> cases h)
theorem nilD_zero (z : Value) : (zeroD z).map nilD = zeroD z := by
 unfold zeroD
 rw [List.map_map]
 refine List.map_congr_left fun c _ => ?_
 simp only [Function.comp_apply]
 split
 ·rfl
 ·unfold nilD
  split
  ·rename_i h1 _ h2
   injection h2 with h2
   exact absurd h2 h1
  ·rfl
theorem hnew_sound (h : HR H w0 B0 F0 V N s g S a w) {Q : Exit → Act → World → Prop} {i : Nat} {o1 o2 : Oper} {t1 t2 sz : Nat} {zd : List D} {T : TypeId} {J : St → σ → Prop} {rest : List Nat} (hi1 : ops[i]? = some o1) (hi2 : ops[i + 1]? = some o2)
    (hc1 : compO P ops o1 = some (MO.strip ⟨some t1, .build zd [], none⟩)) (hc2 : compO P ops o2 = some (MO.strip ⟨some t2, .box T sz (.tmp t1), none⟩)) (hd1 : dstOk N ⟨some t1, .build zd [], none⟩ = true) (hd2 : dstOk N ⟨some t2, .box T sz (.tmp t1), none⟩ = true)
    (hv : hnew P H t1 zd T t2 S s J) (next : ∀ g' S' s' a' w', HR H w0 B0 F0 V N s' g' S' a' w' → J S' s' → wpOps P ops Q rest a' w') : wpOps P ops Q (i :: (i + 1) :: rest) a w := by
 obtain ⟨hfull, iT, z, hiT, hzT, hzd, hJ⟩ := hv
 have hr1 := compO_spec hc1
 have hr2 := compO_spec hc2
 have dst1 : some t1 = o1.dst := hr1.2.1
 have dst2 : some t2 = o2.dst := hr2.2.1
 have l1 := (dst_ok hd1).1 t1 rfl
 have l2 := (dst_ok hd2).1 t2 rfl
 obtain ⟨tb, ib, zb, hop1, hib, hzb, hzdb, hbuilt⟩ := comp_build0 (compOb_some hr1.1 (fun e => by cases e))
 have hcells : zb.cells = z.cells := zeroD_inj (hzdb.symm.trans (by rw [hzd, nilD_zero]))
 rw [wpOps_cons]
 unfold wpOp
 simp only [hi1]
 have hw1 := want_sound (m := MO.strip ⟨some t1, .build zd [], none⟩) h.sr.core hc1 (show want S none = some true from rfl)
 simp only [hw1, if_true]
 left
 have hrun1 : (execOp a.eval o1).run P w = .ok (.value (.agg z.cells)) w := by
  have := run_build (P := P) w tb #[] zb.cells (by simpa using hbuilt)
  rw [hcells] at this
  simp only [execOp, hop1]
  exact ev_v (by simpa using this)
 unfold Oper.wp
 rw [hrun1, Oper.upon_value]
 have h1 := h.step (h.sr.put (dst := o1.dst) (d := .undef) (v := .agg z.cells) (fun t ht => by rw [← dst1] at ht; injection ht with ht; subst ht; exact l1) (.fz _ _ (.undef _)))
 have hev : (a.put o1.dst (.agg z.cells)).eval (.tmp t1) = .agg z.cells := by
  rw [← dst1]
  have hlt : t1 < a.tmps.size := by rw [h.sr.size]; exact l1
  simp [Act.put, Act.eval, hlt]
 generalize a.put o1.dst (.agg z.cells) = a1 at *
 rw [← dst1] at h1
 rw [wpOps_cons]
 unfold wpOp
 simp only [hi2]
 have hw2 := want_sound (m := MO.strip ⟨some t2, .box T sz (.tmp t1), none⟩) h1.sr.core hc2 (show want (S.put (some t1) .undef) none = some true from rfl)
 simp only [hw2, if_true]
 left
 obtain ⟨hop2, -⟩ := comp_box (compOb_some hr2.1 (fun e => by cases e))
 have hrun2 : (execOp a1.eval o2).run P w = .ok (.value (.pointer (some ⟨w.heap.size, 0, none⟩))) (w.alloc (.cells z.cells T (0, 0))) := by
  have : (a1.eval (.tmp t1)).cells = z.cells := by rw [hev]; rfl
  simp [execOp, hop2, Instr.box, newVar, newRow, this]
 unfold Oper.wp
 rw [hrun2, Oper.upon_value]
 obtain ⟨s', hmk, hJ'⟩ := hJ w.heap.size
 obtain ⟨B, b1, b2, b3, b4⟩ := h1.ex
 have hk : KeepX B w (w.alloc (.cells z.cells T (0, 0))) := (Keep.alloc (fun _ _ => False) w _).x B
 have hs := H.made b1 hmk
 have hcd := h1.called b1 b2 b3 b4 hk hs (fun b hb => hb.elim .inl (fun e => .inr (by omega))) (fun o cs hb => fullB_box (S := S.put (some t1) .undef) hfull (o := o) hb)
 refine next _ _ s' _ _ (hcd.step (hcd.sr.put (dst := o2.dst) (fun t ht => by rw [← dst2] at ht; injection ht with ht; subst ht; exact l2) (.fz _ _ (.val _)))) ?_
 rw [← dst2]; exact hJ'
theorem halloc_sound (h : HR H w0 B0 F0 V N s g S a w) {Q : Exit → Act → World → Prop} {i : Nat} {o : Oper} {t2 : Nat} {zd : List D} {T : TypeId} {J : St → σ → Prop} (hi : ops[i]? = some o)
    (hc : compO P ops o = some (MO.strip ⟨some t2, .alloc T zd, none⟩)) (hd : dstOk N ⟨some t2, .alloc T zd, none⟩ = true)
    (hv : halloc P H zd T t2 S s J) : wpOp P ops Q i (fun a' w' => ∃ g' S' s', HR H w0 B0 F0 V N s' g' S' a' w' ∧ J S' s') a w := by
 obtain ⟨hfull, iT, z, hiT, hzT, hzd, hJ⟩ := hv
 have hr2 := compO_spec hc
 have dst2 : some t2 = o.dst := hr2.2.1
 have l2 := (dst_ok hd).1 t2 rfl
 unfold wpOp
 simp only [hi]
 have hw2 := want_sound (m := MO.strip ⟨some t2, .alloc T zd, none⟩) h.sr.core hc (show want S none = some true from rfl)
 simp only [hw2, if_true]
 left
 obtain ⟨hop2, iz, zv, hiz, hzv, hzz⟩ := comp_alloc (z := zd.map nilD) (compOb_some hr2.1 (fun e => by cases e))
 rw [hiT] at hiz; injection hiz with hiz; subst hiz
 rw [hzT] at hzv; injection hzv with hzv; subst hzv
 have hrun2 : (execOp a.eval o).run P w = .ok (.value (.pointer (some ⟨w.heap.size, 0, none⟩))) (w.alloc (.cells z.cells T (0, 0))) := by
  simp [execOp, hop2, Instr.alloc, zeroValue, typeInfo, hiT, hzT, newVar, newRow]
 unfold Oper.wp
 rw [hrun2, Oper.upon_value]
 obtain ⟨s', hmk, hJ'⟩ := hJ w.heap.size
 obtain ⟨B, b1, b2, b3, b4⟩ := h.ex
 have hk : KeepX B w (w.alloc (.cells z.cells T (0, 0))) := (Keep.alloc (fun _ _ => False) w _).x B
 have hs := H.made b1 hmk
 have hcd := h.called b1 b2 b3 b4 hk hs (fun b hb => hb.elim .inl (fun e => .inr (by omega))) (fun o cs hb => fullB_box hfull (o := o) hb)
 refine ⟨_, _, s', hcd.step (hcd.sr.put (dst := o.dst) (fun t ht => by rw [← dst2] at ht; injection ht with ht; subst ht; exact l2) (.fz _ _ (.val _))), ?_⟩
 rw [← dst2]; exact hJ'
theorem segs_sound {Q : Exit → Act → World → Prop} {ms : List MO} (hc : compOps P ops ops.toList = some (ms.map MO.strip)) (hd : ms.all (dstOk N) = true) {K : St → σ → Prop}
    (hQ : ∀ g' S' s' a' w', HR H w0 B0 F0 V N s' g' S' a' w' → K S' s' → Q .normal a' w') : ∀ (segs : List (List MO × HO)) (last : List MO) (k : Nat) (g : Gh) (S : St) (s : σ) (a : Act) (w : World), k ≤ ops.size → ms.drop k = flatS segs last → HR H w0 B0 F0 V N s g S a w →
    evSegs P H segs last S s K → wpOps P ops Q (List.range' k (ops.size - k)) a w := by
 obtain ⟨hl, hget⟩ := compOps_get hc
 have hml : ms.length = ops.size := by simpa using hl
 have at_ : ∀ {k : Nat} {m : MO} {r : List MO}, ms.drop k = m :: r → ∃ o, ops[k]? = some o ∧ compO P ops o = some m.strip ∧ dstOk N m = true ∧ ms.drop (k + 1) = r ∧ k < ops.size := fun {k m r} hdr => by
  have hk : k < ms.length := by
   rcases Nat.lt_or_ge k ms.length with h | h
   ·exact h
   ·rw [List.drop_of_length_le h] at hdr; cases hdr
  rw [List.drop_eq_getElem_cons hk] at hdr
  injection hdr with e1 e2
  subst e1
  have hko : k < ops.size := by omega
  exact ⟨ops[k], Array.getElem?_eq_getElem hko, hget k ops[k] _ (by simp [hko]) (List.getElem?_eq_getElem hk), List.all_eq_true.1 hd _ (List.getElem_mem hk), e2, hko⟩
 have plain : ∀ (pre : List MO) (tail : List MO) (k : Nat) (g : Gh) (S : St) (s : σ) (a : Act) (w : World) (J : St → Prop), k ≤ ops.size → ms.drop k = pre ++ tail → HR H w0 B0 F0 V N s g S a w → evOps P pre S J →
     (∀ g' S' a' w', HR H w0 B0 F0 V N s g' S' a' w' → J S' → k + pre.length ≤ ops.size → ms.drop (k + pre.length) = tail → wpOps P ops Q (List.range' (k + pre.length) (ops.size - (k + pre.length))) a' w') → wpOps P ops Q (List.range' k (ops.size - k)) a w := by
  intro pre
  induction pre with
  | nil =>
   intro tail k g S s a w J hk hdr hS hv hn
   exact hn g S a w hS hv hk hdr
  | cons m pre ih =>
   intro tail k g S s a w J hk hdr hS hv hn
   obtain ⟨o, h1, h2, h3, h4, h5⟩ := at_ (show ms.drop k = m :: (pre ++ tail) from hdr)
   rw [show ops.size - k = (ops.size - (k + 1)) + 1 by omega, List.range'_succ, wpOps_cons]
   simp only [evOps] at hv
   refine wpOp_mono (fun a' w' ⟨g', S', q1, q2⟩ => ?_) (ops_one (K := fun S' => evOps P pre S' J) hS h1 h2 h3 hv)
   refine ih tail (k + 1) g' S' s a' w' J (by omega) h4 q1 q2 (fun g'' S'' a'' w'' r1 r2 r3 r4 => ?_)
   rw [show k + 1 + pre.length = k + (m :: pre).length by simp; omega] at r3 r4 ⊢
   exact hn g'' S'' a'' w'' r1 r2 r3 r4
 intro segs
 induction segs with
 | nil =>
  intro last k g S s a w hk hdr hS hv
  refine plain last [] k g S s a w _ hk (by simpa [flatS] using hdr) hS hv (fun g' S' a' w' h1 h2 h3 h4 => ?_)
  have : ops.size - (k + last.length) = 0 := by
   have := congrArg List.length h4
   simp at this; omega
  rw [this]
  exact hQ g' S' s a' w' h1 h2
 | cons p segs ih =>
  obtain ⟨pre, ho⟩ := p
  intro last k g S s a w hk hdr hS hv
  refine plain pre (ho.mos ++ flatS segs last) k g S s a w _ hk (by simpa [flatS] using hdr) hS hv (fun g' S' a' w' h1 h2 h3 h4 => ?_)
  generalize k + pre.length = k1 at *
  cases ho with
  | call d f args =>
   simp only [evHO] at h2
   obtain ⟨o, q1, q2, q3, q4, q5⟩ := at_ (show ms.drop k1 = _ :: flatS segs last from h4)
   rw [show ops.size - k1 = (ops.size - (k1 + 1)) + 1 by omega, List.range'_succ, wpOps_cons]
   refine wpOp_mono (fun a'' w'' ⟨g'', S'', s'', r1, r2⟩ => ?_) (hcall_sound h1 q1 q2 q3 h2)
   exact ih last (k1 + 1) g'' S'' s'' a'' w'' (by omega) q4 r1 r2
  | alloc zd T t2 =>
   simp only [evHO] at h2
   obtain ⟨o, q1, q2, q3, q4, q5⟩ := at_ (show ms.drop k1 = _ :: flatS segs last from h4)
   rw [show ops.size - k1 = (ops.size - (k1 + 1)) + 1 by omega, List.range'_succ, wpOps_cons]
   refine wpOp_mono (fun a'' w'' ⟨g'', S'', s'', r1, r2⟩ => ?_) (halloc_sound h1 q1 q2 q3 h2)
   exact ih last (k1 + 1) g'' S'' s'' a'' w'' (by omega) q4 r1 r2
  | new t1 zd T sz t2 =>
   simp only [evHO] at h2
   obtain ⟨o1, q1, q2, q3, q4, q5⟩ := at_ (show ms.drop k1 = _ :: _ :: flatS segs last from h4)
   obtain ⟨o2, r1, r2, r3, r4, r5⟩ := at_ q4
   rw [show ops.size - k1 = (ops.size - (k1 + 1 + 1)) + 1 + 1 by omega, List.range'_succ, List.range'_succ]
   refine hnew_sound h1 q1 r1 q2 r2 q3 r3 h2 (fun g'' S'' s'' a'' w'' u1 u2 => ?_)
   exact ih last (k1 + 1 + 1) g'' S'' s'' a'' w'' (by omega) r4 u1 u2
end Go.Vm
